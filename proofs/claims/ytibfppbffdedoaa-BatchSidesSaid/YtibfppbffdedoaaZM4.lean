/- Texts of the proof, joined. -/
import Derived.Orders
import Derived.LoopN
import Derived.ScopeJumps
import Derived.Laws.Externs
import Derived.Test.YtibfppbffdedoaaZM3
set_option linter.unusedSectionVars false
set_option linter.unusedSimpArgs false
set_option linter.unusedVariables false
namespace Go.Proofs.Ytibfppbffdedoaa
open Go.RowKit
def Apt (E:Env) (x y:Ent):Prop := ∀ i,i<ck E x.o->x.id+i ≠ y.id /\ ∀ j,j<ck E y.o->x.id+i ≠ y.id+j
theorem Shape.ids {E:Env} {L:Nat} : ∀ {rest:List Oper} {j id:Nat} {ents:List Ent},Shape E L rest j id ents->id+dc E rest<=L ->
  (∀ x ∈ ents,id<=x.id/\x.id+ck E x.o<=L/\(ck E x.o=0->x.id=L))/\ents.Pairwise fun x y=>Apt E x y/\Apt E y x
 | [],j,id,ents,h,_=>by
  simp only [Shape] at h
  subst h
  simp
 | o :: rest,j,id,ents,h,hL=>by
  cases ents with
  | nil=>exact h.elim
  | cons x ents =>
   obtain ⟨rfl,h2,h3,h4⟩:=h
   simp only [dc] at hL
   simp only [jG] at h4
   obtain ⟨i1,i2⟩:=Shape.ids h4 (by omega)
   have hx:id<=x.id/\x.id+ck E x.o<=L/\(ck E x.o=0->x.id=L)/\(ck E x.o ≠ 0->x.id=id):=by
    rw [h3]
    unfold M4
    cases ht:ck E x.o with
    | zero=>exact ⟨by simp only [];omega,by simp,fun _=>rfl,fun e=>absurd rfl e⟩
    | succ n=>exact ⟨Nat.le_refl _,by rw [ht] at hL;simp only [];omega,fun e=>(by cases e),fun _=>rfl⟩
   refine ⟨fun y hy => ?_,List.pairwise_cons.2 ⟨fun y hy => ?_,i2⟩⟩
   ·rcases List.mem_cons.1 hy with rfl | hy
    ·exact ⟨hx.1,hx.2.1,hx.2.2.1⟩
    ·obtain ⟨a,b,c⟩:=i1 y hy
     exact ⟨by omega,b,c⟩
   ·obtain ⟨y1,y2,y3⟩:=i1 y hy
    obtain ⟨_,x2,x3,x4⟩:=hx
    constructor
    ·intro i hi
     have:=x4 (by omega)
     exact ⟨by omega,fun j hj=>by omega⟩
    ·intro i hi
     by_cases h0:ck E x.o=0
     ·have:=x3 h0
      exact ⟨by omega,fun j hj=>by omega⟩
     ·have:=x4 h0
      exact ⟨by omega,fun j hj=>by omega⟩
theorem Shape.at {E:Env} {L:Nat} : ∀ {rest:List Oper} {j id:Nat} {ents:List Ent},Shape E L rest j id ents->ents.map (·.j)=List.range' j rest.length /\ ∀ x ∈ ents,j<=x.j/\rest[x.j-j]? = some x.o
 | [],j,id,ents,h=>by
  simp only [Shape] at h
  subst h
  simp
 | o :: rest,j,id,ents,h=>by
  cases ents with
  | nil=>exact h.elim
  | cons x ents =>
   obtain ⟨rfl,h2,h3,h4⟩:=h
   obtain ⟨i1,i2⟩:=Shape.at h4
   refine ⟨by simp [i1,h2,List.range'_succ],fun y hy => ?_⟩
   rcases List.mem_cons.1 hy with rfl | hy
   ·rw [h2];simp
   ·obtain ⟨q1,q2⟩:=i2 y hy
    refine ⟨by omega,?_⟩
    rw [show y.j-j=(y.j-(j+1))+1 by omega]
    simpa using q2
def Fresh (E:Env) (ents:List Ent) (heap:List HE):Prop := ∀ x ∈ ents,GP (hpS heap) x.id (ck E x.o) /\ ∀ j,j<ck E x.o->x.id+j<heap.length
theorem ib (o:Oper) (st:St) (out:Option Eff):(bH o st out).heap=gQ st.heap (match out with | some e=>e.wr | none => []):=by cases out <;> rfl
theorem gV : ∀ (wr:List (Nat × HE)) (heap:List HE) (i:Nat),(∀ p ∈ wr,p.1 ≠ i)->hpS (gQ heap wr) i=hpS heap i
 | [],_,_,_=>rfl
 | (j,x) :: rest,heap,i,H=>by
  simp only [gQ]
  rw [gV rest _ i (fun p hp=>H p (by simp [hp]))]
  have hne:j ≠ i:=H (j,x) (by simp)
  rw [bV,bV,jU,List.getElem?_set_ne hne]
theorem Fresh.step {E:Env} (hE:EnvOk E) {ops:List Oper} {x:Ent} {ents:List Ent} {st:St} (hs:Step1 E ops x.id x.o st x.out) (hf:Fresh E ents st.heap) (hne : ∀ y ∈ ents,Apt E x y) :
  Fresh E ents (bH x.o st x.out).heap:=by
 intro y hy
 obtain ⟨h1,h2⟩:=hf y hy
 rw [ib]
 cases hx:x.out with
 | none=>exact ⟨h1,h2⟩
 | some e =>
  rw [hx] at hs
  obtain ⟨_,_,v,hact,_⟩:=hs
  have hwr:=KZ hE hact
  have hk : ∀ i,hpS st.heap i = .un->(∀ k,k<ck E x.o->x.id+k ≠ i)->hpS (gQ st.heap e.wr) i = .un:=fun i h0 hi=>by
   rw [gV _ _ _ fun p hp => ?_]
   ·exact h0
   ·rcases (hwr p hp).2 with ⟨q1,q2⟩ | q1
    ·have:=hi (p.1-x.id) (by omega)
     omega
    ·intro e2;rw [e2] at q1;exact q1 h0
  refine ⟨⟨hk _ h1.1 fun k hk=>(hne y hy k hk).1,fun j hj=>hk _ (h1.2 j hj) fun k hk=>(hne y hy k hk).2 j hj⟩,fun j hj=>by rw [oq];exact h2 j hj⟩
theorem t7 {E:Env} (hE:EnvOk E) {ops:List Oper} {Q:Exit->Act->World->Prop} {w0:W0} {st':St} (hQ : ∀ a w,SRel w0 st' a w->Q .normal a w) :
  ∀ (ents:List Ent) (st:St) (a:Act) (w:World),SRel w0 st a w->Runs E ops ents st st'->Fresh E ents st.heap->(ents.Pairwise fun x y=>Apt E x y/\Apt E y x) ->
   (∀ x ∈ ents,ops[x.j]? = some x.o)->wpOps E.P ops.toArray Q (ents.map (·.j)) a w
 | [],st,a,w,r,h,_,_,_=>by
  cases h
  exact hQ a w r
 | x :: ents,st,a,w,r,h,hf,hp,ho=>by
  obtain ⟨h1,h2⟩:=h
  obtain ⟨p1,p2⟩:=List.pairwise_cons.1 hp
  rw [List.map_cons,wpOps_cons]
  have hx:=hf x (by simp)
  refine qi hE r (ho x (by simp)) hx.1 hx.2 h1 fun a' w' r' => ?_
  refine t7 hE hQ ents _ a' w' r' h2 ?_ p2 (fun y hy=>ho y (by simp [hy]))
  exact Fresh.step hE h1 (fun y hy=>hf y (by simp [hy])) fun y hy=>(p1 y hy).1
theorem jI : ∀ n,(dv n).length=n
 | 0=>rfl
 | n+1=>by simp [dv,jI n]
theorem oi : ∀ (n i:Nat),(dv n)[i]?.getD HE.un=HE.un
 | 0,i=>by simp [dv]
 | n+1,0=>by simp [dv]
 | n+1,i+1=>by simpa [dv] using oi n i
theorem lW (heap:List HE) (n:Nat):hpS (heap++dv n)=hpS heap:=by
 funext i
 rw [bV,bV,List.getElem?_append]
 by_cases h:i<heap.length
 ·rw [if_pos h]
 ·rw [if_neg h,oi,List.getElem?_eq_none (Nat.le_of_not_lt h)]
  rfl
theorem Shape.fresh {E:Env} {ops:List Oper} {heap:List HE} {ents:List Ent} (h:Shape E (heap.length+dc E ops) ops 0 heap.length ents):Fresh E ents (heap++dv (dc E ops)):=by
 obtain ⟨i1,_⟩:=h.ids (Nat.le_refl _)
 intro x hx
 rw [lW]
 obtain ⟨q1,q2,q3⟩:=i1 x hx
 have hn : ∀ j,hpS heap (x.id+j) = .un:=fun j=>by rw [bV,List.getElem?_eq_none (by omega)];rfl
 exact ⟨⟨hn 0,fun j _=>hn j⟩,fun j hj=>by simp [jI];omega⟩
inductive Ahead (ops : List Oper) : Nat -> Nat -> Prop where
 | edge {i j:Nat} {o:Oper} {e:Edge} (h:ops[j]? = some o) (he:e ∈ o.after) (hb:Region.binds .any e=true) (hi:e.on=i):Ahead ops i j
 | step {i k j:Nat} {o:Oper} {e:Edge} (h:ops[j]? = some o) (he:e ∈ o.after) (hb:Region.binds .any e=true) (hk:e.on=k) (hr:Ahead ops i k):Ahead ops i j
def GH (ops:List Oper) (x y:Ent):Prop:=x.o.apart ops.toArray y.o=true/\iw (dH x.out) (dH y.out)=true
theorem lS {xs ys:List Nat} (h:wR xs ys=false) : ∀ x ∈ xs,∀ y ∈ ys,x ≠ y:=by
 intro x hx y hy e
 subst e
 have:wR xs ys=true:=by
  unfold wR
  rw [List.any_eq_true]
  exact ⟨x,hx,by rw [List.any_eq_true];exact ⟨x,hy,by simp⟩⟩
 rw [h] at this
 cases this
theorem pw {a b:pp} (h:iw a b=true):(∀ x ∈ a.2,∀ y ∈ b.1,x ≠ y)/\(∀ x ∈ a.2,∀ y ∈ b.2,x ≠ y)/\(∀ x ∈ a.1,∀ y ∈ b.2,x ≠ y):=by
 simp only [iw,Bool.not_eq_true',Bool.or_eq_false_iff] at h
 exact ⟨lS h.1.1,lS h.1.2,lS h.2⟩
theorem ox (tmps:Tm) {d t:Nat} (v:AV) (h:d ≠ t):(ir tmps (some d) v).tr.get t=tmps.tr.get t:=by
 simp only [ir]
 split
 ·rw [Tr.get_set,if_neg (Ne.symm h)]
 ·rfl
theorem Dv {tmps:Tm} {dst:Option Tmp} {v:AV} {x:Operand} (h : ∀ d,dst=some d->x ≠ .tmp d):evS (ir tmps dst v) x=evS tmps x:=by
 cases dst with
 | none=>rfl
 | some d =>
  cases x with
  | tmp t =>
   have:d ≠ t:=fun e=>h d rfl (by rw [e])
   exact ox _ _ this
  | _=>rfl
theorem fh (o:Oper) (st:St) (out:Option Eff):(bH o st out).tmps=ir st.tmps o.dst (match out with | some e=>e.val | none=>AV.undef):=by cases out <;> rfl
theorem Bw {ops:List Oper} {tmps:Tm} {dst:Option Tmp} {v:AV} {j:Nat} (h : ∀ d,dst=some d->((ops.toArray[j]?).bind (·.dst)) ≠ some d):pi ops (ir tmps dst v) j=pi ops tmps j:=by
 unfold pi
 rw [nB]
 cases hj:ops[j]? with
 | none=>rfl
 | some o =>
  simp only []
  cases hd:o.dst with
  | none=>rfl
  | some t =>
   simp only []
   cases dst with
   | none=>rfl
   | some d =>
    have hne:d ≠ t:=fun e=>h d rfl (by
     have:ops.toArray[j]? = some o:=by simpa using hj
     rw [this];simp [hd,e])
    rw [ox _ _ hne]
theorem oh {ops:List Oper} {tmps:Tm} {dst:Option Tmp} {v:AV} {o:Oper} (h : ∀ d,dst=some d->d ∉ o.looksAt ops.toArray):cY ops (ir tmps dst v) o=cY ops tmps o:=by
 unfold cY
 cases hg:o.guard with
 | none=>rfl
 | some gw =>
  obtain ⟨g,want⟩:=gw
  simp only []
  rw [Bw fun d hd e=>h d hd (by
   simp only [Oper.looksAt,hg,List.mem_append]
   right
   rw [e]
   simp)]
theorem Step1.back {E:Env} (hE:EnvOk E) {ops:List Oper} {x y:Ent} {st:St} (h1 : ∀ d,y.o.dst=some d->d ∉ x.o.looksAt ops.toArray) (h2 : ∀ p ∈ (dH y.out).2,∀ q ∈ (dH x.out).1,p ≠ q)
  (hx:Step1 E ops x.id x.o (bH y.o st y.out) x.out):Step1 E ops x.id x.o st x.out:=by
 have hev : ∀ z ∈ x.o.op.operands.toList,evS (bH y.o st y.out).tmps z=evS st.tmps z:=by
  intro z hz
  rw [fh]
  refine Dv fun d hd e=>h1 d hd ?_
  subst e
  exact List.mem_append_left _ (List.mem_filterMap.2 ⟨.tmp d,by simpa using hz,rfl⟩)
 have hw:cY ops (bH y.o st y.out).tmps x.o=cY ops st.tmps x.o:=by rw [fh];exact oh h1
 cases hxo:x.out with
 | none =>
  rw [hxo] at hx
  show cY ops st.tmps x.o=some false
  rw [<- hw]
  exact hx
 | some e =>
  rw [hxo] at hx
  obtain ⟨q1,q2,v,q3,q4⟩:=hx
  refine ⟨by rw [<- hw];exact q1,q2,v,?_,q4⟩
  rw [K4 hev] at q3
  refine zT hE q3 fun i hi => ?_
  rw [ib]
  refine gV _ _ _ fun p hp => ?_
  have hfi:i ∈ (dH x.out).1:=by rw [hxo];exact hi
  refine h2 p.1 ?_ i hfi
  cases hyo:y.out with
  | none=>rw [hyo] at hp;cases hp
  | some e'=>rw [hyo] at hp;exact List.mem_map_of_mem hp
theorem Step1.fore {E:Env} (hE:EnvOk E) {ops:List Oper} {x y:Ent} {st:St} (h1 : ∀ d,x.o.dst=some d->d ∉ y.o.looksAt ops.toArray) (h2 : ∀ p ∈ (dH x.out).2,∀ q ∈ (dH y.out).1,p ≠ q)
  (hy:Step1 E ops y.id y.o st y.out):Step1 E ops y.id y.o (bH x.o st x.out) y.out:=by
 have hev : ∀ z ∈ y.o.op.operands.toList,evS st.tmps z=evS (bH x.o st x.out).tmps z:=by
  intro z hz
  rw [fh]
  refine (Dv fun d hd e=>h1 d hd ?_).symm
  subst e
  exact List.mem_append_left _ (List.mem_filterMap.2 ⟨.tmp d,by simpa using hz,rfl⟩)
 have hw:cY ops (bH x.o st x.out).tmps y.o=cY ops st.tmps y.o:=by rw [fh];exact oh h1
 cases hyo:y.out with
 | none =>
  rw [hyo] at hy
  show cY ops _ y.o=some false
  rw [hw]
  exact hy
 | some e =>
  rw [hyo] at hy
  obtain ⟨q1,q2,v,q3,q4⟩:=hy
  refine ⟨by rw [hw];exact q1,q2,v,?_,q4⟩
  rw [K4 hev] at q3
  refine zT hE q3 fun i hi => ?_
  rw [ib]
  refine (gV _ _ _ fun p hp => ?_).symm
  have hfi:i ∈ (dH y.out).1:=by rw [hyo];exact hi
  refine h2 p.1 ?_ i hfi
  cases hxo:x.out with
  | none=>rw [hxo] at hp;cases hp
  | some e'=>rw [hxo] at hp;exact List.mem_map_of_mem hp
theorem Ec {α:Type} (xs:List α) {i j:Nat} (a b:α) (h:i ≠ j):tY (tY xs i a) j b=tY (tY xs j b) i a:=by
 simp only [jU];exact List.set_comm _ _ h
theorem Ez (tmps:Tm) {x y:Option Tmp} (a b:AV) (h : ∀ d,x=some d->y ≠ some d):ir (ir tmps x a) y b=ir (ir tmps y b) x a:=by
 cases x with
 | none=>rfl
 | some d =>
  cases y with
  | none=>rfl
  | some e =>
   have hne:d ≠ e:=fun he=>h d rfl (by rw [he])
   simp only [ir,Tm.mk.injEq,true_and]
   split <;> split <;> first | rfl | exact Tr.set_comm _ _ _ hne
theorem jJ : ∀ (wr:List (Nat × HE)) (heap:List HE) (i:Nat) (x:HE),(∀ p ∈ wr,p.1 ≠ i)->gQ (tY heap i x) wr=tY (gQ heap wr) i x
 | [],_,_,_,_=>rfl
 | (j,y) :: rest,heap,i,x,H=>by
  simp only [gQ]
  rw [Ec _ _ _ (Ne.symm (H (j,y) (by simp)))]
  exact jJ rest _ i x fun p hp=>H p (by simp [hp])
theorem tZ : ∀ (a b:List (Nat × HE)) (heap:List HE),(∀ p ∈ a,∀ q ∈ b,p.1 ≠ q.1)->gQ (gQ heap a) b=gQ (gQ heap b) a
 | [],b,heap,_=>rfl
 | (i,x) :: a,b,heap,H=>by
  simp only [gQ]
  rw [tZ a b _ (fun p hp q hq=>H p (by simp [hp]) q hq)]
  rw [jJ b heap i x fun q hq=>Ne.symm (H (i,x) (by simp) q hq)]
theorem tj {x y:Ent} (st:St) (h1 : ∀ d,x.o.dst=some d->y.o.dst ≠ some d) (h2 : ∀ p ∈ (dH x.out).2,∀ q ∈ (dH y.out).2,p ≠ q) :
  bH y.o (bH x.o st x.out) y.out=bH x.o (bH y.o st y.out) x.out:=by
 have e1 : ∀ (o:Oper) (st:St) (out:Option Eff),bH o st out=⟨ir st.tmps o.dst (match out with | some e=>e.val | none=>AV.undef),gQ st.heap (match out with | some e=>e.wr | none => [])⟩:=by
  intro o st out;cases out <;> rfl
 rw [e1,e1 x.o st,e1 x.o,e1 y.o st]
 simp only [St.mk.injEq]
 refine ⟨Ez _ _ _ h1,tZ _ _ _ fun p hp q hq => ?_⟩
 refine h2 p.1 ?_ q.1 ?_
 ·cases hx:x.out with
  | none=>rw [hx] at hp;cases hp
  | some e=>rw [hx] at hp;exact List.mem_map_of_mem hp
 ·cases hy:y.out with
  | none=>rw [hy] at hq;cases hq
  | some e=>rw [hy] at hq;exact List.mem_map_of_mem hq
theorem Runs.first {E:Env} (hE:EnvOk E) {ops:List Oper} {x:Ent} {p2:List Ent} {st':St} : ∀ (p1:List Ent) (st:St),(∀ y ∈ p1,GH ops y x)->Runs E ops (p1++x :: p2) st st' ->
  Step1 E ops x.id x.o st x.out/\Runs E ops (p1++p2) (bH x.o st x.out) st'
 | [],st,_,h=>h
 | y :: p1,st,hi,h=>by
  obtain ⟨hy,hr⟩:=h
  obtain ⟨i1,i2⟩:=hi y (by simp)
  obtain ⟨a1,a2,a3⟩:=Oper.apart_spec i1
  obtain ⟨f1,f2,f3⟩:=pw i2
  obtain ⟨hx,hr'⟩:=Runs.first hE p1 _ (fun z hz=>hi z (by simp [hz])) hr
  have hx':=Step1.back hE a1 f1 hx
  refine ⟨hx',Step1.fore hE a3 (fun p hp q hq=>Ne.symm (f3 q hq p hp)) hy,?_⟩
  rw [<- tj (x:=y) (y:=x) st a2 f2]
  exact hr'
end Go.Proofs.Ytibfppbffdedoaa
namespace Go.Proofs.Ytibfppbffdedoaa
open Go.RowKit
theorem vl {ops:List Oper} {listed:Array Bool} (hc : ∀ (j:Nat) (o:Oper),ops[j]? = some o->listed.getD j false=true -> ∀ e ∈ o.after,Region.binds .any e=true->listed.getD e.on false=true) {i j:Nat}
  (h:Ahead ops i j):(∀ o,ops[j]? = some o -> ∀ e ∈ o.after,Region.binds .any e=true->listed.getD e.on false=true)->listed.getD i false=true:=by
 induction h with
 | edge h he hb hi=>intro H;rw [<- hi];exact H _ h _ he hb
 | step h he hb hk hr ih =>
  intro H
  have:=H _ h _ he hb
  rw [hk] at this
  exact ih fun o ho e' he' hb'=>hc _ o ho this e' he' hb'
theorem F7 {E:Env} (hE:EnvOk E) {ops:List Oper} {Q:Exit->Act->World->Prop} {w0:W0} {st':St} (hQ : ∀ a w,SRel w0 st' a w->Q .normal a w)
  (hback : ∀ (j:Nat) (o:Oper),ops[j]? = some o -> ∀ e ∈ o.after,Region.binds .any e=true->e.on<j) :
  ∀ (n:Nat) (ents:List Ent) (listed:Array Bool) (st:St) (a:Act) (w:World),ents.length=n->SRel w0 st a w->Runs E ops ents st st'->Fresh E ents st.heap ->
   (ents.Pairwise fun x y=>Apt E x y/\Apt E y x)->(∀ x ∈ ents,ops[x.j]? = some x.o) ->
   listed.size=ops.length->(∀ j,j<ops.length->(listed.getD j true=false <-> ∃ x ∈ ents,x.j=j)) ->
   (∀ (j:Nat) (o:Oper),ops[j]? = some o->listed.getD j false=true -> ∀ e ∈ o.after,Region.binds .any e=true->listed.getD e.on false=true) ->
   (ents.Pairwise fun x y=>x.j<y.j)->(ents.Pairwise fun x y=>Ahead ops x.j y.j \/ GH ops x y)->wpAny E.P .any ops.toArray Q n listed a w:=by
 intro n
 induction n with
 | zero =>
  intro ents listed st a w hlen r hr _ _ _ hsz hl _ _ _
  have:ents = []:=List.eq_nil_of_length_eq_zero hlen
  subst this
  cases hr
  refine ⟨?_,hQ a w r⟩
  apply List.eq_nil_iff_forall_not_mem.2
  intro j hj
  obtain ⟨h0,o,ho,_⟩:=mem_ready.1 hj
  have hlt:j<ops.length:=by
   have:=(Array.getElem?_eq_some_iff.1 ho).1
   simpa using this
  obtain ⟨x,hx,_⟩:=(hl j hlt).1 h0
  cases hx
 | succ n ih =>
  intro ents listed st a w hlen r hr hf hid ho hsz hl hcl hasc hind
  refine ⟨fun hnil => ?_,fun i hi => ?_⟩
  ·
   exfalso
   cases ents with
   | nil=>cases hlen
   | cons x ents =>
    have hxo:=ho x (by simp)
    have hlt:x.j<ops.length:=(List.getElem?_eq_some_iff.1 hxo).1
    have:x.j ∈ Region.ready .any ops.toArray listed:=by
     rw [mem_ready]
     refine ⟨(hl x.j hlt).2 ⟨x,by simp,rfl⟩,x.o,by simpa using hxo,fun e he hb => ?_⟩
     have hon:=hback x.j x.o hxo e he hb
     have hon2:e.on<ops.length:=by omega
     have hne:listed.getD e.on true ≠ false:=by
      intro h0
      obtain ⟨y,hy,hyj⟩:=(hl e.on hon2).1 h0
      rcases List.mem_cons.1 hy with rfl | hy
      ·omega
      ·have:=(List.pairwise_cons.1 hasc).1 y hy
       omega
     have hlt2:e.on<listed.size:=by omega
     simp only [Array.getD,hlt2,dif_pos] at hne ⊢
     simpa using hne
    rw [hnil] at this
    cases this
  ·obtain ⟨h0,o,hio,hall⟩:=mem_ready.1 hi
   have hio':ops[i]? = some o:=by simpa using hio
   have hlt:i<ops.length:=(List.getElem?_eq_some_iff.1 hio').1
   obtain ⟨x,hx,hxj⟩:=(hl i hlt).1 h0
   obtain ⟨p1,p2,rfl⟩:=List.append_of_mem hx
   have hxo:x.o=o:=by
    have:=ho x hx
    rw [hxj,hio'] at this
    cases this
    rfl
   subst hxo
   subst hxj
   have hin : ∀ y ∈ p1,GH ops y x:=by
    intro y hy
    have hpw:=List.pairwise_append.1 hind
    rcases hpw.2.2 y hy x (by simp) with h1 | h1
    ·exfalso
     have hyo:=ho y (by simp [hy])
     have hylt:y.j<ops.length:=(List.getElem?_eq_some_iff.1 hyo).1
     have hyl:=(hl y.j hylt).2 ⟨y,by simp [hy],rfl⟩
     have:=vl hcl h1 (fun o' ho' e he hb=>by
      rw [hio'] at ho'
      cases ho'
      exact hall e he hb)
     have hlt2:y.j<listed.size:=by omega
     simp only [Array.getD,hlt2,dif_pos] at this hyl
     rw [this] at hyl
     cases hyl
    ·exact h1
   obtain ⟨hs1,hr1⟩:=Runs.first hE p1 st hin hr
   have hfx:=hf x hx
   refine qi hE r hio' hfx.1 hfx.2 hs1 fun a' w' r' => ?_
   have hne : ∀ y ∈ p1++p2,y.j ≠ x.j:=by
    intro y hy
    have hpw:=List.pairwise_append.1 hasc
    rcases List.mem_append.1 hy with hy | hy
    ·have:=hpw.2.2 y hy x (by simp);omega
    ·have:=(List.pairwise_cons.1 hpw.2.1).1 y hy;omega
   have hsub:(p1++p2).Sublist (p1++x :: p2):=List.Sublist.append (List.Sublist.refl _) (List.sublist_cons_self _ _)
   refine ih (p1++p2) _ _ a' w' (by simp at hlen ⊢;omega) r' hr1 ?_ (hid.sublist hsub) (fun y hy=>ho y (hsub.subset hy)) (by simpa using hsz) (fun j hj => ?_) (fun j o hj hjl e he hb => ?_) (hasc.sublist hsub) (hind.sublist hsub)
   ·refine Fresh.step hE hs1 (fun y hy=>hf y (hsub.subset hy)) fun y hy => ?_
    have hpw:=List.pairwise_append.1 hid
    rcases List.mem_append.1 hy with hy | hy
    ·exact (hpw.2.2 y hy x (by simp)).2
    ·exact ((List.pairwise_cons.1 hpw.2.1).1 y hy).1
   ·by_cases e:x.j=j
    ·subst e
     have hlt2:x.j<listed.size:=by omega
     constructor
     ·intro h;simp [Array.getD,hlt2] at h
     ·rintro ⟨y,hy,hyj⟩;exact absurd hyj (hne y hy)
    ·rw [getD_set_ne true e,hl j hj]
     constructor
     ·rintro ⟨y,hy,hyj⟩
      rcases List.mem_append.1 hy with hy | hy
      ·exact ⟨y,by simp [hy],hyj⟩
      ·rcases List.mem_cons.1 hy with rfl | hy
       ·exact absurd hyj e
       ·exact ⟨y,by simp [hy],hyj⟩
     ·rintro ⟨y,hy,hyj⟩
      exact ⟨y,hsub.subset hy,hyj⟩
   ·by_cases e2:x.j=j
    ·subst e2
     rw [hio'] at hj
     cases hj
     exact getD_set_true (hall e he hb)
    ·rw [getD_set_ne false e2] at hjl
     exact getD_set_true (hcl j o hj hjl e he hb)
theorem rA {ops:List Oper} {j:Nat} {o:Oper} (ho:ops[j]? = some o) (acc:List Nat) (hacc : ∀ (i m:Nat),acc[i]? = some m -> ∀ k,Nat.testBit m k=true->Ahead ops k i) :
  ∀ (l:List Edge) (m:Nat),(∀ e ∈ l,e ∈ o.after)->(∀ k,Nat.testBit m k=true->Ahead ops k j) ->
   ∀ k,Nat.testBit (l.foldl (fun m e=>match Region.binds .any e with
    | true=>m ||| (1 <<< e.on) ||| (match nth acc e.on with | some x=>x | none=>0)
    | false=>m) m) k=true->Ahead ops k j
 | [],m,_,hm,k,h=>hm k h
 | e :: l,m,hl,hm,k,h=>by
  simp only [List.foldl_cons] at h
  refine rA ho acc hacc l _ (fun e' he'=>hl e' (by simp [he'])) (fun k' hk' => ?_) k h
  have hea:=hl e (by simp)
  split at hk'
  ·rename_i hb
   rw [Nat.testBit_or,Nat.testBit_or] at hk'
   simp only [Bool.or_eq_true] at hk'
   rcases hk' with (h1 | h1) | h1
   ·exact hm k' h1
   ·have:e.on=k':=by
     rw [Nat.one_shiftLeft,Nat.testBit_two_pow] at h1
     simpa using h1
    exact .edge ho hea hb this
   ·rw [nB] at h1
    cases hn:acc[e.on]? with
    | none=>rw [hn] at h1;simp at h1
    | some x=>rw [hn] at h1;exact .step ho hea hb rfl (hacc _ x hn k' h1)
  ·exact hm k' hk'
theorem mh {ops:List Oper} : ∀ (os:List Oper) (acc:List Nat),(∃ pre,ops=pre++os/\pre.length=acc.length)->(∀ (i m:Nat),acc[i]? = some m -> ∀ k,Nat.testBit m k=true->Ahead ops k i) ->
  ∀ (i m:Nat),(jj os acc)[i]? = some m -> ∀ k,Nat.testBit m k=true->Ahead ops k i
 | [],acc,_,hacc=>by simpa [jj] using hacc
 | o :: rest,acc,⟨pre,hpre,hlen⟩,hacc=>by
  unfold jj
  refine mh rest _ ⟨pre ++ [o],by simp [hpre],by simp [hlen]⟩ fun i m hm k hk => ?_
  rw [List.getElem?_append] at hm
  split at hm
  ·exact hacc i m hm k hk
  ·rename_i hi
   have hi2:i=acc.length:=by
    rcases Nat.lt_or_ge (i-acc.length) 1 with h1 | h1
    ·omega
    ·rw [List.getElem?_eq_none (by simpa using h1)] at hm;cases hm
   subst hi2
   simp only [Nat.sub_self,List.getElem?_cons_zero,Option.some.injEq] at hm
   subst hm
   have ho:ops[acc.length]? = some o:=by rw [hpre,<- hlen];simp
   exact rA ho acc hacc o.after.toList 0 (fun e he=>by simpa using he) (fun k h=>by simp at h) k hk
theorem oy {ops:Array Oper} {x:Oper} {fx:pp} {i:Nat} : ∀ {os:List Oper} {fs:List pp} {ms:List Nat},pe ops x fx os fs ms i=true ->
  ∀ (k:Nat) (o:Oper),os[k]? = some o -> ∃ f m,fs[k]? = some f/\ms[k]? = some m/\(Nat.testBit m i=true \/ (x.apart ops o=true/\iw fx f=true))
 | [],_,_,_=>by simp
 | o :: os,fs,ms,h=>by
  intro k o' hk
  cases fs with
  | nil=>simp [pe] at h
  | cons f fs =>
   cases ms with
   | nil=>simp [pe] at h
   | cons m ms =>
    simp only [pe,Bool.and_eq_true,Bool.or_eq_true] at h
    cases k with
    | zero =>
     simp at hk
     subst hk
     exact ⟨f,m,rfl,rfl,h.1⟩
    | succ k =>
     simp only [List.getElem?_cons_succ] at hk ⊢
     exact oy h.2 k o' hk
theorem pA {o:Oper} {i:Nat} (h:n9 o i=true) : ∀ e ∈ o.after,Region.binds .any e=true->e.on<i:=by
 intro e he hb
 unfold n9 at h
 rw [List.all_eq_true] at h
 have:=h e (by simpa using he)
 rw [hb] at this
 exact aT (a:=e.on+1) this
theorem lD {ops:List Oper} {masks:List Nat} (hm : ∀ (i m:Nat),masks[i]? = some m -> ∀ k,Nat.testBit m k=true->Ahead ops k i) :
  ∀ (ents:List Ent) (i:Nat) (ms:List Nat),(∀ k,ms[k]? = masks[i+k]?)->ents.map (·.j)=List.range' i ents.length ->
   iK ops.toArray (ents.map (·.o)) (ents.map fun x=>dH x.out) ms i=true ->
   (ents.Pairwise fun x y=>Ahead ops x.j y.j \/ GH ops x y) /\ ∀ x ∈ ents,∀ e ∈ x.o.after,Region.binds .any e=true->e.on<x.j
 | [],_,_,_,_,_=>by simp
 | x :: ents,i,ms,hms,hj,h=>by
  cases ms with
  | nil=>simp [iK] at h
  | cons m ms =>
   simp only [List.map_cons,iK,Bool.and_eq_true] at h
   simp only [List.map_cons,List.length_cons,List.range'_succ,List.cons.injEq] at hj
   obtain ⟨hj1,hj2⟩:=hj
   have hms' : ∀ k,ms[k]? = masks[i+1+k]? := by
    intro k
    have:=hms (k+1)
    simp only [List.getElem?_cons_succ] at this
    rw [this]
    congr 1
    omega
   obtain ⟨i1,i2⟩:=lD hm ents (i+1) ms hms' hj2 h.2
   refine ⟨List.pairwise_cons.2 ⟨fun y hy => ?_,i1⟩,fun y hy => ?_⟩
   ·obtain ⟨k,hk⟩:=List.mem_iff_getElem?.1 hy
    obtain ⟨f,m',hf,hm',hor⟩:=oy h.1.2 k y.o (by rw [List.getElem?_map,hk];rfl)
    rw [List.getElem?_map,hk] at hf
    cases hf
    have hyj:y.j=i+1+k:=by
     have:=congrArg (fun l:List Nat=>l[k]?) hj2
     simp only [List.getElem?_map,hk,Option.map_some] at this
     rw [List.getElem?_range'] at this
     ·simp at this;omega
     ·exact (List.getElem?_eq_some_iff.1 hk).1
    rcases hor with h1 | h1
    ·left
     rw [hms' k] at hm'
     rw [hj1,hyj]
     exact hm _ _ hm' i h1
    ·right
     exact h1
   ·rcases List.mem_cons.1 hy with rfl | hy
    ·rw [hj1]
     exact pA h.1.1
    ·exact i2 y hy
theorem AE {ents:List Ent} {i n:Nat} (h:ents.map (·.j)=List.range' i n):ents.Pairwise fun x y=>x.j<y.j:=by
 have:(ents.map (·.j)).Pairwise (· < ·):=by rw [h];exact List.pairwise_lt_range'
 exact List.pairwise_map.1 this
theorem Shape.ops {E:Env} {L:Nat} : ∀ {rest:List Oper} {j id:Nat} {ents:List Ent},Shape E L rest j id ents->ents.map (·.o)=rest
 | [],j,id,ents,h=>by
  simp only [Shape] at h
  subst h
  rfl
 | o :: rest,j,id,ents,h=>by
  cases ents with
  | nil=>exact h.elim
  | cons x ents =>
   obtain ⟨rfl,h2,h3,h4⟩:=h
   simp [Shape.ops h4]
theorem SRel.more {w0:W0} {st:St} {a:Act} {w:World} (r:SRel w0 st a w) (n:Nat):SRel w0 ⟨st.tmps,st.heap++dv n⟩ a w:=by
 obtain ⟨β,h1,h2⟩:=r
 exact ⟨β,by show HRel w0 β (hpS (st.heap++dv n)) w;rw [lW];exact h1,by show TRel β (hpS (st.heap++dv n)) st.tmps a;rw [lW];exact h2⟩
theorem SRel.drew {w0:W0} {st:St} {a:Act} {w:World} (r:SRel w0 st a w):SRel w0 st a { w with drawn:=w.drawn+1 }:=by
 obtain ⟨β,h1,h2⟩:=r
 exact ⟨β,h1.mono ((Below.refl _ _).drew),h2⟩
theorem uV {E:Env} (hE:EnvOk E) {rid:Nat} {ops:Array Oper} {draw:Bool} {Q:Exit->Act->World->Prop} {R:St->Prop} {w0:W0} {st:St} {a:Act} {w:World} (r:SRel w0 st a w)
  (hs:(nV E ops.toList draw st).sat R) (hQ : ∀ st',R st' -> ∀ a' w',SRel w0 st' a' w'->Q .normal a' w'):(Code.region rid ops draw).wp E.P Q a w:=by
 unfold nV at hs
 rw [Tree.sat_bind] at hs
 obtain ⟨ents,st',h1,h2,h3⟩:=lM _ _ _ _ _ hs
 obtain ⟨i1,i2⟩:=h2.ids (Nat.le_refl _)
 obtain ⟨j1,j2⟩:=h2.at
 have hfr:=h2.fresh
 have ho : ∀ x ∈ ents,ops.toList[x.j]? = some x.o:=fun x hx=>by simpa using (j2 x hx).2
 have hlen:ents.length=ops.toList.length:=by
  have:=congrArg List.length h2.ops
  simpa using this
 have hj:ents.map (·.j)=List.range ops.size:=by
  rw [j1,List.range_eq_range',Array.length_toList]
 have hex : ∀ j,j<ops.toList.length -> ∃ x ∈ ents,x.j=j:=by
  intro j hjl
  have hm:j ∈ ents.map (·.j):=by rw [hj];simpa using hjl
  obtain ⟨x,hx,hxj⟩:=List.mem_map.1 hm
  exact ⟨x,hx,hxj⟩
 have r':=r.more (dc E ops.toList)
 cases draw with
 | false =>
  refine wp_region ?_
  have:=t7 hE (Q:=Q) (w0:=w0) (st':=st') (fun a w h=>hQ st' h3 a w h) ents _ a w r' h1 hfr i2 ho
  rw [hj] at this
  simpa using this
 | true =>
  simp only [] at h3
  split at h3
  ·rename_i hfree
   simp only [List.append_nil,List.reverse_reverse] at hfree
   unfold ux at hfree
   have hmask:=mh (ops:=ops.toList) ops.toList [] ⟨[],rfl,rfl⟩ (by simp)
   rw [<- h2.ops] at hfree
   rw [h2.ops] at hfree
   have hfree':iK ops.toList.toArray (ents.map (·.o)) (ents.map fun x=>dH x.out) (jj ops.toList []) 0=true:=by
    rw [h2.ops];exact hfree
   obtain ⟨q1,q2⟩:=lD hmask ents 0 (jj ops.toList []) (fun k=>by simp) (by rw [j1,hlen]) hfree'
   refine wp_region_any hE.mixed ?_
   have:=F7 hE (Q:=Q) (w0:=w0) (st':=st') (fun a w h=>hQ st' h3 a w h) (ops:=ops.toList) (fun j o hjo e he hb => ?_) ops.size ents (Array.replicate ops.size false) _ a _ (by rw [hlen];simp) r'.drew h1 hfr i2 ho (by simp)
    (fun j hj => ?_) (fun j o hjo hl => ?_) (AE j1) q1
   ·simpa using this
   ·obtain ⟨x,hx,hxj⟩:=hex j (List.getElem?_eq_some_iff.1 hjo).1
    have:=ho x hx
    rw [hxj,hjo] at this
    cases this
    rw [<- hxj]
    exact q2 x hx e he hb
   ·refine ⟨fun _=>hex j hj,fun _ => ?_⟩
    simp only [Array.length_toList] at hj
    simp [Array.getD,hj]
   ·exfalso
    have hlt:j<ops.size:=by simpa using (List.getElem?_eq_some_iff.1 hjo).1
    simp [Array.getD,hlt] at hl
  ·exact h3.elim
end Go.Proofs.Ytibfppbffdedoaa
namespace Go.Proofs.Ytibfppbffdedoaa
open Go.RowKit
def X.to:X->Exit
 | .normal => .normal
 | .exit id => .exit id
 | .goto l => .goto l
 | .ret => .ret
def nN (P:Program) (c:Code) (Q:Exit->Act->World->Prop):Nat->Code->Act->World->Prop
 | 0,_,_,_=>False
 | n+1,cur,a,w=>cur.wp P (fun e a' w'=>match e with
   | .goto l=>match findLabel c l with
    | some rest=>nN P c Q n rest a' w'
    | none=>Q (.goto l) a' w'
   | e=>Q e a' w') a w
theorem og {P:Program} {c:Code} {Q:Exit->Act->World->Prop} {a:Act} {w:World} (n:Nat) (h:nN P c Q n c a w):(Code.scope c).wp P Q a w:=by
 intro b k cs
 have key : ∀ n cur a w,nN P c Q n cur a w -> ∃ e a' w',Q e a' w'/\Arrives P (lone (b.at a (.code cur :: .inScope c :: k)) cs w) b k cs e a' w':=by
  intro n
  induction n with
  | zero=>intro cur a w h;exact h.elim
  | succ n ih =>
   intro cur a w h
   obtain ⟨e,a₁,w₁,hq,harr⟩:=h b (.inScope c :: k) cs
   cases e with
   | normal=>exact ⟨.normal,a₁,w₁,hq,Steps.trans harr (.one step_inScope)⟩
   | exit id=>exact ⟨.exit id,a₁,w₁,hq,fun k' hk=>harr k' (by simp [exitTo,hk])⟩
   | goto l =>
    simp only [] at hq
    cases hf:findLabel c l with
    | none =>
     rw [hf] at hq
     exact ⟨.goto l,a₁,w₁,hq,fun k' hk=>harr k' (by simp [gotoIn,hf,hk])⟩
    | some rest =>
     rw [hf] at hq
     obtain ⟨e₂,a₂,w₂,hq₂,harr₂⟩:=ih rest a₁ w₁ hq
     exact ⟨e₂,a₂,w₂,hq₂,.of_steps (harr _ (by simp [gotoIn,hf])) harr₂⟩
   | ret=>exact ⟨_,a₁,w₁,hq,harr⟩
   | panic ch=>exact ⟨_,a₁,w₁,hq,harr⟩
   | outgrown=>exact ⟨_,a₁,w₁,hq,harr⟩
 obtain ⟨e,a',w',hq,harr⟩:=key n c a w h
 exact ⟨e,a',w',hq,.of_steps (.one step_scope) harr⟩
abbrev R1 (w0:W0) (R:X × St->Prop) (Q:Exit->Act->World->Prop):Prop := ∀ r,R r -> ∀ a w,SRel w0 r.2 a w->Q r.1.to a w
theorem qz {w0:W0} {st:St} {a:Act} {w:World} (r:SRel w0 st a w) {c:Operand} {b:Bool} (hc:evS st.tmps c=some (.one (.c (.bool b)))) :
  SRel w0 ⟨refine st.tmps c (lj b),st.heap⟩ a w:=by
 obtain ⟨β,h1,h2⟩:=r
 refine ⟨β,h1,?_⟩
 cases c with
 | tmp t =>
  obtain ⟨q1,q2⟩:=h2.ok t _ hc
  refine ⟨h2.size,h2.defers,fun u v hv => ?_⟩
  simp only [refine] at hv
  rw [Tr.get_set] at hv
  by_cases e:u=t
  ·subst e
   rw [if_pos rfl] at hv
   cases hv
   refine ⟨?_,al (kA b)⟩
   rw [q1]
   simp only [gv,g1,iv]
   rfl
  ·rw [if_neg e] at hv
   exact h2.ok u v hv
 | _=>exact h2
theorem l8 {E:Env} (hE:EnvOk E) {w0:W0} : ∀ (n:Nat) (c:Code) (st:St) (R:X × St->Prop) (Q:Exit->Act->World->Prop),(exec E n c st).sat R->R1 w0 R Q ->
  ∀ a w,SRel w0 st a w->c.wp E.P Q a w:=by
 intro n
 induction n with
 | zero=>intro c st R Q h;exact h.elim
 | succ n ih =>
  intro c st R Q h hR a w r
  cases c with
  | skip=>exact wp_skip (hR _ h a w r)
  | label l=>exact wp_label (hR _ h a w r)
  | exit id=>exact wp_exit (hR _ h a w r)
  | goto l=>exact wp_goto (hR _ h a w r)
  | ret=>exact wp_ret (hR _ h a w r)
  | region id ops draw =>
   simp only [exec] at h
   rw [Tree.sat_bind] at h
   exact uV hE r h fun st' h' a' w' r'=>hR _ h' a' w' r'
  | seq x y =>
   simp only [exec] at h
   rw [Tree.sat_bind] at h
   refine wp_seq (ih x st _ _ h (fun q hq a' w' r' => ?_) a w r)
   obtain ⟨e,st'⟩:=q
   cases e with
   | normal=>exact ih y st' R Q hq hR a' w' r'
   | exit id=>exact hR _ hq a' w' r'
   | goto l=>exact hR _ hq a' w' r'
   | ret=>exact hR _ hq a' w' r'
  | cond c x y =>
   simp only [exec] at h
   obtain ⟨β,h1,h2⟩:=r
   split at h
   ·rename_i hc
    refine wp_cond_true (by have:=(pj h2 c _ hc).1;rw [<- this];rfl) (ih x st R Q h hR a w ⟨β,h1,h2⟩)
   ·rename_i hc
    refine wp_cond_false (by have:=(pj h2 c _ hc).1;rw [<- this];rfl) (ih y st R Q h hR a w ⟨β,h1,h2⟩)
   ·rename_i p hc
    have he:a.eval c = .bool p:=by have:=(pj h2 c _ hc).1;rw [<- this];rfl
    have hr:=qz ⟨β,h1,h2⟩ hc
    refine wp_cond_split he (fun e => ?_) (fun e => ?_)
    ·subst e
     exact ih x _ R Q (h.1 rfl) hR a w hr
    ·subst e
     exact ih y _ R Q (h.2 rfl) hR a w hr
   ·exact h.elim
  | block id x =>
   simp only [exec] at h
   rw [Tree.sat_bind] at h
   refine wp_block (ih x st _ _ h (fun q hq a' w' r' => ?_) a w r)
   obtain ⟨e,st'⟩:=q
   cases e with
   | normal=>exact hR _ hq a' w' r'
   | exit id' =>
    simp only [] at hq
    show (if id'=id then Q .normal a' w' else Q (.exit id') a' w')
    split at hq
    ·rename_i hb
     rw [if_pos (Nat.eq_of_beq_eq_true hb)]
     exact hR _ hq a' w' r'
    ·rename_i hb
     rw [if_neg (Nat.ne_of_beq_eq_false hb)]
     exact hR _ hq a' w' r'
   | goto l=>exact hR _ hq a' w' r'
   | ret=>exact hR _ hq a' w' r'
  | loop x =>
   simp only [exec] at h
   have key : ∀ m st,(wS (exec E n x) m st).sat R -> ∀ a w,SRel w0 st a w->Code.rounds E.P x Q m a w:=by
    intro m
    induction m with
    | zero=>intro st h;exact h.elim
    | succ m ihm =>
     intro st h a w r
     simp only [wS] at h
     rw [Tree.sat_bind] at h
     rw [rounds_succ]
     refine ih x st _ _ h (fun q hq a' w' r' => ?_) a w r
     obtain ⟨e,st'⟩:=q
     cases e with
     | normal=>exact ihm st' hq a' w' r'
     | exit id=>exact hR _ hq a' w' r'
     | goto l=>exact hR _ hq a' w' r'
     | ret=>exact hR _ hq a' w' r'
   exact wp_loop_rounds n (key n st h a w r)
  | scope x =>
   simp only [exec] at h
   have key : ∀ m cur st,(qm (exec E n) x m cur st).sat R -> ∀ a w,SRel w0 st a w->nN E.P x Q m cur a w:=by
    intro m
    induction m with
    | zero=>intro cur st h;exact h.elim
    | succ m ihm =>
     intro cur st h a w r
     simp only [qm] at h
     rw [Tree.sat_bind] at h
     refine ih cur st _ _ h (fun q hq a' w' r' => ?_) a w r
     obtain ⟨e,st'⟩:=q
     cases e with
     | normal=>exact hR _ hq a' w' r'
     | exit id=>exact hR _ hq a' w' r'
     | goto l =>
      simp only [X.to] at hq ⊢
      split at hq
      ·rename_i rest hf
       rw [hf]
       exact ihm rest st' hq a' w' r'
      ·rename_i hf
       rw [hf]
       exact hR _ hq a' w' r'
     | ret=>exact hR _ hq a' w' r'
   exact og n (key n x st h a w r)
  | rangeFunc f ps as bd=>exact h.elim
  | refuse why=>exact h.elim
def nv (tmps:Array Value):ResultVar->Sem Value
 | .tmp t=>pure (tmps.getD t Go.undef)
 | .cell x t=>do loadVar t (<- asAddr (tmps.getD x Go.undef))
theorem Et {P:Program} {w0:W0} {β:Nat->Pl} {st:St} {a:Act} {w:World} (h1:HRel w0 β (hpS st.heap) w) (h2:TRel β (hpS st.heap) st.tmps a) {r:ResultVar} {v:AV1} (h:o9 P st r=some v) :
  (nv a.tmps r).run P w = .ok (g1 β v) w/\ok1 (hpS st.heap) v:=by
 have slot : ∀ t u,st.tmps.tr.get t=some u->a.tmps.getD t Go.undef=gv β u/\okv (hpS st.heap) u:=by
  intro t u hu
  have:=pj h2 (.tmp t) u hu
  exact ⟨this.1.symm,this.2⟩
 cases r with
 | tmp t =>
  simp only [o9] at h
  split at h
  ·rename_i u hu
   cases h
   obtain ⟨e1,e2⟩:=slot t _ hu
   exact ⟨by simp only [nv];rw [e1];rfl,e2⟩
  ·cases h
 | cell x t =>
  simp only [o9] at h
  split at h
  ·rename_i i off hx
   obtain ⟨e1,e2⟩:=slot x _ hx
   split at h
   ·rename_i u rd wr hl
    cases h
    obtain ⟨q1,q2,_⟩:=ow h1 hl trivial
    refine ⟨?_,q2⟩
    simp only [nv]
    rw [e1]
    have q1':(Instr.loadAt t (gc β (.ptr i off))).run P w = .ok (g1 β v) w:=q1
    unfold Instr.loadAt at q1'
    show (do loadVar t (<- asAddr (gc β (.ptr i off))):Sem Value).run P w=_
    cases hb:(β i).base with
    | none=>simp [gc,hb,Instr.sureAddr] at q1'
    | some b=>simpa [gc,hb,Instr.sureAddr,asAddr] using q1'
   ·cases h
  ·cases h
theorem qv {P:Program} {w0:W0} {β:Nat->Pl} {st:St} {a:Act} {w:World} (h1:HRel w0 β (hpS st.heap) w) (h2:TRel β (hpS st.heap) st.tmps a) : ∀ {rs:List ResultVar} {vs:List AV1},cP (o9 P st) rs=some vs ->
  (rs.mapM (nv a.tmps)).run P w = .ok (vs.map (g1 β)) w /\ ∀ v ∈ vs,ok1 (hpS st.heap) v
 | [],vs,h=>by cases h;simp
 | r :: rs,vs,h=>by
  simp only [cP] at h
  split at h
  ·rename_i v vs' hv hvs
   cases h
   obtain ⟨e1,e2⟩:=Et h1 h2 hv
   obtain ⟨e3,e4⟩:=qv h1 h2 hvs
   refine ⟨?_,fun u hu => ?_⟩
   ·simp only [List.mapM_cons,Sem.run_bind,e1,Result.andThen_ok,e3,Sem.run_pure,List.map_cons]
   ·rcases List.mem_cons.1 hu with rfl | hu
    ·exact e2
    ·exact e4 u hu
  ·cases h
theorem t9 {P:Program} {fn:Func} {w0:W0} {β:Nat->Pl} {st:St} {a:Act} {w:World} (h1:HRel w0 β (hpS st.heap) w) (h2:TRel β (hpS st.heap) st.tmps a) {v:AV} (h:ee P fn.results.toList st=some v) :
  (results fn a.tmps).run P w = .ok (gv β v) w/\okv (hpS st.heap) v:=by
 unfold ee at h
 have main : ∀ vs,cP (o9 P st) fn.results.toList=some vs->(results fn a.tmps).run P w = .ok (if h:(vs.map (g1 β)).toArray.size=1 then (vs.map (g1 β)).toArray[0] else .tuple (vs.map (g1 β)).toArray) w /\ ∀ v ∈ vs,ok1 (hpS st.heap) v:=by
  intro vs hvs
  obtain ⟨e1,e2⟩:=qv h1 h2 hvs
  refine ⟨?_,e2⟩
  have e0:results fn a.tmps=(do
    let vs <- fn.results.mapM (nv a.tmps)
    pure (if h:vs.size=1 then vs[0] else .tuple vs):Sem Value):=by
   unfold results
   congr 1
  rw [e0,Array.mapM_eq_mapM_toList]
  simp only [Sem.run_bind,Sem.run_map,e1,Result.andThen_ok,Sem.run_pure]
 split at h
 ·rename_i u hu
  cases h
  obtain ⟨e1,e2⟩:=main _ hu
  exact ⟨by simpa [gv] using e1,e2 _ (by simp)⟩
 ·rename_i vs hne hvs
  cases h
  obtain ⟨e1,e2⟩:=main _ hvs
  refine ⟨?_,e2⟩
  rw [e1]
  have : ¬ (vs.map (g1 β)).toArray.size=1:=by
   intro hs
   simp at hs
   obtain ⟨u,rfl⟩:=List.length_eq_one_iff.1 hs
   exact hne u rfl
  rw [dif_neg this]
  rfl
 ·cases h
theorem Tr.args_get : ∀ (vs:List AV) (k:Nat) (t:Tr) (j:Nat) (v:AV),(Tr.args vs k t).get j=some v->(k<=j/\vs[j-k]? = some v) \/ ((j<k \/ k+vs.length<=j)/\t.get j=some v)
 | [],k,t,j,v,h => .inr ⟨by simp;omega,h⟩
 | u :: vs,k,t,j,v,h=>by
  rcases Tr.args_get vs (k+1) _ j v h with ⟨h1,h2⟩ | ⟨h1,h2⟩
  ·refine .inl ⟨by omega,?_⟩
   obtain ⟨i,rfl⟩ : ∃ i,j=k+1+i:=⟨j-(k+1),by omega⟩
   rw [show k+1+i-(k+1)=i by omega] at h2
   rw [show k+1+i-k=i+1 by omega]
   simpa using h2
  ·rw [Tr.get_set] at h2
   by_cases e:j=k
   ·subst e
    rw [if_pos rfl] at h2
    exact .inl ⟨Nat.le_refl _,by simpa using h2⟩
   ·rw [if_neg e] at h2
    exact .inr ⟨by simp only [List.length_cons];omega,h2⟩
theorem FX {E:Env} (hE:EnvOk E) {f:FuncId} {fn:Func} (hf:E.P.funcs[f]? = some fn) {fuel:Nat} {avs:List AV} {heap:List HE} {w0:W0} {β:Nat->Pl} {w:World} {R:Ending->World->Prop} (hr:HRel w0 β (hpS heap) w)
  (hok : ∀ v ∈ avs,okv (hpS heap) v)
  (h:(Ll E fuel fn avs heap).sat fun r => ∀ β' w',HRel w0 β' (hpS r.2) w'->okv (hpS r.2) r.1->R (.returned (gv β' r.1)) w'):Calls E.P f (avs.map (gv β)).toArray w R:=by
 unfold Ll at h
 cases hb:fn.body with
 | none=>rw [hb] at h;exact h.elim
 | some c =>
  rw [hb] at h
  simp only [] at h
  unfold CT at h
  rw [Tree.sat_bind] at h
  refine calls_of_wp hf hb (l8 hE (w0:=w0) fuel c _ _ _ h (fun q hq a' w' r' => ?_) _ w ?_)
  ·obtain ⟨e,st'⟩:=q
   obtain ⟨β',g1',g2'⟩:=r'
   have fin:(match ee E.P fn.results.toList st' with | some v=>Tree.leaf (v,st'.heap) | none => .fail).sat (fun r => ∀ β' w',HRel w0 β' (hpS r.2) w'->okv (hpS r.2) r.1->R (.returned (gv β' r.1)) w') ->
     a'.defers = [] /\ ∃ v,(results fn a'.tmps).run E.P w' = .ok v w'/\R (.returned v) w':=by
    intro hq
    split at hq
    ·rename_i v hv
     obtain ⟨e1,e2⟩:=t9 g1' g2' hv
     exact ⟨g2'.defers,_,e1,hq β' w' g1' e2⟩
    ·exact hq.elim
   cases e with
   | normal=>exact fin hq
   | ret=>exact fin hq
   | exit id=>exact hq.elim
   | goto l=>exact hq.elim
  ·refine ⟨β,hr,⟨by simp,rfl,fun t v hv => ?_⟩⟩
   rcases Tr.args_get avs 0 .nil t v hv with ⟨_,h2⟩ | ⟨_,h2⟩
   ·have hlt:=(List.getElem?_eq_some_iff.1 h2).1
    refine ⟨?_,hok v (List.mem_of_getElem? h2)⟩
    rw [Array.getElem?_append_left (by simpa using hlt)]
    simpa using ⟨v,h2,rfl⟩
   ·cases h2
end Go.Proofs.Ytibfppbffdedoaa
namespace Go.Proofs.Ytibfppbffdedoaa
open Go.RowKit
abbrev ay:=Nat->ah->List AV->Option CRes
structure CallOk (P : Program) (f : Nat) (K : ay) : Prop where
 call : ∀ id h args r,K id h args=some r->r.pre.holds -> ∀ w0 β w,HRel w0 β h w->GP h id r.new.length->(∀ v ∈ args,okv h v) ->
  Cz P f (args.map (gv β)).toArray w (EffOk w0 β h id r.val (oE id r.new++r.wrote))
 near : ∀ id h h' args r,K id h args=some r->(∀ i ∈ r.reads,h i=h' i)->K id h' args=some r
 wrote : ∀ id h args r,K id h args=some r -> ∀ p ∈ r.wrote,p.2 ≠ .un/\h p.1 ≠ .un
abbrev eO:=List (Nat × ay)
def oW:eO->Nat->ay
 | [],_=>fun _ _ _=>none
 | (g,k) :: rest,f=>match Nat.beq g f with
  | true=>k
  | false=>oW rest f
def TableOk (P:Program) (T:eO):Prop := ∀ p ∈ T,CallOk P p.1 p.2
theorem TableOk.nil {P:Program}:TableOk P []:=fun _ h=>by cases h
theorem TableOk.cons {P:Program} {f:Nat} {K:ay} {T:eO} (h:CallOk P f K) (hT:TableOk P T):TableOk P ((f,K) :: T):=fun p hp=>by
 rcases List.mem_cons.1 hp with rfl | hp
 ·exact h
 ·exact hT p hp
theorem TableOk.append {P:Program} {S T:eO} (h:TableOk P S) (hT:TableOk P T):TableOk P (S++T):=fun p hp=>by
 rcases List.mem_append.1 hp with hp | hp
 ·exact h p hp
 ·exact hT p hp
theorem m8 {P:Program} : ∀ {T:eO} {f:Nat},TableOk P T->(∀ id h args r,oW T f id h args=some r->CallOk P f (oW T f))
 | [],f,_=>fun id h args r e=>by cases e
 | (g,k) :: T,f,hT=>by
  intro id h args r e
  cases hb:Nat.beq g f with
  | true =>
   have hg:=Nat.eq_of_beq_eq_true hb
   subst hg
   have e1:oW ((g,k) :: T) g=k:=by simp only [oW,hb]
   rw [e1]
   exact hT (g,k) (by simp)
  | false =>
   have e1:oW ((g,k) :: T) f=oW T f:=by simp only [oW,hb]
   rw [e1] at e ⊢
   exact m8 (fun p hp=>hT p (by simp [hp])) id h args r e
def wj:List Nat->Nat->Nat
 | [],_=>0
 | g :: ns,f=>match Nat.beq g f with
  | true=>wj ns f+1
  | false=>wj ns f
def qZ (P:Program) (T:eO) (ns:List Nat):Env:=⟨P,oW T,wj ns⟩
theorem gM {P:Program} {T:eO} {ns:List Nat} (hm:P.follows .mixedOrders=true) (hT:TableOk P T):EnvOk (qZ P T ns) where
 mixed:=hm
 call:=fun f id h args r hr hp w0 β w hrel hid hok=>(m8 hT id h args r hr).call id h args r hr hp w0 β w hrel hid hok
 near:=fun f id h h' args r hr H=>(m8 hT id h args r hr).near id h h' args r hr H
 wrote:=fun f id h args r hr=>(m8 hT id h args r hr).wrote id h args r hr
structure Arg (α : Type) where
 rd:ah->AV->Option (α × Pr × List Nat)
 is:World->Value->α->Prop
 ok : ∀ {w0 β h w v x p rs},rd h v=some (x,p,rs)->p.holds->HRel w0 β h w->okv h v->is w (gv β v) x
 near : ∀ {h h':ah} {v x p} {rs:List Nat},rd h v=some (x,p,rs)->(∀ i ∈ rs,h i=h' i)->rd h' v=some (x,p,rs)
structure Res (α : Type) where
 wr:Nat->α->AV
 new:α->List Blk
 is:World->World->Value->α->Prop
 ok : ∀ {w0 β h w w' id v x},HRel w0 β h w->GP h id (new x).length->Below w.heap.size w w'->is w w' v x->EffOk w0 β h id (wr id x) (oE id (new x)) v w'
def Arg.plain {α:Type} (rd:AV->Option α) (val:α->Value) (h : ∀ v x,rd v=some x -> ∀ β,gv β v=val x):Arg α where
 rd:=fun _ v=>match rd v with | some x=>some (x,.t,[]) | none=>none
 is:=fun _ v x=>v=val x
 ok:=fun {w0 β h' w v x p rs} e _ _ _=>by
  split at e
  ·rename_i y hy;cases e;exact h v _ hy β
  ·cases e
 near:=fun {h h' v x p rs} e _=>e
def Res.plain {α:Type} (av:α->AV) (val:α->Value) (h : ∀ x β,gv β (av x)=val x) (hok : ∀ x hp,okv hp (av x)):Res α where
 wr:=fun _ x=>av x
 new:=fun _ => []
 is:=fun _ _ v x=>v=val x
 ok:=fun {w0 β h' w w' id v x} hr hid hb e=>by
  subst e
  rw [<- h x β]
  exact EffOk.pure (hr.mono hb) (hok x h')
def argU64:Arg UInt64:=Arg.plain (fun v=>match v with | .one (.c x)=>toU x | _=>none) (fun x => .int .u64 (x.toNat:Int)) (fun v x e β=>by
 split at e
 ·exact gZ β e
 ·cases e)
def Gn (c:Cell):Option Bool :=
 match c with
 | .bit b=>some b
 | .lit .u64 (.ofNat 0)=>some false
 | .lit .u64 (.ofNat 1)=>some true
 | _=>none
def argBit:Arg Bool:=Arg.plain (fun v=>match v with | .one (.c x)=>Gn x | _=>none) (fun b => .int .u64 ((b2u b).toNat:Int)) (fun v x e β=>by
 split at e
 ·rename_i c
  unfold Gn at e
  split at e <;> cases e <;> rfl
 ·cases e)
def vO {α:Type} [Row α] (x:α):Value := .agg ((Row.cs x).map (gc β0)).toArray
def K0 {ρ:Type} (r:Res ρ) (F:ρ):ay:=fun id _ args =>
 match args with
 | []=>some ⟨r.wr id F,.t,[],r.new F,[]⟩
 | _=>none
def K1 {α ρ:Type} (a:Arg α) (r:Res ρ) (F:α->ρ):ay:=fun id h args =>
 match args with
 | [u]=>match a.rd h u with
  | some (x,p,s)=>some ⟨r.wr id (F x),p,s,r.new (F x),[]⟩
  | none=>none
 | _=>none
def K2 {α β ρ:Type} (a:Arg α) (b:Arg β) (r:Res ρ) (F:α->β->ρ):ay:=fun id h args =>
 match args with
 | [u,v]=>match a.rd h u,b.rd h v with
  | some (x,p,s),some (y,q,t)=>some ⟨r.wr id (F x y),p.and q,s++t,r.new (F x y),[]⟩
  | _,_=>none
 | _=>none
def K3 {α β γ ρ:Type} (a:Arg α) (b:Arg β) (c:Arg γ) (r:Res ρ) (F:α->β->γ->ρ):ay:=fun id h args =>
 match args with
 | [u,v,w]=>match a.rd h u,b.rd h v,c.rd h w with
  | some (x,p,s),some (y,q,t),some (z,o,u)=>some ⟨r.wr id (F x y z),(p.and q).and o,s++t++u,r.new (F x y z),[]⟩
  | _,_,_=>none
 | _=>none
def Gives {ρ:Type} (P:Program) (f:Nat) (args:Array Value) (w:World) (r:Res ρ) (x:ρ):Prop :=
 Calls P f args w fun e w' => ∃ v,e = .returned v/\Below w.heap.size w w'/\r.is w w' v x
theorem Gives.runs {ρ : Type} {P : Program} {f : Nat} {fn : Func} (hf : P.funcs[f]? = some fn) (hb : fn.body.isSome = true) (hn : (fn.name == "runtime.NumGoroutine") = false) {args : Array Value} {w : World} {r : Res ρ} {x : ρ}
  (h:Gives P f args w r x) {w0:W0} {β:Nat->Pl} {hp:ah} {id:Nat} (hr:HRel w0 β hp w) (hid:GP hp id (r.new x).length):Cz P f args w (EffOk w0 β hp id (r.wr id x) (oE id (r.new x) ++ [])):=by
 rw [List.append_nil]
 refine .inr ⟨?_,Calls.mono h fun e w' ⟨v,h1,h2,h3⟩=>⟨v,h1,r.ok hr hid h2 h3⟩⟩
 have h1 : fn.name ≠ "runtime.NumGoroutine" := by simpa using hn
 simp [callFunc,hf,h1]
 intro e
 rw [e] at hb
 cases hb
structure Bodied (P : Program) (f : Nat) : Prop where
 fn : ∃ fn, P.funcs[f]? = some fn ∧ fn.body.isSome = true ∧ (fn.name == "runtime.NumGoroutine") = false
theorem OU {ρ:Type} {P:Program} {f:Nat} (hf:Bodied P f) {r:Res ρ} {F:ρ} (h : ∀ w,Gives P f #[] w r F):CallOk P f (K0 r F) where
 call:=fun id hp args res e _ w0 β w hr hid hok=>by
  obtain ⟨fn,h1,h2,h3⟩:=hf.fn
  unfold K0 at e
  split at e
  ·cases e
   exact (h w).runs h1 h2 h3 hr hid
  ·cases e
 near:=fun id h h' args res e _=>e
 wrote:=fun id h args res e=>by
  unfold K0 at e
  split at e
  ·cases e;simp
  ·cases e
theorem OT {α ρ:Type} {P:Program} {f:Nat} (hf:Bodied P f) {a:Arg α} {r:Res ρ} {F:α->ρ} (h : ∀ w v x,a.is w v x->Gives P f #[v] w r (F x)):CallOk P f (K1 a r F) where
 call:=fun id hp args res e hpre w0 β w hr hid hok=>by
  obtain ⟨fn,h1,h2,h3⟩:=hf.fn
  unfold K1 at e
  split at e
  ·rename_i u
   split at e
   ·rename_i x p s hx
    cases e
    exact (h w _ x (a.ok hx hpre hr (hok u (by simp)))).runs h1 h2 h3 hr hid
   ·cases e
  ·cases e
 near:=fun id h h' args res e H=>by
  unfold K1 at e ⊢
  split at e
  ·split at e
   ·rename_i x p s hx
    cases e
    rw [a.near hx H]
   ·cases e
  ·cases e
 wrote:=fun id h args res e=>by
  unfold K1 at e
  split at e
  ·split at e
   ·cases e;simp
   ·cases e
  ·cases e
theorem LF {α β' ρ:Type} {P:Program} {f:Nat} (hf:Bodied P f) {a:Arg α} {b:Arg β'} {r:Res ρ} {F:α->β'->ρ} (h : ∀ w v x u y,a.is w v x->b.is w u y->Gives P f #[v,u] w r (F x y)):CallOk P f (K2 a b r F) where
 call:=fun id hp args res e hpre w0 β w hr hid hok=>by
  obtain ⟨fn,h1,h2,h3⟩:=hf.fn
  unfold K2 at e
  split at e
  ·rename_i u v
   split at e
   ·rename_i x p s y q t hx hy
    cases e
    have hpre:=Pr.and_holds hpre
    exact (h w _ x _ y (a.ok hx hpre.1 hr (hok u (by simp))) (b.ok hy hpre.2 hr (hok v (by simp)))).runs h1 h2 h3 hr hid
   ·cases e
  ·cases e
 near:=fun id h h' args res e H=>by
  unfold K2 at e ⊢
  split at e
  ·split at e
   ·rename_i x p s y q t hx hy
    cases e
    rw [a.near hx (fun i hi=>H i (by simp [hi])),b.near hy (fun i hi=>H i (by simp [hi]))]
   ·cases e
  ·cases e
 wrote:=fun id h args res e=>by
  unfold K2 at e
  split at e
  ·split at e
   ·cases e;simp
   ·cases e
  ·cases e
theorem OS {α β' γ ρ:Type} {P:Program} {f:Nat} (hf:Bodied P f) {a:Arg α} {b:Arg β'} {c:Arg γ} {r:Res ρ} {F:α->β'->γ->ρ}
  (h : ∀ w v x u y t z,a.is w v x->b.is w u y->c.is w t z->Gives P f #[v,u,t] w r (F x y z)):CallOk P f (K3 a b c r F) where
 call:=fun id hp args res e hpre w0 β w hr hid hok=>by
  obtain ⟨fn,h1,h2,h3⟩:=hf.fn
  unfold K3 at e
  split at e
  ·rename_i u v q
   split at e
   ·rename_i x p s y p2 t z p3 s2 hx hy hz
    cases e
    have hpre:=Pr.and_holds hpre
    have hpre':=Pr.and_holds hpre.1
    exact (h w _ x _ y _ z (a.ok hx hpre'.1 hr (hok u (by simp))) (b.ok hy hpre'.2 hr (hok v (by simp))) (c.ok hz hpre.2 hr (hok q (by simp)))).runs h1 h2 h3 hr hid
   ·cases e
  ·cases e
 near:=fun id h h' args res e H=>by
  unfold K3 at e ⊢
  split at e
  ·split at e
   ·rename_i x p s y p2 t z p3 s2 hx hy hz
    cases e
    rw [a.near hx (fun i hi=>H i (by simp [hi])),b.near hy (fun i hi=>H i (by simp [hi])),c.near hz (fun i hi=>H i (by simp [hi]))]
   ·cases e
  ·cases e
 wrote:=fun id h args res e=>by
  unfold K3 at e
  split at e
  ·split at e
   ·cases e;simp
   ·cases e
  ·cases e
theorem HRel.start (w:World) (β:Nat->Pl):HRel (.of w) β (hpS []) w where
 below:=Bel.refl _
 blk:=fun i b h=>by simp [hpS,nth] at h
 sep:=fun i j b c h=>by simp [hpS,nth] at h
 okc:=fun i b h=>by simp [hpS,nth] at h
 pin:=fun i b h=>by simp [hpS,nth] at h
 lst:=fun i k l h=>by simp [hpS,nth] at h
end Go.Proofs.Ytibfppbffdedoaa
namespace Go.Proofs.Ytibfppbffdedoaa
open Go.RowKit
def dm (x y:UInt64) (c:Bool):UInt64:=x+y+b2u c
def bw (x y:UInt64) (c:Bool):Bool:=Nat.ble 18446744073709551616 (x.toNat+y.toNat+(b2u c).toNat)
def dJ (x y:UInt64) (c:Bool):UInt64:=x-y-b2u c
def cB (x y:UInt64) (c:Bool):Bool:=Nat.blt x.toNat (y.toNat+(b2u c).toNat)
theorem bW (b:Bool):(b2u b).toNat=b.toNat:=by cases b <;> rfl
theorem j9 (x y:UInt64) (c:Bool):(dm x y c).toNat=(x.toNat+y.toNat+c.toNat) % 18446744073709551616:=by
 simp only [dm,UInt64.toNat_add,bW];omega
theorem gP (x y:UInt64) (c:Bool):(bw x y c).toNat=(x.toNat+y.toNat+c.toNat) / 18446744073709551616:=by
 have hx:=x.toNat_lt
 have hy:=y.toNat_lt
 have hc:c.toNat<=1:=by cases c <;> simp
 unfold bw
 rw [bW]
 cases e:Nat.ble 18446744073709551616 (x.toNat+y.toNat+c.toNat) with
 | true=>have:=Nat.le_of_ble_eq_true e;simp only [Bool.toNat_true];omega
 | false =>
  have : ¬ 18446744073709551616<=x.toNat+y.toNat+c.toNat:=fun h=>by rw [Nat.ble_eq_true_of_le h] at e;cases e
  simp only [Bool.toNat_false];omega
theorem yv (x y:UInt64) (c:Bool):(dJ x y c).toNat=(x.toNat+18446744073709551616-y.toNat-c.toNat) % 18446744073709551616:=by
 have hx:=x.toNat_lt
 have hy:=y.toNat_lt
 have hc:c.toNat<=1:=by cases c <;> simp
 simp only [dJ,UInt64.toNat_sub,bW];omega
theorem yz (x y:UInt64) (c:Bool):cB x y c=decide (x.toNat<y.toNat+c.toNat):=by
 unfold cB
 rw [bW]
 cases e:Nat.blt x.toNat (y.toNat+c.toNat) with
 | true=>have:=Nat.le_of_ble_eq_true e;exact (decide_eq_true (show x.toNat<y.toNat+c.toNat from this)).symm
 | false =>
  have : ¬ x.toNat<y.toNat+c.toNat:=fun h=>by rw [show Nat.blt x.toNat (y.toNat+c.toNat)=true from Nat.ble_eq_true_of_le h] at e;cases e
  exact (decide_eq_false this).symm
def K3x (S:UInt64->UInt64->Bool->UInt64) (C:UInt64->UInt64->Bool->Bool):ay:=fun _ h args =>
 match args with
 | [u,v,w]=>match argU64.rd h u,argU64.rd h v,argBit.rd h w with
  | some (x,_,_),some (y,_,_),some (z,_,_)=>some ⟨.tup [.c (.u64 (S x y z)),.c (.bit (C x y z))],.t,[],[],[]⟩
  | _,_,_=>none
 | _=>none
theorem K9 {P:Program} {f:Nat} {S:UInt64->UInt64->Bool->UInt64} {C:UInt64->UInt64->Bool->Bool}
  (h : ∀ x y c w,(callFunc f #[.int .u64 (x.toNat:Int),.int .u64 (y.toNat:Int),.int .u64 ((b2u c).toNat:Int)]).run P w = .ok (.value (.tuple #[.int .u64 ((S x y c).toNat:Int),.int .u64 ((b2u (C x y c)).toNat:Int)])) w) :
  CallOk P f (K3x S C) where
 call:=fun id hp args res e _ w0 β w hr hid hok=>by
  unfold K3x at e
  split at e
  ·rename_i u v q
   split at e
   ·rename_i x p1 s y p2 t z p3 s2 hx hy hz
    cases e
    have e1:gv β u=_:=argU64.ok hx (by simp only [argU64,Arg.plain] at hx;split at hx <;> cases hx;trivial) hr (hok u (by simp))
    have e2:gv β v=_:=argU64.ok hy (by simp only [argU64,Arg.plain] at hy;split at hy <;> cases hy;trivial) hr (hok v (by simp))
    have e3:gv β q=_:=argBit.ok hz (by simp only [argBit,Arg.plain] at hz;split at hz <;> cases hz;trivial) hr (hok q (by simp))
    refine .inl ⟨gv β (.tup [.c (.u64 (S x y z)),.c (.bit (C x y z))]),w,?_,?_⟩
    ·simp only [List.map_cons,List.map_nil,e1,e2,e3]
     exact h x y z w
    ·refine EffOk.pure hr ?_
     intro v hv
     simp only [List.mem_cons,List.not_mem_nil,or_false] at hv
     rcases hv with rfl | rfl <;> exact al rfl
   ·cases e
  ·cases e
 near:=fun id h h' args res e H=>e
 wrote:=fun id h args res e=>by
  unfold K3x at e
  split at e
  ·split at e
   ·cases e;simp
   ·cases e
  ·cases e
def yy : Array Value → Sem Value := (Extern.MathBitsCarry.rows.getD 1 ("", fun _ => pure default)).2
theorem uM {P:Program} (x y b:Nat) (hb:b<=1) (w:World) :
  (yy #[.int .u64 x,.int .u64 y,.int .u64 b]).run P w =
   .ok (.tuple #[.int .u64 (((x+18446744073709551616-y-b) % 18446744073709551616:Nat):Int),.int .u64 ((if x<y+b then 1 else 0:Nat):Int)]) w:=by
 have:b=0 \/ b=1:=by omega
 rcases this with rfl | rfl <;> rfl
theorem N4 {P : Program} {f : Nat} {fn : Func} (hf : P.funcs[f]? = some fn) (h1 : (fn.name == "runtime.NumGoroutine") = false) (h2 : fn.body.isNone = true) (h3 : Extern.findNext fn = none)
  (h4:Extern.find fn=some add64Entry):CallOk P f (K3x dm bw):=K9 fun x y c w=>by
 rw [run_callFunc_extern hf h1 h2 h3 h4,run_add64 _ _ _ (by omega) (by omega) (by omega) (by cases c <;> simp [b2u])]
 simp only [Result.andThen,j9,bW,gP]
 congr 5
theorem N3 {P : Program} {f : Nat} {fn : Func} (hf : P.funcs[f]? = some fn) (h1 : (fn.name == "runtime.NumGoroutine") = false) (h2 : fn.body.isNone = true) (h3 : Extern.findNext fn = none)
  (h4:Extern.find fn=some yy):CallOk P f (K3x dJ cB):=K9 fun x y c w=>by
 rw [run_callFunc_extern hf h1 h2 h3 h4,uM _ _ _ (by cases c <;> simp [b2u])]
 simp only [Result.andThen,yv,bW,yz]
 congr 6
 by_cases h:x.toNat<y.toNat+c.toNat <;> simp [h]
theorem Tree.sat_map {α β:Type} (f:α->β) {t:Tree α} {Q:β->Prop} (h:(t.map f).sat Q):t.sat fun a=>Q (f a):=by
 induction t with
 | leaf a=>exact h
 | br b t g iht ihg=>exact ⟨fun e=>iht (h.1 e),fun e=>ihg (h.2 e)⟩
 | vc p t ih=>exact ⟨h.1,fun e=>ih (h.2 e)⟩
 | fail=>exact h
structure Kd (α : Type) where
 rd:AV1->Option α
 av:α->AV1
 val:α->Value
 rd_ok : ∀ v x,rd v=some x -> ∀ β,g1 β v=val x
 av_ok : ∀ x β,g1 β (av x)=val x
 av_id : ∀ x h,ok1 h (av x)
def Kd.arg {α:Type} (k:Kd α):Arg α:=Arg.plain (fun v=>match v with | .one u=>k.rd u | .tup _=>none) k.val (fun v x e β=>by
 split at e
 ·exact k.rd_ok _ _ e β
 ·cases e)
structure Rs (α : Type) where
 rd:AV->Option α
 av:α->AV
 val:α->Value
 rd_ok : ∀ v x,rd v=some x -> ∀ β,gv β v=val x
 av_ok : ∀ x β,gv β (av x)=val x
 av_id : ∀ x h,okv h (av x)
def Rs.res {α:Type} (r:Rs α):Res α:=Res.plain r.av r.val r.av_ok r.av_id
def Kd.rs {α:Type} (k:Kd α):Rs α where
 rd:=fun v=>match v with | .one u=>k.rd u | .tup _=>none
 av:=fun x => .one (k.av x)
 val:=k.val
 rd_ok:=fun v x e β=>by
  split at e
  ·exact k.rd_ok _ _ e β
  ·cases e
 av_ok:=fun x β=>k.av_ok x β
 av_id:=fun x h=>k.av_id x h
def Kd.rs2 {α β:Type} (k:Kd α) (l:Kd β):Rs (α × β) where
 rd:=fun v=>match v with
  | .tup [a,b]=>match k.rd a,l.rd b with
   | some x,some y=>some (x,y)
   | _,_=>none
  | _=>none
 av:=fun x => .tup [k.av x.1,l.av x.2]
 val:=fun x => .tuple #[k.val x.1,l.val x.2]
 rd_ok:=fun v x e β=>by
  split at e
  ·split at e
   ·rename_i h1 h2
    cases e
    simp only [gv,List.map_cons,List.map_nil,k.rd_ok _ _ h1 β,l.rd_ok _ _ h2 β]
   ·cases e
  ·cases e
 av_ok:=fun x β=>by simp only [gv,List.map_cons,List.map_nil,k.av_ok,l.av_ok]
 av_id:=fun x h v hv=>by
  simp only [List.mem_cons,List.not_mem_nil,or_false] at hv
  rcases hv with rfl | rfl
  ·exact k.av_id x.1 h
  ·exact l.av_id x.2 h
def kU64:Kd UInt64 where
 rd:=fun v=>match v with | .c x=>toU x | _=>none
 av:=fun x => .c (.u64 x)
 val:=fun x => .int .u64 (x.toNat:Int)
 rd_ok:=fun v x e β=>by
  split at e
  ·exact gZ β e
  ·cases e
 av_ok:=fun x β=>rfl
 av_id:=fun x h=>al rfl
def kInt:Kd Int where
 rd:=fun v=>match v with | .c x=>(match toI x with | some (.i64,n)=>some n | _=>none) | _=>none
 av:=fun n => .c (.int .i64 n)
 val:=fun n => .int .i64 n
 rd_ok:=fun v x e β=>by
  split at e
  ·split at e
   ·rename_i n hn;cases e;exact cR β hn
   ·cases e
  ·cases e
 av_ok:=fun x β=>rfl
 av_id:=fun x h=>al rfl
def kBool:Kd Bool where
 rd:=fun v=>match v with | .c x=>iz x | _=>none
 av:=fun b => .c (.bool b)
 val:=fun b => .bool b
 rd_ok:=fun v x e β=>by
  split at e
  ·exact cK β e
  ·cases e
 av_ok:=fun x β=>rfl
 av_id:=fun x h=>al rfl
def aa (α:Type) [Row α]:Kd α where
 rd:=fun v=>match v with | .agg xs=>Row.rd xs | _=>none
 av:=fun x => .agg (Row.cs x)
 val:=vO
 rd_ok:=fun v x e β=>by
  split at e
  ·simp only [g1,vO];rw [Row.rd_ok e β]
  ·cases e
 av_ok:=fun x β=>by simp only [g1,vO];rw [Row.cs_ok]
 av_id:=fun x h c hc=>al (Row.cs_id x c hc)
def ag {ρ:Type} (E:Env) (r:Rs ρ) (fuel:Nat) (fn:Func) (avs:List AV):Tree (Option ρ):=(Ll E fuel fn avs []).map fun q=>r.rd q.1
theorem gW {ρ:Type} {E:Env} (hE:EnvOk E) {f:FuncId} {fn:Func} (hf:E.P.funcs[f]? = some fn) (fuel:Nat) (avs:List AV) (hok : ∀ v ∈ avs,okv (hpS []) v) {r:Rs ρ}
  {x:ρ} (w:World) {T:Tree (Option ρ)} (e:ag E r fuel fn avs=T) (h:T.sat fun q=>q=some x) :
  Gives E.P f (avs.map (gv β0)).toArray w r.res x:=by
 refine FX hE hf (HRel.start w β0) hok (Tree.sat_mono (fun q hq β' w' hr _ => ?_) (Tree.sat_map (Q:=fun q=>q=some x) (fun q:AV × List HE=>r.rd q.1) (by unfold ag at e;rw [e];exact h)))
 exact ⟨_,rfl,hr.below.below,r.rd_ok _ _ hq β'⟩
theorem Tree.sat_leaf {α:Type} {a b:α} (h:a=b):(Tree.leaf a).sat fun q=>q=b:=h
theorem P0 {ρ:Type} {E:Env} (hE:EnvOk E) {f:FuncId} {fn:Func} (hf:E.P.funcs[f]? = some fn) (hb:Bodied E.P f) (fuel:Nat) (r:Rs ρ) (F:ρ) {T:Tree (Option ρ)}
  (e:ag E r fuel fn []=T) (h:T.sat fun q=>q=some F):CallOk E.P f (K0 r.res F) :=
 OU hb fun w=>gW hE hf fuel [] (by simp) w e h
theorem P1 {α ρ:Type} {E:Env} (hE:EnvOk E) {f:FuncId} {fn:Func} (hf:E.P.funcs[f]? = some fn) (hb:Bodied E.P f) (fuel:Nat) (a:Kd α) (r:Rs ρ) (F:α->ρ) {T:α->Tree (Option ρ)}
  (e : ∀ x,ag E r fuel fn [.one (a.av x)]=T x) (h : ∀ x,(T x).sat fun q=>q=some (F x)):CallOk E.P f (K1 a.arg r.res F) :=
 OT hb fun w v x hv=>by
  have:=gW hE hf fuel [.one (a.av x)] (by simp only [List.mem_singleton];rintro v rfl;exact a.av_id x _) w (e x) (h x)
  simp only [List.map_cons,List.map_nil,gv,a.av_ok] at this
  rw [show v=a.val x from hv]
  exact this
theorem P2 {α β ρ:Type} {E:Env} (hE:EnvOk E) {f:FuncId} {fn:Func} (hf:E.P.funcs[f]? = some fn) (hb:Bodied E.P f) (fuel:Nat) (a:Kd α) (b:Kd β) (r:Rs ρ) (F:α->β->ρ) {T:α->β->Tree (Option ρ)}
  (e : ∀ x y,ag E r fuel fn [.one (a.av x),.one (b.av y)]=T x y) (h : ∀ x y,(T x y).sat fun q=>q=some (F x y)):CallOk E.P f (K2 a.arg b.arg r.res F) :=
 LF hb fun w v x u y hv hu=>by
  have:=gW hE hf fuel [.one (a.av x),.one (b.av y)] (by
   intro v hv
   simp only [List.mem_cons,List.not_mem_nil,or_false] at hv
   rcases hv with rfl | rfl
   ·exact a.av_id x _
   ·exact b.av_id y _) w (e x y) (h x y)
  simp only [List.map_cons,List.map_nil,gv,a.av_ok,b.av_ok] at this
  rw [show v=a.val x from hv,show u=b.val y from hu]
  exact this
theorem P3 {α β γ ρ:Type} {E:Env} (hE:EnvOk E) {f:FuncId} {fn:Func} (hf:E.P.funcs[f]? = some fn) (hb:Bodied E.P f) (fuel:Nat) (a:Kd α) (b:Kd β) (c:Kd γ) (r:Rs ρ) (F:α->β->γ->ρ) {T:α->β->γ->Tree (Option ρ)}
  (e : ∀ x y z,ag E r fuel fn [.one (a.av x),.one (b.av y),.one (c.av z)]=T x y z) (h : ∀ x y z,(T x y z).sat fun q=>q=some (F x y z)):CallOk E.P f (K3 a.arg b.arg c.arg r.res F) :=
 OS hb fun w v x u y t z hv hu ht=>by
  have:=gW hE hf fuel [.one (a.av x),.one (b.av y),.one (c.av z)] (by
   intro v hv
   simp only [List.mem_cons,List.not_mem_nil,or_false] at hv
   rcases hv with rfl | rfl | rfl
   ·exact a.av_id x _
   ·exact b.av_id y _
   ·exact c.av_id z _) w (e x y z) (h x y z)
  simp only [List.map_cons,List.map_nil,gv,a.av_ok,b.av_ok,c.av_ok] at this
  rw [show v=a.val x from hv,show u=b.val y from hu,show t=c.val z from ht]
  exact this
end Go.Proofs.Ytibfppbffdedoaa
namespace Go.Proofs.Ytibfppbffdedoaa
open Go.RowKit
def jw:List Nat->Nat->Nat->Option Nat
 | [],_,_=>none
 | x :: xs,k,i=>match Nat.beq x i with
  | true=>some k
  | false=>jw xs (k+1) i
def Mo (hs:List Nat) (c:Cell):Option Cell :=
 match c with
 | .ptr id off=>match jw hs 0 id with | some j=>some (.ptr j off) | none=>none
 | .slc id off len sz rc kn=>match jw hs 0 id with | some j=>some (.slc j off len sz rc kn) | none=>none
 | .pte id a b c d e=>match jw hs 0 id with | some j=>some (.pte j a b c d e) | none=>none
 | .sle id a b c d e=>match jw hs 0 id with | some j=>some (.sle j a b c d e) | none=>none
 | .oth id=>match jw hs 0 id with | some j=>some (.oth j) | none=>none
 | .clo f id off=>match jw hs 0 id with | some j=>some (.clo f j off) | none=>none
 | c=>some c
def Mp (hs:List Nat) (v:AV1):Option AV1 :=
 match v with
 | .c x=>match Mo hs x with | some y=>some (.c y) | none=>none
 | .agg xs=>match cP (Mo hs) xs with | some ys=>some (.agg ys) | none=>none
def Mn (hs:List Nat) (v:AV):Option AV :=
 match v with
 | .one u=>match Mp hs u with | some x=>some (.one x) | none=>none
 | .tup us=>match cP (Mp hs) us with | some xs=>some (.tup xs) | none=>none
def kX (hs:List Nat) (b:Body):Option Body :=
 match b with
 | .row cs=>match cP (Mo hs) cs with | some xs=>some (.row xs) | none=>none
 | .elts k xs=>some (.elts k xs)
 | .rows k xs=>some (.rows k xs)
def Og (hs:List Nat) (x:HE):Option HE :=
 match x with
 | .live ⟨own,ty,esz,body,pin⟩=>match kX hs body with | some y=>some (.live ⟨own,ty,esz,y,pin⟩) | none=>none
 | .lists k l=>some (.lists k l)
 | _=>none
def wK:List Nat->Bool
 | []=>true
 | x :: xs => !(xs.any fun y=>Nat.beq x y) && wK xs
def Ov:List (Nat × AV)->Tr
 | [] => .nil
 | (t,v) :: l=>(Ov l).set t v
def ax (n:Nat) (l:List (Nat × AV)) (h:List HE):St:=⟨⟨n,Ov l⟩,h⟩
def Ow (hs:List Nat) (tr:Tr) (t:Nat):Option (Nat × AV) :=
 match tr.get t with
 | some v=>match Mn hs v with | some u=>some (t,u) | none=>none
 | none=>none
def shrink (keep hs:List Nat) (st:St):Option St :=
 match wK hs,cP (Ow hs st.tmps.tr) keep,cP (fun i=>Og hs (hpS st.heap i)) hs with
 | true,some l,some h=>some (ax st.tmps.n l h)
 | _,_,_=>none
theorem m6 {α β:Type} {f:α->Option β} : ∀ {xs:List α} {ys:List β},cP f xs=some ys->ys.length=xs.length /\ ∀ (i:Nat) (y:β),ys[i]? = some y -> ∃ x,xs[i]? = some x/\f x=some y
 | [],ys,h=>by cases h;simp
 | x :: xs,ys,h=>by
  simp only [cP] at h
  split at h
  ·rename_i y ys' hy hys
   cases h
   obtain ⟨h1,h2⟩:=m6 hys
   refine ⟨by simp [h1],fun i z hz => ?_⟩
   cases i with
   | zero=>simp at hz;subst hz;exact ⟨x,by simp,hy⟩
   | succ i=>simpa using h2 i z (by simpa using hz)
  ·cases h
theorem iE {α β:Type} {f:α->Option β} {p:β->Prop} (hf : ∀ x y,f x=some y->p y) : ∀ {xs:List α} {ys:List β},cP f xs=some ys -> ∀ y ∈ ys,p y
 | [],ys,h=>by cases h;simp
 | x :: xs,ys,h=>by
  simp only [cP] at h
  split at h
  ·rename_i y ys' hy hys
   cases h
   intro z hz
   rcases List.mem_cons.1 hz with rfl | hz
   ·exact hf _ _ hy
   ·exact iE hf hys z hz
  ·cases h
theorem cW : ∀ {xs:List Nat} {k i j:Nat},jw xs k i=some j->k<=j/\xs[j-k]? = some i
 | [],_,_,_,h=>by cases h
 | x :: xs,k,i,j,h=>by
  simp only [jw] at h
  split at h
  ·rename_i hb
   cases h
   have:=Nat.eq_of_beq_eq_true hb
   subst this
   simp
  ·obtain ⟨h1,h2⟩:=cW h
   refine ⟨by omega,?_⟩
   rw [show j-k=(j-(k+1))+1 by omega]
   simpa using h2
theorem oD : ∀ {xs:List Nat},wK xs=true -> ∀ (i j x:Nat),xs[i]? = some x->xs[j]? = some x->i=j
 | [],_,i,j,x,hi,_=>by simp at hi
 | y :: ys,h,i,j,x,hi,hj=>by
  simp only [wK,Bool.and_eq_true,Bool.not_eq_true',List.any_eq_false] at h
  cases i with
  | zero =>
   cases j with
   | zero=>rfl
   | succ j =>
    simp at hi hj
    subst hi
    exact absurd (Nat.beq_refl y) (by simpa using h.1 y (List.mem_of_getElem? hj))
  | succ i =>
   cases j with
   | zero =>
    simp at hi hj
    subst hj
    exact absurd (Nat.beq_refl y) (by simpa using h.1 y (List.mem_of_getElem? hi))
   | succ j=>rw [oD h.2 i j x (by simpa using hi) (by simpa using hj)]
def eQ (β:Nat->Pl) (hs:List Nat):Nat->Pl:=fun i=>β ((hs[i]?).getD 0)
theorem nw {hs:List Nat} {c c':Cell} (h:Mo hs c=some c') (β:Nat->Pl):gc (eQ β hs) c'=gc β c /\ ∀ i,c'.idOf=some i->i<hs.length:=by
 cases c <;> simp only [Mo] at h
 case ptr id off =>
  split at h
  ·rename_i j hj
   cases h
   have:=(cW hj).2
   simp only [Nat.sub_zero] at this
   refine ⟨by simp only [gc,eQ,this,Option.getD_some],fun i hi => ?_⟩
   cases hi
   exact (List.getElem?_eq_some_iff.1 this).1
  ·cases h
 case clo f id off =>
  split at h
  ·rename_i j hj
   cases h
   have:=(cW hj).2
   simp only [Nat.sub_zero] at this
   refine ⟨by simp only [gc,eQ,this,Option.getD_some],fun i hi => ?_⟩
   cases hi
   exact (List.getElem?_eq_some_iff.1 this).1
  ·cases h
 case oth id =>
  split at h
  ·rename_i j hj
   cases h
   have:=(cW hj).2
   simp only [Nat.sub_zero] at this
   refine ⟨by simp only [gc,eQ,this,Option.getD_some],fun i hi => ?_⟩
   cases hi
   exact (List.getElem?_eq_some_iff.1 this).1
  ·cases h
 case slc id off len sz rc kn =>
  split at h
  ·rename_i j hj
   cases h
   have:=(cW hj).2
   simp only [Nat.sub_zero] at this
   refine ⟨by simp only [gc,eQ,this,Option.getD_some],fun i hi => ?_⟩
   cases hi
   exact (List.getElem?_eq_some_iff.1 this).1
  ·cases h
 case pte id j sz k ssz r =>
  split at h
  ·rename_i j hj
   cases h
   have:=(cW hj).2
   simp only [Nat.sub_zero] at this
   refine ⟨by simp only [gc,eQ,this,Option.getD_some],fun i hi => ?_⟩
   cases hi
   exact (List.getElem?_eq_some_iff.1 this).1
  ·cases h
 case sle id j sz r len cap =>
  split at h
  ·rename_i j hj
   cases h
   have:=(cW hj).2
   simp only [Nat.sub_zero] at this
   refine ⟨by simp only [gc,eQ,this,Option.getD_some],fun i hi => ?_⟩
   cases hi
   exact (List.getElem?_eq_some_iff.1 this).1
  ·cases h
 all_goals (cases h;exact ⟨rfl,fun i hi=>by cases hi⟩)
theorem vQ {hs:List Nat} {v v':AV1} (h:Mp hs v=some v') (β:Nat->Pl) {hp:ah} (hh : ∀ i,i<hs.length->hp i ≠ .un):g1 (eQ β hs) v'=g1 β v/\ok1 hp v':=by
 cases v with
 | c x =>
  simp only [Mp] at h
  split at h
  ·rename_i y hy
   cases h
   obtain ⟨h1,h2⟩:=nw hy β
   exact ⟨h1,fun i hi=>hh i (h2 i hi)⟩
  ·cases h
 | agg xs =>
  simp only [Mp] at h
  split at h
  ·rename_i ys hys
   cases h
   refine ⟨?_,iE (fun x y e=>fun i hi=>hh i ((nw e β).2 i hi)) hys⟩
   simp only [g1]
   rw [eM (fun x y e=>(nw e β).1) hys]
  ·cases h
theorem Mm {hs:List Nat} {v v':AV} (h:Mn hs v=some v') (β:Nat->Pl) {hp:ah} (hh : ∀ i,i<hs.length->hp i ≠ .un):gv (eQ β hs) v'=gv β v/\okv hp v':=by
 cases v with
 | one u =>
  simp only [Mn] at h
  split at h
  ·rename_i x hx
   cases h
   exact vQ hx β hh
  ·cases h
 | tup us =>
  simp only [Mn] at h
  split at h
  ·rename_i xs hxs
   cases h
   refine ⟨?_,iE (fun x y e=>(vQ e β hh).2) hxs⟩
   simp only [gv]
   rw [eM (fun x y e=>(vQ e β hh).1) hxs]
  ·cases h
theorem qw {hs:List Nat} {b b':Body} (h:kX hs b=some b') (β:Nat->Pl):b'.cells.map (gc (eQ β hs))=b.cells.map (gc β) /\ ∀ c ∈ b'.cells,∀ i,c.idOf=some i->i<hs.length:=by
 cases b with
 | row cs =>
  simp only [kX] at h
  split at h
  ·rename_i xs hxs
   cases h
   exact ⟨eM (fun x y e=>(nw e β).1) hxs,iE (fun x y e=>(nw e β).2) hxs⟩
  ·cases h
 | elts k xs =>
  cases h
  refine ⟨?_,fun c hc i hi => ?_⟩
  ·simp only [Body.cells,List.map_map]
   exact List.map_congr_left fun x _=>k.cell_gc x _ _
  ·simp only [Body.cells,List.mem_map] at hc
   obtain ⟨x,_,rfl⟩:=hc
   rw [k.cell_id x] at hi
   cases hi
 | rows k xs =>
  cases h
  refine ⟨(fC k xs _).trans (fC k xs _).symm,fun c hc i hi => ?_⟩
  rw [cM k xs c hc] at hi
  cases hi
theorem BlkOk.ren {β:Nat->Pl} {B:W0} {w:World} {hs:List Nat} {i k:Nat} {b:Blk} {body:Body} (hk:hs[i]? = some k) (hb:BlkOk β B w k b) (hr:kX hs b.body=some body) :
  BlkOk (eQ β hs) B w i { b with body:=body }:=by
 have e1:eQ β hs i=β k:=by simp only [eQ,hk,Option.getD_some]
 obtain ⟨h1,_⟩:=qw hr β
 have hlen:body.cells.length=b.body.cells.length:=by have:=congrArg List.length h1;simpa using this
 unfold BlkOk at *
 rw [e1]
 cases ha:(β k).base with
 | none =>
  rw [ha] at hb
  exact ⟨List.length_eq_zero_iff.1 (by rw [hlen,hb.1];rfl),hb.2⟩
 | some a =>
  rw [ha] at hb
  obtain ⟨q0,q1,q2,q3,q4⟩:=hb
  simp only [] at q0 q1 q2 q3 q4 ⊢
  refine ⟨fun h=>q0 (h.imp_left fun hne e=>hne (List.length_eq_zero_iff.1 (by rw [hlen,e];rfl))),fun j c hc => ?_,fun ho hne=>q2 ho fun e=>hne (List.length_eq_zero_iff.1 (by rw [hlen,e];rfl)),fun he=>by rw [hlen];exact q3 he,fun ho => ?_⟩
  ·have e2:(body.cells.map (gc (eQ β hs)))[j]? = some (gc (eQ β hs) c):=by rw [List.getElem?_map,hc];rfl
   rw [h1,List.getElem?_map] at e2
   cases hc':b.body.cells[j]? with
   | none=>rw [hc'] at e2;cases e2
   | some c' =>
    rw [hc'] at e2
    simp only [Option.map_some,Option.some.injEq] at e2
    rw [q1 j c' hc',e2]
  ·obtain ⟨r1,r2,cur,r3,r4,r5,r6⟩:=q4 ho
   exact ⟨r1,r2,cur,r3,by rw [hlen];exact r4,r5,fun he=>by rw [hlen];exact r6 he⟩
theorem sr : ∀ (l:List (Nat × AV)) (t:Nat) (v:AV),(Ov l).get t=some v->(t,v) ∈ l
 | [],t,v,h=>by cases h
 | (k,x) :: l,t,v,h=>by
  simp only [Ov] at h
  rw [Tr.get_set] at h
  by_cases e:t=k
  ·subst e
   rw [if_pos rfl] at h
   cases h
   simp
  ·rw [if_neg e] at h
   exact List.mem_cons_of_mem _ (sr l t v h)
theorem lL {keep hs:List Nat} {st st':St} (h:shrink keep hs st=some st') {w0:W0} {a:Act} {w:World} (r:SRel w0 st a w):SRel w0 st' a w:=by
 unfold shrink at h
 split at h
 ·rename_i l hp hn hl hh
  cases h
  obtain ⟨β,h1,h2⟩:=r
  obtain ⟨hlen,hget⟩:=m6 hh
  have live : ∀ (i:Nat) (x:HE),hp[i]? = some x->(∃ (k:Nat) (b:Blk) (body:Body),hs[i]? = some k/\hpS st.heap k=HE.live b/\kX hs b.body=some body/\x=HE.live { b with body:=body }) \/ ∃ (j:Nat) (k:RK) (l:List (List k.ty)),hs[i]? = some j/\hpS st.heap j=HE.lists k l/\x=HE.lists k l:=by
   intro i x hx
   obtain ⟨k,hk,hr⟩:=hget i x hx
   unfold Og at hr
   split at hr
   ·rename_i own ty esz body pin hb
    split at hr
    ·rename_i y hy
     cases hr
     exact .inl ⟨k,_,y,hk,hb,hy,rfl⟩
    ·cases hr
   ·rename_i kk l hb
    cases hr
    exact .inr ⟨k,kk,l,hk,hb,rfl⟩
   ·cases hr
  have named : ∀ i,i<hs.length->hpS hp i ≠ .un:=by
   intro i hi
   rw [<- hlen] at hi
   rw [bV,List.getElem?_eq_getElem hi]
   rw [Option.getD_some]
   rcases live i hp[i] (List.getElem?_eq_getElem hi) with ⟨k,b,body,_,_,_,e⟩ | ⟨j,k,l,_,_,e⟩
   ·rw [e];intro h;cases h
   ·rw [e];intro h;cases h
  have liveH : ∀ i b',hpS hp i = .live b' -> ∃ (k:Nat) (b:Blk) (body:Body),hs[i]? = some k/\hpS st.heap k=HE.live b/\kX hs b.body=some body/\b' = { b with body:=body }:=by
   intro i b' hb'
   rw [bV] at hb'
   cases hx:hp[i]? with
   | none=>rw [hx] at hb';cases hb'
   | some x =>
    rw [hx,Option.getD_some] at hb'
    rcases live i x hx with ⟨k,b,body,e1,e2,e3,e4⟩ | ⟨j,k,l,_,_,e4⟩
    ·rw [e4] at hb'
     cases hb'
     exact ⟨k,b,body,e1,e2,e3,rfl⟩
    ·rw [e4] at hb'
     cases hb'
  have listH : ∀ i k l,hpS hp i = .lists k l -> ∃ j:Nat,hs[i]? = some j/\hpS st.heap j=HE.lists k l:=by
   intro i k l hb'
   rw [bV] at hb'
   cases hx:hp[i]? with
   | none=>rw [hx] at hb';cases hb'
   | some x =>
    rw [hx,Option.getD_some] at hb'
    rcases live i x hx with ⟨k,b,body,e1,e2,e3,e4⟩ | ⟨j,k',l',e1,e2,e4⟩
    ·rw [e4] at hb'
     cases hb'
    ·rw [e4] at hb'
     cases hb'
     exact ⟨j,e1,e2⟩
  refine ⟨eQ β hs,⟨h1.below,fun i b' hb' => ?_,fun i j b c hb hc hne ho hoc hbase => ?_,fun i b' hb' c hc => ?_,fun i b' hb' hp => ?_,fun i k l hb' => ?_⟩,⟨h2.size,h2.defers,fun t v hv => ?_⟩⟩
  ·obtain ⟨k,b,body,e1,e2,e3,rfl⟩:=liveH i b' hb'
   exact (h1.blk k b e2).ren e1 e3
  ·obtain ⟨k,b1,body,e1,e2,e3,rfl⟩:=liveH i b hb
   obtain ⟨k',b2,body',f1,f2,f3,rfl⟩:=liveH j c hc
   have hkk:k ≠ k':=by
    rintro rfl
    exact hne (oD hn i j k e1 f1)
   have g1:eQ β hs i=β k:=by simp only [eQ,e1,Option.getD_some]
   have g2:eQ β hs j=β k':=by simp only [eQ,f1,Option.getD_some]
   rw [g1] at hbase
   rw [g1,g2]
   exact h1.sep k k' b1 b2 e2 f2 hkk ho hoc hbase
  ·obtain ⟨k,b,body,e1,e2,e3,rfl⟩:=liveH i b' hb'
   exact fun j hj=>named j ((qw e3 β).2 c hc j hj)
  ·obtain ⟨k,b,body,e1,e2,e3,rfl⟩:=liveH i b' hb'
   have g1:eQ β hs i=β k:=by simp only [eQ,e1,Option.getD_some]
   rw [g1]
   exact h1.pin k b e2 hp
  ·obtain ⟨j,e1,e2⟩:=listH i k l hb'
   have g1:eQ β hs i=β j:=by simp only [eQ,e1,Option.getD_some]
   rw [g1]
   exact h1.lst j k l e2
  ·have hmem:=sr l t v hv
   have:=iE (p:=fun q:Nat × AV => ∃ u,st.tmps.tr.get q.1=some u/\Mn hs u=some q.2) (fun x y e=>by
    unfold Ow at e
    split at e
    ·rename_i u hu
     split at e
     ·rename_i u' hu'
      cases e
      exact ⟨u,hu,hu'⟩
     ·cases e
    ·cases e) hl (t,v) hmem
   obtain ⟨u,e1,e2⟩:=this
   obtain ⟨f1,f2⟩:=h2.ok t u e1
   obtain ⟨g1,g2⟩:=Mm e2 β (hp:=hpS hp) named
   exact ⟨by rw [f1];exact congrArg some g1.symm,g2⟩
 ·cases h
def OG (f:X->Option (List Nat × List Nat)) (t:Tree (X × St)):Tree (X × St):=t.bind fun r=>match f r.1 with
 | none => .leaf r
 | some (keep,hs)=>match shrink keep hs r.2 with
  | some st => .leaf (r.1,st)
  | none => .fail
def Does (E:Env) (c:Code) (st:St) (R:X × St->Prop):Prop :=
 ∀ (w0:W0) (Q:Exit->Act->World->Prop),R1 w0 R Q -> ∀ a w,SRel w0 st a w->c.wp E.P Q a w
theorem Does.mono {E:Env} {c:Code} {st:St} {R R':X × St->Prop} (h:Does E c st R) (hR : ∀ r,R r->R' r):Does E c st R':=fun w0 Q hQ=>h w0 Q fun r hr=>hQ r (hR r hr)
theorem Does.run {E:Env} (hE:EnvOk E) {c:Code} {st:St} {R:X × St->Prop} (f:X->Option (List Nat × List Nat)) (n:Nat) (h:(OG f (exec E n c st)).sat R):Does E c st R:=fun w0 Q hR a w r=>by
 unfold OG at h
 rw [Tree.sat_bind] at h
 refine l8 hE n c st _ Q h (fun q hq a' w' r' => ?_) a w r
 simp only [] at hq
 split at hq
 ·exact hR _ hq a' w' r'
 ·split at hq
  ·rename_i st' hs
   exact hR _ hq a' w' (lL hs r')
  ·exact hq.elim
def ThenX (R:X × St->Prop) (K:St->Prop):X × St->Prop:=fun r=>match r.1 with
 | .normal=>K r.2
 | _=>R r
theorem Does.seq {E:Env} {x y:Code} {st:St} {R:X × St->Prop} (h:Does E x st (ThenX R fun s=>Does E y s R)):Does E (.seq x y) st R:=fun w0 Q hR a w r =>
 wp_seq (h w0 _ (fun q hq a' w' r'=>by
  obtain ⟨e,st'⟩:=q
  cases e with
  | normal=>exact hq w0 Q hR a' w' r'
  | exit id=>exact hR _ hq a' w' r'
  | goto l=>exact hR _ hq a' w' r'
  | ret=>exact hR _ hq a' w' r') a w r)
def flat:Code->List Code
 | .seq a b=>flat a++flat b
 | c => [c]
def Wk (s s':St):Prop := ∀ (w0:W0) a w,SRel w0 s a w->SRel w0 s' a w
theorem Wk.refl (s:St):Wk s s:=fun _ _ _ h=>h
theorem Wk.trans {a b c:St} (x:Wk a b) (y:Wk b c):Wk a c:=fun _ _ _ h=>y _ _ _ (x _ _ _ h)
theorem Wk.shrink {keep hs:List Nat} {st st':St} (h:Go.Proofs.Ytibfppbffdedoaa.shrink keep hs st=some st'):Wk st st':=fun _ _ _ r=>lL h r
def Wn (R:X × St->Prop):X × St->Prop:=fun r => ∃ s,Wk r.2 s/\R (r.1,s)
theorem Wn.of {R:X × St->Prop} {r:X × St} (h:R r):Wn R r:=⟨r.2,Wk.refl _,h⟩
theorem Does.wn {E:Env} {c:Code} {st:St} {R:X × St->Prop} (h:Does E c st (Wn R)):Does E c st R:=fun w0 Q hR=>h w0 Q fun q ⟨s,hs,hq⟩ a w r=>hR (q.1,s) hq a w (hs _ _ _ r)
theorem Does.wk {E:Env} {c:Code} {st st':St} {R:X × St->Prop} (h:Wk st st') (hd:Does E c st' R):Does E c st R:=fun w0 Q hR a w r=>hd w0 Q hR a w (h _ _ _ r)
def DoesL (E:Env):List Code->St->(X × St->Prop)->Prop
 | [],st,R=>Wn R (.normal,st)
 | c :: cs,st,R=>Does E c st (ThenX R fun s=>DoesL E cs s R)
theorem ThenX.mono {R R':X × St->Prop} {K K':St->Prop} (h1 : ∀ r,R r->R' r) (h2 : ∀ s,K s->K' s) : ∀ r,ThenX R K r->ThenX R' K' r:=by
 rintro ⟨e,s⟩ h
 cases e with
 | normal=>exact h2 s h
 | exit id=>exact h1 _ h
 | goto l=>exact h1 _ h
 | ret=>exact h1 _ h
theorem DoesL.mono {E:Env} : ∀ {cs:List Code} {st:St} {R R':X × St->Prop},DoesL E cs st R->(∀ r,R r->R' r)->DoesL E cs st R'
 | [],_,_,_,h,hR=>by
  obtain ⟨s,h1,h2⟩:=h
  exact ⟨s,h1,hR _ h2⟩
 | _ :: _,_,_,_,h,hR=>Does.mono h (ThenX.mono hR fun _ hs=>DoesL.mono hs hR)
theorem DoesL.wk {E:Env} : ∀ {cs:List Code} {st st':St} {R:X × St->Prop},Wk st st'->DoesL E cs st' R->DoesL E cs st R
 | [],_,_,_,h,hd=>by
  obtain ⟨s,h1,h2⟩:=hd
  exact ⟨s,h.trans h1,h2⟩
 | _ :: _,_,_,_,h,hd=>Does.wk h hd
theorem DoesL.append {E:Env} : ∀ {xs ys:List Code} {st:St} {R:X × St->Prop},DoesL E (xs++ys) st R->DoesL E xs st (ThenX R fun s=>DoesL E ys s R)
 | [],_,st,_,h=>⟨st,Wk.refl _,h⟩
 | x :: xs,ys,st,R,h=>Does.mono h fun r hr=>by
  obtain ⟨e,s⟩:=r
  cases e with
  | normal=>exact DoesL.append hr
  | exit id=>exact hr
  | goto l=>exact hr
  | ret=>exact hr
theorem DoesL.join {E:Env} : ∀ {xs ys:List Code} {st:St} {R:X × St->Prop},DoesL E xs st (ThenX R fun s=>DoesL E ys s R)->DoesL E (xs++ys) st R
 | [],_,_,_,h=>by
  obtain ⟨s,h1,h2⟩:=h
  exact DoesL.wk h1 h2
 | x :: xs,ys,st,R,h=>Does.mono h fun r hr=>by
  obtain ⟨e,s⟩:=r
  cases e with
  | normal=>exact DoesL.join hr
  | exit id=>exact hr
  | goto l=>exact hr
  | ret=>exact hr
theorem Does.flat {E:Env} : ∀ (c:Code) {st:St} {R:X × St->Prop},DoesL E (Go.Proofs.Ytibfppbffdedoaa.flat c) st R->Does E c st R:=by
 have one : ∀ {c:Code} {st:St} {R:X × St->Prop},DoesL E [c] st R->Does E c st R:=fun h=>Does.wn (Does.mono h fun r hr=>by
  obtain ⟨e,s⟩:=r
  cases e with
  | normal=>exact hr
  | exit id=>exact Wn.of hr
  | goto l=>exact Wn.of hr
  | ret=>exact Wn.of hr)
 intro c
 induction c with
 | seq a b iha ihb =>
  intro st R h
  simp only [Go.Proofs.Ytibfppbffdedoaa.flat] at h
  exact Does.seq (iha (DoesL.mono (DoesL.append h) (ThenX.mono (fun _ x=>x) fun s hs=>ihb hs)))
 | _=>intro st R h;exact one h
def m9 (E:Env) (n:Nat):List Code->St->Tree (X × St)
 | [],st => .leaf (.normal,st)
 | c :: cs,st=>(exec E n c st).bind fun r=>match r.1 with
  | .normal=>m9 E n cs r.2
  | _ => .leaf r
theorem DoesL.exec {E:Env} (hE:EnvOk E) (n:Nat) : ∀ {cs:List Code} {st:St} {R:X × St->Prop},(m9 E n cs st).sat R->DoesL E cs st R
 | [],st,_,h=>⟨st,Wk.refl _,h⟩
 | c :: cs,st,R,h=>by
  simp only [m9] at h
  rw [Tree.sat_bind] at h
  refine Does.run hE (fun _=>none) n ?_
  unfold OG
  rw [Tree.sat_bind]
  refine Tree.sat_mono (fun q hq => ?_) h
  obtain ⟨e,s⟩:=q
  cases e with
  | normal=>exact DoesL.exec hE n hq
  | exit id=>exact hq
  | goto l=>exact hq
  | ret=>exact hq
def dw (E:Env) (n:Nat) (cs:List Code) (st:St) (keep hs:List Nat):Tree St:=(m9 E n cs st).bind fun r=>match r.1 with
 | .normal=>match shrink keep hs r.2 with
  | some s => .leaf s
  | none => .fail
 | _ => .fail
theorem DoesL.stage {E:Env} (hE:EnvOk E) (n k:Nat) (keep hs:List Nat) {cs:List Code} {st:St} {R:X × St->Prop} (h:(dw E n (cs.take k) st keep hs).sat fun s=>DoesL E (cs.drop k) s R):DoesL E cs st R:=by
 rw [<- List.take_append_drop k cs]
 refine DoesL.join (DoesL.exec hE n ?_)
 unfold dw at h
 rw [Tree.sat_bind] at h
 refine Tree.sat_mono (fun q hq => ?_) h
 obtain ⟨e,s⟩:=q
 cases e with
 | normal =>
  simp only [] at hq
  split at hq
  ·rename_i s' hs'
   exact DoesL.wk (Wk.shrink hs') hq
  ·exact hq.elim
 | exit id=>exact hq.elim
 | goto l=>exact hq.elim
 | ret=>exact hq.elim
theorem Does.block {E:Env} {id:Nat} {c:Code} {st:St} {R:X × St->Prop}
  (h:Does E c st fun r=>match r.1 with | .exit id'=>(match Nat.beq id' id with | true=>R (.normal,r.2) | false=>R r) | _=>R r):Does E (.block id c) st R:=fun w0 Q hR a w r =>
 wp_block (h w0 _ (fun q hq a' w' r'=>by
  obtain ⟨e,st'⟩:=q
  cases e with
  | normal=>exact hR _ hq a' w' r'
  | exit id' =>
   simp only [] at hq
   show (if id'=id then Q .normal a' w' else Q (.exit id') a' w')
   split at hq
   ·rename_i hb
    rw [if_pos (Nat.eq_of_beq_eq_true hb)]
    exact hR _ hq a' w' r'
   ·rename_i hb
    rw [if_neg (Nat.ne_of_beq_eq_false hb)]
    exact hR _ hq a' w' r'
  | goto l=>exact hR _ hq a' w' r'
  | ret=>exact hR _ hq a' w' r') a w r)
theorem Does.loop {E:Env} {c:Code} {R:X × St->Prop} {ι:Type} (I:ι->St) (m:ι->Nat)
  (h : ∀ i,Does E c (I i) fun r=>match r.1 with | .normal => ∃ j,m j<m i/\r.2=I j | _=>R r) (i:ι):Does E (.loop c) (I i) R:=fun w0 Q hR a w r=>by
 have key : ∀ n i,m i<n -> ∀ a w,SRel w0 (I i) a w->Code.rounds E.P c Q n a w:=by
  intro n
  induction n with
  | zero=>intro i hi;omega
  | succ n ih =>
   intro i hi a w r
   rw [rounds_succ]
   refine h i w0 _ (fun q hq a' w' r' => ?_) a w r
   obtain ⟨e,st'⟩:=q
   cases e with
   | normal =>
    obtain ⟨j,hj,e⟩:=hq
    simp only [] at e
    subst e
    exact ih j (by omega) a' w' r'
   | exit id=>exact hR _ hq a' w' r'
   | goto l=>exact hR _ hq a' w' r'
   | ret=>exact hR _ hq a' w' r'
 exact wp_loop_rounds _ (key (m i+1) i (by omega) a w r)
theorem Does.scope {E:Env} {c rest:Code} {l:Nat} (hf:findLabel c l=some rest) {R:X × St->Prop} {ι:Type} (I:ι->St) (m:ι->Nat) {st:St}
  (N:Nat) (h0:Does E c st fun r=>match r.1 with | .goto l'=>l'=l /\ ∃ j,m j<N/\r.2=I j | _=>R r)
  (h : ∀ i,Does E rest (I i) fun r=>match r.1 with | .goto l'=>l'=l /\ ∃ j,m j<m i/\r.2=I j | _=>R r):Does E (.scope c) st R:=fun w0 Q hR a w r=>by
 have key : ∀ n i,m i<n -> ∀ a w,SRel w0 (I i) a w->nN E.P c Q n rest a w:=by
  intro n
  induction n with
  | zero=>intro i hi;omega
  | succ n ih =>
   intro i hi a w r
   refine h i w0 _ (fun q hq a' w' r' => ?_) a w r
   obtain ⟨e,st'⟩:=q
   cases e with
   | normal=>exact hR _ hq a' w' r'
   | exit id=>exact hR _ hq a' w' r'
   | goto l' =>
    obtain ⟨e1,j,hj,e⟩:=hq
    simp only [] at e
    subst e1 e
    simp only [X.to]
    rw [hf]
    exact ih j (by omega) a' w' r'
   | ret=>exact hR _ hq a' w' r'
 refine og (N+1) (h0 w0 _ (fun q hq a' w' r' => ?_) a w r)
 obtain ⟨e,st'⟩:=q
 cases e with
 | normal=>exact hR _ hq a' w' r'
 | exit id=>exact hR _ hq a' w' r'
 | goto l' =>
  obtain ⟨e1,j,hj,e⟩:=hq
  simp only [] at e
  subst e1 e
  simp only [X.to]
  rw [hf]
  exact key N j hj a' w' r'
 | ret=>exact hR _ hq a' w' r'
def af (fn:Func) (avs:List AV) (heap:List HE):St:=⟨⟨avs.length+(fn.ntmps-avs.length),Tr.args avs 0 .nil⟩,heap⟩
def Ro:X->Prop
 | .normal=>True
 | .ret=>True
 | _=>False
def EndsAs (E:Env) (fn:Func) (S:AV->List HE->Prop):X × St->Prop:=fun q=>Ro q.1 /\ ∃ v,ee E.P fn.results.toList q.2=some v/\S v q.2.heap
theorem l9 {E:Env} {f:FuncId} {fn:Func} (hf:E.P.funcs[f]? = some fn) {c:Code} (hb:fn.body=some c) {avs:List AV} {heap:List HE} {w0:W0} {β:Nat->Pl} {w:World} {R:Ending->World->Prop}
  (hr:HRel w0 β (hpS heap) w) (hok : ∀ v ∈ avs,okv (hpS heap) v) {S:AV->List HE->Prop} (h:DoesL E (flat c) (af fn avs heap) (EndsAs E fn S))
  (hS : ∀ v hp,S v hp -> ∀ β' w',HRel w0 β' (hpS hp) w'->okv (hpS hp) v->R (.returned (gv β' v)) w'):Calls E.P f (avs.map (gv β)).toArray w R:=by
 refine calls_of_wp hf hb (Does.flat c h w0 _ (fun q hq a' w' r' => ?_) _ w ?_)
 ·obtain ⟨e,st'⟩:=q
  obtain ⟨β',g1',g2'⟩:=r'
  obtain ⟨he,v,hv,hs⟩:=hq
  obtain ⟨e1,e2⟩:=t9 g1' g2' hv
  have fin:a'.defers = [] /\ ∃ v,(results fn a'.tmps).run E.P w' = .ok v w'/\R (.returned v) w':=⟨g2'.defers,_,e1,hS v _ hs β' w' g1' e2⟩
  cases e with
  | normal=>exact fin
  | ret=>exact fin
  | exit id=>exact he.elim
  | goto l=>exact he.elim
 ·refine ⟨β,hr,⟨by simp [af],rfl,fun t v hv => ?_⟩⟩
  rcases Tr.args_get avs 0 .nil t v hv with ⟨_,h2⟩ | ⟨_,h2⟩
  ·have hlt:=(List.getElem?_eq_some_iff.1 h2).1
   refine ⟨?_,hok v (List.mem_of_getElem? h2)⟩
   rw [Array.getElem?_append_left (by simpa using hlt)]
   simpa using ⟨v,h2,rfl⟩
  ·cases h2
def OE {ρ:Type} (E:Env) (r:Rs ρ) (n:Nat) (fn:Func) (cs:List Code) (st:St):Tree (Option ρ):=(m9 E n cs st).bind fun q=>match q.1 with
 | .normal | .ret=>match ee E.P fn.results.toList q.2 with
  | some v => .leaf (r.rd v)
  | none => .fail
 | _ => .fail
def Q3 {ρ:Type} (r:Rs ρ) (x:ρ):AV->List HE->Prop:=fun v _=>r.rd v=some x
theorem DoesL.fin {ρ:Type} {E:Env} (hE:EnvOk E) {r:Rs ρ} (n:Nat) {fn:Func} {cs:List Code} {st:St} {x:ρ} {T:Tree (Option ρ)} (e:OE E r n fn cs st=T) (h:T.sat fun q=>q=some x) :
  DoesL E cs st (EndsAs E fn (Q3 r x)):=by
 subst e
 refine DoesL.exec hE n ?_
 unfold OE at h
 rw [Tree.sat_bind] at h
 refine Tree.sat_mono (fun q hq => ?_) h
 obtain ⟨e,s⟩:=q
 have fin:(match ee E.P fn.results.toList s with | some v=>Tree.leaf (r.rd v) | none => .fail).sat (fun q=>q=some x) -> ∃ v,ee E.P fn.results.toList s=some v/\r.rd v=some x:=by
  intro h
  split at h
  ·rename_i v hv
   exact ⟨v,hv,h⟩
  ·exact h.elim
 cases e with
 | normal=>exact ⟨trivial,fin hq⟩
 | ret=>exact ⟨trivial,fin hq⟩
 | exit id=>exact hq.elim
 | goto l=>exact hq.elim
theorem By {ρ:Type} {E:Env} {f:FuncId} {fn:Func} (hf:E.P.funcs[f]? = some fn) {c:Code} (hb:fn.body=some c) {avs:List AV} (hok : ∀ v ∈ avs,okv (hpS []) v) {r:Rs ρ} {x:ρ} (w:World)
  (h:DoesL E (flat c) (af fn avs []) (EndsAs E fn (Q3 r x))):Gives E.P f (avs.map (gv β0)).toArray w r.res x :=
 l9 hf hb (HRel.start w β0) hok h fun v hp hs β' w' hr _=>⟨_,rfl,hr.below.below,r.rd_ok v x hs β'⟩
theorem Q2 {α β ρ:Type} {E:Env} {f:FuncId} {fn:Func} (hf:E.P.funcs[f]? = some fn) {c:Code} (hb:fn.body=some c) (hd:Bodied E.P f) (a:Kd α) (b:Kd β) (r:Rs ρ) (F:α->β->ρ)
  (h : ∀ x y,DoesL E (flat c) (af fn [.one (a.av x),.one (b.av y)] []) (EndsAs E fn (Q3 r (F x y)))):CallOk E.P f (K2 a.arg b.arg r.res F) :=
 LF hd fun w v x u y hv hu=>by
  have:=By hf hb (avs := [.one (a.av x),.one (b.av y)]) (by
   intro v hv
   simp only [List.mem_cons,List.not_mem_nil,or_false] at hv
   rcases hv with rfl | rfl
   ·exact a.av_id x _
   ·exact b.av_id y _) w (h x y)
  simp only [List.map_cons,List.map_nil,gv,a.av_ok,b.av_ok] at this
  rw [show v=a.val x from hv,show u=b.val y from hu]
  exact this
def ad (fn:Func):Code:=match fn.body with | some c=>c | none => .skip
def ig:Code->List Code
 | .seq a b=>ig a++ig b
 | .cond _ a b=>ig a++ig b
 | .block _ a=>ig a
 | .loop a=>a :: ig a
 | .scope a=>ig a
 | _ => []
def aG (fn:Func) (k:Nat):Code:=match nth (ig (ad fn)) k with | some c=>c | none => .skip
theorem DoesL.blockLoop {E:Env} {cs rest:List Code} {id:Nat} {B:Code} (e:cs = .block id (.loop B) :: rest) {R:X × St->Prop} {ι:Type} (I:ι->St) (m:ι->Nat) (i:ι)
  (h : ∀ i,Does E B (I i) fun r=>match r.1 with
   | .normal => ∃ j,m j<m i/\r.2=I j
   | .exit id'=>Nat.beq id' id=true/\DoesL E rest r.2 R
   | .ret=>R r
   | .goto _=>False):DoesL E cs (I i) R:=by
 subst e
 show Does E _ _ _
 refine Does.block (Does.loop I m (fun i=>Does.mono (h i) fun r hr => ?_) i)
 obtain ⟨e,s⟩:=r
 cases e with
 | normal=>exact hr
 | exit id' =>
  obtain ⟨h1,h2⟩:=hr
  simp only []
  rw [h1]
  exact h2
 | goto l=>exact hr.elim
 | ret=>exact hr
def aM (E:Env) (n:Nat) (B:Code) (st:St) (f:X->Option (List Nat × List Nat)):Tree (X × St):=OG f (exec E n B st)
theorem Does.round {E:Env} (hE:EnvOk E) (n:Nat) {B:Code} {st:St} {R:X × St->Prop} (f:X->Option (List Nat × List Nat)) {T:Tree (X × St)} (e:aM E n B st f=T) (h:T.sat R):Does E B st R :=
 Does.run hE f n (by unfold aM at e;rw [e];exact h)
def same (keep hs:List Nat):X->Option (List Nat × List Nat):=fun _=>some (keep,hs)
theorem DoesL.stageTo {E:Env} (hE:EnvOk E) (n k:Nat) (keep hs:List Nat) {cs:List Code} {st st':St} {R:X × St->Prop} (e:dw E n (cs.take k) st keep hs = .leaf st') (h:DoesL E (cs.drop k) st' R):DoesL E cs st R :=
 DoesL.stage hE n k keep hs (by rw [e];exact h)
end Go.Proofs.Ytibfppbffdedoaa
namespace Go.Proofs.Ytibfppbffdedoaa
open Go.RowKit
structure El (α : Type) where
 cell:α->Cell
 of:Cell->Option α
 body:List α->Body
 un:Body->Option (List α)
 of_ok : ∀ c x,of c=some x -> ∀ β,gc β c=gc β0 (cell x)
 cell_ok : ∀ x β,gc β (cell x)=gc β0 (cell x)
 cell_id : ∀ x,(cell x).idOf=none
 body_ok : ∀ xs,(body xs).cells=xs.map cell
 un_ok : ∀ b xs,un b=some xs->b.cells=xs.map cell
theorem El.cells_len {α:Type} (el:El α) (xs:List α):(el.body xs).cells.length=xs.length:=by rw [el.body_ok,List.length_map]
def Sa (k:EK):El k.ty where
 cell:=k.cell
 of:=k.rd
 body := .elts k
 un:=fun b=>match k,b with
  | .u64,.elts .u64 xs=>some xs
  | .u8,.elts .u8 xs=>some xs
  | .bool,.elts .bool xs=>some xs
  | .int,.elts .int xs=>some xs
  | _,_=>none
 of_ok:=fun c x h β=>(k.rd_ok h β).trans (k.cell_gc x _ _)
 cell_ok:=fun x β=>k.cell_gc x _ _
 cell_id:=fun x=>k.cell_id x
 body_ok:=fun xs=>rfl
 un_ok:=fun b xs h=>by
  split at h <;> first | (cases h;rfl) | cases h
abbrev eU64:El UInt64:=Sa .u64
def W0.fresh (w0:W0) (w:World):Prop := ∀ g,w0.new g->w.heap.size<=g
theorem W0.of_fresh (w:World):(W0.of w).fresh w:=fun g h=>h.elim id False.elim
def aD:Nat:=1125899906842624
def SlIs {α:Type} (el:El α) (w:World) (v:Value) (xs:List α):Prop :=
 ∃ base cap,v = .slice base xs.length cap/\xs.length<aD/\match base with
  | none=>xs = []/\cap=0
  | some a=>(xs ≠ []->a.spot=none)/\xs.length<=cap/\(xs ≠ []->a.block<w.heap.size) /\ ∀ (i:Nat) (x:α),xs[i]? = some x->w.cell? (a.add i)=some (gc β0 (el.cell x))
def QL {α:Type} (el:El α) (h:ah) (v:AV):Option (List α × Pr × List Nat) :=
 match v with
 | .one (.c .nils)=>some ([],.t,[])
 | .one (.c (.slc i off len sz rc kn))=>match Nat.beq sz 1,aH h i with
  | true,some b=>match el.un b.body with
   | some xs=>some ((xs.drop off).take len,.p (off+len<=xs.length/\len<aD/\rc.fits off len 1 b.esz),[i])
   | none=>match b.body,kn with
    | .row cs,true=>match cP el.of ((cs.drop off).take len) with
     | some ys=>match leB (off+len) cs.length,Nat.blt len aD,rc.fitsB off len 1 b.esz with
      | true,true,true=>some (ys,.t,[i])
      | _,_,_=>none
     | none=>none
    | _,_=>none
  | _,_=>none
 | _=>none
theorem RC.fits_of {rc:RC} {off len sz esz:Nat} (h:rc.fitsB off len sz esz=true):rc.fits off len sz esz:=by
 cases rc with
 | kn n=>exact Nat.le_of_ble_eq_true h
 | of k =>
  simp only [RC.fitsB,Bool.and_eq_true] at h
  exact ⟨Nat.eq_of_beq_eq_true h.1,Nat.eq_of_beq_eq_true h.2⟩
theorem SlIs.of_view {α:Type} {el:El α} {w0:W0} {β:Nat->Pl} {h:ah} {w:World} (r:HRel w0 β h w) {i off len:Nat} {rc:RC} {kn:Bool} {b:Blk} (hb:h i = .live b) {ys:List α}
  (hys:((b.body.cells.drop off).take len).map (gc β)=ys.map fun x=>gc β0 (el.cell x)) (hl:ys.length=len) (hlen:off+len<=b.body.cells.length) (ht:len<aD) (hf:rc.fits off len 1 b.esz) :
  SlIs el w (gv β (.one (.c (.slc i off len 1 rc kn)))) ys:=by
 have hbk:=r.blk i b hb
 cases ha:(β i).base with
 | none =>
  unfold BlkOk at hbk
  rw [ha] at hbk
  rw [hbk.1] at hlen
  obtain rfl:len=0:=by simp at hlen;omega
  obtain rfl:ys = []:=List.length_eq_zero_iff.1 hl
  exact ⟨none,0,by simp [gv,g1,gc,ha],by simp [aD],rfl,rfl⟩
 | some a =>
  have hbk':=hbk
  unfold BlkOk at hbk
  rw [ha] at hbk
  obtain ⟨q0,q1,q2,q3,q4⟩:=hbk
  refine ⟨some (a.add off),rc.val (β i),by simp [gv,g1,gc,ha,hl],by omega,fun hne => ?_,?_,fun hne => ?_,fun j x hx => ?_⟩
  ·have q0:=q0 (.inl fun e=>by
    rw [e] at hlen
    simp at hlen
    exact hne (List.length_eq_zero_iff.1 (by omega)))
   unfold Addr.add
   split <;> simp_all
  ·rw [hl]
   cases rc with
   | kn n=>exact hf
   | of k =>
    obtain ⟨f1,f2⟩:=hf
    simp only [RC.val]
    have:=q3 (by rw [f2];simp)
    rw [f2] at this
    omega
  ·rw [cO]
   have hlt:a.block<w.heap.size:=hbk'.lt r.below ha (.inr fun e=>by
    rw [e] at hlen
    simp at hlen
    exact hne (List.length_eq_zero_iff.1 (by omega)))
   exact hlt
  ·refine r.read hb ha off j _ ?_
   have e1:(ys.map fun x=>gc β0 (el.cell x))[j]? = some (gc β0 (el.cell x)):=by rw [List.getElem?_map,hx];rfl
   rw [<- hys,List.getElem?_map,List.getElem?_take] at e1
   rw [List.getElem?_map]
   split at e1
   ·exact e1
   ·cases e1
def OO {α:Type} (el:El α):Arg (List α) where
 rd:=QL el
 is:=SlIs el
 ok:=fun {w0 β h w v x p rs} e hp hr hok=>by
  unfold QL at e
  split at e
  ·cases e
   exact ⟨none,0,rfl,by simp [aD],rfl,rfl⟩
  ·rename_i i off len sz rc kn
   split at e
   ·rename_i b hsz hb
    have hsz:=Nat.eq_of_beq_eq_true hsz
    subst hsz
    have hb:=aj hb
    split at e
    ·rename_i xs hxs
     cases e
     obtain ⟨h1,h2,h3⟩:=hp
     have hc:=el.un_ok _ _ hxs
     refine SlIs.of_view hr hb ?_ (by simp;omega) (by rw [hc];simpa using h1) h2 h3
     rw [hc,<- List.map_drop,<- List.map_take,List.map_map]
     exact List.map_congr_left fun x _=>el.cell_ok x β
    ·split at e
     ·rename_i cs hcs
      split at e
      ·rename_i ys hys
       split at e
       ·rename_i h1 h2 h3
        cases e
        have h1:off+len<=cs.length:=Nat.le_of_ble_eq_true h1
        have h2:len<aD:=Nat.le_of_ble_eq_true h2
        have hlen:=(m6 hys).1
        refine SlIs.of_view hr hb ?_ (by rw [hlen,List.length_take,List.length_drop];omega) (by rw [hcs];exact h1) h2 (RC.fits_of h3)
        ·rw [hcs]
         exact (eM (fun c y e=>(el.of_ok c y e β).symm) hys).symm
       ·cases e
      ·cases e
     ·cases e
   ·cases e
  ·cases e
 near:=fun {h h' v x p rs} e H=>by
  unfold QL at e ⊢
  split at e
  ·exact e
  ·rename_i i off len sz rc kn
   split at e
   ·rename_i b hsz hb
    have hi:h i=h' i:=H i (by
     split at e
     ·cases e;simp
     ·split at e
      ·split at e
       ·split at e
        ·cases e;simp
        ·cases e
       ·cases e
      ·cases e)
    have:aH h' i=aH h i:=by unfold aH;rw [hi]
    simp only [this,hsz,hb]
    exact e
   ·cases e
  ·cases e
def iu {α:Type} (el:El α) (xs:List α):HE := .live ⟨false,0,1,el.body xs,false⟩
def inV {α:Type} (i:Nat) (xs:List α):AV := .one (.c (.slc i 0 xs.length 1 (.of 0) false))
theorem dl (heap:List HE) (x:HE):hpS (heap ++ [x])=upd (hpS heap) heap.length x:=by
 funext j
 rw [bV]
 by_cases e:j=heap.length
 ·subst e;simp [ab]
 ·rw [ak _ _ e,bV]
  rcases Nat.lt_or_ge j heap.length with h | h
  ·rw [List.getElem?_append_left h]
  ·rw [List.getElem?_eq_none (by simp;omega),List.getElem?_eq_none h]
theorem pf (heap:List HE):hpS heap heap.length = .un:=by rw [bV,List.getElem?_eq_none (Nat.le_refl _)];rfl
theorem HRel.slice {α:Type} {el:El α} {w0:W0} {β:Nat->Pl} {heap:List HE} {w:World} (r:HRel w0 β (hpS heap) w) {v:Value} {xs:List α} (hw:xs ≠ [] -> ∀ b l c,v = .slice (some b) l c->w0.new b.block->w.heap.size<=b.block) (h:SlIs el w v xs) :
  ∃ p,HRel w0 (upd β heap.length p) (hpS (heap ++ [iu el xs])) w/\gv (upd β heap.length p) (inV heap.length xs)=v/\okv (hpS (heap ++ [iu el xs])) (inV heap.length xs):=by
 obtain ⟨base,cap,rfl,ht,hb⟩:=h
 have hcells:(el.body xs).cells=xs.map el.cell:=el.body_ok xs
 refine ⟨⟨base,cap,none⟩,?_,?_,?_⟩
 ·rw [dl]
  refine r.ext (pf heap) _ _ rfl rfl (fun c hc => ?_) ?_
  ·simp only [hcells,List.mem_map] at hc
   obtain ⟨x,_,rfl⟩:=hc
   exact al (el.cell_id x)
  ·unfold BlkOk
   rw [ab]
   cases base with
   | none =>
    obtain ⟨rfl,rfl⟩:=hb
    exact ⟨by rw [hcells];rfl,rfl,by simp⟩
   | some a =>
    obtain ⟨b0,b1,b2,b3⟩:=hb
    refine ⟨fun h=>b0 (by
     rintro rfl
     rcases h with h | h | h
     ·exact h hcells
     ·exact absurd h Nat.one_ne_zero
     ·cases h),fun i c hc => ?_,fun _ hne => ?_,fun _=>by simp only [hcells];simpa using b1,fun e=>by cases e⟩
    ·simp only [hcells,List.getElem?_map] at hc
     cases hx:xs[i]? with
     | none=>rw [hx] at hc;cases hc
     | some x =>
      rw [hx] at hc
      cases hc
      rw [b3 i x hx]
      exact congrArg some (el.cell_ok x _).symm
    ·simp only [hcells] at hne
     have:=b2 (by rintro rfl;exact hne rfl)
     intro hnew
     have:=hw (by rintro rfl;exact hne rfl) _ _ _ rfl hnew
     omega
 ·simp only [inV,gv,g1,gc,ab]
  cases base with
  | none =>
   obtain ⟨rfl,rfl⟩:=hb
   rfl
  | some a =>
   have b0:=hb.1
   simp only [RC.val,Nat.sub_zero]
   have:a.add 0=a:=by unfold Addr.add;split <;> simp_all
   rw [this]
 ·intro i hi
  cases hi
  rw [dl,ab]
  simp [iu]
end Go.Proofs.Ytibfppbffdedoaa
namespace Go.Proofs.Ytibfppbffdedoaa
open Go.RowKit
theorem dN {β β':Nat->Pl} {heap:List HE} (h : ∀ i,i<heap.length->β' i=β i) {v:AV} (hv:okv (hpS heap) v):gv β' v=gv β v:=by
 have hc : ∀ c,okc (hpS heap) c->gc β' c=gc β c:=fun c hc=>bX fun i hi=>h i (Cg (hc i hi))
 have h1 : ∀ u,ok1 (hpS heap) u->g1 β' u=g1 β u:=by
  intro u hu
  cases u with
  | c x=>exact hc x hu
  | agg xs=>simp only [g1];congr 2;exact List.map_congr_left fun c hx=>hc c (hu c hx)
 cases v with
 | one u=>exact h1 u hv
 | tup us=>simp only [gv];congr 2;exact List.map_congr_left fun c hx=>h1 c (hv c hx)
theorem bz (heap more:List HE):Grows (hpS heap) (hpS (heap++more)):=fun i hi=>by
 have:=Cg hi
 rw [bV] at hi ⊢
 rw [List.getElem?_append_left this]
 exact hi
structure Inp (α : Type) where
 arg:Arg α
 av:Nat->α->AV
 hes:α->List HE
 fact:α->Prop
 known : ∀ {w v x},arg.is w v x->fact x
 intro : ∀ {w0 β} {heap:List HE} {w v x},HRel w0 β (hpS heap) w->w0.fresh w->arg.is w v x ->
  ∃ β',HRel w0 β' (hpS (heap++hes x)) w/\gv β' (av heap.length x)=v/\okv (hpS (heap++hes x)) (av heap.length x) /\ ∀ i,i<heap.length->β' i=β i
def Kd.inp {α:Type} (k:Kd α):Inp α where
 arg:=k.arg
 av:=fun _ x => .one (k.av x)
 hes:=fun _ => []
 fact:=fun _=>True
 known:=fun _=>trivial
 intro:=fun {w0 β heap w v x} hr _ hv=>⟨β,by rw [List.append_nil];exact hr,by simp only [gv,k.av_ok];exact hv.symm,k.av_id x _,fun _ _=>rfl⟩
def Rp {α:Type} (el:El α):Inp (List α) where
 arg:=OO el
 av:=fun n x=>inV n x
 hes:=fun x => [iu el x]
 fact:=fun x=>x.length<aD
 known:=fun {w v x} h=>by obtain ⟨_,_,_,h,_⟩:=h;exact h
 intro:=fun {w0 β heap w v x} hr hw hv=>by
  obtain ⟨p,h1,h2,h3⟩:=hr.slice (fun _ b _ _ _=>hw b.block) hv
  exact ⟨_,h1,h2,h3,fun i hi=>ak _ _ (by omega)⟩
structure Out (ρ : Type) where
 res:Res ρ
 rd:List HE->AV->Option (ρ × Pr)
 ok : ∀ {w β hp w' v x p},rd hp v=some (x,p)->p.holds->HRel (.of w) β (hpS hp) w'->okv (hpS hp) v->res.is w w' (gv β v) x
def Rs.out {ρ:Type} (r:Rs ρ):Out ρ where
 res:=r.res
 rd:=fun _ v=>match r.rd v with | some x=>some (x,.t) | none=>none
 ok:=fun {w β hp w' v x p} h _ _ _=>by
  split at h
  ·rename_i y hy;cases h;exact r.rd_ok _ _ hy β
  ·cases h
def bK {ρ:Type} (o:Out ρ) (x:ρ):AV->List HE->Prop:=fun v hp => ∃ p,o.rd hp v=some (x,p)/\p.holds
def cD {ρ:Type} (E:Env) (o:Out ρ) (n:Nat) (fn:Func) (cs:List Code) (st:St):Tree (Option (ρ × Pr)):=(m9 E n cs st).bind fun q=>match q.1 with
 | .normal | .ret=>match ee E.P fn.results.toList q.2 with
  | some v => .leaf (o.rd q.2.heap v)
  | none => .fail
 | _ => .fail
theorem DoesL.ends {ρ:Type} {E:Env} (hE:EnvOk E) {o:Out ρ} (n:Nat) {fn:Func} {cs:List Code} {st:St} {x:ρ} {T:Tree (Option (ρ × Pr))} (e:cD E o n fn cs st=T) (h:T.sat fun q => ∃ p,q=some (x,p)/\p.holds) :
  DoesL E cs st (EndsAs E fn (bK o x)):=by
 subst e
 refine DoesL.exec hE n ?_
 unfold cD at h
 rw [Tree.sat_bind] at h
 refine Tree.sat_mono (fun q hq => ?_) h
 obtain ⟨e,s⟩:=q
 have fin:(match ee E.P fn.results.toList s with | some v=>Tree.leaf (o.rd s.heap v) | none => .fail).sat (fun q => ∃ p,q=some (x,p)/\p.holds) -> ∃ v,ee E.P fn.results.toList s=some v/\bK o x v s.heap:=by
  intro h
  split at h
  ·rename_i v hv
   exact ⟨v,hv,h⟩
  ·exact h.elim
 cases e with
 | normal=>exact ⟨trivial,fin hq⟩
 | ret=>exact ⟨trivial,fin hq⟩
 | exit id=>exact hq.elim
 | goto l=>exact hq.elim
theorem dZ {ρ:Type} {E:Env} {f:FuncId} {fn:Func} (hf:E.P.funcs[f]? = some fn) {c:Code} (hb:fn.body=some c) {avs:List AV} {heap:List HE} {β:Nat->Pl} {w:World} (hr:HRel (.of w) β (hpS heap) w)
  (hok : ∀ v ∈ avs,okv (hpS heap) v) {o:Out ρ} {x:ρ} (h:DoesL E (flat c) (af fn avs heap) (EndsAs E fn (bK o x))):Gives E.P f (avs.map (gv β)).toArray w o.res x :=
 l9 hf hb hr hok h fun v hp ⟨p,h1,h2⟩ β' w' hr' hok'=>⟨_,rfl,hr'.below.below,o.ok h1 h2 hr' hok'⟩
theorem G0 {ρ:Type} {E:Env} {f:FuncId} {fn:Func} (hf:E.P.funcs[f]? = some fn) {c:Code} (hb:fn.body=some c) (hd:Bodied E.P f) (o:Out ρ) (F:ρ)
  (h:DoesL E (flat c) (af fn [] []) (EndsAs E fn (bK o F))):CallOk E.P f (K0 o.res F) :=
 OU hd fun w=>by
  have:=dZ hf hb (HRel.start w β0) (avs := []) (heap := []) (fun v hv=>by cases hv) h
  exact this
theorem G1 {α ρ:Type} {E:Env} {f:FuncId} {fn:Func} (hf:E.P.funcs[f]? = some fn) {c:Code} (hb:fn.body=some c) (hd:Bodied E.P f) (a:Inp α) (o:Out ρ) (F:α->ρ)
  (h : ∀ x,a.fact x->DoesL E (flat c) (af fn [a.av 0 x] (a.hes x)) (EndsAs E fn (bK o (F x)))):CallOk E.P f (K1 a.arg o.res F) :=
 OT hd fun w v x hv=>by
  obtain ⟨β1,r1,e1,k1,_⟩:=a.intro (heap := []) (HRel.start w β0) (W0.of_fresh w) hv
  simp only [List.nil_append,List.length_nil] at r1 e1 k1
  have:=dZ hf hb r1 (avs := [a.av 0 x]) (by simpa using k1) (h x (a.known hv))
  simpa only [List.map_cons,List.map_nil,e1] using this
theorem G2 {α γ ρ:Type} {E:Env} {f:FuncId} {fn:Func} (hf:E.P.funcs[f]? = some fn) {c:Code} (hb:fn.body=some c) (hd:Bodied E.P f) (a:Inp α) (b:Inp γ) (o:Out ρ) (F:α->γ->ρ)
  (h : ∀ x y,a.fact x->b.fact y->DoesL E (flat c) (af fn [a.av 0 x,b.av (a.hes x).length y] (a.hes x++b.hes y)) (EndsAs E fn (bK o (F x y)))):CallOk E.P f (K2 a.arg b.arg o.res F) :=
 LF hd fun w v x u y hv hu=>by
  obtain ⟨β1,r1,e1,k1,_⟩:=a.intro (heap := []) (HRel.start w β0) (W0.of_fresh w) hv
  simp only [List.nil_append,List.length_nil] at r1 e1 k1
  obtain ⟨β2,r2,e2,k2,g2⟩:=b.intro r1 (W0.of_fresh w) hu
  have k1':=k1.grow (bz (a.hes x) (b.hes y))
  have e1':gv β2 (a.av 0 x)=v:=by rw [dN g2 k1,e1]
  have:=dZ hf hb r2 (avs := [a.av 0 x,b.av (a.hes x).length y]) (by
   intro v hv
   simp only [List.mem_cons,List.not_mem_nil,or_false] at hv
   rcases hv with rfl | rfl
   ·exact k1'
   ·exact k2) (h x y (a.known hv) (b.known hu))
  simpa only [List.map_cons,List.map_nil,e1',e2] using this
theorem G3 {α γ δ ρ:Type} {E:Env} {f:FuncId} {fn:Func} (hf:E.P.funcs[f]? = some fn) {c:Code} (hb:fn.body=some c) (hd:Bodied E.P f) (a:Inp α) (b:Inp γ) (d:Inp δ) (o:Out ρ) (F:α->γ->δ->ρ)
  (h : ∀ x y z,a.fact x->b.fact y->d.fact z->DoesL E (flat c) (af fn [a.av 0 x,b.av (a.hes x).length y,d.av (a.hes x++b.hes y).length z] (a.hes x++b.hes y++d.hes z)) (EndsAs E fn (bK o (F x y z)))):CallOk E.P f (K3 a.arg b.arg d.arg o.res F) :=
 OS hd fun w v x u y t z hv hu ht=>by
  obtain ⟨β1,r1,e1,k1,_⟩:=a.intro (heap := []) (HRel.start w β0) (W0.of_fresh w) hv
  simp only [List.nil_append,List.length_nil] at r1 e1 k1
  obtain ⟨β2,r2,e2,k2,g2⟩:=b.intro r1 (W0.of_fresh w) hu
  have k1':=k1.grow (bz (a.hes x) (b.hes y))
  have e1':gv β2 (a.av 0 x)=v:=by rw [dN g2 k1,e1]
  obtain ⟨β3,r3,e3,k3,g3⟩:=d.intro r2 (W0.of_fresh w) ht
  have k1'':=k1'.grow (bz _ (d.hes z))
  have k2'':=k2.grow (bz _ (d.hes z))
  have e1'':gv β3 (a.av 0 x)=v:=by rw [dN g3 k1',e1']
  have e2'':gv β3 (b.av (a.hes x).length y)=u:=by rw [dN g3 k2,e2]
  have:=dZ hf hb r3 (avs := [a.av 0 x,b.av (a.hes x).length y,d.av (a.hes x++b.hes y).length z]) (by
   intro v hv
   simp only [List.mem_cons,List.not_mem_nil,or_false] at hv
   rcases hv with rfl | rfl | rfl
   ·exact k1''
   ·exact k2''
   ·exact k3) (h x y z (a.known hv) (b.known hu) (d.known ht))
  simpa only [List.map_cons,List.map_nil,e1'',e2'',e3] using this
def oQ {ρ:Type} (E:Env) (o:Out ρ) (n:Nat) (fn:Func) (cs:List Code) (st:St) (keep hs:List Nat):Tree ((X × St) ⊕ Option (ρ × Pr)):=(m9 E n cs st).bind fun q=>match q.1 with
 | .ret=>match ee E.P fn.results.toList q.2 with
  | some v => .leaf (.inr (o.rd q.2.heap v))
  | none => .fail
 | x=>match shrink keep hs q.2 with
  | some st => .leaf (.inl (x,st))
  | none => .fail
def OV {ρ:Type} (R:X × St->Prop) (x:ρ):(X × St) ⊕ Option (ρ × Pr)->Prop
 | .inl r=>R r
 | .inr a => ∃ p,a=some (x,p)/\p.holds
def Within {ρ:Type} (E:Env) (fn:Func) (o:Out ρ) (x:ρ) (R:X × St->Prop):X × St->Prop:=fun r=>match r.1 with
 | .ret=>EndsAs E fn (bK o x) r
 | _=>R r
theorem DoesL.iter {ρ:Type} {E:Env} (hE:EnvOk E) {o:Out ρ} (n:Nat) {fn:Func} {cs:List Code} {st:St} (keep hs:List Nat) {x:ρ} {R:X × St->Prop} {T:Tree ((X × St) ⊕ Option (ρ × Pr))}
  (e:oQ E o n fn cs st keep hs=T) (h:T.sat (OV R x)):DoesL E cs st (Within E fn o x (Wn R)):=by
 subst e
 refine DoesL.exec hE n ?_
 unfold oQ at h
 rw [Tree.sat_bind] at h
 refine Tree.sat_mono (fun q hq => ?_) h
 obtain ⟨e,s⟩:=q
 have other:(match shrink keep hs s with | some st=>Tree.leaf (Sum.inl (e,st)) | none => .fail).sat (OV (ρ:=ρ) R x)->Wn R (e,s):=by
  intro h
  split at h
  ·rename_i s' hs'
   exact ⟨s',Wk.shrink hs',h⟩
  ·exact h.elim
 cases e with
 | normal=>exact other hq
 | exit id=>exact other hq
 | goto l=>exact other hq
 | ret =>
  simp only [] at hq
  split at hq
  ·rename_i v hv
   exact ⟨trivial,v,hv,hq⟩
  ·exact hq.elim
theorem Within.mono {ρ:Type} {E:Env} {fn:Func} {o:Out ρ} {x:ρ} {R R':X × St->Prop} (h : ∀ r,R r->R' r) : ∀ r,Within E fn o x R r->Within E fn o x R' r:=by
 rintro ⟨e,s⟩ hr
 cases e with
 | ret=>exact hr
 | normal=>exact h _ hr
 | exit id=>exact h _ hr
 | goto l=>exact h _ hr
theorem Within.wn {ρ:Type} {E:Env} {fn:Func} {o:Out ρ} {x:ρ} {R:X × St->Prop} : ∀ r,Within E fn o x (Wn R) r->Wn (Within E fn o x R) r:=by
 rintro ⟨e,s⟩ hr
 cases e with
 | ret=>exact Wn.of hr
 | normal=>exact hr
 | exit id=>exact hr
 | goto l=>exact hr
theorem DoesL.wn {E:Env} : ∀ {cs:List Code} {st:St} {R:X × St->Prop},DoesL E cs st (Wn R)->DoesL E cs st R
 | [],st,R,h=>by
  obtain ⟨s,h1,s',h2,h3⟩:=h
  exact ⟨s',h1.trans h2,h3⟩
 | c :: cs,st,R,h=>Does.wn (Does.mono h fun r hr=>by
  obtain ⟨e,s⟩:=r
  cases e with
  | normal=>exact Wn.of (DoesL.wn hr)
  | exit id=>exact hr
  | goto l=>exact hr
  | ret=>exact hr)
theorem DoesL.stageE {E:Env} (hE:EnvOk E) (n k:Nat) (keep hs:List Nat) {cs:List Code} {st:St} {R:X × St->Prop} {T:Tree St} (e:dw E n (cs.take k) st keep hs=T) (h:T.sat fun s=>DoesL E (cs.drop k) s R):DoesL E cs st R :=
 DoesL.stage hE n k keep hs (by rw [e];exact h)
theorem DoesL.skip {E:Env} (hE:EnvOk E) {cs:List Code} {st:St} {R:X × St->Prop} (h:DoesL E cs st R):DoesL E (.skip :: cs) st R :=
 Does.run hE (fun _=>none) 1 h
theorem DoesL.scopeFn {ρ:Type} {E:Env} {o:Out ρ} {fn:Func} {cs tail:List Code} {body rest:Code} {l:Nat} (hE:EnvOk E) (he:cs = .scope body :: tail) (hf:findLabel body l=some rest) (n k:Nat)
  (hk:flat rest = .skip :: (flat body).drop k)
  {st:St} (keep hs:List Nat) {ι:Type} (I:ι->St) (m:ι->Nat) (i0:ι) {x:ρ} {T:Tree St} (e0:dw E n ((flat body).take k) st keep hs=T) (h0:T.sat fun s=>s=I i0)
  (h : ∀ i,DoesL E ((flat body).drop k) (I i) (Within E fn o x (Wn fun r=>match r.1 with | .goto l'=>l'=l /\ ∃ j,m j<m i/\r.2=I j | _=>False))) :
  DoesL E cs st (EndsAs E fn (bK o x)):=by
 subst he e0
 show Does E _ _ _
 have each : ∀ i,DoesL E ((flat body).drop k) (I i) fun r=>match r.1 with | .goto l'=>l'=l /\ ∃ j,m j<m i/\r.2=I j | _=>ThenX (EndsAs E fn (bK o x)) (fun s=>DoesL E tail s (EndsAs E fn (bK o x))) r:=by
  intro i
  refine DoesL.wn (DoesL.mono (h i) fun r hr => ?_)
  obtain ⟨e,s⟩:=r
  cases e with
  | ret=>exact Wn.of hr
  | normal=>obtain ⟨s',h1,h2⟩:=hr;exact h2.elim
  | exit id=>obtain ⟨s',h1,h2⟩:=hr;exact h2.elim
  | goto l'=>exact hr
 refine Does.scope hf I m (m i0) (Does.flat _ (DoesL.stage hE n k keep hs (Tree.sat_mono (fun s hs => ?_) h0))) fun i=>Does.flat _ (by rw [hk];exact DoesL.skip hE (each i))
 subst hs
 exact each i0
end Go.Proofs.Ytibfppbffdedoaa
namespace Go.Proofs.Ytibfppbffdedoaa
open Go.RowKit
theorem dQ {a:Addr} {P:Prop} (_:P):a.add 0=a:=by
 unfold Addr.add
 rw [if_pos rfl]
def NewSl (ty:TypeId) (w w':World) (v:Value) (vs:List Value):Prop :=
 ∃ base cap,v = .slice base vs.length cap/\match base with
  | none=>vs = []/\cap=0
  | some a=>a.off=0/\a.spot=none/\w.heap.size<=a.block /\ ∃ cur,w'.heap[a.block]? = some (.cells cur ty (0,0))/\cur.size=cap/\cap<=maxLen/\vs.length<=cap /\
    ∀ (i:Nat) (u:Value),vs[i]? = some u->cur[i]? = some u
theorem NewSl.eff {ty:TypeId} {w w':World} {v:Value} {cs:List Cell} (hf:NewSl ty w w' v (cs.map (gc β0))) {w0:W0} {β:Nat->Pl} {h:ah} (hr:HRel w0 β h w) {id:Nat} (hid:h id = .un) (hb:Below w.heap.size w w')
  {body:Body} (hbody:body.cells=cs) (hcs : ∀ c ∈ cs,c.idOf=none) {n:Nat} (hn:n=cs.length) (kn:Bool) :
  EffOk w0 β h id (.one (.c (.slc id 0 n 1 (.of 0) kn))) (oE id [⟨true,ty,1,body,false⟩]) v w':=by
 obtain ⟨base,cap,rfl,hbase⟩:=hf
 have hok:okv (eg h (oE id [⟨true,ty,1,body,false⟩])) (.one (.c (.slc id 0 n 1 (.of 0) kn))):=by
  intro i hi
  cases hi
  simp [oE,eg,ab]
 subst hn
 cases base with
 | none =>
  obtain ⟨h0,rfl⟩:=hbase
  have h0:cs = []:=by simpa using h0
  subst h0
  exact .one hid ⟨none,0,none⟩ (by simp [gv,g1,gc,ab]) (hr.newNil hid hb ty 1 (by simp) body hbody) hok
 | some a =>
  obtain ⟨h1,h2,h3,cur,h4,h5,h6,h7,h8⟩:=hbase
  have ha:a=⟨a.block,0,none⟩:=by cases a;simp_all
  refine .one hid ⟨some ⟨a.block,0,none⟩,cap,none⟩ ?_ ?_ hok
  ·simp only [gv,g1,gc,ab,RC.val,Nat.sub_zero,List.length_map]
   rw [<- ha,dQ h2]
  ·refine hr.new hid hb a.block cap ty 1 body cur h3 h4 (fun i c hc => ?_) (by rw [hbody,h5];simpa using h7) (fun _=>⟨by omega,h6⟩) (fun e=>by cases e) (fun c hc=>al (hcs c (by rw [<- hbody];exact hc)))
   rw [hbody] at hc
   rw [h8 i (gc β0 c) (by rw [List.getElem?_map,hc];rfl)]
   exact congrArg some (bX fun j hj=>by rw [hcs c (List.mem_of_getElem? hc)] at hj;cases hj)
theorem NewSl.of_own {w w':World} {β:Nat->Pl} {hp:ah} (hr:HRel (.of w) β hp w') {i:Nat} {ty:TypeId} {esz:Nat} {body:Body} {pin:Bool} (hi:hp i = .live ⟨true,ty,esz,body,pin⟩) {len:Nat} {rc:RC} {kn:Bool}
  (hlen:len<=body.cells.length) (hk:(esz=1/\rc = .of 0) \/ (esz=0 /\ ∃ n,rc = .kn n/\n=body.cells.length/\n<=maxLen)) :
  NewSl ty w w' (gv β (.one (.c (.slc i 0 len 1 rc kn)))) ((body.cells.take len).map (gc β)):=by
 have hb:=hr.blk i _ hi
 unfold BlkOk at hb
 have hl:((body.cells.take len).map (gc β)).length=len:=by rw [List.length_map,List.length_take];omega
 cases ha:(β i).base with
 | none =>
  rw [ha] at hb
  have h0:body.cells = []:=hb.1
  rw [h0] at hlen
  obtain rfl:len=0:=by simpa using hlen
  exact ⟨none,0,by simp [gv,g1,gc,ha],by simp,rfl⟩
 | some a =>
  rw [ha] at hb
  obtain ⟨q0,q1,q2,q3,q4⟩:=hb
  obtain ⟨r1,r2,cur,r3,r4,r5,r6⟩:=q4 rfl
  simp only [] at r3 r4 r5 r6
  have hadd:a.add 0=a:=by unfold Addr.add;split <;> simp_all
  have cap:rc.val (β i)=cur.size/\cur.size<=maxLen:=by
   rcases hk with ⟨rfl,rfl⟩ | ⟨rfl,n,rfl,h1,h2⟩
   ·obtain ⟨s1,s2⟩:=r5 (by simp)
    simp only [RC.val]
    omega
   ·have:=r6 rfl
    simp only [RC.val] at *
    omega
  refine ⟨some a,cur.size,by simp only [gv,g1,gc,ha,hadd,hl,cap.1],r2,q0 (.inr (.inr rfl)),r1.elim id False.elim,cur,r3,rfl,cap.2,by rw [hl];exact Nat.le_trans hlen r4,fun j u hu => ?_⟩
  have hjl:j<len:=by
   rcases Nat.lt_or_ge j len with h | h
   ·exact h
   ·rw [List.getElem?_eq_none (by rw [hl];exact h)] at hu;cases hu
  rw [List.getElem?_map,List.getElem?_take,if_pos hjl] at hu
  cases hc:body.cells[j]? with
  | none=>rw [hc] at hu;cases hu
  | some c =>
   rw [hc] at hu
   cases hu
   have:=q1 j c hc
   unfold World.cell? at this
   rw [cO,r3] at this
   have hsp:(a.add j).spot=none:=by unfold Addr.add;split <;> simp_all
   have hoff:(a.add j).off=j:=by unfold Addr.add;split <;> simp_all
   simp only [hsp,Option.isSome_none,Bool.false_eq_true,if_false,hoff] at this
   exact this
def B4 (α:Type) [Row α] (ty:TypeId) (n:Nat) (hn : ∀ x:α,n=(Row.cs x).length):Res α where
 wr:=fun id x => .one (.c (.slc id 0 n 1 (.of 0) true))
 new:=fun x => [⟨true,ty,1,.row (Row.cs x),false⟩]
 is:=fun w w' v x=>NewSl ty w w' v ((Row.cs x).map (gc β0))
 ok:=fun {w0 β h w w' id v x} hr hid hb hf=>hf.eff hr hid.1 hb rfl (Row.cs_id x) (hn x) true
def Kh (α:Type) [Row α] (ty:TypeId) (n:Nat) (hn : ∀ x:α,n=(Row.cs x).length):Out α where
 res:=B4 α ty n hn
 rd:=fun hp v=>match v with
  | .one (.c (.slc i 0 len 1 rc _))=>match hpS hp i with
   | .live ⟨true,ty',esz,.row cs,pin⟩=>match Row.rd (α:=α) (cs.take len),Nat.beq ty' ty,leB len cs.length,esz,rc with
    | some x,true,true,1,.of 0=>some (x,.t)
    | some x,true,true,0,.kn m=>match Nat.beq m cs.length && leB m maxLen with
     | true=>some (x,.t)
     | false=>none
    | _,_,_,_,_=>none
   | _=>none
  | _=>none
 ok:=fun {w β hp w' v x p} e hp' hr hok=>by
  split at e
  ·rename_i i len rc kn
   split at e
   ·rename_i ty' esz cs pin hi
    split at e
    ·rename_i y hx ht hl
     cases e
     have ht:=Nat.eq_of_beq_eq_true ht
     subst ht
     have:=NewSl.of_own (kn:=kn) hr hi (Nat.le_of_ble_eq_true hl) (.inl ⟨rfl,rfl⟩)
     simp only [Body.cells,Row.rd_ok hx β] at this
     exact this
    ·rename_i y m hx ht hl
     split at e
     ·rename_i hm
      cases e
      have ht:=Nat.eq_of_beq_eq_true ht
      subst ht
      simp only [Bool.and_eq_true] at hm
      have:=NewSl.of_own (kn:=kn) hr hi (Nat.le_of_ble_eq_true hl) (.inr ⟨rfl,m,rfl,Nat.eq_of_beq_eq_true hm.1,Nat.le_of_ble_eq_true hm.2⟩)
      simp only [Body.cells,Row.rd_ok hx β] at this
      exact this
     ·cases e
    ·cases e
   ·cases e
  ·cases e
def Gs {α:Type} (el:El α) (ty:TypeId):Res (List α) where
 wr:=fun id xs => .one (.c (.slc id 0 xs.length 1 (.of 0) false))
 new:=fun xs => [⟨true,ty,1,el.body xs,false⟩]
 is:=fun w w' v xs=>NewSl ty w w' v (xs.map fun x=>gc β0 (el.cell x))
 ok:=fun {w0 β h w w' id v x} hr hid hb hf=>by
  refine NewSl.eff (cs:=x.map el.cell) (by rw [List.map_map];exact hf) hr hid.1 hb (el.body_ok x) (fun c hc => ?_) (by simp) false
  simp only [List.mem_map] at hc
  obtain ⟨y,_,rfl⟩:=hc
  exact el.cell_id y
def Lp {α:Type} (el:El α) (ty:TypeId):Out (List α) where
 res:=Gs el ty
 rd:=fun hp v=>match v with
  | .one (.c .nils)=>some ([],.t)
  | .one (.c (.slc i 0 len 1 (.of 0) kn))=>match hpS hp i with
   | .live ⟨true,ty',1,body,pin⟩=>match Nat.beq ty' ty with
    | true=>match el.un body with
     | some xs=>some (xs.take len,.p (len<=xs.length))
     | none=>match body,kn with
      | .row cs,true=>match cP el.of (cs.take len),leB len cs.length with
       | some ys,true=>some (ys,.t)
       | _,_=>none
      | _,_=>none
    | false=>none
   | _=>none
  | _=>none
 ok:=fun {w β hp w' v x p} e hp' hr hok=>by
  split at e
  ·cases e
   exact ⟨none,0,rfl,rfl,rfl⟩
  ·rename_i i len kn
   split at e
   ·rename_i ty' body pin hi
    split at e
    ·rename_i ht
     have ht:=Nat.eq_of_beq_eq_true ht
     subst ht
     split at e
     ·rename_i xs hxs
      cases e
      have hc:=el.un_ok _ _ hxs
      have:=NewSl.of_own (kn:=kn) hr hi (len:=len) (by rw [hc,List.length_map];exact hp') (.inl ⟨rfl,rfl⟩)
      rw [hc] at this
      have e2:((List.map el.cell xs).take len).map (gc β)=(xs.take len).map fun x=>gc β0 (el.cell x):=by
       rw [<- List.map_take,List.map_map]
       exact List.map_congr_left fun x _=>el.cell_ok x β
      rw [e2] at this
      exact this
     ·split at e
      ·rename_i cs hno
       split at e
       ·rename_i ys hys hl
        cases e
        have:=NewSl.of_own (kn:=true) hr hi (len:=len) (Nat.le_of_ble_eq_true hl) (.inl ⟨rfl,rfl⟩)
        have e2:(cs.take len).map (gc β)=x.map fun x=>gc β0 (el.cell x):=(eM (fun c y e=>(el.of_ok c y e β).symm) hys).symm
        simp only [Body.cells,e2] at this
        exact this
       ·cases e
      ·cases e
    ·cases e
   ·cases e
  ·cases e
end Go.Proofs.Ytibfppbffdedoaa
namespace Go.Proofs.Ytibfppbffdedoaa
open Go.RowKit
def SlVals (w:World) (v:Value) (vs:List Value):Prop :=
 ∃ base cap,v = .slice base vs.length cap/\vs.length<aD/\match base with
  | none=>vs = []/\cap=0
  | some a=>(vs ≠ []->a.spot=none)/\vs.length<=cap/\(vs ≠ []->a.block<w.heap.size) /\ ∀ (i:Nat) (u:Value),vs[i]? = some u->w.cell? (a.add i)=some u
theorem SlVals.of_view {w0:W0} {β:Nat->Pl} {h:ah} {w:World} (r:HRel w0 β h w) {i off len:Nat} {rc:RC} {kn:Bool} {b:Blk} (hb:h i = .live b)
  (hlen:off+len<=b.body.cells.length) (ht:len<aD) (hf:rc.fits off len 1 b.esz):SlVals w (gv β (.one (.c (.slc i off len 1 rc kn)))) (((b.body.cells.drop off).take len).map (gc β)):=by
 have hbk:=r.blk i b hb
 have hl:(((b.body.cells.drop off).take len).map (gc β)).length=len:=by rw [List.length_map,List.length_take,List.length_drop];omega
 cases ha:(β i).base with
 | none =>
  unfold BlkOk at hbk
  rw [ha] at hbk
  rw [hbk.1] at hlen
  obtain rfl:len=0:=by simp at hlen;omega
  exact ⟨none,0,by simp [gv,g1,gc,ha],by simp [aD],by simp,rfl⟩
 | some a =>
  have hbk':=hbk
  unfold BlkOk at hbk
  rw [ha] at hbk
  obtain ⟨q0,q1,q2,q3,q4⟩:=hbk
  refine ⟨some (a.add off),rc.val (β i),by simp only [gv,g1,gc,ha,hl],by omega,?_,?_,fun hne => ?_,fun j u hu => ?_⟩
  ·unfold Addr.add;split <;> simp_all
  ·rw [hl]
   cases rc with
   | kn n=>exact hf
   | of k =>
    obtain ⟨f1,f2⟩:=hf
    simp only [RC.val]
    have:=q3 (by rw [f2];simp)
    rw [f2] at this
    omega
  ·rw [cO]
   exact hbk'.lt r.below ha (.inr fun e=>by
    rw [e] at hlen
    simp at hlen
    exact hne (List.length_eq_zero_iff.1 (by rw [hl];omega)))
  ·refine r.read hb ha off j u ?_
   rw [List.getElem?_map,List.getElem?_take] at hu
   rw [List.getElem?_map]
   split at hu
   ·exact hu
   ·cases hu
theorem SlVals.named {w0:W0} {β:Nat->Pl} {heap:List HE} {w:World} (r:HRel w0 β (hpS heap) w) (hw:w0.fresh w) {v:Value} {cs:List Cell} (hcs : ∀ c ∈ cs,c.idOf=none)
  (h:SlVals w v (cs.map (gc β0))) {n:Nat} (hn:n=cs.length) (kn:Bool) :
  ∃ p,HRel w0 (upd β heap.length p) (hpS (heap ++ [.live ⟨false,0,1,.row cs,false⟩])) w/\gv (upd β heap.length p) (.one (.c (.slc heap.length 0 n 1 (.of 0) kn)))=v /\
   okv (hpS (heap ++ [.live ⟨false,0,1,.row cs,false⟩])) (.one (.c (.slc heap.length 0 n 1 (.of 0) kn))):=by
 obtain ⟨base,cap,rfl,ht,hb⟩:=h
 subst hn
 refine ⟨⟨base,cap,none⟩,?_,?_,?_⟩
 ·rw [dl]
  refine r.ext (pf heap) _ _ rfl rfl (fun c hc=>al (hcs c hc)) ?_
  unfold BlkOk
  rw [ab]
  cases base with
  | none =>
   obtain ⟨h0,rfl⟩:=hb
   have h0:cs = []:=by simpa using h0
   subst h0
   exact ⟨rfl,rfl,by simp⟩
  | some a =>
   obtain ⟨b0,b1,b2,b3⟩:=hb
   refine ⟨fun h=>b0 (by
    rcases h with h | h | h
    ·simpa [Body.cells] using h
    ·exact absurd h Nat.one_ne_zero
    ·cases h),fun i c hc => ?_,fun _ hne => ?_,fun _=>by simp only [Body.cells];simpa using b1,fun e=>by cases e⟩
   ·simp only [Body.cells] at hc
    rw [b3 i (gc β0 c) (by rw [List.getElem?_map,hc];rfl)]
    exact congrArg some (bX fun j hj=>by rw [hcs c (List.mem_of_getElem? hc)] at hj;cases hj)
   ·have:=b2 (by simpa [Body.cells] using hne)
    intro hnew
    have:=hw _ hnew
    omega
 ·simp only [gv,g1,gc,ab,List.length_map]
  cases base with
  | none =>
   obtain ⟨h0,rfl⟩:=hb
   have h0:cs = []:=by simpa using h0
   subst h0
   rfl
  | some a=>simp only [RC.val,Nat.sub_zero,dQ hb.1]
 ·intro i hi
  cases hi
  rw [dl,ab]
  simp
def Ct (α:Type) [Row α]:Arg α where
 rd:=fun h v=>match v with
  | .one (.c (.slc i off len sz rc true))=>match Nat.beq sz 1,aH h i with
   | true,some ⟨own,ty,esz,.row cs,pin⟩=>match Row.rd (α:=α) ((cs.drop off).take len) with
    | some x=>match leB (off+len) cs.length,Nat.blt len aD,rc.fitsB off len 1 esz with
     | true,true,true=>some (x,.t,[i])
     | _,_,_=>none
    | none=>none
   | _,_=>none
  | _=>none
 is:=fun w v x=>SlVals w v ((Row.cs x).map (gc β0))
 ok:=fun {w0 β h w v x p rs} e _ hr _=>by
  split at e
  ·rename_i i off len sz rc
   split at e
   ·rename_i own ty esz cs pin hsz hb
    have hsz:=Nat.eq_of_beq_eq_true hsz
    subst hsz
    have hb:=aj hb
    split at e
    ·rename_i y hy
     split at e
     ·rename_i h1 h2 h3
      cases e
      have:=SlVals.of_view (kn:=true) hr hb (Nat.le_of_ble_eq_true h1) (Nat.le_of_ble_eq_true h2) (RC.fits_of h3)
      simp only [Body.cells,Row.rd_ok hy β] at this
      exact this
     ·cases e
    ·cases e
   ·cases e
  ·cases e
 near:=fun {h h' v x p rs} e H=>by
  split at e
  ·rename_i i off len sz rc
   split at e
   ·rename_i own ty esz cs pin hsz hb
    split at e
    ·rename_i y hy
     split at e
     ·rename_i h1 h2 h3
      cases e
      have hi:h i=h' i:=H i (by simp)
      have hl:aH h' i=aH h i:=by unfold aH;rw [hi]
      simp only [hl,hb,hsz,hy,h1,h2,h3]
     ·cases e
    ·cases e
   ·cases e
  ·cases e
def KB (α:Type) [Row α] (n:Nat) (hn : ∀ x:α,n=(Row.cs x).length):Inp α where
 arg:=Ct α
 av:=fun k _ => .one (.c (.slc k 0 n 1 (.of 0) true))
 hes:=fun x => [.live ⟨false,0,1,.row (Row.cs x),false⟩]
 fact:=fun _=>True
 known:=fun _=>trivial
 intro:=fun {w0 β heap w v x} hr hw hv=>by
  obtain ⟨p,h1,h2,h3⟩:=SlVals.named hr hw (Row.cs_id x) hv (hn x) true
  exact ⟨_,h1,h2,h3,fun i hi=>ak _ _ (by omega)⟩
end Go.Proofs.Ytibfppbffdedoaa
namespace Go.Proofs.Ytibfppbffdedoaa
open Go.RowKit
inductive G where
 | as | int | u64 | u8 | bool | bit | slc
 | nil (id:Nat)
 | nilE (id sz:Nat)
inductive GB where
 | as
 | lst (k:EK)
 | rws (k:RK)
 | one (k:RK)
inductive NK where
 | u64 | u8 | bool | int
 | rows (k:RK)
 | rowsM (k:RK) (m:Nat)
def NK.body:NK->Body
 | .u64 => .elts .u64 []
 | .u8 => .elts .u8 []
 | .bool => .elts .bool []
 | .int => .elts .int []
 | .rows k => .rows k []
 | .rowsM k _ => .rows k []
def NK.esz:NK->Nat
 | .u64=>1
 | .u8=>1
 | .bool=>1
 | .int=>1
 | .rows k=>k.sz
 | .rowsM k m=>(m+1)*k.sz
theorem NK.body_nil (k:NK):k.body.cells = []:=by cases k <;> rfl
theorem NK.esz_pos (k:NK):k.esz ≠ 0:=by
 cases k with
 | rows k=>exact Nat.ne_of_gt k.sz_pos
 | rowsM k m=>exact Nat.ne_of_gt (Nat.mul_pos (Nat.succ_pos m) k.sz_pos)
 | _=>exact Nat.one_ne_zero
def QV (old all:Nat) (g:G) (v:AV):Option AV :=
 match g,v with
 | .as,v=>some v
 | .int,.one (.c c)=>match toI c with
  | some (k,n)=>some (.one (.c (.int k n)))
  | none=>none
 | .u64,.one (.c c)=>match toU c with
  | some x=>some (.one (.c (.u64 x)))
  | none=>none
 | .u8,.one (.c c)=>match toB c with
  | some x=>some (.one (.c (.u8 x)))
  | none=>none
 | .bool,.one (.c c)=>match iz c with
  | some x=>some (.one (.c (.bool x)))
  | none=>none
 | .bit,.one (.c c)=>match Gn c with
  | some x=>some (.one (.c (.bit x)))
  | none=>none
 | .slc,.one (.c (.slc i off len sz rc _))=>some (.one (.c (.slc i off len sz rc false)))
 | .nil id,.one (.c .nils)=>match leB old id && Nat.blt id all with
  | true=>some (.one (.c (.slc id 0 0 1 (.of 0) false)))
  | false=>none
 | .nilE id sz,.one (.c .nils)=>match leB old id && Nat.blt id all with
  | true=>some (.one (.c (.slc id 0 0 sz (.of 0) false)))
  | false=>none
 | _,_=>none
def QW (g:GB) (x:HE):Option HE :=
 match g,x with
 | .as,x=>some x
 | .lst k,.live ⟨own,ty,esz,.row cs,pin⟩=>match cP k.rd cs with
  | some xs=>some (.live ⟨own,ty,esz,.elts k xs,pin⟩)
  | none=>none
 | .lst _,.live ⟨own,ty,esz,.elts k' xs,pin⟩=>some (.live ⟨own,ty,esz,.elts k' xs,pin⟩)
 | .rws k,.live ⟨own,ty,esz,.row cs,pin⟩=>match mN k cs with
  | some xs=>some (.live ⟨own,ty,esz,.rows k xs,pin⟩)
  | none=>none
 | .one k,.live ⟨own,ty,esz,.row cs,pin⟩=>match k.rd cs with
  | some x=>some (.live ⟨own,ty,esz,.row (k.cs x),pin⟩)
  | none=>none
 | .rws _,.live ⟨own,ty,esz,.rows k' xs,pin⟩=>some (.live ⟨own,ty,esz,.rows k' xs,pin⟩)
 | _,_=>none
def GA:List GB->List HE->Option (List HE)
 | [],hs=>some hs
 | g :: gs,x :: xs=>match QW g x,GA gs xs with
  | some y,some ys=>some (y :: ys)
  | _,_=>none
 | _ :: _,[]=>none
def newRows:List (TypeId × NK)->List HE
 | [] => []
 | (ty,k) :: rest => .live ⟨true,ty,k.esz,k.body,false⟩ :: newRows rest
def BA (gs:List (Nat × G)) (bs:List GB) (news:List (TypeId × NK)) (st:St):Option St :=
 match cP (fun (p:Nat × G)=>match st.tmps.tr.get p.1 with
  | some v=>match QV st.heap.length (st.heap.length+news.length) p.2 v with
   | some u=>some (p.1,u)
   | none=>none
  | none=>none) gs,GA bs st.heap with
 | some l,some hp=>some (ax st.tmps.n l (hp++newRows news))
 | _,_=>none
def SameHE (x y:HE):Prop:=x=y \/ ∃ b body,x = .live b/\y = .live { b with body:=body }/\(∀ β,body.cells.map (gc β)=b.body.cells.map (gc β))/\(∀ c ∈ body.cells,c.idOf=none)
theorem FE {g:GB} {x y:HE} (h:QW g x=some y):SameHE x y:=by
 unfold QW at h
 split at h
 ·cases h;exact .inl rfl
 ·split at h
  ·rename_i xs hxs
   cases h
   refine .inr ⟨_,_,rfl,rfl,fun β=>rg hxs β,fun c hc => ?_⟩
   simp only [Body.cells,List.mem_map] at hc
   obtain ⟨x,_,rfl⟩:=hc
   exact EK.cell_id _ x
  ·cases h
 ·cases h;exact .inl rfl
 ·split at h
  ·rename_i xs hxs
   cases h
   refine .inr ⟨_,_,rfl,rfl,fun β => ?_,cM _ xs⟩
   exact (fC _ xs β).trans (jM _ β hxs).symm
  ·cases h
 ·split at h
  ·rename_i x hx
   cases h
   refine .inr ⟨_,_,rfl,rfl,fun β => ?_,RK.cs_id _ x⟩
   exact (RK.cs_ok _ x β).trans (RK.rd_ok _ hx β).symm
  ·cases h
 ·cases h;exact .inl rfl
 ·cases h
theorem ro : ∀ {gs:List GB} {xs ys:List HE},GA gs xs=some ys->ys.length=xs.length /\ ∀ i,SameHE (hpS xs i) (hpS ys i)
 | [],xs,ys,h=>by cases h;exact ⟨rfl,fun i => .inl rfl⟩
 | g :: gs,[],ys,h=>by cases h
 | g :: gs,x :: xs,ys,h=>by
  simp only [GA] at h
  split at h
  ·rename_i y ys' hy hys
   cases h
   obtain ⟨h1,h2⟩:=ro hys
   refine ⟨by simp [h1],fun i => ?_⟩
   cases i with
   | zero=>exact FE hy
   | succ i=>exact h2 i
  ·cases h
theorem SameHE.un {x y:HE} (h:SameHE x y):x ≠ .un->y ≠ .un:=by
 rcases h with rfl | ⟨b,body,rfl,rfl,_⟩
 ·exact id
 ·intro _ e;cases e
theorem SameHE.live {x:HE} {b':Blk} (h:SameHE x (.live b')) : ∃ b,x = .live b/\b' = { b with body:=b'.body }/\(∀ β,b'.body.cells.map (gc β)=b.body.cells.map (gc β))/\((∀ c ∈ b'.body.cells,c.idOf=none) \/ b'=b):=by
 rcases h with rfl | ⟨b,body,rfl,e,h1,h2⟩
 ·exact ⟨b',rfl,rfl,fun _=>rfl,.inr rfl⟩
 ·cases e
  exact ⟨b,rfl,rfl,h1,.inl h2⟩
theorem BlkOk.same {β:Nat->Pl} {w0:W0} {w:World} {i:Nat} {b:Blk} {body:Body} (hb:BlkOk β w0 w i b) (h:body.cells.map (gc β)=b.body.cells.map (gc β)):BlkOk β w0 w i { b with body:=body }:=by
 have hl:body.cells.length=b.body.cells.length:=by have:=congrArg List.length h;simpa using this
 have hne:body.cells = [] <-> b.body.cells = []:=by rw [<- List.length_eq_zero_iff,hl,List.length_eq_zero_iff]
 unfold BlkOk at *
 cases ha:(β i).base with
 | none =>
  rw [ha] at hb
  exact ⟨hne.2 hb.1,hb.2⟩
 | some a =>
  rw [ha] at hb
  obtain ⟨h0,h1,h2,h3,h4⟩:=hb
  refine ⟨fun h=>h0 (h.imp_left fun hn e=>hn (hne.2 e)),fun j c hj => ?_,fun ho hn=>h2 ho (fun e=>hn (hne.2 e)),fun hz=>by show body.cells.length<=_;rw [hl];exact h3 hz,fun ho => ?_⟩
  ·have e:(body.cells.map (gc β))[j]? = some (gc β c):=by rw [List.getElem?_map,hj];rfl
   rw [h,List.getElem?_map] at e
   cases hc:b.body.cells[j]? with
   | none=>rw [hc] at e;cases e
   | some c' =>
    rw [hc] at e
    rw [h1 j c' hc]
    exact e
  ·obtain ⟨q1,q2,cur,q3,q4,q5,q6⟩:=h4 ho
   exact ⟨q1,q2,cur,q3,by show body.cells.length<=_;rw [hl];exact q4,q5,fun hz=>by show _=body.cells.length;rw [hl];exact q6 hz⟩
theorem HRel.sameHE {w0:W0} {β:Nat->Pl} {h h':ah} {w:World} (r:HRel w0 β h w) (hs : ∀ i,SameHE (h i) (h' i)):HRel w0 β h' w where
 below:=r.below
 blk:=fun i b' hb'=>by
  have:=hs i
  rw [hb'] at this
  obtain ⟨b,e1,e2,e3,_⟩:=this.live
  rw [e2]
  exact (r.blk i b e1).same (e3 β)
 sep:=fun i j b c hb hc hne ho hoc hbase=>by
  have h1:=hs i
  rw [hb] at h1
  have h2:=hs j
  rw [hc] at h2
  obtain ⟨b1,e1,e2,_⟩:=h1.live
  obtain ⟨b2,f1,f2,_⟩:=h2.live
  rw [e2] at ho
  rw [f2] at hoc
  exact r.sep i j b1 b2 e1 f1 hne ho hoc hbase
 okc:=fun i b' hb' c hc=>by
  have:=hs i
  rw [hb'] at this
  obtain ⟨b,e1,e2,e3,e4⟩:=this.live
  rcases e4 with e4 | e4
  ·exact al (e4 c hc)
  ·subst e4
   intro j hj
   exact (hs j).un (r.okc i b' e1 c hc j hj)
 pin:=fun i b' hb' hp=>by
  have:=hs i
  rw [hb'] at this
  obtain ⟨b,e1,e2,e3,e4⟩:=this.live
  rw [e2] at hp ⊢
  exact r.pin i b e1 hp
 lst:=fun i k l hl=>by
  have:=hs i
  rw [hl] at this
  rcases this with e | ⟨b,body,_,e,_⟩
  ·exact r.lst i k l e
  ·cases e
theorem HRel.newRows {w0:W0} {w:World} : ∀ (news:List (TypeId × NK)) {β:Nat->Pl} {heap:List HE},HRel w0 β (hpS heap) w ->
  ∃ β',HRel w0 β' (hpS (heap++Go.Proofs.Ytibfppbffdedoaa.newRows news)) w/\(∀ i,i<heap.length->β' i=β i) /\ ∀ i,heap.length<=i->i<heap.length+news.length->β' i=⟨none,0,none⟩
 | [],β,heap,r=>⟨β,by simpa [Go.Proofs.Ytibfppbffdedoaa.newRows] using r,fun _ _=>rfl,fun i h1 h2=>by simp at h2;omega⟩
 | (ty,k) :: rest,β,heap,r=>by
  have r1:=r.newNil (oth:=none) (pf heap) (Below.refl _ _) ty k.esz k.esz_pos k.body k.body_nil
  rw [<- dl] at r1
  obtain ⟨β',h1,h2,h3⟩:=HRel.newRows rest r1
  refine ⟨β',by simpa [Go.Proofs.Ytibfppbffdedoaa.newRows,List.append_assoc] using h1,fun i hi => ?_,fun i h4 h5 => ?_⟩
  ·rw [h2 i (by simp;omega),ak _ _ (by omega)]
  ·by_cases e:i=heap.length
   ·subst e
    rw [h2 _ (by simp),ab]
   ·exact h3 i (by simp;omega) (by simp at h5 ⊢;omega)
theorem A6 {h:ah} {c:Cell} (hc:c.idOf=none):okv h (.one (.c c)):=al hc
theorem FD {gs:List (Nat × G)} {bs:List GB} {news:List (TypeId × NK)} {st st':St} (h:BA gs bs news st=some st') {w0:W0} {a:Act} {w:World} (r:SRel w0 st a w):SRel w0 st' a w:=by
 unfold BA at h
 split at h
 ·rename_i l hp hl hhp
  cases h
  obtain ⟨β,h1,h2⟩:=r
  obtain ⟨b1,b2⟩:=ro hhp
  obtain ⟨β',r',k1,k2⟩:=HRel.newRows news (h1.sameHE b2)
  rw [b1] at k1 k2
  have grow:Grows (hpS st.heap) (hpS (hp++newRows news)):=fun i hi=>bz hp (newRows news) i ((b2 i).un hi)
  have agree : ∀ {v:AV},okv (hpS st.heap) v->gv β' v=gv β v:=fun hv=>dN (heap:=st.heap) (fun i hi=>k1 i hi) hv
  refine ⟨β',r',⟨h2.size,h2.defers,fun t v hv => ?_⟩⟩
  have hmem:=sr l t v hv
  have:=iE (p:=fun q:Nat × AV => ∃ g u,st.tmps.tr.get q.1=some u/\QV st.heap.length (st.heap.length+news.length) g u=some q.2) (fun x y e=>by
   split at e
   ·rename_i u hu
    split at e
    ·rename_i u' hu'
     cases e
     exact ⟨x.2,u,hu,hu'⟩
    ·cases e
   ·cases e) hl (t,v) hmem
  obtain ⟨g,u,e1,e2⟩:=this
  obtain ⟨f1,f2⟩:=h2.ok t u e1
  have same : ∀ v',gv β v'=gv β u->okv (hpS st.heap) v'->v=v'->a.tmps[t]? = some (gv β' v)/\okv (hpS (hp++newRows news)) v:=by
   rintro v' q1 q2 rfl
   exact ⟨by rw [agree q2,q1];exact f1,q2.grow grow⟩
  unfold QV at e2
  split at e2
  ·cases e2;exact same v rfl f2 rfl
  ·split at e2
   ·rename_i c k n hc
    cases e2
    exact same (.one (.c (.int k n))) (by simp only [gv,g1,cR β hc];rfl) (A6 rfl) rfl
   ·cases e2
  ·split at e2
   ·rename_i c x hc
    cases e2
    exact same (.one (.c (.u64 x))) (by simp only [gv,g1,gZ β hc];rfl) (A6 rfl) rfl
   ·cases e2
  ·split at e2
   ·rename_i c x hc
    cases e2
    exact same (.one (.c (.u8 x))) (by simp only [gv,g1,mq β hc];rfl) (A6 rfl) rfl
   ·cases e2
  ·split at e2
   ·rename_i c x hc
    cases e2
    exact same (.one (.c (.bool x))) (by simp only [gv,g1,cK β hc];rfl) (A6 rfl) rfl
   ·cases e2
  ·split at e2
   ·rename_i c x hc
    cases e2
    exact same (.one (.c (.bit x))) (by simp only [gv,g1];unfold Gn at hc;split at hc <;> cases hc <;> rfl) (A6 rfl) rfl
   ·cases e2
  ·cases e2
   exact same (.one (.c (.slc _ _ _ _ _ false))) rfl (fun i hi=>f2 i hi) rfl
  ·rename_i id
   split at e2
   ·rename_i hid
    cases e2
    simp only [Bool.and_eq_true] at hid
    have i1:=aT hid.1
    have i2:id<st.heap.length+news.length:=Nat.le_of_ble_eq_true hid.2
    refine ⟨?_,fun j hj => ?_⟩
    ·rw [f1]
     simp only [gv,g1,gc,k2 id i1 i2]
    ·cases hj
     show hpS (hp++newRows news) id ≠ .un
     rw [bV]
     have hlt:id<(hp++newRows news).length:=by
      have : ∀ l:List (TypeId × NK),(newRows l).length=l.length:=by
       intro l
       induction l with
       | nil=>rfl
       | cons x l ih=>obtain ⟨ty,k⟩:=x;simp [newRows,ih]
      rw [List.length_append,this,b1];exact i2
     have hn:hp.length<=id:=by omega
     rw [List.getElem?_append_right hn]
     have live : ∀ (l:List (TypeId × NK)) (j:Nat),j<l.length -> ∃ b,(newRows l)[j]? = some (.live b):=by
      intro l
      induction l with
      | nil=>intro j hj;simp at hj
      | cons x l ih =>
       intro j hj
       obtain ⟨ty,k⟩:=x
       cases j with
       | zero=>exact ⟨_,rfl⟩
       | succ j=>exact ih j (by simpa using hj)
     obtain ⟨b,hb⟩:=live news (id-hp.length) (by omega)
     rw [hb]
     simp
   ·cases e2
  ·rename_i id sz
   split at e2
   ·rename_i hid
    cases e2
    simp only [Bool.and_eq_true] at hid
    have i1:=aT hid.1
    have i2:id<st.heap.length+news.length:=Nat.le_of_ble_eq_true hid.2
    refine ⟨?_,fun j hj => ?_⟩
    ·rw [f1]
     simp only [gv,g1,gc,k2 id i1 i2]
    ·cases hj
     show hpS (hp++newRows news) id ≠ .un
     rw [bV]
     have hlt:id<(hp++newRows news).length:=by
      have : ∀ l:List (TypeId × NK),(newRows l).length=l.length:=by
       intro l
       induction l with
       | nil=>rfl
       | cons x l ih=>obtain ⟨ty,k⟩:=x;simp [newRows,ih]
      rw [List.length_append,this,b1];exact i2
     have hn:hp.length<=id:=by omega
     rw [List.getElem?_append_right hn]
     have live : ∀ (l:List (TypeId × NK)) (j:Nat),j<l.length -> ∃ b,(newRows l)[j]? = some (.live b):=by
      intro l
      induction l with
      | nil=>intro j hj;simp at hj
      | cons x l ih =>
       intro j hj
       obtain ⟨ty,k⟩:=x
       cases j with
       | zero=>exact ⟨_,rfl⟩
       | succ j=>exact ih j (by simpa using hj)
     obtain ⟨b,hb⟩:=live news (id-hp.length) (by omega)
     rw [hb]
     simp
   ·cases e2
  ·cases e2
 ·cases h
theorem Wk.gen {gs:List (Nat × G)} {bs:List GB} {news:List (TypeId × NK)} {st st':St} (h:BA gs bs news st=some st'):Wk st st':=fun _ _ _ r=>FD h r
def stageG (E:Env) (n:Nat) (cs:List Code) (st:St) (keep hs:List Nat) (gs:List (Nat × G)) (bs:List GB) (news:List (TypeId × NK)):Tree St:=(dw E n cs st keep hs).bind fun s=>match BA gs bs news s with
 | some s' => .leaf s'
 | none => .fail
theorem DoesL.stageG {E:Env} (hE:EnvOk E) (n k:Nat) (keep hs:List Nat) (gs:List (Nat × G)) (bs:List GB) (news:List (TypeId × NK)) {cs:List Code} {st:St} {R:X × St->Prop} {T:Tree St} (e:Go.Proofs.Ytibfppbffdedoaa.stageG E n (cs.take k) st keep hs gs bs news=T)
  (h:T.sat fun s=>DoesL E (cs.drop k) s R):DoesL E cs st R:=by
 subst e
 refine DoesL.stage hE n k keep hs ?_
 unfold Go.Proofs.Ytibfppbffdedoaa.stageG at h
 rw [Tree.sat_bind] at h
 refine Tree.sat_mono (fun s hs => ?_) h
 split at hs
 ·rename_i s' hs'
  exact DoesL.wk (Wk.gen hs') hs
 ·exact hs.elim
theorem Does.of1 {E:Env} {c:Code} {st:St} {R:X × St->Prop} (h:DoesL E [c] st R):Does E c st R:=Does.wn (Does.mono h fun r hr=>by
 obtain ⟨e,s⟩:=r
 cases e with
 | normal=>exact hr
 | exit id=>exact Wn.of hr
 | goto l=>exact Wn.of hr
 | ret=>exact Wn.of hr)
theorem DoesL.blockLoopR {ρ:Type} {E:Env} {o:Out ρ} {fn:Func} {x:ρ} {cs rest:List Code} {id:Nat} {B:Code} (e:cs = .block id (.loop B) :: rest) {ι:Type} (I:ι->St) (m:ι->Nat) (i:ι)
  (h : ∀ i,DoesL E [B] (I i) (Within E fn o x (Wn fun r=>match r.1 with
   | .normal => ∃ j,m j<m i/\r.2=I j
   | .exit id'=>Nat.beq id' id=true/\DoesL E rest r.2 (EndsAs E fn (bK o x))
   | _=>False))):DoesL E cs (I i) (EndsAs E fn (bK o x)):=by
 refine DoesL.blockLoop e I m i fun i=>Does.wn (Does.mono (Does.of1 (h i)) fun r hr => ?_)
 obtain ⟨e,s⟩:=r
 cases e with
 | ret=>exact Wn.of hr
 | normal=>exact hr
 | exit id'=>exact hr
 | goto l=>obtain ⟨s',h1,h2⟩:=hr;exact h2.elim
theorem vV {α:Type} {y x:α} {P:Prop} (h:y=x) (hp:P) : ∃ p,some (y,Pr.p P)=some (x,p)/\p.holds:=⟨.p P,by rw [h],hp⟩
theorem aV {α:Type} {y x:α} (h:y=x) : ∃ p,some (y,Pr.t)=some (x,p)/\p.holds:=⟨.t,by rw [h],trivial⟩
def CS {ρ:Type} (E:Env) (o:Out ρ) (n:Nat) (fn:Func) (cs:List Code) (st:St) (keep hs:List Nat) (gs:List (Nat × G)) (bs:List GB) (news:List (TypeId × NK)):Tree (St ⊕ Option (ρ × Pr)) :=
 (oQ E o n fn cs st keep hs).bind fun q=>match q with
  | .inl (.normal,s)=>match BA gs bs news s with
   | some s' => .leaf (.inl s')
   | none => .fail
  | .inl _ => .fail
  | .inr a => .leaf (.inr a)
def Seg {ρ:Type} (R:St->Prop) (x:ρ):St ⊕ Option (ρ × Pr)->Prop
 | .inl s=>R s
 | .inr a => ∃ p,a=some (x,p)/\p.holds
theorem DoesL.seg {ρ:Type} {E:Env} (hE:EnvOk E) {o:Out ρ} (n k:Nat) {fn:Func} {cs:List Code} {st:St} (keep hs:List Nat) (gs:List (Nat × G)) (bs:List GB) (news:List (TypeId × NK)) {x:ρ} {T:Tree (St ⊕ Option (ρ × Pr))}
  (e:CS E o n fn (cs.take k) st keep hs gs bs news=T) (h:T.sat (Seg (fun s=>DoesL E (cs.drop k) s (EndsAs E fn (bK o x))) x)):DoesL E cs st (EndsAs E fn (bK o x)):=by
 subst e
 unfold CS at h
 rw [Tree.sat_bind] at h
 have h1:=DoesL.iter (o:=o) (fn:=fn) (x:=x) (R:=fun r=>match r.1 with | .normal=>DoesL E (cs.drop k) r.2 (EndsAs E fn (bK o x)) | _=>False) hE n (cs:=cs.take k) (st:=st) keep hs rfl (Tree.sat_mono (fun q hq=>by
  cases q with
  | inl r =>
   obtain ⟨e,s⟩:=r
   cases e with
   | normal =>
    simp only at hq
    split at hq
    ·rename_i s' hs'
     exact DoesL.wk (Wk.gen hs') hq
    ·exact hq.elim
   | exit id=>exact hq.elim
   | goto l=>exact hq.elim
   | ret=>exact hq.elim
  | inr a=>exact hq) h)
 rw [<- List.take_append_drop k cs]
 refine DoesL.join (DoesL.wn (DoesL.mono h1 fun r hr => ?_))
 obtain ⟨e,s⟩:=r
 cases e with
 | normal=>exact hr
 | ret=>exact Wn.of hr
 | exit id=>obtain ⟨s',q1,q2⟩:=hr;exact q2.elim
 | goto l=>obtain ⟨s',q1,q2⟩:=hr;exact q2.elim
def Arg.such {α:Type} (a:Arg α) (q:α->Prop):Arg α where
 rd:=fun h v=>match a.rd h v with
  | some (x,p,rs)=>some (x,p.and (.p (q x)),rs)
  | none=>none
 is:=fun w v x=>a.is w v x/\q x
 ok:=fun {w0 β h w v x p rs} e hp hr hok=>by
  split at e
  ·rename_i y p' rs' hy
   cases e
   have:=Pr.and_holds hp
   exact ⟨a.ok hy this.1 hr hok,this.2⟩
  ·cases e
 near:=fun {h h' v x p rs} e H=>by
  split at e
  ·rename_i y p' rs' hy
   cases e
   rw [a.near hy H]
  ·cases e
def Inp.such {α:Type} (a:Inp α) (q:α->Prop):Inp α where
 arg:=a.arg.such q
 av:=a.av
 hes:=a.hes
 fact:=fun x=>a.fact x/\q x
 known:=fun h=>⟨a.known h.1,h.2⟩
 intro:=fun hr hw h=>a.intro hr hw h.1
def J0 {α:Type} (el:El α) (ty:TypeId):Res (List α × Int) where
 wr:=fun id x => .tup [.c (.slc id 0 x.1.length 1 (.of 0) false),.c (.int .i64 x.2)]
 new:=fun x => [⟨true,ty,1,el.body x.1,false⟩]
 is:=fun w w' v x => ∃ v1,v = .tuple #[v1,.int .i64 x.2]/\(Gs el ty).is w w' v1 x.1
 ok:=fun {w0 β h w w' id v x} hr hid hb hf=>by
  obtain ⟨v1,rfl,h1⟩:=hf
  obtain ⟨β',hβ,e1,e2,e3⟩:=(Gs el ty).ok hr hid hb h1
  refine ⟨β',hβ,?_,e2,?_⟩
  ·rw [e1];rfl
  ·intro u hu
   simp only [List.mem_cons,List.not_mem_nil,or_false] at hu
   rcases hu with rfl | rfl
   ·exact e3
   ·exact al rfl
def PG {α:Type} (el:El α) (ty:TypeId):Out (List α × Int) where
 res:=J0 el ty
 rd:=fun hp v=>match v with
  | .tup [a,.c c]=>match (Lp el ty).rd hp (.one a),toI c with
   | some (xs,p),some (.i64,n)=>some ((xs,n),p)
   | _,_=>none
  | _=>none
 ok:=fun {w β hp w' v x p} e hp' hr hok=>by
  split at e
  ·rename_i a c
   split at e
   ·rename_i xs p' n hx hn
    cases e
    have h1:=(Lp el ty).ok hx hp' hr (hok a (by simp))
    exact ⟨_,by simp only [gv,List.map_cons,List.map_nil,g1,cR β hn],h1⟩
   ·cases e
  ·cases e
end Go.Proofs.Ytibfppbffdedoaa
namespace Go.Proofs.Ytibfppbffdedoaa
open Go.RowKit
theorem BlkOk.plain {β β':Nat->Pl} {w0:W0} {w:World} {i j:Nat} {b:Blk} (h:BlkOk β w0 w i b) (e:β' j=β i) (hcs : ∀ c ∈ b.body.cells,c.idOf=none):BlkOk β' w0 w j b:=by
 unfold BlkOk at *
 rw [e]
 cases ha:(β i).base with
 | none=>rw [ha] at h;exact h
 | some a =>
  rw [ha] at h
  obtain ⟨h0,h1,h2⟩:=h
  refine ⟨h0,fun k c hk => ?_,h2⟩
  rw [h1 k c hk]
  exact congrArg some (bX fun m hm=>by rw [hcs c (List.mem_of_getElem? hk)] at hm;cases hm)
def mH (b d:Blk):List HE := [.live { b with pin:=true },.live { d with own:=false,pin:=false }]
theorem HRel.two {w0:W0} {β:Nat->Pl} {h:ah} {w:World} (r:HRel w0 β h w) {i j:Nat} {b d:Blk} (hi:h i = .live b) (ho:b.own=true) (hj:h j = .live d) (hij:i ≠ j) (hcs : ∀ c ∈ b.body.cells,c.idOf=none)
  (hds : ∀ c ∈ d.body.cells,c.idOf=none) {a:Addr} (ha:(β i).base=some a):HRel ⟨w,fun g=>g=a.block,fun _=>β i⟩ (eQ β [i,j]) (hpS (mH b d)) w:=by
 have hB:w0.new a.block:=by
  have:=r.blk i b hi
  unfold BlkOk at this
  rw [ha] at this
  exact (this.2.2.2.2 ho).1
 have h0:hpS (mH b d) 0 = .live { b with pin:=true }:=rfl
 have h1:hpS (mH b d) 1 = .live { d with own:=false,pin:=false }:=rfl
 have h2 : ∀ k,2<=k->hpS (mH b d) k = .un:=fun k hk=>by rw [bV,List.getElem?_eq_none (by simpa [mH] using hk)];rfl
 have cases2 : ∀ {k:Nat} {c:Blk},hpS (mH b d) k = .live c->(k=0/\c = { b with pin:=true }) \/ (k=1/\c = { d with own:=false,pin:=false }):=by
  intro k c hk
  match k with
  | 0=>rw [h0] at hk;cases hk;exact .inl ⟨rfl,rfl⟩
  | 1=>rw [h1] at hk;cases hk;exact .inr ⟨rfl,rfl⟩
  | k+2=>rw [h2 _ (by omega)] at hk;cases hk
 have p0:eQ β [i,j] 0=β i:=rfl
 have p1:eQ β [i,j] 1=β j:=rfl
 refine ⟨Bel.refl ⟨w,_,_⟩,fun k c hk => ?_,fun k l c e hk hl hne hco heo hbase => ?_,fun k c hk x hx => ?_,fun k c hk hp => ?_,fun k c l hk=>by
  match k with
  | 0=>rw [h0] at hk;cases hk
  | 1=>rw [h1] at hk;cases hk
  | k+2=>rw [h2 _ (by omega)] at hk;cases hk⟩
 ·rcases cases2 hk with ⟨rfl,rfl⟩ | ⟨rfl,rfl⟩
  ·have hb:=r.blk i b hi
   unfold BlkOk at hb ⊢
   rw [p0]
   rw [ha] at hb ⊢
   obtain ⟨q0,q1,q2,q3,q4⟩:=hb
   refine ⟨q0,fun m c hm => ?_,fun e => ?_,q3,fun _ => ?_⟩
   ·rw [q1 m c hm]
    exact congrArg some (bX fun n hn=>by rw [hcs c (List.mem_of_getElem? hm)] at hn;cases hn)
   ·exact absurd (show b.own=false from e) (by rw [ho];simp)
   ·obtain ⟨_,r2⟩:=q4 ho
    exact ⟨.inr rfl,r2⟩
  ·have hb:=r.blk j d hj
   have hlt:=fun a' ha' hne=>hb.lt r.below (a:=a') ha' hne
   unfold BlkOk at hb ⊢
   rw [p1]
   cases hja:(β j).base with
   | none=>rw [hja] at hb;exact hb
   | some a' =>
    rw [hja] at hb
    obtain ⟨q0,q1,q2,q3,q4⟩:=hb
    refine ⟨fun h=>q0 (by
     rcases h with h | h | h
     ·exact .inl h
     ·exact .inr (.inl h)
     ·cases h),fun m c hm => ?_,fun _ hne => ?_,q3,fun e=>by cases e⟩
    ·rw [q1 m c hm]
     exact congrArg some (bX fun n hn=>by rw [hds c (List.mem_of_getElem? hm)] at hn;cases hn)
    ·rintro (h3 | h3)
     ·have:=hlt a' hja (.inr hne)
      have h3:w.heap.size<=a'.block:=h3
      omega
     ·have h3:a'.block=a.block:=h3
      cases hdo:d.own with
      | false=>exact q2 hdo hne (by rw [h3];exact hB)
      | true =>
       have:=r.sep i j b d hi hj hij ho hdo (by rw [ha];simp)
       unfold bG at this
       rw [ha,hja] at this
       exact this (by simp [h3])
 ·rcases cases2 hk with ⟨rfl,rfl⟩ | ⟨rfl,rfl⟩
  ·rcases cases2 hl with ⟨rfl,rfl⟩ | ⟨rfl,rfl⟩
   ·exact absurd rfl hne
   ·cases heo
  ·cases hco
 ·rcases cases2 hk with ⟨rfl,rfl⟩ | ⟨rfl,rfl⟩
  ·exact al (hcs x hx)
  ·exact al (hds x hx)
 ·rcases cases2 hk with ⟨rfl,rfl⟩ | ⟨rfl,rfl⟩
  ·exact p0
  ·cases hp
def nn (b:Blk) (body:Body) (rv:AV):AV->List HE->Prop:=fun v hp=>v=rv/\hpS hp 0 = .live { b with body:=body,pin:=true }
theorem vg {E:Env} {f:FuncId} {fn:Func} (hf:E.P.funcs[f]? = some fn) {c:Code} (hb:fn.body=some c) {w0:W0} {β:Nat->Pl} {h:ah} {w:World} (r:HRel w0 β h w) {i j:Nat} {b d:Blk} (hi:h i = .live b) (ho:b.own=true)
  (hj:h j = .live d) (hij:i ≠ j) (hcs : ∀ c ∈ b.body.cells,c.idOf=none) (hds : ∀ c ∈ d.body.cells,c.idOf=none) (hne:b.body.cells ≠ []) {avs:List AV} (hav : ∀ v ∈ avs,okv (hpS (mH b d)) v) {body:Body} {rv:AV}
  (hbc : ∀ c ∈ body.cells,c.idOf=none) (hrv : ∀ β' β'':Nat->Pl,β' 0=β'' 0->gv β' rv=gv β'' rv)
  (run:DoesL E (flat c) (af fn avs (mH b d)) (EndsAs E fn (nn b body rv))) :
  Calls E.P f (avs.map (gv (eQ β [i,j]))).toArray w fun e w'=>e = .returned (gv (eQ β [i,j]) rv)/\HRel w0 β (upd h i (.live { b with body:=body })) w':=by
 obtain ⟨a,ha,_⟩:=r.base_some hi (.inl hne)
 have hB:w0.new a.block:=by
  have:=r.blk i b hi
  unfold BlkOk at this
  rw [ha] at this
  exact (this.2.2.2.2 ho).1
 refine l9 hf hb (r.two hi ho hj hij hcs hds ha) hav run fun v hp hv β' w' hr' hok' => ?_
 obtain ⟨rfl,h0⟩:=hv
 have hpin:β' 0=β i:=hr'.pin 0 _ h0 rfl
 refine ⟨by rw [hrv β' (eQ β [i,j]) (by rw [hpin];rfl)],?_⟩
 have hbel:Bel ⟨w,fun g=>g=a.block,fun _=>⟨none,0,none⟩⟩ w':=⟨hr'.below.os,hr'.below.tape,hr'.below.output,hr'.below.size,hr'.below.block⟩
 refine r.wrote hi ho ha body hbel ?_ (fun c hc=>al (hbc c hc))
 have hblk:=(hr'.blk 0 _ h0).plain (β':=β) (j:=i) hpin.symm hbc
 unfold BlkOk at hblk ⊢
 rw [ha] at hblk ⊢
 obtain ⟨q0,q1,q2,q3,q4⟩:=hblk
 refine ⟨q0,q1,fun e=>absurd (show b.own=false from e) (by rw [ho];simp),q3,fun _ => ?_⟩
 obtain ⟨_,r2⟩:=q4 ho
 exact ⟨hB,r2⟩
def Lf (E:Env) (n:Nat) (fn:Func) (cs:List Code) (st:St):Tree (Option (AV × HE)):=(m9 E n cs st).bind fun q=>match q.1 with
 | .normal | .ret=>match ee E.P fn.results.toList q.2 with
  | some v => .leaf (some (v,hpS q.2.heap 0))
  | none => .fail
 | _ => .fail
theorem DoesL.wends {E:Env} (hE:EnvOk E) (n:Nat) {fn:Func} {cs:List Code} {st:St} {b:Blk} {body:Body} {rv:AV} {T:Tree (Option (AV × HE))} (e:Lf E n fn cs st=T)
  (h:T.sat fun q=>q=some (rv,.live { b with body:=body,pin:=true })):DoesL E cs st (EndsAs E fn (nn b body rv)):=by
 subst e
 refine DoesL.exec hE n ?_
 unfold Lf at h
 rw [Tree.sat_bind] at h
 refine Tree.sat_mono (fun q hq => ?_) h
 obtain ⟨e,s⟩:=q
 have fin:(match ee E.P fn.results.toList s with | some v=>Tree.leaf (some (v,hpS s.heap 0)) | none => .fail).sat (fun q=>q=some (rv,HE.live { b with body:=body,pin:=true })) -> ∃ v,ee E.P fn.results.toList s=some v/\nn b body rv v s.heap:=by
  intro h
  split at h
  ·rename_i v hv
   have h:some (v,hpS s.heap 0)=some (rv,HE.live { b with body:=body,pin:=true }):=h
   simp only [Option.some.injEq,Prod.mk.injEq] at h
   exact ⟨v,hv,h.1,h.2⟩
  ·exact h.elim
 cases e with
 | normal=>exact ⟨trivial,fin hq⟩
 | ret=>exact ⟨trivial,fin hq⟩
 | exit id=>exact hq.elim
 | goto l=>exact hq.elim
def wJ (b:Blk) (len:Nat) (kn:Bool):Option (Cond (List UInt64)) :=
 match b.body,kn with
 | .row cs,true=>match cP toU cs,Nat.beq len cs.length && Nat.beq b.esz 1 with
  | some xs,true=>some ⟨.t,xs⟩
  | _,_=>none
 | .elts .u64 xs,_=>match Nat.beq b.esz 1 with
  | true=>some ⟨.p (len=xs.length),xs⟩
  | false=>none
 | _,_=>none
def numsAs (b:Blk) (xs:List UInt64):Blk:=match b.body with
 | .row _ => { b with body := .row (xs.map .u64) }
 | _ => { b with body := .elts .u64 xs }
theorem oC {b:Blk} {len:Nat} {kn:Bool} {c:Cond (List UInt64)} (h:wJ b len kn=some c) (hp:c.pre.holds):(∀ β,((c.val.map Cell.u64).map (gc β))=b.body.cells.map (gc β))/\len=c.val.length/\b.esz=1/\(∀ x ∈ b.body.cells,x.idOf=none):=by
 unfold wJ at h
 split at h
 ·rename_i cs hbody
  split at h
  ·rename_i xs hxs hc
   cases h
   simp only [Bool.and_eq_true] at hc
   have h1:=Nat.eq_of_beq_eq_true hc.1
   have h2:=Nat.eq_of_beq_eq_true hc.2
   rw [hbody]
   refine ⟨fun β=>rg (k := .u64) hxs β,by rw [h1];exact ((m6 hxs).1).symm,h2,fun x hx => ?_⟩
   have : ∀ {cs:List Cell} {xs:List UInt64},cP toU cs=some xs -> ∀ x ∈ cs,x.idOf=none:=by
    intro cs
    induction cs with
    | nil=>intro xs _ x hx;cases hx
    | cons c cs ih =>
     intro xs h x hx
     simp only [cP] at h
     split at h
     ·rename_i y ys hy hys
      rcases List.mem_cons.1 hx with rfl | hx
      ·unfold toU at hy
       split at hy <;> first | rfl | cases hy
      ·exact ih hys x hx
     ·cases h
   exact this hxs x hx
  ·cases h
 ·rename_i xs hbody
  split at h
  ·rename_i hc
   cases h
   have h2:=Nat.eq_of_beq_eq_true hc
   rw [hbody]
   refine ⟨fun β=>rfl,hp,h2,fun x hx => ?_⟩
   simp only [Body.cells,List.mem_map] at hx
   obtain ⟨y,_,rfl⟩:=hx
   rfl
  ·cases h
 ·cases h
def Kwl (F:List UInt64->List UInt64->List UInt64):ay:=fun _ h args =>
 match args with
 | [.one (.c (.slc i 0 len 1 (.of 0) kn)),.one (.c (.slc j 0 m 1 (.of 0) kn'))]=>match aH h i,aH h j,Nat.beq i j with
  | some b,some d,false=>match b.own,wJ b len kn,wJ d m kn' with
   | true,some ⟨p,xs⟩,some ⟨q,ys⟩=>some ⟨.tup [],(p.and q).and (.p (0<xs.length/\ys.length<=xs.length/\xs.length<4294967296)),[i,j],[],[(i,.live (numsAs b (F xs ys)))]⟩
   | _,_,_=>none
  | _,_,_=>none
 | _=>none
theorem SameHE.numsAs {b:Blk} {xs:List UInt64}:SameHE (.live { b with body := .elts .u64 xs }) (.live (numsAs b xs)):=by
 unfold Go.Proofs.Ytibfppbffdedoaa.numsAs
 split
 ·exact .inr ⟨_,_,rfl,rfl,fun β=>rfl,fun c hc=>by
   simp only [Body.cells,List.mem_map] at hc
   obtain ⟨y,_,rfl⟩:=hc
   rfl⟩
 ·exact .inl rfl
theorem SameHE.upd {h:ah} {i:Nat} {x y:HE} (s:SameHE x y) : ∀ k,SameHE (Go.Proofs.Ytibfppbffdedoaa.upd h i x k) (Go.Proofs.Ytibfppbffdedoaa.upd h i y k):=fun k=>by
 by_cases e:k=i
 ·subst e;rw [ab,ab];exact s
 ·rw [ak _ _ e,ak _ _ e];exact .inl rfl
def slW (i:Nat) (xs:List UInt64):AV := .one (.c (.slc i 0 xs.length 1 (.of 0) false))
def N9 (ty ty':TypeId) (xs ys:List UInt64):List HE := [.live ⟨true,ty,1,.elts .u64 xs,true⟩,.live ⟨false,ty',1,.elts .u64 ys,false⟩]
theorem QH {E:Env} {f:Nat} {fn:Func} (hf:E.P.funcs[f]? = some fn) {c:Code} (hb:fn.body=some c) (hd:Bodied E.P f) {F:List UInt64->List UInt64->List UInt64} (hF : ∀ xs ys,(F xs ys).length=xs.length)
  (run : ∀ ty ty' xs ys,0<xs.length->ys.length<=xs.length->xs.length<4294967296->DoesL E (flat c) (af fn [slW 0 xs,slW 1 ys] (N9 ty ty' xs ys)) (EndsAs E fn (nn ⟨true,ty,1,.elts .u64 xs,true⟩ (.elts .u64 (F xs ys)) (.tup [])))) :
  CallOk E.P f (Kwl F) where
 call:=fun id h args res e hpre w0 β w r hid hok=>by
  obtain ⟨fn',h1,h2,h3⟩:=hd.fn
  unfold Kwl at e
  split at e
  ·rename_i i len kn j m kn'
   split at e
   ·rename_i b d hbi hdj hij
    split at e
    ·rename_i p xs q ys ho hx hy
     cases e
     have hp1:=Pr.and_holds hpre
     have hp2:=Pr.and_holds hp1.1
     obtain ⟨g0,g1,g2⟩:0<xs.length/\ys.length<=xs.length/\xs.length<4294967296:=hp1.2
     obtain ⟨x1,x2,x3,x4⟩:=oC hx hp2.1
     obtain ⟨y1,y2,y3,y4⟩:=oC hy hp2.2
     simp only at x1 x2 y1 y2
     have hi:=aj hbi
     have hj:=aj hdj
     have hne:i ≠ j:=Nat.ne_of_beq_eq_false hij
     have lst : ∀ (zs:List UInt64),∀ c ∈ (Body.elts .u64 zs).cells,c.idOf=none:=fun zs c hc=>by
      obtain ⟨y,_,e⟩:=List.mem_map.1 (show c ∈ zs.map EK.u64.cell from hc)
      rw [<- e]
      rfl
     have sb:SameHE (h i) (.live { b with body := .elts .u64 xs }):=by rw [hi];exact .inr ⟨_,_,rfl,rfl,x1,lst xs⟩
     have sd:SameHE (h j) (.live { d with body := .elts .u64 ys }):=by rw [hj];exact .inr ⟨_,_,rfl,rfl,y1,lst ys⟩
     have r2:HRel w0 β (upd (upd h i (.live { b with body := .elts .u64 xs })) j (.live { d with body := .elts .u64 ys })) w:=by
      refine r.sameHE fun k => ?_
      by_cases e1:k=j
      ·subst e1;rw [ab];exact sd
      ·rw [ak _ _ e1]
       by_cases e2:k=i
       ·subst e2;rw [ab];exact sb
       ·rw [ak _ _ e2];exact .inl rfl
     have hi2:upd (upd h i (.live { b with body := .elts .u64 xs })) j (.live { d with body := .elts .u64 ys }) i = .live { b with body := .elts .u64 xs }:=by rw [ak _ _ hne,ab]
     have hj2:upd (upd h i (.live { b with body := .elts .u64 xs })) j (.live { d with body := .elts .u64 ys }) j = .live { d with body := .elts .u64 ys }:=ab _ _ _
     obtain ⟨bo,bt,be,bb,bp⟩:=b
     obtain ⟨dO,dt,de,db,dp⟩:=d
     simp only at ho x3 y3
     subst ho x3 y3
     have hne2:(Body.elts .u64 xs).cells ≠ []:=by
      intro e0
      cases xs with
      | nil=>simp at g0
      | cons a l=>cases e0
     have run':=run bt dt xs ys g0 g1 g2
     have hcall:=vg hf hb r2 hi2 rfl hj2 hne (lst xs) (lst ys) hne2 (avs := [slW 0 xs,slW 1 ys]) (fun v hv=>by
      simp only [List.mem_cons,List.not_mem_nil,or_false] at hv
      rcases hv with rfl | rfl
      ·intro k hk;cases hk;show hpS (mH _ _) 0 ≠ .un;intro e;cases e
      ·intro k hk;cases hk;show hpS (mH _ _) 1 ≠ .un;intro e;cases e) (lst (F xs ys)) (rv := .tup []) (fun _ _ _=>rfl) run'
     refine .inr ⟨?_,?_⟩
     ·have h4 : fn'.name ≠ "runtime.NumGoroutine" := by simpa using h3
      simp [callFunc,h1,h4]
      intro e
      rw [e] at h2
      cases h2
     ·have hargs:([AV.one (.c (.slc i 0 len 1 (.of 0) kn)),AV.one (.c (.slc j 0 m 1 (.of 0) kn'))].map (gv β)).toArray=([slW 0 xs,slW 1 ys].map (gv (eQ β [i,j]))).toArray:=by
       have a1:gv β (AV.one (.c (.slc i 0 len 1 (.of 0) kn)))=gv (eQ β [i,j]) (slW 0 xs):=by rw [x2];rfl
       have a2:gv β (AV.one (.c (.slc j 0 m 1 (.of 0) kn')))=gv (eQ β [i,j]) (slW 1 ys):=by rw [y2];rfl
       simp only [List.map_cons,List.map_nil,a1,a2]
      rw [hargs]
      refine Calls.mono hcall fun e w' ⟨he,hr'⟩=>⟨_,he,?_⟩
      have hr2:HRel w0 β (upd h i (.live (numsAs ⟨true,bt,1,bb,bp⟩ (F xs ys)))) w':=by
       refine hr'.sameHE fun k => ?_
       by_cases e2:k=i
       ·subst e2
        rw [ab,ab]
        exact SameHE.numsAs (b:=⟨true,bt,1,bb,bp⟩) (xs:=F xs ys)
       ·rw [ak _ _ e2,ak _ _ e2]
        by_cases e1:k=j
        ·subst e1
         rw [ab,hj]
         refine .inr ⟨_,db,rfl,rfl,fun β=>(y1 β).symm,y4⟩
        ·rw [ak _ _ e1,ak _ _ e2];exact .inl rfl
      exact EffOk.same (val := .tup []) hr2 (fun v hv=>by cases hv)
    ·cases e
   ·cases e
  ·cases e
 near:=fun id h h' args res e H=>by
  unfold Kwl at e ⊢
  split at e
  ·rename_i i len kn j m kn'
   split at e
   ·rename_i b d hbi hdj hij
    have hr:res.reads = [i,j]:=by
     split at e
     ·cases e;rfl
     ·cases e
    rw [hr] at H
    have hb':aH h' i=some b:=by rw [<- am (H i (by simp))];exact hbi
    have hd':aH h' j=some d:=by rw [<- am (H j (by simp))];exact hdj
    simp only [hb',hd',hij]
    exact e
   ·cases e
  ·cases e
 wrote:=fun id h args res e=>by
  unfold Kwl at e
  split at e
  ·split at e
   ·rename_i b d hbi hdj hij
    split at e
    ·cases e
     intro p hp
     simp only [List.mem_singleton] at hp
     subst hp
     exact ⟨by simp,by rw [aj hbi];simp⟩
    ·cases e
   ·cases e
  ·cases e
end Go.Proofs.Ytibfppbffdedoaa
namespace Go.Proofs.Ytibfppbffdedoaa
open Go.RowKit
theorem G2g {α γ ρ:Type} {E:Env} {f:FuncId} {fn:Func} (hf:E.P.funcs[f]? = some fn) {c:Code} (hb:fn.body=some c) (a:Inp α) (b:Inp γ) (o:Out ρ) (F:ρ) {w:World} {v u:Value} {x:α} {y:γ} (hv:a.arg.is w v x) (hu:b.arg.is w u y)
  (h:a.fact x->b.fact y->DoesL E (flat c) (af fn [a.av 0 x,b.av (a.hes x).length y] (a.hes x++b.hes y)) (EndsAs E fn (bK o F))):Gives E.P f #[v,u] w o.res F:=by
 obtain ⟨β1,r1,e1,k1,_⟩:=a.intro (heap := []) (HRel.start w β0) (W0.of_fresh w) hv
 simp only [List.nil_append,List.length_nil] at r1 e1 k1
 obtain ⟨β2,r2,e2,k2,g2⟩:=b.intro r1 (W0.of_fresh w) hu
 have k1':=k1.grow (bz (a.hes x) (b.hes y))
 have e1':gv β2 (a.av 0 x)=v:=by rw [dN g2 k1,e1]
 have:=dZ hf hb r2 (avs := [a.av 0 x,b.av (a.hes x).length y]) (by
  intro v hv
  simp only [List.mem_cons,List.not_mem_nil,or_false] at hv
  rcases hv with rfl | rfl
  ·exact k1'
  ·exact k2) (h (a.known hv) (b.known hu))
 simpa only [List.map_cons,List.map_nil,e1',e2] using this
theorem G3g {α γ δ ρ:Type} {E:Env} {f:FuncId} {fn:Func} (hf:E.P.funcs[f]? = some fn) {c:Code} (hb:fn.body=some c) (a:Inp α) (b:Inp γ) (d:Inp δ) (o:Out ρ) (F:ρ) {w:World} {v u t:Value} {x:α} {y:γ} {z:δ} (hv:a.arg.is w v x) (hu:b.arg.is w u y) (ht:d.arg.is w t z)
  (h:a.fact x->b.fact y->d.fact z->DoesL E (flat c) (af fn [a.av 0 x,b.av (a.hes x).length y,d.av (a.hes x++b.hes y).length z] (a.hes x++b.hes y++d.hes z)) (EndsAs E fn (bK o F))):Gives E.P f #[v,u,t] w o.res F:=by
 obtain ⟨β1,r1,e1,k1,_⟩:=a.intro (heap := []) (HRel.start w β0) (W0.of_fresh w) hv
 simp only [List.nil_append,List.length_nil] at r1 e1 k1
 obtain ⟨β2,r2,e2,k2,g2⟩:=b.intro r1 (W0.of_fresh w) hu
 have k1':=k1.grow (bz (a.hes x) (b.hes y))
 have e1':gv β2 (a.av 0 x)=v:=by rw [dN g2 k1,e1]
 obtain ⟨β3,r3,e3,k3,g3⟩:=d.intro r2 (W0.of_fresh w) ht
 have k1'':=k1'.grow (bz _ (d.hes z))
 have k2'':=k2.grow (bz _ (d.hes z))
 have e1'':gv β3 (a.av 0 x)=v:=by rw [dN g3 k1',e1']
 have e2'':gv β3 (b.av (a.hes x).length y)=u:=by rw [dN g3 k2,e2]
 have:=dZ hf hb r3 (avs := [a.av 0 x,b.av (a.hes x).length y,d.av (a.hes x++b.hes y).length z]) (by
  intro v hv
  simp only [List.mem_cons,List.not_mem_nil,or_false] at hv
  rcases hv with rfl | rfl | rfl
  ·exact k1''
  ·exact k2''
  ·exact k3) (h (a.known hv) (b.known hu) (d.known ht))
 simpa only [List.map_cons,List.map_nil,e1'',e2'',e3] using this
end Go.Proofs.Ytibfppbffdedoaa
namespace Go.Proofs.Ytibfppbffdedoaa
open Go.RowKit
section
def OH (f:X × St->Option (List Nat × List Nat)) (t:Tree (X × St)):Tree (X × St):=t.bind fun r=>match f r with
 | none => .leaf r
 | some (keep,hs)=>match shrink keep hs r.2 with
  | some st => .leaf (r.1,st)
  | none => .fail
def roundP (E:Env) (n:Nat) (B:Code) (st:St) (f:X × St->Option (List Nat × List Nat)):Tree (X × St):=OH f (exec E n B st)
theorem Does.roundP {E:Env} (hE:EnvOk E) (n:Nat) {B:Code} {st:St} {R:X × St->Prop} (f:X × St->Option (List Nat × List Nat)) {T:Tree (X × St)} (e:Go.Proofs.Ytibfppbffdedoaa.roundP E n B st f=T) (h:T.sat R):Does E B st R:=fun w0 Q hR a w r=>by
 subst e
 unfold Go.Proofs.Ytibfppbffdedoaa.roundP OH at h
 rw [Tree.sat_bind] at h
 refine l8 hE n B st _ Q h (fun q hq a' w' r' => ?_) a w r
 simp only [] at hq
 split at hq
 ·exact hR _ hq a' w' r'
 ·split at hq
  ·rename_i st' hs
   exact hR _ hq a' w' (lL hs r')
  ·exact hq.elim
def L4 (st:St) (k:Nat):Nat:=match st.tmps.tr.get k with
 | some (.one (.c (.slc i _ _ _ _ _)))=>i
 | some (.one (.c (.ptr i _)))=>i
 | _=>0
def fo (keep hs slots:List Nat):X × St->Option (List Nat × List Nat):=fun r=>some (keep,hs++slots.map (L4 r.2))
def Oo (E:Env) (n:Nat) (cs:List Code) (st:St) (f:X × St->Option (List Nat × List Nat)):Tree (X × St):=OH f (m9 E n cs st)
theorem DoesL.part {E:Env} (hE:EnvOk E) (n k:Nat) (f:X × St->Option (List Nat × List Nat)) {cs:List Code} {st:St} {R:X × St->Prop} {T:Tree (X × St)} (e:Oo E n (cs.take k) st f=T)
  (h:T.sat (ThenX R fun s=>DoesL E (cs.drop k) s R)):DoesL E cs st R:=by
 subst e
 rw [<- List.take_append_drop k cs]
 refine DoesL.join (DoesL.wn (DoesL.exec hE n ?_))
 unfold Oo OH at h
 rw [Tree.sat_bind] at h
 refine Tree.sat_mono (fun q hq => ?_) h
 split at hq
 ·exact ⟨q.2,Wk.refl _,hq⟩
 ·split at hq
  ·rename_i st' hs
   exact ⟨st',Wk.shrink hs,hq⟩
  ·exact hq.elim
end
section
def kFn (n:Nat):Kd Unit where
 rd:=fun v=>match v with | .c (.fn k)=>(match Nat.beq k n with | true=>some () | false=>none) | _=>none
 av:=fun _ => .c (.fn n)
 val:=fun _=>gc β0 (.fn n)
 rd_ok:=fun v x e β=>by
  split at e
  ·split at e
   ·rename_i k hk
    rw [Nat.eq_of_beq_eq_true hk]
    rfl
   ·cases e
  ·cases e
 av_ok:=fun x β=>rfl
 av_id:=fun x h=>al rfl
structure KdL (α : Type) where
 rd:List AV->Option α
 avs:α->List AV
 vals:α->List Value
 rd_ok : ∀ vs x,rd vs=some x -> ∀ β,vs.map (gv β)=vals x
 av_ok : ∀ x β,(avs x).map (gv β)=vals x
 av_id : ∀ x h,∀ v ∈ avs x,okv h v
def KdL.nil:KdL Unit where
 rd:=fun vs=>match vs with | []=>some () | _=>none
 avs:=fun _ => []
 vals:=fun _ => []
 rd_ok:=fun vs x e β=>by
  split at e
  ·rfl
  ·cases e
 av_ok:=fun _ _=>rfl
 av_id:=fun _ _ v hv=>by cases hv
def KdL.cons {α γ:Type} (k:Kd α) (l:KdL γ):KdL (α × γ) where
 rd:=fun vs=>match vs with
  | .one v :: rest=>match k.rd v,l.rd rest with
   | some x,some y=>some (x,y)
   | _,_=>none
  | _=>none
 avs:=fun x => .one (k.av x.1) :: l.avs x.2
 vals:=fun x=>k.val x.1 :: l.vals x.2
 rd_ok:=fun vs x e β=>by
  split at e
  ·split at e
   ·rename_i h1 h2
    cases e
    simp only [List.map_cons,gv,k.rd_ok _ _ h1 β,l.rd_ok _ _ h2 β]
   ·cases e
  ·cases e
 av_ok:=fun x β=>by simp only [List.map_cons,gv,k.av_ok,l.av_ok]
 av_id:=fun x h v hv=>by
  rcases List.mem_cons.1 hv with rfl | hv
  ·exact k.av_id x.1 h
  ·exact l.av_id x.2 h v hv
def K2c {α β ρ:Type} (a:Arg α) (b:Arg β) (c:α->β->Prop) (r:Res ρ) (F:α->β->ρ):ay:=fun id h args =>
 match args with
 | [u,v]=>match a.rd h u,b.rd h v with
  | some (x,p,s),some (y,q,t)=>some ⟨r.wr id (F x y),(p.and q).and (.p (c x y)),s++t,r.new (F x y),[]⟩
  | _,_=>none
 | _=>none
theorem QI {α β' ρ:Type} {P:Program} {f:Nat} (hf:Bodied P f) {a:Arg α} {b:Arg β'} {c:α->β'->Prop} {r:Res ρ} {F:α->β'->ρ} (h : ∀ w v x u y,a.is w v x->b.is w u y->c x y->Gives P f #[v,u] w r (F x y)):CallOk P f (K2c a b c r F) where
 call:=fun id hp args res e hpre w0 β w hr hid hok=>by
  obtain ⟨fn,h1,h2,h3⟩:=hf.fn
  unfold K2c at e
  split at e
  ·rename_i u v
   split at e
   ·rename_i x p s y q t hx hy
    cases e
    have hpre:=Pr.and_holds hpre
    have hpre':=Pr.and_holds hpre.1
    exact (h w _ x _ y (a.ok hx hpre'.1 hr (hok u (by simp))) (b.ok hy hpre'.2 hr (hok v (by simp))) hpre.2).runs h1 h2 h3 hr hid
   ·cases e
  ·cases e
 near:=fun id h h' args res e H=>by
  unfold K2c at e ⊢
  split at e
  ·split at e
   ·rename_i x p s y q t hx hy
    cases e
    rw [a.near hx (fun i hi=>H i (by simp [hi])),b.near hy (fun i hi=>H i (by simp [hi]))]
   ·cases e
  ·cases e
 wrote:=fun id h args res e=>by
  unfold K2c at e
  split at e
  ·split at e
   ·cases e;simp
   ·cases e
  ·cases e
theorem G2c {α γ ρ:Type} {E:Env} {f:FuncId} {fn:Func} (hf:E.P.funcs[f]? = some fn) {c:Code} (hb:fn.body=some c) (hd:Bodied E.P f) (a:Inp α) (b:Inp γ) (k:α->γ->Prop) (o:Out ρ) (F:α->γ->ρ)
  (h : ∀ x y,a.fact x->b.fact y->k x y->DoesL E (flat c) (af fn [a.av 0 x,b.av (a.hes x).length y] (a.hes x++b.hes y)) (EndsAs E fn (bK o (F x y)))):CallOk E.P f (K2c a.arg b.arg k o.res F) :=
 QI hd fun w v x u y hv hu hk=>G2g hf hb a b o (F x y) hv hu fun h1 h2=>h x y h1 h2 hk
end
section
def ViewIs (sz:Nat) (w:World) (v:Value) (len:Nat) (vs:List Value):Prop :=
 ∃ base cap,v = .slice base len cap/\len<aD/\vs.length=len*sz/\match base with
  | none=>len=0/\cap=0
  | some a=>(len ≠ 0->a.spot=none)/\len<=cap/\(len ≠ 0->a.block<w.heap.size) /\ ∀ (i:Nat) (u:Value),vs[i]? = some u->w.cell? (a.add i)=some u
theorem ViewIs.of_view {sz:Nat} (h0:0<sz) {w0:W0} {β:Nat->Pl} {h:ah} {w:World} (r:HRel w0 β h w) {i off len:Nat} {rc:RC} {kn:Bool} {b:Blk} (hb:h i = .live b)
  (hlen:off+len*sz<=b.body.cells.length) (ht:len<aD) (hf:rc.fits off len sz b.esz):ViewIs sz w (gv β (.one (.c (.slc i off len sz rc kn)))) len (((b.body.cells.drop off).take (len*sz)).map (gc β)):=by
 have hbk:=r.blk i b hb
 have hl:(((b.body.cells.drop off).take (len*sz)).map (gc β)).length=len*sz:=by rw [List.length_map,List.length_take,List.length_drop];omega
 cases ha:(β i).base with
 | none =>
  unfold BlkOk at hbk
  rw [ha] at hbk
  rw [hbk.1] at hlen
  obtain rfl:len=0:=by
   simp at hlen
   rcases Nat.mul_eq_zero.1 (show len*sz=0 by omega) with h | h <;> omega
  exact ⟨none,0,by simp [gv,g1,gc,ha],by simp [aD],hl,rfl,rfl⟩
 | some a =>
  have hbk':=hbk
  unfold BlkOk at hbk
  rw [ha] at hbk
  obtain ⟨q0,q1,q2,q3,q4⟩:=hbk
  refine ⟨some (a.add off),rc.val (β i),by simp only [gv,g1,gc,ha],by omega,hl,fun hne => ?_,?_,fun hne => ?_,fun j u hu => ?_⟩
  ·have q0:=q0 (.inl fun e=>by
    rw [e] at hlen
    simp at hlen
    rcases Nat.mul_eq_zero.1 (show len*sz=0 by omega) with h | h <;> omega)
   unfold Addr.add
   split <;> simp_all
  ·cases rc with
   | kn n=>exact hf
   | of k =>
    obtain ⟨f1,f2⟩:=hf
    simp only [RC.val]
    have h3:=q3 (by rw [f2];omega)
    rw [f2] at h3
    have h4:(k+len)*sz<=(β i).cap*sz:=by rw [Nat.add_mul,f1];omega
    have:=Nat.le_of_mul_le_mul_right h4 h0
    omega
  ·rw [cO]
   exact hbk'.lt r.below ha (.inr fun e=>by
    rw [e] at hlen
    simp at hlen
    rcases Nat.mul_eq_zero.1 (show len*sz=0 by omega) with h | h <;> omega)
  ·refine r.read hb ha off j u ?_
   rw [List.getElem?_map,List.getElem?_take] at hu
   rw [List.getElem?_map]
   split at hu
   ·exact hu
   ·cases hu
theorem ViewIs.named {sz:Nat} (h0:0<sz) {w0:W0} {β:Nat->Pl} {heap:List HE} {w:World} (r:HRel w0 β (hpS heap) w) {v:Value} {cs:List Cell} (hw:cs ≠ [] -> ∀ b l c,v = .slice (some b) l c->w0.new b.block->w.heap.size<=b.block) {body:Body} (hbody:body.cells=cs) (hcs : ∀ c ∈ cs,c.idOf=none) {n:Nat}
  (h:ViewIs sz w v n (cs.map (gc β0))) (kn:Bool) :
  ∃ p,HRel w0 (upd β heap.length p) (hpS (heap ++ [.live ⟨false,0,sz,body,false⟩])) w/\gv (upd β heap.length p) (.one (.c (.slc heap.length 0 n sz (.of 0) kn)))=v /\
   okv (hpS (heap ++ [.live ⟨false,0,sz,body,false⟩])) (.one (.c (.slc heap.length 0 n sz (.of 0) kn))):=by
 obtain ⟨base,cap,rfl,ht,hl,hb⟩:=h
 rw [List.length_map] at hl
 refine ⟨⟨base,cap,none⟩,?_,?_,?_⟩
 ·rw [dl]
  refine r.ext (pf heap) _ _ rfl rfl (fun c hc=>al (hcs c (by rw [<- hbody];exact hc))) ?_
  unfold BlkOk
  rw [ab]
  cases base with
  | none =>
   obtain ⟨rfl,rfl⟩:=hb
   rw [Nat.zero_mul] at hl
   exact ⟨by rw [hbody];exact List.length_eq_zero_iff.1 hl,rfl,by simp only;omega⟩
  | some a =>
   obtain ⟨b0,b1,b2,b3⟩:=hb
   refine ⟨fun h=>b0 (by
    rcases h with h | h | h
    ·rintro rfl
     rw [Nat.zero_mul] at hl
     exact h (by show body.cells = [];rw [hbody];exact List.length_eq_zero_iff.1 hl)
    ·have h:sz=0:=h
     omega
    ·cases h),fun i c hc => ?_,fun _ hne => ?_,fun _=>by simp only [hbody,hl];exact Nat.mul_le_mul_right _ b1,fun e=>by cases e⟩
   ·simp only [hbody] at hc
    rw [b3 i (gc β0 c) (by rw [List.getElem?_map,hc];rfl)]
    exact congrArg some (bX fun j hj=>by rw [hcs c (List.mem_of_getElem? hc)] at hj;cases hj)
   ·simp only [hbody] at hne
    have:=b2 (by
     rintro rfl
     rw [Nat.zero_mul] at hl
     exact hne (List.length_eq_zero_iff.1 hl))
    intro hnew
    have:=hw hne _ _ _ rfl hnew
    omega
 ·simp only [gv,g1,gc,ab]
  cases base with
  | none =>
   obtain ⟨rfl,rfl⟩:=hb
   rfl
  | some a =>
   have b0:=hb.1
   simp only [RC.val,Nat.sub_zero]
   rw [dQ b0]
 ·intro i hi
  cases hi
  rw [dl,ab]
  simp
def GE (k k':RK) (xs:List k'.ty):Option (List k.ty) :=
 match k,k',xs with
 | .fr,.fr,xs=>some xs
 | .g1,.g1,xs=>some xs
 | .g2,.g2,xs=>some xs
 | .duo,.duo,xs=>some xs
 | .sp1,.sp1,xs=>some xs
 | .sp2,.sp2,xs=>some xs
 | .rw,.rw,xs=>some xs
 | .ip,.ip,xs=>some xs
 | .st,.st,xs=>some xs
 | _,_,_=>none
theorem zF {k k':RK} {xs:List k'.ty} {ys:List k.ty} (h:GE k k' xs=some ys):ac k' xs=ac k ys/\ys.length=xs.length/\k=k':=by
 cases k <;> cases k' <;> simp [GE] at h <;> subst h <;> exact ⟨rfl,rfl,rfl⟩
def Mf (k:RK) (h:ah) (v:AV):Option (List k.ty × Pr × List Nat) :=
 match v with
 | .one (.c .nils)=>some ([],.t,[])
 | .one (.c (.slc i off len sz rc kn))=>match Nat.beq sz k.sz,aH h i with
  | true,some b=>match b.body with
   | .rows k' xs=>match GE k k' xs with
    | some ys=>some ((ys.drop (off / sz)).take len,.p (off+len*sz<=(ac k' xs).length/\off % sz=0/\len<aD/\rc.fits off len sz b.esz),[i])
    | none=>none
   | .row cs=>match kn with
    | true=>match kY k len ((cs.drop off).take (len*sz)) with
     | some ys=>match leB (off+len*sz) cs.length,Nat.blt len aD,rc.fitsB off len sz b.esz with
      | true,true,true=>some (ys,.t,[i])
      | _,_,_=>none
     | none=>none
    | false=>none
   | .elts _ _=>none
  | _,_=>none
 | _=>none
def RwIs (k:RK) (w:World) (v:Value) (xs:List k.ty):Prop:=ViewIs k.sz w v xs.length ((ac k xs).map (gc β0))
def aB (k:RK):Arg (List k.ty) where
 rd:=Mf k
 is:=RwIs k
 ok:=fun {w0 β h w v x p rs} e hp hr hok=>by
  unfold Mf at e
  split at e
  ·cases e
   exact ⟨none,0,rfl,by simp [aD],by simp [ac],rfl,rfl⟩
  ·rename_i i off len sz rc kn
   split at e
   ·rename_i b hsz hb
    have hsz:=Nat.eq_of_beq_eq_true hsz
    subst hsz
    have hb:=aj hb
    split at e
    ·rename_i k' xs hbody
     split at e
     ·rename_i ys hys
      cases e
      obtain ⟨c1,c2,rfl⟩:=zF hys
      obtain ⟨h1,h2,h3,h4⟩:=hp
      have hv:=ViewIs.of_view (kn:=kn) k.sz_pos hr hb (by rw [hbody];exact h1) h3 h4
      have e0:off=off / k.sz*k.sz:=by
       have:=Nat.div_add_mod off k.sz
       rw [h2,Nat.mul_comm] at this
       omega
      have e1:(ac k ys).length=ys.length*k.sz:=aY k ys
      have hlen:((ys.drop (off / k.sz)).take len).length=len:=by
       rw [List.length_take,List.length_drop]
       rw [c1,e1] at h1
       have:(off / k.sz+len)*k.sz<=ys.length*k.sz:=by rw [Nat.add_mul,<- e0];exact h1
       have:=Nat.le_of_mul_le_mul_right this k.sz_pos
       omega
      have e2:((b.body.cells.drop off).take (len*k.sz))=ac k ((ys.drop (off / k.sz)).take len):=by
       rw [<- iQ,<- iR,<- e0,hbody]
       exact congrArg (fun z=>(z.drop off).take (len*k.sz)) c1
      unfold RwIs
      rw [hlen,<- fC k _ β,<- e2]
      exact hv
     ·cases e
    ·rename_i cs hbody
     split at e
     ·split at e
      ·rename_i ys hys
       split at e
       ·rename_i h1 h2 h3
        cases e
        have hv:=ViewIs.of_view (kn:=true) k.sz_pos hr hb (by rw [hbody];exact aT h1) (Nat.le_of_ble_eq_true h2) (RC.fits_of h3)
        obtain ⟨r1,r2⟩:=fk k β hys
        unfold RwIs
        rw [r2,<- r1]
        rw [hbody] at hv
        exact hv
       ·cases e
      ·cases e
     ·cases e
    ·cases e
   ·cases e
  ·cases e
 near:=fun {h h' v x p rs} e H=>by
  unfold Mf at e ⊢
  split at e
  ·exact e
  ·rename_i i off len sz rc kn
   split at e
   ·rename_i b hsz hb
    have hi:h i=h' i:=H i (by
     split at e
     ·split at e
      ·cases e;simp
      ·cases e
     ·split at e
      ·split at e
       ·split at e
        ·cases e;simp
        ·cases e
       ·cases e
      ·cases e
     ·cases e)
    have:aH h' i=aH h i:=by unfold aH;rw [hi]
    simp only [this,hsz,hb]
    exact e
   ·cases e
  ·cases e
def bh (k:RK) (xs:List k.ty):HE := .live ⟨false,0,k.sz,.rows k xs,false⟩
def rwV (k:RK) (i:Nat) (xs:List k.ty):AV := .one (.c (.slc i 0 xs.length k.sz (.of 0) false))
def cI (k:RK):Inp (List k.ty) where
 arg:=aB k
 av:=fun n x=>rwV k n x
 hes:=fun x => [bh k x]
 fact:=fun x=>x.length<aD
 known:=fun {w v x} h=>by obtain ⟨_,_,_,h,_⟩:=h;exact h
 intro:=fun {w0 β heap w v x} hr hw hv=>by
  obtain ⟨p,h1,h2,h3⟩:=ViewIs.named (body := .rows k x) (cs:=ac k x) k.sz_pos hr (fun _ b _ _ _=>hw b.block) rfl (cM k x) hv false
  exact ⟨_,h1,h2,h3,fun i hi=>ak _ _ (by omega)⟩
def NewSlE (sz:Nat) (ty:TypeId) (w w':World) (v:Value) (len:Nat) (vs:List Value):Prop :=
 ∃ base cap,v = .slice base len cap/\vs.length=len*sz/\match base with
  | none=>len=0/\cap=0
  | some a=>a.off=0/\a.spot=none/\w.heap.size<=a.block /\ ∃ cur,w'.heap[a.block]? = some (.cells cur ty (0,0))/\cur.size=cap*sz/\cap<=maxLen/\len<=cap /\
    ∀ (i:Nat) (u:Value),vs[i]? = some u->cur[i]? = some u
theorem NewSlE.effO (oth:Option (Addr × Nat × Nat)) {sz:Nat} (h0:0<sz) {ty:TypeId} {w w':World} {v:Value} {cs:List Cell} {n:Nat} (hf:NewSlE sz ty w w' v n (cs.map (gc β0))) {w0:W0} {β:Nat->Pl} {h:ah} (hr:HRel w0 β h w) {id:Nat} (hid:h id = .un) (hb:Below w.heap.size w w')
  {body:Body} (hbody:body.cells=cs) (hcs : ∀ c ∈ cs,c.idOf=none) (kn:Bool) :
  ∃ p:Pl,p.oth=oth/\v=gv (upd β id p) (.one (.c (.slc id 0 n sz (.of 0) kn)))/\HRel w0 (upd β id p) (eg h (oE id [⟨true,ty,sz,body,false⟩])) w'/\okv (eg h (oE id [⟨true,ty,sz,body,false⟩])) (.one (.c (.slc id 0 n sz (.of 0) kn))):=by
 obtain ⟨base,cap,rfl,hl,hbase⟩:=hf
 rw [List.length_map] at hl
 have hok:okv (eg h (oE id [⟨true,ty,sz,body,false⟩])) (.one (.c (.slc id 0 n sz (.of 0) kn))):=by
  intro i hi
  cases hi
  simp [oE,eg,ab]
 cases base with
 | none =>
  obtain ⟨rfl,rfl⟩:=hbase
  rw [Nat.zero_mul] at hl
  exact ⟨⟨none,0,oth⟩,rfl,by simp [gv,g1,gc,ab],hr.newNil hid hb ty sz (by omega) body (by rw [hbody];exact List.length_eq_zero_iff.1 hl),hok⟩
 | some a =>
  obtain ⟨h1,h2,h3,cur,h4,h5,h6,h7,h8⟩:=hbase
  have ha:a=⟨a.block,0,none⟩:=by cases a;simp_all
  refine ⟨⟨some ⟨a.block,0,none⟩,cap,oth⟩,rfl,?_,?_,hok⟩
  ·simp only [gv,g1,gc,ab,RC.val,Nat.sub_zero]
   rw [<- ha,dQ h2]
  ·refine hr.new hid hb a.block cap ty sz body cur h3 h4 (fun i c hc => ?_) (by rw [hbody,h5,hl];exact Nat.mul_le_mul_right _ h7) (fun _=>⟨h5,h6⟩) (fun e=>by omega) (fun c hc=>al (hcs c (by rw [<- hbody];exact hc)))
   rw [hbody] at hc
   rw [h8 i (gc β0 c) (by rw [List.getElem?_map,hc];rfl)]
   exact congrArg some (bX fun j hj=>by rw [hcs c (List.mem_of_getElem? hc)] at hj;cases hj)
theorem NewSlE.eff {sz:Nat} (h0:0<sz) {ty:TypeId} {w w':World} {v:Value} {cs:List Cell} {n:Nat} (hf:NewSlE sz ty w w' v n (cs.map (gc β0))) {w0:W0} {β:Nat->Pl} {h:ah} (hr:HRel w0 β h w) {id:Nat} (hid:h id = .un) (hb:Below w.heap.size w w')
  {body:Body} (hbody:body.cells=cs) (hcs : ∀ c ∈ cs,c.idOf=none) (kn:Bool) :
  EffOk w0 β h id (.one (.c (.slc id 0 n sz (.of 0) kn))) (oE id [⟨true,ty,sz,body,false⟩]) v w':=by
 obtain ⟨p,_,h⟩:=NewSlE.effO none h0 hf hr hid hb hbody hcs kn
 exact .one hid p h.1 h.2.1 h.2.2
theorem NewSlE.of_own {sz:Nat} (h0:0<sz) {w w':World} {β:Nat->Pl} {hp:ah} (hr:HRel (.of w) β hp w') {i:Nat} {ty:TypeId} {body:Body} {pin:Bool} (hi:hp i = .live ⟨true,ty,sz,body,pin⟩) {len:Nat} {kn:Bool}
  (hlen:len*sz<=body.cells.length) :
  NewSlE sz ty w w' (gv β (.one (.c (.slc i 0 len sz (.of 0) kn)))) len ((body.cells.take (len*sz)).map (gc β)):=by
 have hb:=hr.blk i _ hi
 unfold BlkOk at hb
 have hl:((body.cells.take (len*sz)).map (gc β)).length=len*sz:=by rw [List.length_map,List.length_take];omega
 cases ha:(β i).base with
 | none =>
  rw [ha] at hb
  have e0:body.cells = []:=hb.1
  rw [e0] at hlen
  obtain rfl:len=0:=by
   have hz:len*sz=0:=Nat.le_zero.1 hlen
   rcases Nat.mul_eq_zero.1 hz with h | h
   ·exact h
   ·omega
  exact ⟨none,0,by simp [gv,g1,gc,ha],hl,rfl,rfl⟩
 | some a =>
  rw [ha] at hb
  obtain ⟨q0,q1,q2,q3,q4⟩:=hb
  obtain ⟨r1,r2,cur,r3,r4,r5,r6⟩:=q4 rfl
  simp only [] at r3 r4 r5 r6
  have hadd:a.add 0=a:=by unfold Addr.add;split <;> simp_all
  obtain ⟨s1,s2⟩:=r5 (by omega)
  have hcap:len<=(β i).cap:=by
   rw [s1] at r4
   exact Nat.le_of_mul_le_mul_right (Nat.le_trans hlen r4) h0
  refine ⟨some a,(β i).cap,by simp only [gv,g1,gc,ha,hadd,RC.val,Nat.sub_zero],hl,r2,q0 (.inr (.inr rfl)),r1.elim id False.elim,cur,r3,s1,s2,hcap,fun j u hu => ?_⟩
  have hjl:j<len*sz:=by
   rcases Nat.lt_or_ge j (len*sz) with h | h
   ·exact h
   ·rw [List.getElem?_eq_none (by rw [hl];exact h)] at hu;cases hu
  rw [List.getElem?_map,List.getElem?_take,if_pos hjl] at hu
  cases hc:body.cells[j]? with
  | none=>rw [hc] at hu;cases hu
  | some c =>
   rw [hc] at hu
   cases hu
   have:=q1 j c hc
   unfold World.cell? at this
   rw [cO,r3] at this
   have hsp:(a.add j).spot=none:=by unfold Addr.add;split <;> simp_all
   have hoff:(a.add j).off=j:=by unfold Addr.add;split <;> simp_all
   simp only [hsp,Option.isSome_none,Bool.false_eq_true,if_false,hoff] at this
   exact this
def Ra (k:RK) (ty:TypeId):Res (List k.ty) where
 wr:=fun id xs => .one (.c (.slc id 0 xs.length k.sz (.of 0) false))
 new:=fun xs => [⟨true,ty,k.sz,.rows k xs,false⟩]
 is:=fun w w' v xs=>NewSlE k.sz ty w w' v xs.length ((ac k xs).map (gc β0))
 ok:=fun {w0 β h w w' id v x} hr hid hb hf=>NewSlE.eff k.sz_pos hf hr hid.1 hb rfl (cM k x) false
theorem NewSlE.nil (sz:Nat) (ty:TypeId) (w w':World):NewSlE sz ty w w' (.slice none 0 0) 0 []:=⟨none,0,rfl,by simp,rfl,rfl⟩
def Oq (k:RK) (ty:TypeId):Out (List k.ty) where
 res:=Ra k ty
 rd:=fun hp v=>match v with
  | .one (.c .nils)=>some ([],.t)
  | .one (.c (.slc i 0 len sz (.of 0) kn))=>match hpS hp i with
   | .live ⟨true,ty',esz,body,pin⟩=>match Nat.beq ty' ty && Nat.beq sz k.sz && Nat.beq esz k.sz with
    | true=>match body with
     | .rows k' xs=>match GE k k' xs with
      | some ys=>some (ys.take len,.p (len<=ys.length))
      | none=>none
     | .row cs=>match kn with
      | true=>match kY k len (cs.take (len*k.sz)),leB (len*k.sz) cs.length with
       | some ys,true=>some (ys,.t)
       | _,_=>none
      | false=>none
     | .elts _ _=>none
    | false=>none
   | _=>none
  | _=>none
 ok:=fun {w β hp w' v x p} e hp' hr hok=>by
  split at e
  ·cases e
   exact NewSlE.nil _ _ _ _
  ·rename_i i len sz kn
   split at e
   ·rename_i ty' esz body pin hi
    split at e
    ·rename_i hc
     simp only [Bool.and_eq_true] at hc
     have c1:=Nat.eq_of_beq_eq_true hc.1.1
     have c2:=Nat.eq_of_beq_eq_true hc.1.2
     have c3:=Nat.eq_of_beq_eq_true hc.2
     subst c1 c2 c3
     split at e
     ·rename_i k' xs
      split at e
      ·rename_i ys hys
       cases e
       obtain ⟨d1,d2,rfl⟩:=zF hys
       have hle:len<=ys.length:=hp'
       have hv:=NewSlE.of_own (kn:=kn) k.sz_pos hr hi (len:=len) (by
        show len*k.sz<=(ac k xs).length
        rw [d1,aY]
        exact Nat.mul_le_mul_right _ hle)
       have e2:((Body.rows k xs).cells.take (len*k.sz))=ac k (ys.take len):=by
        rw [<- iQ]
        exact congrArg (fun z=>z.take (len*k.sz)) d1
       rw [e2,fC] at hv
       show NewSlE k.sz ty' w w' _ (ys.take len).length _
       rw [show (ys.take len).length=len by rw [List.length_take];omega]
       exact hv
      ·cases e
     ·rename_i cs
      split at e
      ·split at e
       ·rename_i ys hys hl
        cases e
        have hv:=NewSlE.of_own (kn:=true) k.sz_pos hr hi (len:=len) (aT hl)
        obtain ⟨r1,r2⟩:=fk k β hys
        show NewSlE k.sz ty' w w' _ x.length _
        rw [r2,<- r1]
        exact hv
       ·cases e
      ·cases e
     ·cases e
    ·cases e
   ·cases e
  ·cases e
theorem aE (xs:List Fr):(ac .fr xs).length=xs.length*4:=aY .fr xs
theorem eK (xs:List Pg1):(ac .g1 xs).length=xs.length*13:=aY .g1 xs
theorem nW (xs:List Sp1):(ac .sp1 xs).length=xs.length*18:=aY .sp1 xs
theorem DoesL.scopeFnG {ρ:Type} {E:Env} {o:Out ρ} {fn:Func} {cs tail:List Code} {body rest:Code} {l:Nat} (hE:EnvOk E) (he:cs = .scope body :: tail) (hf:findLabel body l=some rest) (k:Nat)
  (hk:flat rest = .skip :: (flat body).drop k)
  {st:St} {ι:Type} (I:ι->St) (m:ι->Nat) (i0:ι) {x:ρ} (h0:DoesL E ((flat body).take k) st fun r=>match r.1 with | .normal=>r.2=I i0 | _=>False)
  (h : ∀ i,DoesL E ((flat body).drop k) (I i) (Within E fn o x (Wn fun r=>match r.1 with | .goto l'=>l'=l /\ ∃ j,m j<m i/\r.2=I j | _=>False))) :
  DoesL E cs st (EndsAs E fn (bK o x)):=by
 subst he
 show Does E _ _ _
 have each : ∀ i,DoesL E ((flat body).drop k) (I i) fun r=>match r.1 with | .goto l'=>l'=l /\ ∃ j,m j<m i/\r.2=I j | _=>ThenX (EndsAs E fn (bK o x)) (fun s=>DoesL E tail s (EndsAs E fn (bK o x))) r:=by
  intro i
  refine DoesL.wn (DoesL.mono (h i) fun r hr => ?_)
  obtain ⟨e,s⟩:=r
  cases e with
  | ret=>exact Wn.of hr
  | normal=>obtain ⟨s',h1,h2⟩:=hr;exact h2.elim
  | exit id=>obtain ⟨s',h1,h2⟩:=hr;exact h2.elim
  | goto l'=>exact hr
 refine Does.scope hf I m (m i0) (Does.flat _ ?_) fun i=>Does.flat _ (by rw [hk];exact DoesL.skip hE (each i))
 rw [<- List.take_append_drop k (flat body)]
 refine DoesL.join (DoesL.mono h0 fun r hr => ?_)
 obtain ⟨e,s⟩:=r
 cases e with
 | normal =>
  simp only at hr
  subst hr
  exact each i0
 | exit id=>exact hr.elim
 | goto l'=>exact hr.elim
 | ret=>exact hr.elim
theorem DoesL.segW {ρ:Type} {E:Env} (hE:EnvOk E) {o:Out ρ} (n k:Nat) {fn:Func} {cs:List Code} {st:St} (keep hs:List Nat) (gs:List (Nat × G)) (bs:List GB) (news:List (TypeId × NK)) {x:ρ} {R:X × St->Prop} {T:Tree (St ⊕ Option (ρ × Pr))}
  (e:CS E o n fn (cs.take k) st keep hs gs bs news=T) (h:T.sat (Seg (fun s=>DoesL E (cs.drop k) s (Within E fn o x R)) x)):DoesL E cs st (Within E fn o x R):=by
 subst e
 unfold CS at h
 rw [Tree.sat_bind] at h
 have h1:=DoesL.iter (o:=o) (fn:=fn) (x:=x) (R:=fun r=>match r.1 with | .normal=>DoesL E (cs.drop k) r.2 (Within E fn o x R) | _=>False) hE n (cs:=cs.take k) (st:=st) keep hs rfl (Tree.sat_mono (fun q hq=>by
  cases q with
  | inl r =>
   obtain ⟨e,s⟩:=r
   cases e with
   | normal =>
    simp only at hq
    split at hq
    ·rename_i s' hs'
     exact DoesL.wk (Wk.gen hs') hq
    ·exact hq.elim
   | exit id=>exact hq.elim
   | goto l=>exact hq.elim
   | ret=>exact hq.elim
  | inr a=>exact hq) h)
 rw [<- List.take_append_drop k cs]
 refine DoesL.join (DoesL.wn (DoesL.mono h1 fun r hr => ?_))
 obtain ⟨e,s⟩:=r
 cases e with
 | normal=>exact hr
 | ret=>exact Wn.of hr
 | exit id=>obtain ⟨s',q1,q2⟩:=hr;exact q2.elim
 | goto l=>obtain ⟨s',q1,q2⟩:=hr;exact q2.elim
def iterP {ρ:Type} (E:Env) (o:Out ρ) (n:Nat) (fn:Func) (cs:List Code) (st:St) (f:X × St->Option (List Nat × List Nat)):Tree ((X × St) ⊕ Option (ρ × Pr)):=(m9 E n cs st).bind fun q=>match q.1 with
 | .ret=>match ee E.P fn.results.toList q.2 with
  | some v => .leaf (.inr (o.rd q.2.heap v))
  | none => .fail
 | x=>match f q with
  | some (keep,hs)=>match shrink keep hs q.2 with
   | some st => .leaf (.inl (x,st))
   | none => .fail
  | none => .leaf (.inl (x,q.2))
theorem DoesL.iterP {ρ:Type} {E:Env} (hE:EnvOk E) {o:Out ρ} (n:Nat) {fn:Func} {cs:List Code} {st:St} (f:X × St->Option (List Nat × List Nat)) {x:ρ} {R:X × St->Prop} {T:Tree ((X × St) ⊕ Option (ρ × Pr))}
  (e:Go.Proofs.Ytibfppbffdedoaa.iterP E o n fn cs st f=T) (h:T.sat (OV R x)):DoesL E cs st (Within E fn o x (Wn R)):=by
 subst e
 refine DoesL.exec hE n ?_
 unfold Go.Proofs.Ytibfppbffdedoaa.iterP at h
 rw [Tree.sat_bind] at h
 refine Tree.sat_mono (fun q hq => ?_) h
 obtain ⟨e,s⟩:=q
 have other:(match f (e,s) with
  | some (keep,hs)=>match shrink keep hs s with | some st=>Tree.leaf (Sum.inl (e,st)) | none => .fail
  | none => .leaf (.inl (e,s))).sat (OV (ρ:=ρ) R x)->Wn R (e,s):=by
  intro h
  split at h
  ·split at h
   ·rename_i s' hs'
    exact ⟨s',Wk.shrink hs',h⟩
   ·exact h.elim
  ·exact ⟨s,Wk.refl s,h⟩
 cases e with
 | normal=>exact other hq
 | exit id=>exact other hq
 | goto l=>exact other hq
 | ret =>
  simp only [] at hq
  split at hq
  ·rename_i v hv
   exact ⟨trivial,v,hv,hq⟩
  ·exact hq.elim
theorem AD {α:Type} (d:α) : ∀ (xs:List α) (n:Nat),xs.length=n->(List.range n).map (fun i=>xs.getD i d)=xs:=by
 intro xs n h
 subst h
 refine List.ext_getElem (by simp) fun i h1 h2 => ?_
 simp [List.getD,h2]
def gn {α:Type} (f:Nat->α):List α := [f 0,f 1,f 2,f 3,f 4,f 5,f 6,f 7,f 8,f 9,f 10,f 11,f 12,f 13,f 14,f 15]
theorem An {α:Type} (f:Nat->α):gn f=(List.range 16).map f:=rfl
structure Tab (k : RK) where
 xs:List k.ty
 len:xs.length=16
theorem Tab.cells {k:RK} (x:Tab k):gn (fun i=>x.xs.getD i k.d)=x.xs:=by
 rw [An]
 exact AD _ _ _ x.len
instance tabRow (k : RK) : Row (Tab k) where
 rd:=fun cs=>match h:kY k 16 cs with
  | some xs=>some ⟨xs,(fk k β0 h).2⟩
  | none=>none
 cs:=fun x=>ac k (gn fun i=>x.xs.getD i k.d)
 rd_ok:=fun {cs x} h β=>by
  split at h
  ·rename_i xs hx
   cases h
   rw [(fk k β hx).1]
   exact congrArg (fun z=>(ac k z).map (gc β0)) (Tab.cells (⟨xs,(fk k β0 hx).2⟩:Tab k)).symm
  ·cases h
 cs_ok:=fun x β=>fC k _ β
 cs_id:=fun x=>cM k _
theorem bf (xs:List Fr):0+xs.length*4<=(ac RK.fr xs).length/\0<4:=⟨by rw [aE];omega,by decide⟩
theorem gh {xs:List Fr} {n:Nat} (h:n<xs.length):((0:Int)<=(n:Int)/\(n:Int)<(xs.length:Int))/\0+xs.length*4<=(ac RK.fr xs).length/\0<4/\0=0:=⟨⟨by omega,by omega⟩,by rw [aE];omega,by decide,rfl⟩
theorem pV {xs:List Fr} {n:Nat} (h:n<xs.length):0+(n:Int).toNat<xs.length:=by omega
theorem bN {xs:List Fr} (h:xs.length<aD):0+xs.length*4<=(ac RK.fr xs).length/\0=0/\xs.length<1125899906842624/\0=0/\4=4:=⟨by rw [aE];omega,rfl,h,rfl,rfl⟩
theorem lH {xs:List Fr} {c:Nat} (h:xs.length=c):List.take (iV c (4 / 4)) (List.drop 0 xs)=xs:=by
 rw [gL,List.drop_zero,<- h,Nat.div_self (by decide),Nat.mul_one,List.take_length]
theorem ap {xs:List Fr} {c:Nat} (h:xs.length=c):List.take c (List.drop 0 xs)=xs:=by
 rw [List.drop_zero,<- h,List.take_length]
theorem vD (xs:List Pg1):0+xs.length*13<=(ac RK.g1 xs).length/\0<13:=⟨by rw [eK];omega,by decide⟩
theorem CC {xs:List Pg1} {n:Nat} (h:n<xs.length):((0:Int)<=(n:Int)/\(n:Int)<(xs.length:Int))/\0+xs.length*13<=(ac RK.g1 xs).length/\0<13/\0=0:=⟨⟨by omega,by omega⟩,by rw [eK];omega,by decide,rfl⟩
theorem vE {xs:List Pg1} (h:xs.length<aD):0+xs.length*13<=(ac RK.g1 xs).length/\0=0/\xs.length<1125899906842624/\0=0/\13=13:=⟨by rw [eK];omega,rfl,h,rfl,rfl⟩
theorem zY {xs:List Pg1} {c:Nat} (h:xs.length=c):List.take (iV c (13 / 13)) (List.drop 0 xs)=xs:=by
 rw [gL,List.drop_zero,<- h,Nat.div_self (by decide),Nat.mul_one,List.take_length]
theorem xc {xs:List Pg1} {c:Nat} (h:xs.length=c):List.take c (List.drop 0 xs)=xs:=by
 rw [List.drop_zero,<- h,List.take_length]
end
section
def A4 (b:Blk):List HE := [.live { b with pin:=true }]
theorem HRel.one {w0:W0} {β:Nat->Pl} {h:ah} {w:World} (r:HRel w0 β h w) {i:Nat} {b:Blk} (hi:h i = .live b) (ho:b.own=true) (hcs : ∀ c ∈ b.body.cells,c.idOf=none)
  {a:Addr} (ha:(β i).base=some a):HRel ⟨w,fun g=>g=a.block,fun _=>β i⟩ (eQ β [i]) (hpS (A4 b)) w:=by
 have h0:hpS (A4 b) 0 = .live { b with pin:=true }:=rfl
 have h2 : ∀ k,1<=k->hpS (A4 b) k = .un:=fun k hk=>by rw [bV,List.getElem?_eq_none (by simpa [A4] using hk)];rfl
 have case1 : ∀ {k:Nat} {c:Blk},hpS (A4 b) k = .live c->k=0/\c = { b with pin:=true }:=by
  intro k c hk
  match k with
  | 0=>rw [h0] at hk;cases hk;exact ⟨rfl,rfl⟩
  | k+1=>rw [h2 _ (by omega)] at hk;cases hk
 have p0:eQ β [i] 0=β i:=rfl
 refine ⟨Bel.refl ⟨w,_,_⟩,fun k c hk => ?_,fun k l c e hk hl hne hco heo hbase => ?_,fun k c hk x hx => ?_,fun k c hk hp => ?_,fun k c l hk=>by
  match k with
  | 0=>rw [h0] at hk;cases hk
  | k+1=>rw [h2 _ (by omega)] at hk;cases hk⟩
 ·obtain ⟨rfl,rfl⟩:=case1 hk
  have hb:=r.blk i b hi
  unfold BlkOk at hb ⊢
  rw [p0]
  rw [ha] at hb ⊢
  obtain ⟨q0,q1,q2,q3,q4⟩:=hb
  refine ⟨q0,fun m c hm => ?_,fun e => ?_,q3,fun _ => ?_⟩
  ·rw [q1 m c hm]
   exact congrArg some (bX fun n hn=>by rw [hcs c (List.mem_of_getElem? hm)] at hn;cases hn)
  ·exact absurd (show b.own=false from e) (by rw [ho];simp)
  ·obtain ⟨_,r2⟩:=q4 ho
   exact ⟨.inr rfl,r2⟩
 ·obtain ⟨rfl,rfl⟩:=case1 hk
  obtain ⟨rfl,rfl⟩:=case1 hl
  exact absurd rfl hne
 ·obtain ⟨rfl,rfl⟩:=case1 hk
  exact al (hcs x hx)
 ·obtain ⟨rfl,rfl⟩:=case1 hk
  exact p0
theorem Does.cond {E:Env} {c:Operand} {x y:Code} {st:St} {p:Bool} {R:X × St->Prop} (hc:evS st.tmps c=some (.one (.c (.bool p)))) (h1:p=true->Does E x ⟨refine st.tmps c .tt,st.heap⟩ R) (h2:p=false->Does E y ⟨refine st.tmps c .ff,st.heap⟩ R) :
  Does E (.cond c x y) st R:=fun w0 Q hR a w r=>by
 obtain ⟨β,k1,k2⟩:=r
 have he:a.eval c = .bool p:=by have:=(pj k2 c _ hc).1;rw [<- this];rfl
 have hr:=qz ⟨β,k1,k2⟩ hc
 refine wp_cond_split he (fun e => ?_) (fun e => ?_)
 ·subst e
  exact h1 rfl w0 Q hR a w hr
 ·subst e
  exact h2 rfl w0 Q hR a w hr
theorem DoesL.cond {E:Env} {c:Operand} {x y:Code} {cs rest:List Code} {st:St} {p:Bool} {R:X × St->Prop} (e:cs = .cond c x y :: rest) (hc:evS st.tmps c=some (.one (.c (.bool p))))
  (h1:p=true->DoesL E (flat x) ⟨refine st.tmps c .tt,st.heap⟩ (ThenX R fun s=>DoesL E rest s R)) (h2:p=false->DoesL E (flat y) ⟨refine st.tmps c .ff,st.heap⟩ (ThenX R fun s=>DoesL E rest s R)):DoesL E cs st R:=by
 subst e
 exact Does.cond hc (fun k=>Does.flat x (h1 k)) (fun k=>Does.flat y (h2 k))
theorem EndsAs.ret {E:Env} {fn:Func} {S:AV->List HE->Prop} {K:St->Prop} : ∀ r,(match r.1 with | .ret=>EndsAs E fn S r | _=>False)->ThenX (EndsAs E fn S) K r:=by
 rintro ⟨e,s⟩ h
 cases e with
 | ret=>exact h
 | normal=>exact h.elim
 | exit id=>exact h.elim
 | goto l=>exact h.elim
theorem DoesL.whole {ρ:Type} {E:Env} {o:Out ρ} {fn:Func} {cs:List Code} {st:St} {x:ρ} (h:DoesL E cs st (Within E fn o x (fun r=>match r.1 with | .normal=>EndsAs E fn (bK o x) r | _=>False))):DoesL E cs st (EndsAs E fn (bK o x)) :=
 DoesL.mono h fun r hr=>by
  obtain ⟨e,s⟩:=r
  cases e with
  | ret=>exact hr
  | normal=>exact hr
  | exit id=>exact hr.elim
  | goto l=>exact hr.elim
def Tree.outV {ρ:Type}:Tree (Option (ρ × Pr))->Option ρ
 | .leaf (some (x,_))=>some x
 | .br b x y=>match b with | true=>x.outV | false=>y.outV
 | .vc _ x=>x.outV
 | _=>none
def Tree.okAll {ρ:Type}:Tree (Option (ρ × Pr))->Prop
 | .leaf (some (_,p))=>p.holds
 | .br b x y=>(b=true->x.okAll)/\(b=false->y.okAll)
 | .vc p x=>p/\x.okAll
 | _=>True
theorem Tree.out_sat {ρ:Type} {y:ρ} : ∀ {x:Tree (Option (ρ × Pr))},x.outV=some y->x.okAll->x.sat fun q => ∃ p,q=some (y,p)/\p.holds
 | .leaf none,h,_=>by cases h
 | .leaf (some (z,p)),h,k=>by
  cases h
  exact ⟨p,rfl,k⟩
 | .br true x y',h,k=>⟨fun _=>Tree.out_sat (x:=x) h (k.1 rfl),fun e=>absurd e (by decide)⟩
 | .br false x y',h,k=>⟨fun e=>absurd e (by decide),fun _=>Tree.out_sat (x:=y') h (k.2 rfl)⟩
 | .vc p x,h,k=>⟨k.1,fun _=>Tree.out_sat (x:=x) h k.2⟩
 | .fail,h,_=>by cases h
def Tree.outD {ρ:Type} (x:Tree (Option (ρ × Pr))) (d:ρ):ρ:=match x.outV with
 | some y=>y
 | none=>d
def Tree.full {ρ:Type}:Tree (Option (ρ × Pr))->Bool
 | .leaf (some _)=>true
 | .br _ x y=>x.full && y.full
 | .vc _ x=>x.full
 | _=>false
theorem Tree.full_out {ρ:Type} (d:ρ) : ∀ {x:Tree (Option (ρ × Pr))},x.full=true->x.outV=some (x.outD d)
 | .leaf none,h=>by cases h
 | .leaf (some (z,p)),_=>rfl
 | .br true x y,h=>by
  simp only [Tree.full,Bool.and_eq_true] at h
  exact Tree.full_out d (x:=x) h.1
 | .br false x y,h=>by
  simp only [Tree.full,Bool.and_eq_true] at h
  exact Tree.full_out d (x:=y) h.2
 | .vc p x,h=>Tree.full_out d (x:=x) h
 | .fail,h=>by cases h
theorem DoesL.outs {ρ:Type} {E:Env} (hE:EnvOk E) {o:Out ρ} (n:Nat) {fn:Func} {cs:List Code} {st:St} (d:ρ) {T:Tree (Option (ρ × Pr))} (e:cD E o n fn cs st=T) (hf:T.full=true) (h:T.okAll):DoesL E cs st (EndsAs E fn (bK o (T.outD d))) :=
 DoesL.ends hE n e (Tree.out_sat (Tree.full_out d hf) h)
end
section
section
variable (k : RK) (α : Type) [Row α]
end
section
variable (k : RK) {γ : Type} (K : Kd γ)
end
theorem qH {ρ:Type} (c:Bool) (x y:Tree (Option (ρ × Pr))) (d:ρ):(Tree.br c x y).outD d=cond c (x.outD d) (y.outD d):=by cases c <;> rfl
theorem qG {ρ:Type} (p:Prop) (x:Tree (Option (ρ × Pr))) (d:ρ):(Tree.vc p x).outD d=x.outD d:=rfl
theorem kw {ρ:Type} (y:ρ) (p:Pr) (d:ρ):(Tree.leaf (some (y,p))).outD d=y:=rfl
end
section
structure ArgL (α : Type) where
 rd:ah->List AV->Option (α × Pr × List Nat)
 is:World->List Value->α->Prop
 ok : ∀ {w0 β h w vs x p rs},rd h vs=some (x,p,rs)->p.holds->HRel w0 β h w->(∀ v ∈ vs,okv h v)->is w (vs.map (gv β)) x
 near : ∀ {h h':ah} {vs x p} {rs:List Nat},rd h vs=some (x,p,rs)->(∀ i ∈ rs,h i=h' i)->rd h' vs=some (x,p,rs)
def ArgL.nil:ArgL Unit where
 rd:=fun _ vs=>match vs with | []=>some ((),.t,[]) | _=>none
 is:=fun _ vs _=>vs = []
 ok:=fun {w0 β h w vs x p rs} e _ _ _=>by
  split at e
  ·rfl
  ·cases e
 near:=fun e _=>e
def ArgL.cons {α γ:Type} (a:Arg α) (l:ArgL γ):ArgL (α × γ) where
 rd:=fun h vs=>match vs with
  | v :: rest=>match a.rd h v,l.rd h rest with
   | some (x,p,s),some (y,q,t)=>some ((x,y),p.and q,s++t)
   | _,_=>none
  | _=>none
 is:=fun w vs x=>match vs with
  | v :: rest=>a.is w v x.1/\l.is w rest x.2
  | []=>False
 ok:=fun {w0 β h w vs x p rs} e hp hr hok=>by
  split at e
  ·rename_i v rest
   split at e
   ·rename_i x p s y q t hx hy
    cases e
    have hp:=Pr.and_holds hp
    exact ⟨a.ok hx hp.1 hr (hok v (List.mem_cons_self ..)),l.ok hy hp.2 hr fun u hu=>hok u (List.mem_cons_of_mem _ hu)⟩
   ·cases e
  ·cases e
 near:=fun {h h' vs x p rs} e H=>by
  split at e
  ·rename_i v rest
   split at e
   ·rename_i x p s y q t hx hy
    cases e
    show (match a.rd h' v,l.rd h' rest with | some (x,p,s),some (y,q,t)=>some ((x,y),p.and q,s++t) | _,_=>none)=_
    rw [a.near hx (fun i hi=>H i (by simp [hi])),l.near hy (fun i hi=>H i (by simp [hi]))]
   ·cases e
  ·cases e
def KL {α ρ:Type} (a:ArgL α) (r:Res ρ) (F:α->ρ):ay:=fun id h args=>match a.rd h args with
 | some (x,p,s)=>some ⟨r.wr id (F x),p,s,r.new (F x),[]⟩
 | none=>none
theorem RG {α ρ:Type} {P:Program} {f:Nat} (hf:Bodied P f) {a:ArgL α} {r:Res ρ} {F:α->ρ} (h : ∀ w vs x,a.is w vs x->Gives P f vs.toArray w r (F x)):CallOk P f (KL a r F) where
 call:=fun id hp args res e hpre w0 β w hr hid hok=>by
  obtain ⟨fn,h1,h2,h3⟩:=hf.fn
  unfold KL at e
  split at e
  ·rename_i x p s hx
   cases e
   exact (h w _ x (a.ok hx hpre hr hok)).runs h1 h2 h3 hr hid
  ·cases e
 near:=fun id h h' args res e H=>by
  unfold KL at e ⊢
  split at e
  ·rename_i x p s hx
   cases e
   rw [a.near hx H]
  ·cases e
 wrote:=fun id h args res e=>by
  unfold KL at e
  split at e
  ·cases e;simp
  ·cases e
structure InpL (α : Type) where
 arg:ArgL α
 avs:Nat->α->List AV
 hes:α->List HE
 fact:α->Prop
 known : ∀ {w vs x},arg.is w vs x->fact x
 intro : ∀ {w0 β} {heap:List HE} {w vs x},HRel w0 β (hpS heap) w->w0.fresh w->arg.is w vs x ->
  ∃ β',HRel w0 β' (hpS (heap++hes x)) w/\(avs heap.length x).map (gv β')=vs/\(∀ v ∈ avs heap.length x,okv (hpS (heap++hes x)) v) /\ ∀ i,i<heap.length->β' i=β i
def InpL.nil:InpL Unit where
 arg := .nil
 avs:=fun _ _ => []
 hes:=fun _ => []
 fact:=fun _=>True
 known:=fun _=>trivial
 intro:=fun {w0 β heap w vs x} hr _ hv=>⟨β,by rw [List.append_nil];exact hr,hv.symm,fun v hv=>(List.not_mem_nil hv).elim,fun _ _=>rfl⟩
def InpL.cons {α γ:Type} (a:Inp α) (l:InpL γ):InpL (α × γ) where
 arg := .cons a.arg l.arg
 avs:=fun n x=>a.av n x.1 :: l.avs (n+(a.hes x.1).length) x.2
 hes:=fun x=>a.hes x.1++l.hes x.2
 fact:=fun x=>a.fact x.1/\l.fact x.2
 known:=fun {w vs x} h=>by
  cases vs with
  | nil=>exact h.elim
  | cons v vs=>exact ⟨a.known h.1,l.known h.2⟩
 intro:=fun {w0 β heap w vs x} hr hw hv=>by
  cases vs with
  | nil=>exact hv.elim
  | cons v vs =>
   obtain ⟨h1,h2⟩:=hv
   obtain ⟨β1,r1,e1,k1,g1⟩:=a.intro hr hw h1
   obtain ⟨β2,r2,e2,k2,g2⟩:=l.intro r1 hw h2
   rw [List.length_append] at e2 k2 g2
   refine ⟨β2,by rw [<- List.append_assoc];exact r2,?_,?_,fun i hi=>by rw [g2 i (by omega),g1 i hi]⟩
   ·rw [List.map_cons,e2,dN (fun i hi=>g2 i (by rw [List.length_append] at hi;exact hi)) k1,e1]
   ·intro u hu
    rw [<- List.append_assoc]
    rcases List.mem_cons.1 hu with rfl | hu
    ·exact k1.grow (bz _ _)
    ·exact k2 u hu
theorem GLg {α ρ:Type} {E:Env} {f:FuncId} {fn:Func} (hf:E.P.funcs[f]? = some fn) {c:Code} (hb:fn.body=some c) (l:InpL α) (o:Out ρ) (F:ρ) {w:World} {vs:List Value} {x:α} (hv:l.arg.is w vs x)
  (h:l.fact x->DoesL E (flat c) (af fn (l.avs 0 x) (l.hes x)) (EndsAs E fn (bK o F))):Gives E.P f vs.toArray w o.res F:=by
 obtain ⟨β1,r1,e1,k1,_⟩:=l.intro (heap := []) (HRel.start w β0) (W0.of_fresh w) hv
 simp only [List.nil_append,List.length_nil] at r1 e1 k1
 have:=dZ hf hb r1 (avs:=l.avs 0 x) k1 (h (l.known hv))
 rw [e1] at this
 exact this
theorem GL {α ρ:Type} {E:Env} {f:FuncId} {fn:Func} (hf:E.P.funcs[f]? = some fn) {c:Code} (hb:fn.body=some c) (hd:Bodied E.P f) (l:InpL α) (o:Out ρ) (F:α->ρ)
  (h : ∀ x,l.fact x->DoesL E (flat c) (af fn (l.avs 0 x) (l.hes x)) (EndsAs E fn (bK o (F x)))):CallOk E.P f (KL l.arg o.res F) :=
 RG hd fun w vs x hv=>GLg hf hb l o (F x) hv (h x)
end
section
def LsIs (k:RK) (w:World) (v:Value) (l:List (List k.ty)):Prop :=
 ∃ us:List Value,ViewIs 1 w v l.length us /\ ∀ (j:Nat) (xs:List k.ty),l[j]? = some xs -> ∃ u,us[j]? = some u/\RwIs k w u xs
def Cs (k k':RK) (l:List (List k'.ty)):Option (List (List k.ty)) :=
 match k,k' with
 | .fr,.fr=>some l
 | _,_=>none
theorem FW {k k':RK} {l:List (List k'.ty)} {l':List (List k.ty)} (h:Cs k k' l=some l') : ∃ e:k'=k,l'=e ▸ l:=by
 unfold Cs at h
 split at h
 ·cases h;exact ⟨rfl,rfl⟩
 ·cases h
def tp (k:RK) (h:ah):List Cell->Option (List (List k.ty) × Pr × List Nat)
 | []=>some ([],.t,[])
 | c :: cs=>match Mf k h (.one (.c c)),tp k h cs with
  | some (x,p,r),some (xs,q,s)=>some (x :: xs,p.and q,r++s)
  | _,_=>none
def QS (k:RK) (h:ah) (v:AV):Option (List (List k.ty) × Pr × List Nat) :=
 match v with
 | .one (.c .nils)=>some ([],.t,[])
 | .one (.c (.slc i 0 len 1 (.of 0) kn))=>match h i with
  | .lists k' l=>match Cs k k' l with
   | some l'=>some (l',.p (len=l'.length),[i])
   | none=>none
  | .live b=>match b.body,kn,Nat.beq b.esz 1 with
   | .row cs,true,true=>match tp k h (cs.take len),Nat.beq (cs.take len).length len,Nat.blt len aD with
    | some (l,p,r),true,true=>some (l,p,i :: r)
    | _,_,_=>none
   | _,_,_=>none
  | _=>none
 | _=>none
theorem yD {k:RK} {w0:W0} {β:Nat->Pl} {h:ah} {w:World} (hr:HRel w0 β h w) : ∀ {cs:List Cell} {l:List (List k.ty)} {p:Pr} {rs:List Nat},tp k h cs=some (l,p,rs)->p.holds->(∀ c ∈ cs,okc h c) ->
  l.length=cs.length /\ ∀ (j:Nat) (xs:List k.ty),l[j]? = some xs -> ∃ c,cs[j]? = some c/\RwIs k w (gc β c) xs
 | [],l,p,rs,e,hp,hok=>by
  cases e
  exact ⟨rfl,fun j xs hx=>by cases hx⟩
 | c :: cs,l,p,rs,e,hp,hok=>by
  unfold tp at e
  split at e
  ·rename_i x q r xs q' s h1 h2
   cases e
   obtain ⟨hp1,hp2⟩:=Pr.and_holds hp
   obtain ⟨i1,i2⟩:=yD hr h2 hp2 fun c hc=>hok c (List.mem_cons_of_mem _ hc)
   have h3:=(aB k).ok h1 hp1 hr (show okc h c from hok c (List.mem_cons_self ..))
   refine ⟨by simp [i1],fun j ys hy => ?_⟩
   cases j with
   | zero =>
    cases hy
    exact ⟨c,rfl,h3⟩
   | succ j=>exact i2 j ys hy
  ·cases e
theorem qp {k:RK} {h h':ah} : ∀ {cs:List Cell} {l:List (List k.ty)} {p:Pr} {rs:List Nat},tp k h cs=some (l,p,rs)->(∀ i ∈ rs,h i=h' i)->tp k h' cs=some (l,p,rs)
 | [],l,p,rs,e,H=>e
 | c :: cs,l,p,rs,e,H=>by
  unfold tp at e ⊢
  split at e
  ·rename_i x q r xs q' s h1 h2
   cases e
   rw [show Mf k h' (.one (.c c))=_ from (aB k).near h1 fun i hi=>H i (List.mem_append_left _ hi),qp h2 fun i hi=>H i (List.mem_append_right _ hi)]
  ·cases e
theorem SubOk.is {w0:W0} {w:World} (hb:Bel w0 w) {k:RK} {v:Value} {xs:List k.ty} (h:SubOk w0 k v xs):RwIs k w v xs:=by
 obtain ⟨p,rfl,ht,h⟩:=h
 have h:=h 0
 unfold BlkOk at h
 unfold RwIs ViewIs
 have hl:((ac k xs).map (gc β0)).length=xs.length*k.sz:=by rw [List.length_map,aY]
 cases hp:p.base with
 | none =>
  simp only [hp] at h
  have h0:xs.length=0:=by
   have:=congrArg List.length h.1
   simp only [Body.cells,aY,List.length_nil] at this
   rcases Nat.mul_eq_zero.1 this with h | h
   ·exact h
   ·have:=k.sz_pos;omega
  exact ⟨none,0,by simp only [gc,hp,h0],ht,hl,h0,rfl⟩
 | some a =>
  simp only [hp] at h
  obtain ⟨q1,q2,q3,q4,_⟩:=h
  have q4:=q4 (by have:=k.sz_pos;omega)
  simp only [Body.cells,aY] at q4
  have lt:xs ≠ []->a.block<w0.w.heap.size /\ ¬ w0.may a.block:=fun hne=>by
   have hn:=q3 trivial (by
    intro e0
    have:=congrArg List.length e0
    simp only [Body.cells,aY,List.length_nil] at this
    rcases Nat.mul_eq_zero.1 this with h | h
    ·exact hne (List.length_eq_zero_iff.1 h)
    ·have:=k.sz_pos;omega)
   refine ⟨?_,fun hm=>hn (.inr hm)⟩
   rcases Nat.lt_or_ge a.block w0.w.heap.size with h4 | h4
   ·exact h4
   ·exact absurd (.inl h4) hn
  refine ⟨some a,p.cap,?_,ht,hl,fun hne=>q1 (.inl fun e0=>by
   have:=congrArg List.length e0
   simp only [Body.cells,aY,List.length_nil] at this
   rcases Nat.mul_eq_zero.1 this with h | h
   ·exact hne h
   ·have:=k.sz_pos;omega),Nat.le_of_mul_le_mul_right q4 k.sz_pos,fun hne=>Nat.lt_of_lt_of_le (lt fun e=>hne (by rw [e];rfl)).1 hb.size,fun i u hu => ?_⟩
  ·simp only [gc,hp,RC.val,Nat.sub_zero]
   rw [dQ trivial]
  ·rw [List.getElem?_map] at hu
   cases hc:(ac k xs)[i]? with
   | none=>rw [hc] at hu;cases hu
   | some c =>
    rw [hc] at hu
    cases hu
    have hne:xs ≠ []:=by
     rintro rfl
     cases hc
    obtain ⟨l1,l2⟩:=lt hne
    have hid:c.idOf=none:=cM k _ c (List.mem_of_getElem? hc)
    rw [show w.cell? (a.add i)=w0.w.cell? (a.add i) from World.cell?_of_block (by rw [cO];exact hb.block _ l1 l2),q2 i c hc]
    exact congrArg some (bX fun m hm=>by rw [hid] at hm;cases hm)
theorem LsIs.nil (k:RK) (w:World):LsIs k w (.slice none 0 0) []:=⟨[],⟨none,0,rfl,by simp [aD],rfl,rfl,rfl⟩,fun j xs h=>by cases h⟩
theorem PO {k:RK} {w0:W0} {β:Nat->Pl} {h:ah} {w:World} (hr:HRel w0 β h w) {i len:Nat} {kn:Bool} {l:List (List k.ty)} (hi:h i = .lists k l) (hp:len=l.length):LsIs k w (gc β (.slc i 0 len 1 (.of 0) kn)) l:=by
 subst hp
 have hL:=hr.lst i k l hi
 unfold gJ at hL
 show LsIs k w (gc β (.slc i 0 l.length 1 (.of 0) kn)) l
 cases ha:(β i).base with
 | none =>
  rw [ha] at hL
  obtain ⟨rfl,_⟩:=hL
  simp only [gc,ha]
  exact LsIs.nil k w
 | some a =>
  rw [ha] at hL
  obtain ⟨hs,hb,hc,ht,hL⟩:=hL
  have lt:l ≠ []->a.block<w0.w.heap.size /\ ¬ w0.may a.block:=fun hne=>by
   have hn:=hb hne
   refine ⟨?_,fun hm=>hn (.inr hm)⟩
   rcases Nat.lt_or_ge a.block w0.w.heap.size with h4 | h4
   ·exact h4
   ·exact absurd (.inl h4) hn
  have cell : ∀ j (xs:List k.ty),l[j]? = some xs -> ∃ u,w.cell? (a.add j)=some u/\RwIs k w u xs:=fun j xs hx=>by
   obtain ⟨v,hv,hsub⟩:=hL j xs hx
   obtain ⟨l1,l2⟩:=lt (by rintro rfl;cases hx)
   exact ⟨v,by rw [<- hv];exact World.cell?_of_block (by rw [cO];exact hr.below.block _ l1 l2),hsub.is hr.below⟩
  have pick : ∀ j:Fin l.length,∃ u,w.cell? (a.add j.1)=some u/\RwIs k w u l[j.1]:=fun j=>cell j.1 _ (List.getElem?_eq_getElem j.2)
  refine ⟨List.ofFn fun j=>Classical.choose (pick j),⟨some a,(β i).cap,?_,ht,?_,fun hne=>hs (by rintro rfl;exact hne rfl),hc,fun hne=>Nat.lt_of_lt_of_le (lt fun e=>hne (by rw [e];rfl)).1 hr.below.size,fun j u hu => ?_⟩,fun j xs hx => ?_⟩
  ·simp only [gc,ha,RC.val,Nat.sub_zero]
   rw [dQ trivial]
  ·simp
  ·rw [List.getElem?_ofFn] at hu
   split at hu
   ·rename_i hj
    cases hu
    exact (Classical.choose_spec (pick ⟨j,hj⟩)).1
   ·cases hu
  ·obtain ⟨hj,rfl⟩:=List.getElem?_eq_some_iff.1 hx
   exact ⟨_,by rw [List.getElem?_ofFn,dif_pos hj],(Classical.choose_spec (pick ⟨j,hj⟩)).2⟩
def w9 (k:RK):Arg (List (List k.ty)) where
 rd:=QS k
 is:=LsIs k
 ok:=fun {w0 β h w v x p rs} e hp hr hok=>by
  unfold QS at e
  split at e
  ·cases e
   exact LsIs.nil k w
  ·rename_i i len kn
   split at e
   ·rename_i k' l hi
    split at e
    ·rename_i l' hl
     cases e
     obtain ⟨e0,e1⟩:=FW hl
     subst e0
     have e1:x=l:=e1
     subst e1
     exact PO (kn:=kn) hr hi hp
    ·cases e
   ·rename_i b hb
    split at e
    ·rename_i cs hbody hesz
     have hesz:=Nat.eq_of_beq_eq_true hesz
     split at e
     ·rename_i l p' r hrd hlen htop
      cases e
      have hlen:=Nat.eq_of_beq_eq_true hlen
      have htop:=Nat.le_of_ble_eq_true htop
      have hcs : ∀ c ∈ cs.take len,okc h c:=fun c hc=>hr.okc i b hb c (by rw [hbody];exact List.mem_of_mem_take hc)
      obtain ⟨i1,i2⟩:=yD hr hrd hp hcs
      have hle:len<=cs.length:=by
       rw [List.length_take] at hlen
       omega
      have hv:=ViewIs.of_view (sz:=1) (off:=0) (len:=len) (rc := .of 0) (kn:=true) (by decide) hr hb (by rw [hbody];simp only [Body.cells];omega) htop (by unfold RC.fits;exact ⟨rfl,hesz⟩)
      rw [hbody] at hv
      simp only [Body.cells,List.drop_zero,Nat.mul_one] at hv
      show LsIs k w (gv β (.one (.c (.slc i 0 len 1 (.of 0) true)))) x
      refine ⟨(cs.take len).map (gc β),by rw [i1,hlen];exact hv,fun j xs hx => ?_⟩
      obtain ⟨c,hc,h3⟩:=i2 j xs hx
      exact ⟨gc β c,by rw [List.getElem?_map,hc];rfl,h3⟩
     ·cases e
    ·cases e
   ·cases e
  ·cases e
 near:=fun {h h' v x p rs} e H=>by
  unfold QS at e ⊢
  split at e
  ·exact e
  ·rename_i i len kn
   split at e
   ·rename_i k' l hi
    split at e
    ·rename_i l' hl
     cases e
     rw [<- H i (by simp),hi]
     simp only [hl]
    ·cases e
   ·rename_i b hb
    split at e
    ·rename_i cs hbody hesz
     split at e
     ·rename_i l p' r hrd hlen htop
      cases e
      rw [<- H i (by simp),hb]
      simp only [hbody,hesz,qp hrd fun i hi=>H i (List.mem_cons_of_mem _ hi),hlen,htop]
     ·cases e
    ·cases e
   ·cases e
  ·cases e
theorem RwIs.sub {k:RK} {w:World} {v:Value} {xs:List k.ty} (h:RwIs k w v xs) {w0:W0} (hb:Bel w0 w) (hw:w0.fresh w):SubOk w0 k v xs:=by
 obtain ⟨base,cap,rfl,ht,hl,h⟩:=h
 rw [List.length_map] at hl
 refine ⟨⟨base,cap,none⟩,?_,ht,fun ty => ?_⟩
 ·cases base with
  | none =>
   obtain ⟨h0,rfl⟩:=h
   simp only [gc,h0]
  | some a =>
   simp only [gc,RC.val,Nat.sub_zero]
   rw [dQ trivial]
 ·unfold BlkOk
  cases base with
  | none =>
   obtain ⟨h0,rfl⟩:=h
   refine ⟨?_,rfl,by have:=k.sz_pos;simp only;omega⟩
   simp only [Body.cells]
   rw [List.length_eq_zero_iff.1 h0]
   rfl
  | some a =>
   obtain ⟨b0,b1,b2,b3⟩:=h
   have lt:xs ≠ [] -> ¬ w0.new a.block:=fun hne hn=>by
    have:=hw _ hn
    have:=b2 fun e=>hne (List.length_eq_zero_iff.1 e)
    omega
   refine ⟨fun h=>b0 (by
    intro e0
    rcases h with h | h | h
    ·exact h (by
      simp only [Body.cells]
      rw [List.length_eq_zero_iff.1 e0]
      rfl)
    ·have h:k.sz=0:=h
     have:=k.sz_pos
     omega
    ·cases h),fun i c hc => ?_,fun _ hne=>lt ?_,fun _ => ?_,fun e=>by cases e⟩
   ·simp only [Body.cells] at hc
    have hne:xs ≠ []:=by
     rintro rfl
     cases hc
    have hn:=lt hne
    have hlt:a.block<w0.w.heap.size:=by
     rcases Nat.lt_or_ge a.block w0.w.heap.size with h4 | h4
     ·exact h4
     ·exact absurd (.inl h4) hn
    have hid:c.idOf=none:=cM k _ c (List.mem_of_getElem? hc)
    rw [show w0.w.cell? (a.add i)=w.cell? (a.add i) from (World.cell?_of_block (by rw [cO];exact hb.block _ hlt fun hm=>hn (.inr hm))).symm,b3 i (gc β0 c) (by rw [List.getElem?_map,hc];rfl)]
    exact congrArg some (bX fun m hm=>by rw [hid] at hm;cases hm)
   ·rintro rfl
    exact hne rfl
   ·simp only [Body.cells,aY]
    exact Nat.mul_le_mul_right _ b1
def lsV (n:Nat) (k:RK) (l:List (List k.ty)):AV := .one (.c (.slc n 0 l.length 1 (.of 0) false))
def Gz (k:RK):Inp (List (List k.ty)) where
 arg:=w9 k
 av:=fun n l=>lsV n k l
 hes:=fun l => [.lists k l]
 fact:=fun l=>l.length<aD /\ ∀ xs ∈ l,xs.length<aD
 known:=fun {w v l} h=>by
  obtain ⟨us,⟨_,_,_,ht,_⟩,h⟩:=h
  refine ⟨ht,fun xs hx => ?_⟩
  obtain ⟨j,hj⟩:=List.getElem?_of_mem hx
  obtain ⟨u,_,_,_,_,h2,_⟩:=h j xs hj
  exact h2
 intro:=fun {w0 β heap w v l} hr hw hv=>by
  obtain ⟨us,⟨base,cap,rfl,ht,hl,hb⟩,hs⟩:=hv
  refine ⟨upd β heap.length ⟨base,cap,none⟩,?_,?_,?_,fun i hi=>ak _ _ (by omega)⟩
  ·rw [dl]
   refine hr.extL (pf heap) _ ?_
   unfold gJ
   cases base with
   | none =>
    obtain ⟨h0,rfl⟩:=hb
    exact ⟨List.length_eq_zero_iff.1 h0,rfl⟩
   | some a =>
    obtain ⟨b0,b1,b2,b3⟩:=hb
    have lt:l ≠ [] -> ¬ w0.new a.block:=fun hne hn=>by
     have:=hw _ hn
     have:=b2 fun e=>hne (List.length_eq_zero_iff.1 e)
     omega
    refine ⟨fun hne=>b0 fun e=>hne (List.length_eq_zero_iff.1 e),lt,b1,ht,fun j xs hx => ?_⟩
    obtain ⟨u,hu,hx2⟩:=hs j xs hx
    have hn:=lt (by rintro rfl;cases hx)
    have hlt:a.block<w0.w.heap.size:=by
     rcases Nat.lt_or_ge a.block w0.w.heap.size with h4 | h4
     ·exact h4
     ·exact absurd (.inl h4) hn
    exact ⟨u,by rw [show w0.w.cell? (a.add j)=w.cell? (a.add j) from (World.cell?_of_block (by rw [cO];exact hr.below.block _ hlt fun hm=>hn (.inr hm))).symm];exact b3 j u hu,hx2.sub hr.below hw⟩
  ·show gc _ (.slc heap.length 0 l.length 1 (.of 0) false)=_
   cases base with
   | none =>
    obtain ⟨h0,rfl⟩:=hb
    simp only [gc,ab,h0]
   | some a =>
    simp only [gc,ab,RC.val,Nat.sub_zero]
    rw [dQ trivial]
  ·intro i hi
   cases hi
   rw [dl,ab]
   simp
section
variable (α : Type) [Row α]
def BoxIs (w:World) (u:Value) (x:α):Prop :=
 ∃ a,u = .pointer (some a)/\a.spot=none/\a.block<w.heap.size /\ ∀ (i:Nat) (v:Value),((Row.cs x).map (gc β0))[i]? = some v->w.cell? (a.add i)=some v
def rK (h:ah) (v:AV):Option (α × Pr × List Nat) :=
 match v with
 | .one (.c (.ptr i 0))=>match aH h i with
  | some b=>match b.body,b.esz with
   | .row cs,0=>match (Row.rd cs:Option α) with
    | some x=>match cs with
     | []=>none
     | _ :: _=>some (x,.t,[i])
    | none=>none
   | _,_=>none
  | none=>none
 | _=>none
theorem zI {w0:W0} {β:Nat->Pl} {h:ah} {w:World} {v:AV} {x:α} {p:Pr} {rs:List Nat} (e:rK α h v=some (x,p,rs)) (hr:HRel w0 β h w):BoxIs α w (gv β v) x:=by
 unfold rK at e
 split at e
 ·rename_i i
  split at e
  ·rename_i b hb
   have hb:=aj hb
   split at e
   ·rename_i cs hbody hesz
    split at e
    ·rename_i y hy
     split at e
     ·cases e
     ·rename_i c0 cs0
      cases e
      obtain ⟨a,ha,hs⟩:=hr.base_some hb (.inr hesz)
      have hlt:=(hr.blk i b hb).lt hr.below ha (.inr (by rw [hbody];simp [Body.cells]))
      refine ⟨a,?_,hs,hlt,fun j v hv => ?_⟩
      ·show gc β (.ptr i 0)=_
       simp only [gc,ha,Option.map_some,Addr.add_zero']
      ·have hrd:=hr.read hb ha 0 j v
       rw [hbody] at hrd
       simp only [Body.cells,List.drop_zero] at hrd
       rw [Row.rd_ok hy β] at hrd
       rw [show (a.add 0)=a from Addr.add_zero' _] at hrd
       exact hrd hv
    ·cases e
   ·cases e
  ·cases e
 ·cases e
theorem rJ {h h':ah} {v:AV} {x:α} {p:Pr} {rs:List Nat} (e:rK α h v=some (x,p,rs)) (H : ∀ i ∈ rs,h i=h' i):rK α h' v=some (x,p,rs):=by
 unfold rK at e
 split at e
 ·rename_i i
  have hi:i ∈ rs:=by
   split at e
   ·split at e
    ·split at e
     ·split at e
      ·cases e
      ·cases e;simp
     ·cases e
    ·cases e
   ·cases e
  unfold rK
  simp only [<- am (H i hi)]
  exact e
 ·cases e
def Cw:Arg α where
 rd:=rK α
 is:=BoxIs α
 ok:=fun {w0 β h w v x p rs} e hp hr hok=>zI α e hr
 near:=fun {h h' v x p rs} e H=>rJ α e H
def oX (x:α):HE := .live ⟨false,0,0,.row (Row.cs x),false⟩
theorem BoxIs.named {w0:W0} {β:Nat->Pl} {heap:List HE} {w:World} (hr:HRel w0 β (hpS heap) w) (hw:w0.fresh w) {u:Value} {x:α} (h:BoxIs α w u x) :
  ∃ p,HRel w0 (upd β heap.length p) (hpS (heap ++ [oX α x])) w/\gc (upd β heap.length p) (.ptr heap.length 0)=u/\hpS (heap ++ [oX α x]) heap.length ≠ .un:=by
 obtain ⟨a,rfl,hs,hlt,hc⟩:=h
 refine ⟨⟨some a,0,none⟩,?_,?_,?_⟩
 ·rw [dl]
  refine hr.ext (pf heap) _ _ rfl rfl (fun c hc=>al (Row.cs_id _ c hc)) ?_
  unfold BlkOk
  rw [ab]
  refine ⟨fun _=>hs,fun i c hi => ?_,fun _ _ hn => ?_,fun e=>absurd rfl e,fun e=>by cases e⟩
  ·simp only [Body.cells] at hi
   rw [hc i (gc β0 c) (by rw [List.getElem?_map,hi];rfl)]
   exact congrArg some (bX fun j hj=>by rw [Row.cs_id _ c (List.mem_of_getElem? hi)] at hj;cases hj)
  ·have:=hw _ hn
   have h2:w.heap.size<=a.block:=this
   omega
 ·simp only [gc,ab,Option.map_some,Addr.add_zero']
 ·rw [dl,ab]
  unfold oX
  simp
def P8:Inp α where
 arg:=Cw α
 av:=fun n x => .one (.c (.ptr n 0))
 hes:=fun x => [oX α x]
 fact:=fun _=>True
 known:=fun _=>trivial
 intro:=fun {w0 β heap w v x} hr hw hv=>by
  obtain ⟨p,h1,h2,h3⟩:=BoxIs.named α hr hw hv
  exact ⟨_,h1,h2,fun i hi=>by cases hi;exact h3,fun i hi=>ak _ _ (by omega)⟩
def Cv (n:Nat):Arg α where
 rd:=fun h v=>match v with
  | .one (.c (.clo f i o))=>match Nat.beq f n with
   | true=>rK α h (.one (.c (.ptr i o)))
   | false=>none
  | _=>none
 is:=fun w v x => ∃ u,v = .func (.func n) #[] #[u]/\BoxIs α w u x
 ok:=fun {w0 β h w v x p rs} e hp hr hok=>by
  split at e
  ·rename_i f i o
   split at e
   ·rename_i hf
    have hf:=Nat.eq_of_beq_eq_true hf
    subst hf
    exact ⟨gv β (.one (.c (.ptr i o))),rfl,zI α e hr⟩
   ·cases e
  ·cases e
 near:=fun {h h' v x p rs} e H=>by
  split at e
  ·rename_i f i o
   split at e
   ·rename_i hf
    exact rJ α e H
   ·cases e
  ·cases e
def P7 (n:Nat):Inp α where
 arg:=Cv α n
 av:=fun m x => .one (.c (.clo n m 0))
 hes:=fun x => [oX α x]
 fact:=fun _=>True
 known:=fun _=>trivial
 intro:=fun {w0 β heap w v x} hr hw hv=>by
  obtain ⟨u,rfl,hv⟩:=hv
  obtain ⟨p,h1,h2,h3⟩:=BoxIs.named α hr hw hv
  refine ⟨_,h1,?_,fun i hi=>by cases hi;exact h3,fun i hi=>ak _ _ (by omega)⟩
  show Value.func (.func n) #[] #[gc _ (.ptr heap.length 0)]=_
  rw [h2]
end
section
variable (k : RK) {γ : Type} (K : Kd γ)
end
end
section
structure PP where
 a:Pg1
 b:Pg1
instance : Row PP := ju 13 PP.mk PP.a PP.b
end
end Go.Proofs.Ytibfppbffdedoaa
