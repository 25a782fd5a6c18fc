/- Texts of the proof, joined. -/
import Derived.Test.YtibfppbffdedoaaZM6
set_option linter.unusedSectionVars false
set_option linter.unusedSimpArgs false
set_option linter.unusedVariables false
namespace Go.Proofs.Ytibfppbffdedoaa
open Go.RowKit
set_option maxRecDepth 100000
section
noncomputable def cv (l:List Fr) (i:Nat):VR:=(atL l i).v
theorem fg {l:List Fr} {i:Nat} (h:l.length<=i):atL l i=frZ:=by
 unfold atL
 rw [List.getD_eq_getElem?_getD,List.getElem?_eq_none h]
 rfl
theorem GG {l:List Fr} {i:Nat} (h:i<l.length):atL l i=l[i]:=by
 unfold atL
 rw [List.getD_eq_getElem?_getD,List.getElem?_eq_getElem h]
 rfl
theorem JL {l:List Fr} {n i:Nat} (h:i<n):atL (l.take n) i=atL l i:=by
 unfold atL
 rw [List.getD_eq_getElem?_getD,List.getElem?_take_of_lt h,List.getD_eq_getElem?_getD]
theorem K6 (l:List Fr) (i:Nat):atL (cE l) i=atL l i:=by
 by_cases h:i<cV l l.length
 ·exact JL h
 ·rw [fg (by rw [zC];omega)]
  by_cases h3:i<l.length
  ·exact (rD l l.length i (by omega) h3).symm
  ·exact (fg (by omega)).symm
theorem w4 (l:List Fr) (i:Nat):cv (cE l) i=cv l i:=by
 unfold cv
 rw [K6]
theorem u7 {a b:List Fr} (hl:a.length=b.length) (h : ∀ i,atL a i=atL b i):a=b:=by
 refine List.ext_getElem hl fun i h1 h2 => ?_
 have:=h i
 rw [GG h1,GG h2] at this
 exact this
theorem DH (a:List Fr) (m i:Nat):atL (a++List.replicate m frZ) i=atL a i:=by
 by_cases h:i<a.length
 ·unfold atL
  rw [List.getD_eq_getElem?_getD,List.getElem?_append_left h,List.getD_eq_getElem?_getD]
 ·rw [fg (Nat.le_of_not_lt h)]
  by_cases h2:i<a.length+m
  ·unfold atL
   rw [List.getD_eq_getElem?_getD,List.getElem?_append_right (by omega),List.getElem?_replicate,if_pos (by omega)]
   rfl
  ·exact fg (by rw [List.length_append,List.length_replicate];omega)
theorem Dx {a b:List Fr} (h : ∀ i,atL a i=atL b i):cE a=cE b:=by
 rw [<- rE a (b.length-a.length),<- rE b (a.length-b.length)]
 refine congrArg cE (u7 ?_ fun i=>by rw [DH,DH,h i])
 rw [List.length_append,List.length_append,List.length_replicate,List.length_replicate]
 omega
theorem Dz (a:List Fr):cE (cE a)=cE a:=Dx (K6 a)
theorem uC {a b:List Fr} (ha:bS a) (hb:bS b) (h : ∀ i,cv a i=cv b i):cE a=cE b:=Dx fun i=>Fr.v_inj (co ha i) (co hb i) (h i)
theorem F3 (g:Nat->Fr) (n i:Nat):atL ((List.range n).map g) i=if i<n then g i else frZ:=by
 by_cases h:i<n
 ·rw [if_pos h,GG (by rw [List.length_map,List.length_range];exact h),List.getElem_map,List.getElem_range]
 ·rw [if_neg h]
  exact fg (by rw [List.length_map,List.length_range];omega)
theorem gA {g:Nat->Fr} {n:Nat} (h : ∀ i,i<n->(g i).ok):bS ((List.range n).map g):=fun x hx=>by
 obtain ⟨i,hi,rfl⟩:=List.mem_map.1 hx
 exact h i (List.mem_range.1 hi)
theorem nf {g:Nat->Fr} {n:Nat} {X:Nat->VR} (h : ∀ i,i<n->(g i).v=X i) (h0 : ∀ i,n<=i->X i=0) (i:Nat):cv ((List.range n).map g) i=X i:=by
 unfold cv
 rw [F3]
 by_cases hi:i<n
 ·rw [if_pos hi,h i hi]
 ·rw [if_neg hi,GC,h0 i (Nat.le_of_not_lt hi)]
theorem ca {l:List Fr} {i:Nat} (h:l.length<=i):cv l i=0:=by
 unfold cv
 rw [fg h,GC]
theorem VR.zz:(0:VR)+0=0:=by grind
theorem VR.zm (x:VR):0*x=0:=by grind
theorem Cc (l m:List Fr):l.length<=bR l m:=Nat.le_max_right _ _
theorem Kw (l m:List Fr):m.length<=bR l m:=Nat.le_max_left _ _
theorem PC (tF:List Fr->Int->Fr) (aF:Fr->Fr->Fr) (l m:List Fr) (i:Nat):pbG tF aF l m i=aF (tF l (i:Int)) (tF m (i:Int)):=rfl
theorem PA (tF:List Fr->Int->Fr) (gF:Fr->Fr->Fr->Fr) (l m:List Fr) (x:Fr) (i:Nat):pcG tF gF l m x i=gF (tF l (i:Int)) (tF m (i:Int)) x:=rfl
theorem sC (l:List Fr) (i:Nat):jn l (i:Int)=atL l i:=by
 unfold jn
 rw [Int.toNat_natCast]
theorem Ke {l m:List Fr} (hl:bS l) (hm:bS m):bS (ez l m) /\ ∀ i,cv (ez l m) i=cv l i+cv m i:=by
 have key : ∀ i,pbG jn eG l m i=eG (atL l i) (atL m i):=fun i=>by rw [PC,sC,sC]
 have ok : ∀ i,(pbG jn eG l m i).ok/\(pbG jn eG l m i).v=cv l i+cv m i:=fun i=>by
  rw [key]
  exact wt (co hl i) (co hm i)
 unfold ez lb
 refine ⟨rG (gA fun i _=>(ok i).1),fun i => ?_⟩
 rw [w4]
 refine nf (X:=fun i=>cv l i+cv m i) (fun i _=>(ok i).2) (fun i hi => ?_) i
 have h1:=Cc l m
 have h2:=Kw l m
 show cv l i+cv m i=0
 rw [ca (l:=l) (by omega),ca (l:=m) (by omega),VR.zz]
theorem yW {l:List Fr} (hl:bS l) {k:Fr} (hk:k.ok):bS (bm l k) /\ ∀ i,cv (bm l k) i=cv l i*k.v:=by
 have key : ∀ i,pcG jn fB l [] k i=cZ (atL l i) k:=fun i=>by
  rw [PA,sC]
  unfold fB
  rfl
 have ok : ∀ i,(pcG jn fB l [] k i).ok/\(pcG jn fB l [] k i).v=cv l i*k.v:=fun i=>by
  rw [key]
  exact nD (co hl i) hk
 unfold bm mw
 refine ⟨rG (gA fun i _=>(ok i).1),fun i => ?_⟩
 rw [w4]
 refine nf (X:=fun i=>cv l i*k.v) (fun i _=>(ok i).2) (fun i hi => ?_) i
 have h1:=Cc l []
 show cv l i*k.v=0
 rw [ca (l:=l) (by omega),VR.zm]
theorem My {l m:List Fr} (hl:bS l) (hm:bS m):bS (cT l m) /\ ∀ i,cv (cT l m) i=cv l i+cv m i:=by
 have ok : ∀ i,(df (atL l i) (atL m i)).ok/\(df (atL l i) (atL m i)).v=cv l i+cv m i:=fun i=>Cy (co hl i) (co hm i)
 unfold cT kL
 refine ⟨rG (gA fun i _=>(ok i).1),fun i => ?_⟩
 rw [w4]
 refine nf (X:=fun i=>cv l i+cv m i) (fun i _=>(ok i).2) (fun i hi => ?_) i
 have h1:=Cc l m
 have h2:=Kw l m
 show cv l i+cv m i=0
 rw [ca (l:=l) (by omega),ca (l:=m) (by omega),VR.zz]
theorem Fg (l:List Fr) (g:Fr->Fr):l.map g=(List.range l.length).map fun i=>g (atL l i):=by
 refine List.ext_getElem (by rw [List.length_map,List.length_map,List.length_range]) fun i h1 h2 => ?_
 rw [List.length_map] at h1
 rw [List.getElem_map,List.getElem_map,List.getElem_range,GG h1]
theorem Ev {l:List Fr} (hl:bS l) {k:Fr} (hk:k.ok):bS (aW l k) /\ ∀ i,cv (aW l k) i=cv l i*k.v:=by
 have ok : ∀ i,(bZ (atL l i) k).ok/\(bZ (atL l i) k).v=cv l i*k.v:=fun i=>wL (co hl i) hk
 unfold aW
 rw [Fg]
 refine ⟨rG (gA fun i _=>(ok i).1),fun i => ?_⟩
 rw [w4]
 refine nf (X:=fun i=>cv l i*k.v) (fun i _=>(ok i).2) (fun i hi => ?_) i
 show cv l i*k.v=0
 rw [ca hi,VR.zm]
theorem Lm {o:Fr} {mF:Fr->Fr->Fr} (hM : ∀ {a b:Fr},a.ok->b.ok->(mF a b).ok/\(mF a b).v=a.v*b.v) (ho:o.ok) (ho1:o.v=1) {x:Fr} (hx:x.ok) : ∀ n,(pwK o mF x n).ok/\(pwK o mF x n).v=x.v ^ n
 | 0=>⟨ho,by rw [bT];exact ho1⟩
 | n+1=>by
  obtain ⟨h1,h2⟩:=Lm hM ho ho1 hx n
  obtain ⟨m1,m2⟩:=hM h1 hx
  rw [mQ]
  exact ⟨m1,by rw [m2,h2,an]⟩
theorem RS:oz (UInt64.ofNat 1)=oneFr:=rfl
theorem Ok {x:Fr} (hx:x.ok) (n:Nat):(pwK (oz (UInt64.ofNat 1)) cZ x n).ok/\(pwK (oz (UInt64.ofNat 1)) cZ x n).v=x.v ^ n:=by
 rw [RS]
 exact Lm nD mS pZ hx n
theorem Pp (f:UInt64->Fr):sf f=f (1:UInt64):=rfl
theorem Ey:a9=oneFr:=by
 unfold a9
 rw [Pp,MU]
theorem Pq (f:Fr->Fr->Fr) (a b:Fr):sh f a b=f a b:=rfl
theorem sg {a b:Fr} (ha:a.ok) (hb:b.ok):(aQ a b).ok/\(aQ a b).v=a.v*b.v:=by
 unfold aQ
 rw [Pq]
 exact wL ha hb
theorem Oj {x:Fr} (hx:x.ok) (n:Nat):(pwK a9 aQ x n).ok/\(pwK a9 aQ x n).v=x.v ^ n:=by
 rw [Ey]
 exact Lm sg mS pZ hx n
noncomputable def fs (f:List (List Fr)) (v:VR) (i:Nat):Nat->VR
 | 0=>0
 | n+1=>fs f v i n+cv (f.getD n []) i*v ^ n
theorem Dt (f:List (List Fr)) (v:VR) (i n:Nat):fs f v i (n+1)=fs f v i n+cv (f.getD n []) i*v ^ n:=rfl
def Kk (f:List (List Fr)):Prop := ∀ xs ∈ f,bS xs
theorem y6 {f:List (List Fr)} (h:Kk f) (n:Nat):bS (f.getD n []):=by
 rw [List.getD_eq_getElem?_getD]
 cases e:f[n]? with
 | none=>exact jZ
 | some x=>exact h x (List.mem_of_getElem? e)
theorem VR.step1 (a c p s w:VR):(a*w+c)*p+s=a*(p*w)+(s+c*p):=by grind
theorem VR.start (a s:VR):a=a*1+0:=by grind
theorem wh {sF:List Fr->Fr->List Fr} {aF:List Fr->List Fr->List Fr} (hS : ∀ {l:List Fr},bS l -> ∀ {k:Fr},k.ok->bS (sF l k) /\ ∀ i,cv (sF l k) i=cv l i*k.v) (hA : ∀ {l m:List Fr},bS l->bS m->bS (aF l m) /\ ∀ i,cv (aF l m) i=cv l i+cv m i)
  {f:List (List Fr)} (hf:Kk f) {v:Fr} (hv:v.ok) : ∀ n {q:List Fr},bS q->bS (lZ sF aF f v n q) /\ ∀ i,cv (lZ sF aF f v n q) i=cv q i*v.v ^ n+fs f v.v i n
 | 0,q,hq=>⟨hq,fun i=>by
  show cv q i=cv q i*v.v ^ 0+0
  rw [bT]
  exact VR.start _ 0⟩
 | n+1,q,hq=>by
  obtain ⟨s1,s2⟩:=hS hq hv
  obtain ⟨a1,a2⟩:=hA s1 (y6 hf n)
  obtain ⟨i1,i2⟩:=wh hS hA hf hv n a1
  rw [lY]
  refine ⟨i1,fun i => ?_⟩
  rw [i2,a2,s2,Dt,an]
  exact VR.step1 _ _ _ _ _
theorem Du {sF:List Fr->Fr->List Fr} {aF:List Fr->List Fr->List Fr} {mF:Fr->Fr->Fr} {o:Fr} (hS : ∀ {l:List Fr},bS l -> ∀ {k:Fr},k.ok->bS (sF l k) /\ ∀ i,cv (sF l k) i=cv l i*k.v) (hA : ∀ {l m:List Fr},bS l->bS m->bS (aF l m) /\ ∀ i,cv (aF l m) i=cv l i+cv m i)
  {f:List (List Fr)} (hf:Kk f) {v:Fr} (hP : ∀ n,(pwK o mF v n).ok/\(pwK o mF v n).v=v.v ^ n) : ∀ n,bS (fS sF aF mF o f v n) /\ ∀ i,cv (fS sF aF mF o f v n) i=fs f v.v i n
 | 0=>⟨jZ,fun i=>ca (Nat.zero_le _)⟩
 | n+1=>by
  obtain ⟨i1,i2⟩:=Du hS hA hf hP n
  obtain ⟨p1,p2⟩:=hP n
  obtain ⟨s1,s2⟩:=hS (y6 hf n) p1
  obtain ⟨a1,a2⟩:=hA i1 s1
  rw [i9]
  refine ⟨a1,fun i => ?_⟩
  rw [a2,i2,s2,p2,Dt]
theorem n8 {sF:List Fr->Fr->List Fr} {aF:List Fr->List Fr->List Fr} (hC : ∀ l m,cE (aF l m)=aF l m) (f:List (List Fr)) (v:Fr) : ∀ n {q:List Fr},cE q=q->cE (lZ sF aF f v n q)=lZ sF aF f v n q
 | 0,_,h=>h
 | n+1,q,_=>by
  rw [lY]
  exact n8 hC f v n (hC _ _)
theorem FI {sF:List Fr->Fr->List Fr} {aF:List Fr->List Fr->List Fr} {mF:Fr->Fr->Fr} {o:Fr} (hC : ∀ l m,cE (aF l m)=aF l m) (f:List (List Fr)) (v:Fr) : ∀ n,cE (fS sF aF mF o f v n)=fS sF aF mF o f v n
 | 0=>rfl
 | n+1=>by
  rw [i9]
  exact hC _ _
theorem yX (l m:List Fr):cE (ez l m)=ez l m:=by
 unfold ez lb
 exact Dz _
theorem HT (l m:List Fr):cE (cT l m)=cT l m:=by
 unfold cT
 exact Dz _
theorem zu {f:List (List Fr)} (hf:Kk f) {v:Fr} (hv:v.ok):fT f v=kI f v:=by
 obtain ⟨h1,h2⟩:=wh yW Ke hf hv f.length jZ
 obtain ⟨k1,k2⟩:=Du Ev My hf (Oj hv) f.length
 have c1:=n8 (sF:=bm) yX f v f.length (q := []) rfl
 have c2:=FI (sF:=aW) (mF:=aQ) (o:=a9) HT f v f.length
 unfold fT kI
 rw [<- c1,<- c2]
 refine uC h1 k1 fun i => ?_
 rw [h2,k2,ca (l := []) (Nat.zero_le _)]
 generalize v.v ^ f.length=p
 generalize fs f v.v i f.length=s
 clear h2 k2
 grind
theorem FJ (f:List (List Fr)) (v:Fr):cE (fT f v)=fT f v:=n8 (sF:=bm) yX f v f.length (q := []) rfl
theorem K5 {aF mF:Fr->Fr->Fr} (hA : ∀ {a b:Fr},a.ok->b.ok->(aF a b).ok/\(aF a b).v=a.v+b.v) (hM : ∀ {a b:Fr},a.ok->b.ok->(mF a b).ok/\(mF a b).v=a.v*b.v) {y k:List Fr} (hy:bS y) (hk:bS k) {V:VR} (hV : ∀ i,i<y.length->(k.getD i frZ).v=V ^ i) :
  ∀ n,n<=y.length->(wx aF mF y k n).ok/\(wx aF mF y k n).v=hor V (vL (y.take n))
 | 0,_=>⟨Cl,GC⟩
 | n+1,hn=>by
  obtain ⟨i1,i2⟩:=K5 hA hM hy hk hV n (by omega)
  obtain ⟨m1,m2⟩:=hM (co hy n) (co hk n)
  obtain ⟨a1,a2⟩:=hA i1 m1
  rw [Gj]
  refine ⟨a1,?_⟩
  have e:y.take (n+1)=y.take n ++ [y.getD n frZ]:=eU y (by omega)
  rw [a2,m2,i2,hV n (by omega),e,ko,show vL [y.getD n frZ] = [(y.getD n frZ).v] from rfl,j6]
  unfold vL
  rw [List.length_map,List.length_take,Nat.min_eq_left (by omega)]
  generalize V ^ n=p
  generalize hor V (List.map Fr.v (List.take n y))=q
  generalize (y.getD n frZ).v=c
  clear a2 m2 i2
  grind
theorem nY {v:Fr} (hv:v.ok) {n i:Nat} (hi:i<n):((gS v (n:Int)).getD i frZ).ok/\((gS v (n:Int)).getD i frZ).v=v.v ^ i:=by
 unfold gS pwL
 rw [Int.toNat_natCast,Bz _ _ hi]
 exact Ok hv i
theorem AM {v:Fr} (hv:v.ok) (n:Nat):bS (gS v (n:Int)):=by
 unfold gS pwL
 exact gA fun i _=>(Ok hv i).1
theorem qo {y:List Fr} (hy:bS y) {v:Fr} (hv:v.ok):(dU y v).ok/\(dU y v).v=hor v.v (vL y):=by
 obtain ⟨h1,h2⟩:=K5 wt nD hy (AM hv y.length) (fun i hi=>(nY hv hi).2) y.length (Nat.le_refl _)
 unfold dU
 refine ⟨h1,?_⟩
 rw [h2,List.take_length]
theorem wE {y:List Fr} (hy:bS y) {v:Fr} (hv:v.ok):(vW y v).ok/\(vW y v).v=hor v.v (vL y):=by
 unfold vW
 exact Mv hy hv
theorem ym (V:VR) (c:List Fr) {k:List Fr} (hk : ∀ i,i<c.length->(k.getD i fr0).v=V ^ i) : ∀ n,n<=c.length->JU (fun i=>(c.getD i frZ).v) (fun i=>(k.getD i fr0).v) n=hor V (vL (c.take n))
 | 0,_=>rfl
 | n+1,hn=>by
  have e:c.take (n+1)=c.take n ++ [c.getD n frZ]:=eU c (by omega)
  rw [tO,ym V c hk n (by omega),hk n (by omega),e,ko,show vL [c.getD n frZ] = [(c.getD n frZ).v] from rfl,j6]
  unfold vL
  rw [List.length_map,List.length_take,Nat.min_eq_left (by omega)]
  generalize V ^ n=p
  generalize hor V (List.map Fr.v (List.take n c))=q
  generalize (c.getD n frZ).v=d
  grind
theorem H2 {c:List Fr} {i:Nat} (hi:i<c.length):(bu c).getD i iT=bM (c.getD i frZ):=by
 unfold bu
 rw [List.getD_eq_getElem?_getD,List.getElem?_map,List.getElem?_eq_getElem hi,List.getD_eq_getElem?_getD,List.getElem?_eq_getElem hi]
 rfl
theorem jX (c:List Fr):(bu c).length=c.length:=by
 unfold bu
 rw [List.length_map]
theorem wH {c:List Fr} (hc:bS c) {v:Fr} (hv:v.ok):At1 (jK (bu c) v) (hor v.v (vL c)):=by
 have hl:=jX c
 have h:=wo (ps:=bu c) (ks:=gS v (c.length:Int)) (X:=fun i=>(c.getD i frZ).v) (fun i hi=>by
  rw [H2 (by omega)]
  exact dP (co hc i)) (fun i hi=>by
  rw [ku] at hi
  exact (nY hv hi).1)
 have e:aA (bu c) (gS v (c.length:Int))=c.length:=by
  unfold aA
  rw [ku,hl]
  exact Nat.min_self _
 rw [e,ym v.v c (fun i hi=>(nY hv hi).2) c.length (Nat.le_refl _),List.take_length] at h
 unfold jK
 rw [hl]
 exact h
end
set_option maxRecDepth 100000
section
theorem wV:fr1.ok:=by unfold Fr.ok;decide +kernel
theorem KH:fr2.ok:=by unfold Fr.ok;decide +kernel
theorem Cm:fr3.ok:=by unfold Fr.ok;decide +kernel
theorem KG:fr7.ok:=by unfold Fr.ok;decide +kernel
theorem OC:fr1.v=1:=VR.ext (by decide +kernel)
theorem Jh:fr1.v*1+fr2.v*fr3.v=fr7.v:=VR.ext (by decide +kernel)
theorem NA:fr1.v+fr3.v*(fr2.v+fr3.v*0)=fr7.v:=VR.ext (by decide +kernel)
theorem mU {a:Fr} (h:a.ok):bS [a]:=fun x hx=>by
 rw [List.mem_singleton.1 hx]
 exact h
theorem EU {a b:Fr} (h:a.ok) (k:b.ok):bS [a,b]:=fun x hx=>by
 rcases List.mem_cons.1 hx with rfl | hx
 ·exact h
 ·rw [List.mem_singleton.1 hx]
  exact k
theorem VR.pow1 (x:VR):x ^ 1=x:=by
 rw [show (1:Nat)=0+1 from rfl,an,bT]
 grind
theorem VR.z1 (x:VR):0+x=x:=by grind
theorem VR.z2 (x y:VR):0+0*x+0*y=0:=by grind
theorem Qf (a b:List Fr) (v:VR) (i:Nat):fs [a,b] v i 2=cv a i*1+cv b i*v:=by
 show 0+cv a i*v ^ 0+cv b i*v ^ 1=_
 rw [bT,VR.pow1,VR.z1]
theorem Sc:cE [fr7] = [fr7]:=by
 have h:cV [fr7] [fr7].length=1:=by decide +kernel
 unfold cE
 rw [h]
 rfl
theorem Ru:fT [[fr1],[fr2]] fr3 = [fr7]:=by
 have hf:Kk [[fr1],[fr2]]:=fun xs hx=>by
  rcases List.mem_cons.1 hx with rfl | hx
  ·exact mU wV
  ·rw [List.mem_singleton.1 hx]
   exact mU KH
 obtain ⟨h1,h2⟩:=wh yW Ke hf Cm 2 jZ
 have c:=FJ [[fr1],[fr2]] fr3
 rw [<- c,<- Sc]
 refine uC h1 (mU KG) fun i => ?_
 show cv (lZ bm ez [[fr1],[fr2]] fr3 2 []) i=_
 rw [h2,ca (l := []) (Nat.zero_le _),Qf]
 cases i with
 | zero =>
  show 0*fr3.v ^ 2+(fr1.v*1+fr2.v*fr3.v)=fr7.v
  rw [Jh]
  generalize fr3.v ^ 2=p
  generalize fr7.v=q
  clear h2
  grind
 | succ i =>
  rw [ca (l := [fr1]) (by simp),ca (l := [fr2]) (by simp),ca (l := [fr7]) (by simp)]
  generalize fr3.v ^ 2=p
  generalize fr3.v=q
  clear h2
  grind
theorem Q8:dU [fr1,fr2] fr3=fr7:=by
 obtain ⟨h1,h2⟩:=qo (EU wV KH) Cm
 refine Fr.v_inj h1 KG ?_
 rw [h2]
 exact NA
theorem Jv:bM fr1=jD:=by
 have h:=dP wV
 rw [OC] at h
 exact h.eq wq
theorem R7:jK [jD] fr3=jD:=by
 have h:=wH (mU wV) Cm
 have e1:bu [fr1] = [jD]:=by
  unfold bu
  rw [List.map_cons,List.map_nil,Jv]
 have e2:hor fr3.v (vL [fr1])=1:=by
  show fr1.v+fr3.v*0=1
  rw [OC]
  generalize fr3.v=q
  clear h
  grind
 rw [e1,e2] at h
 exact h.eq wq
theorem F0 {fF:List (List Fr)->Fr->List Fr} {sF:List Fr->Fr->Fr} {g:Pg1} {pF:List Pg1->Fr->Pg1} (h1:fF [[fr1],[fr2]] fr3 = [fr7]) (h2:sF [fr1,fr2] fr3=fr7) (h3:pF [g] fr3=g):DF fF sF g pF=true:=by
 unfold DF
 rw [h1,h2,h3,show (((([fr7]:List Fr).length:Nat):Int)==1)=true from rfl,show ([fr7]:List Fr).getD 0 frZ=fr7 from rfl,(j7 fr7 fr7).2 rfl]
 exact (kv g g).2 rfl
theorem mn:b7=true:=by
 unfold b7
 exact F0 Ru Q8 R7
theorem n5 {m:Nat} : ∀ {f:List (List Fr)},kE bv (m:Int) f=true -> ∀ xs ∈ f,bS xs/\xs.length<=m
 | [],_,xs,hx=>(List.not_mem_nil hx).elim
 | a :: f,h,xs,hx=>by
  rw [ra] at h
  cases e:bv a (m:Int) with
  | false=>rw [e] at h;cases h
  | true =>
   rw [e] at h
   obtain ⟨h1,h2⟩:=bI e
   rcases List.mem_cons.1 hx with rfl | hx
   ·exact ⟨h1,by omega⟩
   ·exact n5 h xs hx
theorem lT {f:List (List Fr)} {n m:Nat} (h:iq f (n:Int) (m:Int)=true):Kk f/\(∀ xs ∈ f,xs.length<=m)/\f.length<=n:=by
 unfold iq at h
 cases e:kE bv (m:Int) f with
 | false=>rw [e] at h;cases h
 | true =>
  rw [e] at h
  simp only [decide_eq_true_eq] at h
  exact ⟨fun xs hx=>(n5 e xs hx).1,fun xs hx=>(n5 e xs hx).2,by omega⟩
theorem IN {f:List (List Fr)} {n m:Nat} (h:iq f (n:Int) (m:Int)=true) (hn:n<1000) (hm:m<1000):l7 f:=by
 obtain ⟨_,h2,h3⟩:=lT h
 exact ⟨by omega,fun xs hx=>by have:=h2 xs hx;omega⟩
end
set_option maxRecDepth 100000
section
theorem zL {p:Pg1} (h:p=infG1):At1 p 0:=by
 subst h
 exact ⟨⟨.inl rfl,trivial⟩,by rw [gm_zero];rfl⟩
theorem R5 {a b:Pg1} {k l:Fr} {A B:VR} (ha:At1 a A) (hb:At1 b B) (hk:k.ok) (hl:l.ok):At1 (dT [a,b] [k,l]) (0+A*k.v+B*l.v):=by
 have h:=wo (ps := [a,b]) (ks := [k,l]) (X:=fun i => [A,B].getD i 0) (fun i hi=>by
  match i,hi with
  | 0,_=>exact ha
  | 1,_=>exact hb) (fun i hi=>by
  match i,hi with
  | 0,_=>exact hk
  | 1,_=>exact hl)
 exact h
theorem R4 {a b c d e:Pg1} {k l m n o:Fr} {A B C D E:VR} (ha:At1 a A) (hb:At1 b B) (hc:At1 c C) (hd:At1 d D) (he:At1 e E) (hk:k.ok) (hl:l.ok) (hm:m.ok) (hn:n.ok) (ho:o.ok):At1 (dT [a,b,c,d,e] [k,l,m,n,o]) (0+A*k.v+B*l.v+C*m.v+D*n.v+E*o.v):=by
 have h:=wo (ps := [a,b,c,d,e]) (ks := [k,l,m,n,o]) (X:=fun i => [A,B,C,D,E].getD i 0) (fun i hi=>by
  match i,hi with
  | 0,_=>exact ha
  | 1,_=>exact hb
  | 2,_=>exact hc
  | 3,_=>exact hd
  | 4,_=>exact he) (fun i hi=>by
  match i,hi with
  | 0,_=>exact hk
  | 1,_=>exact hl
  | 2,_=>exact hm
  | 3,_=>exact hn
  | 4,_=>exact ho)
 exact h
theorem VR.sideA (a b r:VR):0+a*1+b*r=a+b*r:=by grind
theorem VR.sideB (a b c d y u z x r:VR):0+a*z+b*(r*x)+c*1+d*r+1 * -(y+r*u)=a*z+b*(r*x)+c+d*r-(y+r*u):=by grind
theorem JM:At1 oneG1 1:=⟨gen1_good,by rw [KC]⟩
theorem JJ {c y d u:List Fr} {z x v r:Fr} {wa wb:Pg1} {A B:VR} (hc:bS c) (hy:bS y) (hd:bS d) (hu:bS u) (hz:z.ok) (hx:x.ok) (hv:v.ok) (hr:r.ok) (ha:At1 wa A) (hb:At1 wb B) :
  At1 (fO (bu c) y z (bu d) u x v r ⟨wa,wb⟩).1 (A+B*r.v)/\At1 (fO (bu c) y z (bu d) u x v r ⟨wa,wb⟩).2 (A*z.v+B*(r.v*x.v)+hor v.v (vL c)+hor v.v (vL d)*r.v-(hor v.v (vL y)+r.v*hor v.v (vL u))):=by
 rw [F2,RS]
 obtain ⟨y1,y2⟩:=qo hy hv
 obtain ⟨u1,u2⟩:=qo hu hv
 obtain ⟨m1,m2⟩:=nD hr hx
 obtain ⟨n1,n2⟩:=nD hr u1
 obtain ⟨a1,a2⟩:=wt y1 n1
 obtain ⟨g1,g2⟩:=M3 a1
 have h1:=R5 ha hb mS hr
 have h2:=R4 ha hb (wH hc hv) (wH hd hv) JM hz m1 mS hr g1
 rw [pZ,VR.sideA] at h1
 rw [pZ,g2,a2,n2,m2,y2,u2,VR.sideB] at h2
 dsimp only
 exact ⟨h1,h2⟩
end
set_option maxRecDepth 100000
section
theorem Mb {y:List Fr} (hy:bS y) {v:Fr} (hv:v.ok):dU y v=im y v:=by
 obtain ⟨a1,a2⟩:=qo hy hv
 obtain ⟨b1,b2⟩:=wE hy hv
 rw [mP]
 exact Fr.v_inj a1 b1 (a2.trans b2.symm)
theorem Pw {y:List Fr} (hy:bS y) {v:Fr} (hv:v.ok):jK (bu y) v=bM (im y v):=by
 obtain ⟨b1,b2⟩:=wE hy hv
 rw [mP]
 have h:=dP b1
 rw [b2] at h
 exact (wH hy hv).eq h
theorem vk (b:Bool) (Y:List (List Fr)->Int->Int->Bool) (M:List Fr->Int->Bool) (R:Fr->Bool) (P Q:List (List Fr)->Fr->List Fr) (S:List Fr->List Fr->Bool) (A B:List Fr->Fr->Fr) (N:List Fr->List Pg1) (T:List Pg1->Fr->Pg1) (G:Fr->Pg1) (f:List (List Fr)) (y:List Fr) (v:Fr):(b9 b Y M R P Q S A B N T G f y v).outD false =
  cond (!b) false (cond (!Y f 6 6) true (cond (!M y 4) true (cond (!R v) true (cond (S (P f v) (Q f v)) (cond (fJ (A y v) (B y v)) (tx (T (N y) v) (G (B y v))) false) false)))):=by
 unfold b9
 simp only [qH,qG,kw,fA,kQ]
 rfl
theorem pG (f:List (List Fr)) (y:List Fr) (v:Fr):jd f y v=true:=by
 unfold jd
 rw [vk,mn]
 cases e1:iq f 6 6 with
 | false=>rfl
 | true =>
  cases e2:bv y 4 with
  | false=>rfl
  | true =>
   cases e3:cm v with
   | false=>rfl
   | true =>
    have hf:=(lT (n:=6) (m:=6) e1).1
    have hy:=(bI e2).1
    have hv:v.ok:=mayR_iff'.1 e3
    rw [zu hf hv,xn,Mb hy hv,Pw hy hv,(j7 _ _).2 rfl,(kv _ _).2 rfl]
    rfl
theorem BC {f:List (List Fr)} (hf:l7 f) (v:Fr):(kI f v).length<4294967296:=n7 hf a9 v aQ f.length
theorem Da {b:Bool} (h:(!b)=false):b=true:=by cases b <;> first | rfl | cases h
theorem th (f:List (List Fr)) (y:List Fr) (v:Fr) (hy:y.length<aD):(b9 b7 iq bv cm fT kI eV dU im bu jK bM f y v).full=true/\(b9 b7 iq bv cm fT kI eV dU im bu jK bM f y v).okAll:=by
 refine ⟨rfl,fun _=>trivial,fun _=>⟨rfl,fun _=>trivial,fun b1=>⟨bN hy,fun _=>trivial,fun b2=>⟨fun _=>trivial,fun b3 => ?_⟩⟩⟩⟩
 have f1:l7 f:=IN (n:=6) (m:=6) (Da b1) (by decide) (by decide)
 have hf:=(lT (n:=6) (m:=6) (Da b1)).1
 have hv:v.ok:=mayR_iff'.1 (Da b3)
 have l2:=BC f1 v
 have l1:(fT f v).length<4294967296:=by rw [zu hf hv];exact l2
 have b2:=(bI (Da b2)).2
 rw [fA] at b2
 have ly:y.length<4294967296:=by omega
 have lp:(bu (List.take y.length (List.drop 0 y))).length<4294967296:=by rw [fA,jX];exact ly
 exact ⟨⟨rfl,f1⟩,⟨rfl,f1⟩,⟨bN (Nat.lt_trans l1 (by decide)),bN (Nat.lt_trans l2 (by decide))⟩,fun _=>⟨d9 ly,bN hy,fun _=>⟨d9 ly,mp lp,bN hy,trivial⟩,fun _=>trivial⟩,fun _=>trivial⟩
theorem nK {w:World} {v0 v1 v2:Value} {f:List (List Fr)} {y:List Fr} {v:Fr} (g0:LsIs .fr w v0 f) (g1:(aB .fr).is w v1 y) (g2:(aa Fr).arg.is w v2 v):Gives Try.prog 8 #[v0,v1,v2] w kBool.rs.res true:=by
 have:=mf (fun f y v _ hy=>th f y v hy) g0 g1 g2
 rw [pG] at this
 exact this
theorem Of {c:List Fr} (hc:bS c) {v:Fr} (hv:v.ok) : ∀ n,n<=c.length->At1 (rpO cw fY (bu c) (pwK a9 aQ v) infG1 n) (hor v.v (vL (c.take n)))
 | 0,_=>zL rfl
 | n+1,hn=>by
  have ih:=Of hc hv n (by omega)
  obtain ⟨p1,p2⟩:=Oj hv n
  have hg:(bu c).getD n iT=bM (c.getD n frZ):=by
   unfold bu
   rw [List.getD_eq_getElem?_getD,List.getElem?_map,List.getD_eq_getElem?_getD,List.getElem?_eq_getElem (by omega)]
   rfl
  have h1:=ga (dP (co hc n)) p1
  have h2:=fL ih h1
  rw [yE,hg]
  rw [p2] at h2
  have e:c.take (n+1)=c.take n ++ [c.getD n frZ]:=eU c (by omega)
  rw [e,ko,show vL [c.getD n frZ] = [(c.getD n frZ).v] from rfl,j6]
  rw [show (vL (c.take n)).length=n by unfold vL;rw [List.length_map,List.length_take,Nat.min_eq_left (by omega)]]
  generalize v.v ^ n=p at *
  generalize (c.getD n frZ).v=a at *
  rw [show p*a=a*p by grind]
  exact h2
theorem J2 {c:List Fr} (hc:bS c) {v:Fr} (hv:v.ok):At1 (wD (bu c) v) (hor v.v (vL c)):=by
 have h:=Of hc hv c.length (Nat.le_refl _)
 rw [List.take_length] at h
 unfold wD
 rw [jX]
 exact h
theorem rz6 (aF:Pg1->Pg1->Pg1) (a b c d e f o:Pg1):rzO aF [a,b,c,d,e,f] o 6=aF (aF (aF (aF (aF (aF o a) b) c) d) e) f:=rfl
theorem VR.six (A B Z X R C Y D U:VR):0+A*Z+B*(R*X)+C + -Y+D*R + -(R*U)=A*Z+B*(R*X)+C+D*R-(Y+R*U):=by grind
theorem HR {c y d u:List Fr} {z x v r:Fr} {wa wb:Pg1} {A B:VR} (hc:bS c) (hy:bS y) (hd:bS d) (hu:bS u) (hz:z.ok) (hx:x.ok) (hv:v.ok) (hr:r.ok) (ha:At1 wa A) (hb:At1 wb B) :
  At1 (fX (bu c) y z (bu d) u x v r ⟨wa,wb⟩).1 (A+B*r.v)/\At1 (fX (bu c) y z (bu d) u x v r ⟨wa,wb⟩).2 (A*z.v+B*(r.v*x.v)+hor v.v (vL c)+hor v.v (vL d)*r.v-(hor v.v (vL y)+r.v*hor v.v (vL u))):=by
 obtain ⟨y1,y2⟩:=wE hy hv
 obtain ⟨u1,u2⟩:=wE hu hv
 obtain ⟨m1,m2⟩:=sg hr hx
 obtain ⟨n1,n2⟩:=sg hr u1
 have g1:=qM y1
 have g2:=BX y1
 have k1:=qM n1
 have k2:=BX n1
 unfold fX rzL
 dsimp only
 rw [rz6,mP,mP]
 have h0:At1 infG1 0:=zL rfl
 have h1:=fL h0 (ga ha hz)
 have h2:=fL h1 (ga hb m1)
 have h3:=fL h2 (J2 hc hv)
 have h4:=fL h3 (dP g1)
 have h5:=fL h4 (ga (J2 hd hv) hr)
 have h6:=fL h5 (dP k1)
 rw [m2,g2,y2,k2,n2,u2,VR.six] at h6
 exact ⟨fL ha (ga hb hr),h6⟩
theorem vj (b:Bool) (M:List Fr->Int->Bool) (G:Fr->Pg1) (N:List Fr->List Pg1) (S T:List Pg1->List Fr->Fr->List Pg1->List Fr->Fr->Fr->Fr->PP->Pg1 × Pg1) (c y d u:List Fr) (z x v r:Fr) (ws:FF):(b8 b M G N S T c y d u z x v r ws).outD false =
  cond (!b) false (cond (!M c 3) true (cond (!M d 3) true (cond (!M [z,x,v,r,ws.a,ws.b] 6) true (cond (!M y 3) true (cond (!M u 3) true (cond ((y.length:Int) != (c.length:Int)) true (cond ((u.length:Int) != (d.length:Int)) true
   (cond (tx (S (N c) y z (N d) u x v r ⟨G ws.a,G ws.b⟩).1 (T (N c) y z (N d) u x v r ⟨G ws.a,G ws.b⟩).1) (tx (S (N c) y z (N d) u x v r ⟨G ws.a,G ws.b⟩).2 (T (N c) y z (N d) u x v r ⟨G ws.a,G ws.b⟩).2) false)))))))):=by
 unfold b8
 simp only [qH,qG,kw,fA,kQ]
 rfl
theorem pD (c y d u:List Fr) (z x v r:Fr) (ws:FF):jc c y d u z x v r ws=true:=by
 unfold jc
 rw [vj,mn]
 cases e1:bv c 3 with
 | false=>rfl
 | true =>
  cases e2:bv d 3 with
  | false=>rfl
  | true =>
   cases e3:bv [z,x,v,r,ws.a,ws.b] 6 with
   | false=>rfl
   | true =>
    cases e4:bv y 3 with
    | false=>rfl
    | true =>
     cases e5:bv u 3 with
     | false=>rfl
     | true =>
      have hc:=(bI e1).1
      have hd:=(bI e2).1
      have h:=(bI e3).1
      have hy:=(bI e4).1
      have hu:=(bI e5).1
      have k2:=h z (by simp)
      have k3:=h x (by simp)
      have k4:=h v (by simp)
      have k5:=h r (by simp)
      have k6:=h ws.a (by simp)
      have k7:=h ws.b (by simp)
      obtain ⟨p1,p2⟩:=JJ hc hy hd hu k2 k3 k4 k5 (dP k6) (dP k7)
      obtain ⟨q1,q2⟩:=HR hc hy hd hu k2 k3 k4 k5 (dP k6) (dP k7)
      have e6:=(kv _ _).2 (p1.eq q1)
      have e7:=(kv _ _).2 (p2.eq q2)
      rw [e6,e7]
      cases ((y.length:Int) != (c.length:Int)) <;> cases ((u.length:Int) != (d.length:Int)) <;> rfl
theorem tg (c y d u:List Fr) (z x v r:Fr) (ws:FF) (hc:c.length<aD) (hy:y.length<aD) (hd:d.length<aD) (hu:u.length<aD):(b8 b7 bv bM bu fO fX c y d u z x v r ws).full=true/\(b8 b7 bv bM bu fO fX c y d u z x v r ws).okAll:=by
 refine ⟨rfl,fun _=>trivial,fun _=>⟨bN hc,fun _=>trivial,fun b1=>⟨bN hd,fun _=>trivial,fun b2=>⟨fun _=>trivial,fun _=>⟨bN hy,fun _=>trivial,fun b4=>⟨bN hu,fun _=>trivial,fun b5=>⟨bf y,bf c,fun _=>trivial,fun _=>⟨bf u,bf d,fun _=>trivial,fun _ => ?_⟩⟩⟩⟩⟩⟩⟩⟩
 have b1:=(bI (Da b1)).2
 have b2:=(bI (Da b2)).2
 have b4:=(bI (Da b4)).2
 have b5:=(bI (Da b5)).2
 rw [fA] at b1 b2 b4 b5
 have lc:c.length<4294967296:=by omega
 have ld:d.length<4294967296:=by omega
 have ly:y.length<4294967296:=by omega
 have lu:u.length<4294967296:=by omega
 have pc:(bu (List.take c.length (List.drop 0 c))).length<4294967296:=by rw [fA,jX];exact lc
 have pd:(bu (List.take d.length (List.drop 0 d))).length<4294967296:=by rw [fA,jX];exact ld
 exact ⟨d9 lc,d9 ld,⟨mp pc,d9 ly,mp pd,d9 lu⟩,d9 lc,d9 ld,⟨mp pc,d9 ly,mp pd,d9 lu⟩,fun _=>trivial,fun _=>trivial⟩
theorem nJ {w:World} {v0 v1 v2 v3 v4' v5 v6 v7 v8:Value} {c y d u:List Fr} {z x v r:Fr} {ws:FF} (g0:(aB .fr).is w v0 c) (g1:(aB .fr).is w v1 y) (g2:(aB .fr).is w v2 d) (g3:(aB .fr).is w v3 u) (g4:(aa Fr).arg.is w v4' z) (g5:(aa Fr).arg.is w v5 x) (g6:(aa Fr).arg.is w v6 v) (g7:(aa Fr).arg.is w v7 r) (g8:(aa FF).arg.is w v8 ws):Gives Try.prog 9 #[v0,v1,v2,v3,v4',v5,v6,v7,v8] w kBool.rs.res true:=by
 have:=me c y d u z x v r ws g0 g1 g2 g3 g4 g5 g6 g7 g8 (fun hc hy hd hu=>tg c y d u z x v r ws hc hy hd hu)
 rw [pD] at this
 exact this
end
end Go.Proofs.Ytibfppbffdedoaa
