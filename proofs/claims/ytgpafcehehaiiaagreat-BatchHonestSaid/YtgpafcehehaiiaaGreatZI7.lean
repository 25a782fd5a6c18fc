/- Texts of the proof, joined. -/
import Derived.Test.YtgpafcehehaiiaaGreatZI6
set_option linter.unusedSectionVars false
set_option linter.unusedSimpArgs false
set_option linter.unusedVariables false
namespace Go.Proofs.YtgpafcehehaiiaaGreat
open Go.RowKit
set_option maxRecDepth 100000
section
theorem aaP:CallOk Tryz.prog 170 (K2 (ba .fr) aAt r4.res nG) :=
 G2 (E:=En []) Tryz.func170 (c:=ae Tryz.f170) (by kernel_rfl) (ab Tryz.func170 (by kernel_rfl) (by kernel_rfl)) (gA .fr) (kInt.inp.such B4) r4.out nG fun l i hl hi=>by
  have hi:0<=i:=hi.2
  refine DoesL.ends (aj .nil) 100 (adP l i) ⟨bc l,fun _=>⟨fun h => ?_,fun h => ?_⟩⟩
  ·simp only [decide_eq_true_eq] at h
   refine ⟨⟨⟨hi,h⟩,by rw [aN];omega,by decide,rfl⟩,fun _=>⟨by omega,fun _=>⟨.t,?_,trivial⟩⟩⟩
   rw [Nat.zero_add]
   rfl
  ·simp only [decide_eq_false_iff_not] at h
   refine ⟨.t,?_,trivial⟩
   unfold nG atL
   rw [List.getD_eq_getElem?_getD,List.getElem?_eq_none (by omega)]
   rfl
def fL (g:Nat->Fr) (n i:Nat):List Fr:=(List.range i).map g++List.replicate (n-i) frZ
theorem yS (g:Nat->Fr) {n i:Nat} (h:i<=n):(fL g n i).length=n:=by
 unfold fL
 rw [List.length_append,List.length_map,List.length_range,List.length_replicate]
 omega
theorem ve (g:Nat->Fr) (n:Nat):fL g n 0=List.replicate n frZ:=by
 unfold fL
 rw [List.range_zero,List.map_nil,List.nil_append,Nat.sub_zero]
theorem vg (g:Nat->Fr) (n:Nat):fL g n n=(List.range n).map g:=by
 unfold fL
 rw [Nat.sub_self,List.replicate_zero,List.append_nil]
theorem yR (g:Nat->Fr) {n i:Nat} (h:i<n):(fL g n i).set i (g i)=fL g n (i+1):=by
 unfold fL
 obtain ⟨k,hk⟩ : ∃ k,n-i=k+1:=⟨n-i-1,by omega⟩
 rw [List.set_append_right _ _ (by rw [List.length_map,List.length_range];exact Nat.le_refl _),List.length_map,List.length_range,Nat.sub_self,hk,List.replicate_succ,List.set_cons_zero,List.range_succ,List.map_append,List.append_assoc,show n-(i+1)=k by omega]
 rfl
theorem yd (l m:List Fr):(if (m.length:Int) > (l.length:Int) then (m.length:Int) else (l.length:Int)).toNat=cB l m:=by rw [ye,Int.toNat_natCast]
def pbG (tF:List Fr->Int->Fr) (aF:Fr->Fr->Fr) (l m:List Fr) (i:Nat):Fr:=aF (tF l i) (tF m i)
theorem adO {tF:List Fr->Int->Fr} {aF:Fr->Fr->Fr} {cF:List Fr->List Fr} (hE:EnvOk (pbE tF aF cF)) (l m:List Fr) (hl:l.length<4294967296) (hm:m.length<4294967296) :
  DoesL (pbE tF aF cF) (flat (ae Tryz.f129)) (ah Tryz.f129 [rwV .fr 0 l,rwV .fr 1 m,.one ((kFn 85).av ())] [bz .fr l,bz .fr m])
   (EndsAs (pbE tF aF cF) Tryz.f129 (bO oFrs (cF ((List.range (cB l m)).map (pbG tF aF l m))))):=by
 have hN:cB l m<4294967296:=Nat.max_lt.2 ⟨hm,hl⟩
 refine DoesL.stageG hE 100 3 _ _ _ _ _ (Xg tF aF cF l m) ⟨bc l,fun _=>⟨bc m,fun _ => ?_⟩⟩
 rw [yd,ye]
 refine ⟨⟨by omega,by omega,by omega,by omega⟩,fun _=>⟨by rw [aN,List.length_replicate];omega,fun _ => ?_⟩⟩
 refine (?_:DoesL _ _ (aaO l m (cB l m:Int) ((0:Nat):Int) (cB l m) (List.replicate (cB l m) frZ)) _)
 rw [<- ve (pbG tF aF l m)]
 refine DoesL.blockLoop (B:=aP Tryz.f129 0) (rest:=pbC.drop 4) (id:=0) (by kernel_rfl) (fun j : { j:Nat // j<=cB l m }=>aaO l m (cB l m:Int) (j.1:Int) (cB l m) (fL (pbG tF aF l m) (cB l m) j.1)) (fun j=>cB l m-j.1) ⟨0,Nat.zero_le _⟩ fun j => ?_
 obtain ⟨j,hj⟩:=j
 refine (?_:Does _ _ (aaO l m (cB l m:Int) (j:Int) (cB l m) (fL (pbG tF aF l m) (cB l m) j)) _)
 have hlen:=yS (pbG tF aF l m) hj
 refine Does.round hE 300 _ (Xh tF aF cF l m _ (j:Int) _ (fL (pbG tF aF l m) (cB l m) j)) ⟨fun h => ?_,fun h => ?_⟩
 ·simp only [decide_eq_true_eq] at h
  have hj1:j<cB l m:=by omega
  refine ⟨⟨cj (by show l.length<1125899906842624;omega),ml j⟩,fun _=>⟨⟨cj (by show m.length<1125899906842624;omega),ml j⟩,fun _=>⟨⟨⟨by omega,by omega⟩,by rw [aN,hlen];omega,by decide,rfl⟩,fun _=>⟨by rw [hlen];omega,fun _ => ?_⟩⟩⟩⟩
  refine ⟨⟨j+1,hj1⟩,by show cB l m-(j+1)<cB l m-j;omega,?_⟩
  show _=aaO l m (cB l m:Int) ((j+1:Nat):Int) (cB l m) (fL (pbG tF aF l m) (cB l m) (j+1))
  rw [qJ j (by omega),am rfl,am rfl,jY,<- yR _ hj1]
  rfl
 ·simp only [decide_eq_false_iff_not] at h
  obtain rfl:j=cB l m:=by omega
  refine ⟨rfl,DoesL.ends hE 100 (ahv tF aF cF l m _ _ _ _) ⟨⟨⟨by rw [aN,hlen];omega,rfl,by omega,rfl,rfl⟩,?_⟩,fun _ => ?_⟩⟩
  ·show (List.take (cB l m) (List.drop 0 _)).length<4294967296
   rw [List.length_take]
   omega
  ·rw [am hlen,List.take_length,vg]
   exact ⟨_,rfl,Nat.le_refl _⟩
def pcG (tF:List Fr->Int->Fr) (gF:Fr->Fr->Fr->Fr) (l m:List Fr) (x:Fr) (i:Nat):Fr:=gF (tF l i) (tF m i) x
theorem adN {tF:List Fr->Int->Fr} {gF:Fr->Fr->Fr->Fr} {cF:List Fr->List Fr} (hE:EnvOk (pcE tF gF cF)) (l m:List Fr) (x:Fr) (hl:l.length<4294967296) (hm:m.length<4294967296) :
  DoesL (pcE tF gF cF) (flat (ae Tryz.f129)) (ah Tryz.f129 [rwV .fr 0 l,rwV .fr 1 m,.one (.c (.clo 130 2 0))] [bz .fr l,bz .fr m,vr Fr x])
   (EndsAs (pcE tF gF cF) Tryz.f129 (bO oFrs (cF ((List.range (cB l m)).map (pcG tF gF l m x))))):=by
 have hN:cB l m<4294967296:=Nat.max_lt.2 ⟨hm,hl⟩
 refine DoesL.stageG hE 100 3 _ _ _ _ _ (Xe tF gF cF l m x) ⟨bc l,fun _=>⟨bc m,fun _ => ?_⟩⟩
 rw [yd,ye]
 refine ⟨⟨by omega,by omega,by omega,by omega⟩,fun _=>⟨by rw [aN,List.length_replicate];omega,fun _ => ?_⟩⟩
 refine (?_:DoesL _ _ (aaN l m x (cB l m:Int) ((0:Nat):Int) (cB l m) (List.replicate (cB l m) frZ)) _)
 rw [<- ve (pcG tF gF l m x)]
 refine DoesL.blockLoop (B:=aP Tryz.f129 0) (rest:=pbC.drop 4) (id:=0) (by kernel_rfl) (fun j : { j:Nat // j<=cB l m }=>aaN l m x (cB l m:Int) (j.1:Int) (cB l m) (fL (pcG tF gF l m x) (cB l m) j.1)) (fun j=>cB l m-j.1) ⟨0,Nat.zero_le _⟩ fun j => ?_
 obtain ⟨j,hj⟩:=j
 refine (?_:Does _ _ (aaN l m x (cB l m:Int) (j:Int) (cB l m) (fL (pcG tF gF l m x) (cB l m) j)) _)
 have hlen:=yS (pcG tF gF l m x) hj
 refine Does.round hE 300 _ (Xf tF gF cF l m x _ (j:Int) _ (fL (pcG tF gF l m x) (cB l m) j)) ⟨fun h => ?_,fun h => ?_⟩
 ·simp only [decide_eq_true_eq] at h
  have hj1:j<cB l m:=by omega
  refine ⟨⟨cj (by show l.length<1125899906842624;omega),ml j⟩,fun _=>⟨⟨cj (by show m.length<1125899906842624;omega),ml j⟩,fun _=>⟨⟨⟨by omega,by omega⟩,by rw [aN,hlen];omega,by decide,rfl⟩,fun _=>⟨by rw [hlen];omega,fun _ => ?_⟩⟩⟩⟩
  refine ⟨⟨j+1,hj1⟩,by show cB l m-(j+1)<cB l m-j;omega,?_⟩
  show _=aaN l m x (cB l m:Int) ((j+1:Nat):Int) (cB l m) (fL (pcG tF gF l m x) (cB l m) (j+1))
  rw [qJ j (by omega),am rfl,am rfl,jY,<- yR _ hj1]
  rfl
 ·simp only [decide_eq_false_iff_not] at h
  obtain rfl:j=cB l m:=by omega
  refine ⟨rfl,DoesL.ends hE 100 (aht tF gF cF l m x _ _ _ _) ⟨⟨⟨by rw [aN,hlen];omega,rfl,by omega,rfl,rfl⟩,?_⟩,fun _ => ?_⟩⟩
  ·show (List.take (cB l m) (List.drop 0 _)).length<4294967296
   rw [List.length_take]
   omega
  ·rw [am hlen,List.take_length,vg]
   exact ⟨_,rfl,Nat.le_refl _⟩
def qb (l m:List Fr) (_:Unit):List Fr:=aO ((List.range (cB l m)).map (pbG nG dI l m))
theorem RY:CallOk Tryz.prog 129 (K3 bV bV (kFn 85).arg oFrs.res qb) :=
 G3 (E:=pbE nG dI aO) Tryz.func129 (c:=ae Tryz.f129) (by kernel_rfl) (ab Tryz.func129 (by kernel_rfl) (by kernel_rfl)) iFew iFew (kFn 85).inp oFrs qb fun l m u hl hm _ =>
  adO (bn (.cons aaP (.cons sU (.cons tf .nil)))) l m hl.2 hm.2
def ji (x y k:Fr):Fr:=cX x k
theorem F8:CallOk Tryz.prog 130 (K3 (aa Fr).arg (aa Fr).arg (NZ Fr) r4.res ji) :=
 G3 (E:=s1E cX) Tryz.func130 (c:=ae Tryz.f130) (by kernel_rfl) (ab Tryz.func130 (by kernel_rfl) (by kernel_rfl)) (aa Fr).inp (aa Fr).inp (ah4 Fr) r4.out ji fun x y k _ _ _ =>
  DoesL.ends (aj (.cons oT .nil)) 100 (ag3 cX x y k) ⟨_,rfl,trivial⟩
def rX (l m:List Fr) (x:Fr):List Fr:=aO ((List.range (cB l m)).map (pcG nG ji l m x))
theorem RX:CallOk Tryz.prog 129 (K3 bV bV (NY Fr 130) oFrs.res rX) :=
 G3 (E:=pcE nG ji aO) Tryz.func129 (c:=ae Tryz.f129) (by kernel_rfl) (ab Tryz.func129 (by kernel_rfl) (by kernel_rfl)) iFew iFew (ah3 Fr 130) oFrs rX fun l m x hl hm _ =>
  adN (bn (.cons aaP (.cons F8 (.cons tf .nil)))) l m x hl.2 hm.2
def fN (l m:List Fr):List Fr:=qb l m ()
def bT (l:List Fr) (k:Fr):List Fr:=rX l [] k
theorem jS {f:List Fr} (h:f.length<4294967296):(0+f.length*4<=(ad RK.fr f).length/\0=0/\f.length<1125899906842624/\0=0/\4=4)/\bQ (List.take f.length (List.drop 0 f)):=by
 rw [am rfl]
 exact ⟨cj (Nat.lt_of_lt_of_le h (by decide)),h⟩
theorem Xj:CallOk Tryz.prog 82 (K2 bV bV oFrs.res fN) :=
 G2 (E:=paE qb) Tryz.func82 (c:=ae Tryz.f82) (by kernel_rfl) (ab Tryz.func82 (by kernel_rfl) (by kernel_rfl)) iFew iFew oFrs fN fun l m hl hm=>by
  refine DoesL.ends (bn (.cons RY .nil)) 100 (ahy qb l m) ⟨⟨jS hl.2,jS hm.2⟩,fun _ => ?_⟩
  rw [am rfl,am rfl,List.take_length]
  exact ⟨_,rfl,Nat.le_refl _⟩
theorem Lh:CallOk Tryz.prog 83 (K2 bV (aa Fr).arg oFrs.res bT) :=
 G2 (E:=psE rX) Tryz.func83 (c:=ae Tryz.f83) (by kernel_rfl) (ab Tryz.func83 (by kernel_rfl) (by kernel_rfl)) iFew (aa Fr).inp oFrs bT fun l x hl _=>by
  refine DoesL.ends (bn (.cons RX .nil)) 100 (ahm rX l x) ⟨⟨jS hl.2,by decide⟩,fun _ => ?_⟩
  rw [am rfl,List.take_length]
  exact ⟨_,rfl,Nat.le_refl _⟩
end
set_option maxRecDepth 100000
section
def zp (f0:UInt64->Fr):Fr:=(f0 (1:UInt64))
def HS (f0:UInt64->Fr):Tree (Option (Fr)) :=
 (.leaf (some (f0 (1:UInt64))))
theorem KF (f0:UInt64->Fr):ac (En [(46,K1 kU64.arg (aa Fr).rs.res f0)]) (aa Fr).rs 300 Tryz.f47 []=HS f0:=by kernel_rfl
theorem KE (f0:UInt64->Fr):(HS f0).sat fun q=>q=some (zp f0):=(show some _=some _ from rfl)
def bR  : Fr:=zp kB
theorem Rm:CallOk Tryz.prog 47 (K0 (aa Fr).rs.res bR) :=
 P0 (aj (.cons th .nil)) Tryz.func47 (ab Tryz.func47 (by kernel_rfl) (by kernel_rfl)) 300  (aa Fr).rs bR (KF kB) (KE kB)
def zq (f0:Fr->Fr->Fr) (a:Fr) (b:Fr):Fr:=(f0 a b)
def HT (f0:Fr->Fr->Fr) (a:Fr) (b:Fr):Tree (Option (Fr)) :=
 (.leaf (some (f0 a b)))
theorem KH (f0:Fr->Fr->Fr) (a:Fr) (b:Fr):ac (En [(29,Kr2 f0)]) (aa Fr).rs 300 Tryz.f48 [.one ((aa Fr).av a),.one ((aa Fr).av b)]=HT f0 a b:=by kernel_rfl
theorem KG (f0:Fr->Fr->Fr) (a:Fr) (b:Fr):(HT f0 a b).sat fun q=>q=some (zq f0 a b):=(show some _=some _ from rfl)
def bM (a:Fr) (b:Fr):Fr:=zq aw a b
theorem Ro:CallOk Tryz.prog 48 (K2 (aa Fr).arg (aa Fr).arg (aa Fr).rs.res bM) :=
 P2 (aj (.cons qk .nil)) Tryz.func48 (ab Tryz.func48 (by kernel_rfl) (by kernel_rfl)) 300 (aa Fr) (aa Fr) (aa Fr).rs bM (KH aw) (KG aw)
abbrev oG1s:Out (List Pg1):=xL .g1 33
abbrev aev (n:Int):Prop:=0<=n/\n<4294967296
abbrev ajl:Arg Int:=kInt.arg.such aev
abbrev fO (l:List (List Fr)):Prop:=l.length<4294967296 /\ ∀ xs ∈ l,xs.length<4294967296
abbrev tJ:Arg (List (List Fr)):=(yW .fr).such fO
abbrev iFls:Inp (List (List Fr)):=(yo .fr).such fO
def ahB (l:List Pg1):HE := .live ⟨true,33,13,.rows .g1 l,false⟩
def akJ (i c:Nat):AV := .one (.c (.slc i 0 c 13 (.of 0) false))
noncomputable abbrev bpC:List Code:=flat (ae Tryz.f84)
noncomputable abbrev bpE (oF:UInt64->Fr) (mF:Fr->Fr->Fr):Env:=En [(64,K1 kU64.arg r4.res oF),(86,Kr2 mF)]
def afd (x k:Fr) (n z:Int) (c:Nat) (l:List Fr):St:=ar 20 [(2,a8 0),(5,qT 2 c),(6,a8 1),(8,vI n),(9,vI z)] [own 24 (Row.cs x),own 24 (Row.cs k),eP l]
theorem ZJ (oF:UInt64->Fr) (mF:Fr->Fr->Fr) (x:Fr) (n:Int):stageG (bpE oF mF) 100 (bpC.take 4) (ah Tryz.f84 [v4 x,vI n] []) [2,5,6,8,9] [0,1] [(2,.as),(5,.nilE 2 4),(6,.as),(8,.as),(9,.int)] [.as,.as] [(24,.rows .fr)]=(.leaf (ar 20 [(2,.one (.c (.ptr 0 0))),(5,.one (.c (.slc 2 0 0 4 (.of 0) false))),(6,.one (.c (.ptr 1 0))),(8,.one (.c (.int .i64 (n)))),(9,.one (.c (.int .i64 0)))] [.live ⟨true,24,0,(.row (Row.cs (x:Fr))),false⟩,.live ⟨true,24,0,(.row (Row.cs (oF (UInt64.ofNat 1):Fr))),false⟩,.live ⟨true,24,4,(.rows .fr ([]:List Fr)),false⟩])):=by kernel_rfl
theorem ZK (oF:UInt64->Fr) (mF:Fr->Fr->Fr) (x k:Fr) (n z:Int) (c:Nat) (l:List Fr):roundP (bpE oF mF) 300 (aP Tryz.f84 0) (afd x k n z c l) (dM [2,5,6,8,9] [0,1] [5])=(.br (decide (z<n)) (.vc ((0+c*4<=(ad RK.fr l).length/\0=0)/\c+1<=9223372036854775807/\(c+1)*32<=140737488355328) (.leaf ((.normal,ar 20 [(2,.one (.c (.ptr 0 0))),(5,.one (.c (.slc 2 0 (c+1) 4 (.of 0) false))),(6,.one (.c (.ptr 1 0))),(8,.one (.c (.int .i64 (n)))),(9,.one (.c (.int .i64 (IntKind.i64.wrap (z+1)))))] [.live ⟨true,24,0,(.row (Row.cs (x:Fr))),false⟩,.live ⟨true,24,0,(.row (Row.cs (mF k x:Fr))),false⟩,.live ⟨true,24,4,(.rows .fr (List.take (jc c (4 / 4)) (List.drop 0 l) ++ [k]:List Fr)),false⟩])))) (.leaf ((.exit 0,ar 20 [(2,.one (.c (.ptr 0 0))),(5,.one (.c (.slc 2 0 (c) 4 (.of 0) false))),(6,.one (.c (.ptr 1 0))),(8,.one (.c (.int .i64 (n)))),(9,.one (.c (.int .i64 (z))))] [.live ⟨true,24,0,(.row (Row.cs (x:Fr))),false⟩,.live ⟨true,24,0,(.row (Row.cs (k:Fr))),false⟩,.live ⟨true,24,4,(.rows .fr (l:List Fr)),false⟩])))):=by kernel_rfl
theorem aiJ (oF:UInt64->Fr) (mF:Fr->Fr->Fr) (x k:Fr) (n z:Int) (c:Nat) (l:List Fr):cD (bpE oF mF) oFrs 100 Tryz.f84 (bpC.drop 5) (afd x k n z c l) =
 (.leaf (some ((List.take c l,(.p (c<=l.length)))))):=by kernel_rfl
noncomputable abbrev bsC:List Code:=flat (ae Tryz.f44)
noncomputable abbrev bsE (pF:Fr->Int->List Fr) (aF mF:Fr->Fr->Fr):Env:=Ens [(84,K2 (aa Fr).arg ajl oFrs.res pF),(85,Kr2 aF),(86,Kr2 mF)] [84]
def afb (y:List Fr) (a:Fr) (n z:Int) (c:Nat) (k:List Fr):St:=ar 28 [(0,rwV .fr 0 y),(4,a8 1),(5,a8 2),(11,qT 3 c),(12,vI n),(13,vI z)] [bz .fr y,own 24 (bJ 4),own 24 (Row.cs a),eP k]
theorem ZH (pF:Fr->Int->List Fr) (aF mF:Fr->Fr->Fr) (y:List Fr) (v:Fr):letI za':=(↑y.length:Int);letI zb':=UInt64.ofNat 0;stageG (bsE pF aF mF) 100 (bsC.take 3) (ah Tryz.f44 [rwV .fr 0 y,v4 v] [bz .fr y]) [0,4,5,11,12,13] [0,2,3,4] [(0,.as),(4,.as),(5,.as),(11,.as),(12,.as),(13,.int)] [.as,.as,.one .fr,.as] []=(.vc (0+y.length*4<=(ad RK.fr y).length/\0<4) (.vc (aev za') (.vc (0+(pF v za').length*4<=(ad RK.fr (pF v za')).length/\0<4) (.leaf (ar 28 [(0,.one (.c (.slc 0 0 (y.length) 4 (.of 0) false))),(4,.one (.c (.ptr 1 0))),(5,.one (.c (.ptr 2 0))),(11,.one (.c (.slc 3 0 ((pF v za').length) 4 (.of 0) false))),(12,.one (.c (.int .i64 ((↑(pF v za').length:Int))))),(13,.one (.c (.int .i64 0)))] [.live ⟨false,0,4,(.rows .fr (y:List Fr)),false⟩,.live ⟨true,24,0,(.row [(.lit .u64 0),(.lit .u64 0),(.lit .u64 0),(.lit .u64 0)]),false⟩,.live ⟨true,24,0,(.row [(.u64 zb'),(.u64 zb'),(.u64 zb'),(.u64 zb')]),false⟩,.live ⟨true,24,4,(.rows .fr (pF v za':List Fr)),false⟩]))))):=by kernel_rfl
theorem ZI (pF:Fr->Int->List Fr) (aF mF:Fr->Fr->Fr) (y:List Fr) (a:Fr) (n z:Int) (c:Nat) (k:List Fr):letI za':Fr := { l0:=0,l1:=0,l2:=0,l3:=0 };bk (bsE pF aF mF) 300 (aP Tryz.f44 0) (afb y a n z c k) (same [0,4,5,11,12,13] [0,1,2,3])=(.br (decide (z<n)) (.vc ((0<=z/\z<(↑c:Int))/\0+c*4<=(ad RK.fr k).length/\0<4/\0=0) (.vc (0+z.toNat<k.length) (.vc ((0<=z/\z<(↑y.length:Int))/\0+y.length*4<=(ad RK.fr y).length/\0<4/\0=0) (.vc (0+z.toNat<y.length) (.leaf ((.normal,ar 28 [(0,.one (.c (.slc 0 0 (y.length) 4 (.of 0) false))),(4,.one (.c (.ptr 1 0))),(5,.one (.c (.ptr 2 0))),(11,.one (.c (.slc 3 0 (c) 4 (.of 0) false))),(12,.one (.c (.int .i64 (n)))),(13,.one (.c (.int .i64 (IntKind.i64.wrap (z+1)))))] [.live ⟨false,0,4,(.rows .fr (y:List Fr)),false⟩,.live ⟨true,24,0,(.row [(.lit .u64 0),(.lit .u64 0),(.lit .u64 0),(.lit .u64 0)]),false⟩,.live ⟨true,24,0,(.row (Row.cs (aF a (mF (y.getD (0+z.toNat) za') (k.getD (0+z.toNat) za')):Fr))),false⟩,.live ⟨true,24,4,(.rows .fr (k:List Fr)),false⟩]))))))) (.leaf ((.exit 0,ar 28 [(0,.one (.c (.slc 0 0 (y.length) 4 (.of 0) false))),(4,.one (.c (.ptr 1 0))),(5,.one (.c (.ptr 2 0))),(11,.one (.c (.slc 3 0 (c) 4 (.of 0) false))),(12,.one (.c (.int .i64 (n)))),(13,.one (.c (.int .i64 (z))))] [.live ⟨false,0,4,(.rows .fr (y:List Fr)),false⟩,.live ⟨true,24,0,(.row [(.lit .u64 0),(.lit .u64 0),(.lit .u64 0),(.lit .u64 0)]),false⟩,.live ⟨true,24,0,(.row (Row.cs (a:Fr))),false⟩,.live ⟨true,24,4,(.rows .fr (k:List Fr)),false⟩])))):=by kernel_rfl
theorem aiH (pF:Fr->Int->List Fr) (aF mF:Fr->Fr->Fr) (y:List Fr) (a:Fr) (n z:Int) (c:Nat) (k:List Fr):cD (bsE pF aF mF) r4.out 100 Tryz.f44 (bsC.drop 4) (afb y a n z c k) =
 (.leaf (some ((a,.t)))):=by kernel_rfl
noncomputable abbrev bqE (pF:Fr->Int->List Fr) (sF:List Pg1->List Fr->Pg1):Env:=Ens [(84,K2 (aa Fr).arg ajl oFrs.res pF),(55,K2 ((ba .g1).such few) (ba .fr) kg1.rs.res sF)] [84]
theorem aiI (pF:Fr->Int->List Fr) (sF:List Pg1->List Fr->Pg1) (l:List Pg1) (v:Fr):letI za':=(pF v (↑l.length:Int));letI zb':=List.take l.length (List.drop 0 l);cD (bqE pF sF) kg1.rs.out 100 Tryz.f45 (flat (ae Tryz.f45)) (ah Tryz.f45 [rwV .g1 0 l,v4 v] [bz .g1 l])=(.vc (0+l.length*13<=(ad RK.g1 l).length/\0<13) (.vc (aev (↑l.length:Int)) (.vc (((0+l.length*13<=(ad RK.g1 l).length/\0=0/\l.length<1125899906842624/\0=0/\13=13)/\few zb')/\0+za'.length*4<=(ad RK.fr za').length/\0=0/\za'.length<1125899906842624/\0=0/\4=4) (.leaf (some ((sF zb' (List.take za'.length (List.drop 0 za')),.t))))))):=by kernel_rfl
noncomputable abbrev bfE (sF:List Fr->Fr->List Fr) (aF:List Fr->List Fr->List Fr):Env:=Ens [(83,K2 bV (aa Fr).arg oFrs.res sF),(82,K2 bV bV oFrs.res aF)] [83,82,mo 28]
def ajk (f:List (List Fr)) (v:Fr) (i:Int) (c:Nat) (q:List Fr):St:=ar 23 [(0,lsV 0 .fr f),(3,a8 1),(5,qT 2 c),(6,vI i)] [.lists .fr f,own 24 (Row.cs v),eP q]
theorem ZU (sF:List Fr->Fr->List Fr) (aF:List Fr->List Fr->List Fr) (f:List (List Fr)) (v:Fr):b7 (bfE sF aF) 100 ((flat (ae Tryz.f43)).take 1) (ah Tryz.f43 [lsV 0 .fr f,v4 v] [.lists .fr f]) [0,3] [0,1]=(.leaf (ar 23 [(0,.one (.c (.slc 0 0 (f.length) 1 (.of 0) false))),(3,.one (.c (.ptr 1 0)))] [.lists .fr (f),.live ⟨true,24,0,(.row (Row.cs (v:Fr))),false⟩])):=by kernel_rfl
theorem ZT (sF:List Fr->Fr->List Fr) (aF:List Fr->List Fr->List Fr) (f:List (List Fr)) (v:Fr):stageG (bfE sF aF) 100 ((flat (aC Tryz.f43)).take 3) (ar 23 [(0,lsV 0 .fr f),(3,a8 1)] [.lists .fr f,own 24 (Row.cs v)]) [0,3,5,6] [0,1,2] [(0,.as),(3,.as),(5,.slc),(6,.as)] [.as,.as,.rws .fr] []=(.vc (f.length=f.length) (.leaf (ar 23 [(0,.one (.c (.slc 0 0 (f.length) 1 (.of 0) false))),(3,.one (.c (.ptr 1 0))),(5,.one (.c (.slc 2 0 0 4 (.of 0) false))),(6,.one (.c (.int .i64 ((↑f.length:Int)))))] [.lists .fr (f),.live ⟨true,24,0,(.row (Row.cs (v:Fr))),false⟩,.live ⟨true,24,4,(.rows .fr ([]:List Fr)),false⟩]))):=by kernel_rfl
theorem afo (sF:List Fr->Fr->List Fr) (aF:List Fr->List Fr->List Fr) (f:List (List Fr)) (v:Fr) (i:Int) (c:Nat) (q:List Fr):letI za':=sF (List.take c (List.drop 0 q)) v;letI zb':=IntKind.i64.wrap (i-1);letI zc':=List.take za'.length (List.drop 0 za');iterP (bfE sF aF) oFrs 300 Tryz.f43 ((flat (aC Tryz.f43)).drop 3) (ajk f v i c q) (dM [0,3,5,6] [0,1] [5])=(.br (decide (IntKind.i64.wrap (i-1)<0)) (.leaf (.inr (some ((List.take c q,(.p (c<=q.length))))))) (.vc ((0+c*4<=(ad RK.fr q).length/\0=0/\c<1125899906842624/\0=0/\4=4)/\bQ (List.take c (List.drop 0 q))) (.vc ((0<=IntKind.i64.wrap (i-1)/\IntKind.i64.wrap (i-1)<(↑f.length:Int))/\f.length<=f.length) (.vc (zb'.toNat<f.length) (.vc (((0+za'.length*4<=(ad RK.fr za').length/\0=0/\za'.length<1125899906842624/\0=0/\4=4)/\bQ zc')/\(0+(f.getD zb'.toNat []).length*4<=(ad RK.fr (f.getD zb'.toNat [])).length/\0=0/\(f.getD zb'.toNat []).length<1125899906842624/\0=0/\4=4)/\bQ (List.take (f.getD zb'.toNat []).length (List.drop 0 (f.getD zb'.toNat [])))) (.leaf (.inl ((.goto 0,ar 23 [(0,.one (.c (.slc 0 0 (f.length) 1 (.of 0) false))),(3,.one (.c (.ptr 1 0))),(5,.one (.c (.slc 2 0 ((aF zc' (List.take (f.getD zb'.toNat []).length (List.drop 0 (f.getD zb'.toNat [])))).length) 4 (.of 0) false))),(6,.one (.c (.int .i64 zb')))] [.lists .fr (f),.live ⟨true,24,0,(.row (Row.cs (v:Fr))),false⟩,.live ⟨true,24,4,(.rows .fr (aF zc' (List.take (f.getD zb'.toNat []).length (List.drop 0 (f.getD zb'.toNat []))):List Fr)),false⟩]))))))))):=by kernel_rfl
noncomputable abbrev rfC:List Code:=flat (ae Tryz.f18)
noncomputable abbrev rfE (oF:Fr) (sF:List Fr->Fr->List Fr) (aF:List Fr->List Fr->List Fr) (mF:Fr->Fr->Fr):Env:=Ens [(47,K0 (aa Fr).rs.res oF),(34,K2 bV (aa Fr).arg oFrs.res sF),(33,K2 bV bV oFrs.res aF),(48,K2 (aa Fr).arg (aa Fr).arg (aa Fr).rs.res mF)] [34,33,mo 28]
def adh (f:List (List Fr)) (v k:Fr) (z:Int) (c:Nat) (q:List Fr):St:=ar 27 [(0,lsV 0 .fr f),(3,a8 1),(5,qT 3 c),(6,a8 2),(7,vI z)] [.lists .fr f,own 24 (Row.cs v),own 24 (Row.cs k),eP q]
theorem Wo (oF:Fr) (sF:List Fr->Fr->List Fr) (aF:List Fr->List Fr->List Fr) (mF:Fr->Fr->Fr) (f:List (List Fr)) (v:Fr):stageG (rfE oF sF aF mF) 100 (rfC.take 4) (ah Tryz.f18 [lsV 0 .fr f,v4 v] [.lists .fr f]) [0,3,5,6,7] [0,1,2] [(0,.as),(3,.as),(5,.nilE 3 4),(6,.as),(7,.int)] [.as,.as,.as] [(24,.rows .fr)]=(.leaf (ar 27 [(0,.one (.c (.slc 0 0 (f.length) 1 (.of 0) false))),(3,.one (.c (.ptr 1 0))),(5,.one (.c (.slc 3 0 0 4 (.of 0) false))),(6,.one (.c (.ptr 2 0))),(7,.one (.c (.int .i64 0)))] [.lists .fr (f),.live ⟨true,24,0,(.row (Row.cs (v:Fr))),false⟩,.live ⟨true,24,0,(.row (Row.cs (oF:Fr))),false⟩,.live ⟨true,24,4,(.rows .fr ([]:List Fr)),false⟩])):=by kernel_rfl
theorem Wp (oF:Fr) (sF:List Fr->Fr->List Fr) (aF:List Fr->List Fr->List Fr) (mF:Fr->Fr->Fr) (f:List (List Fr)) (v k:Fr) (z:Int) (c:Nat) (q:List Fr):letI za':=List.take c (List.drop 0 q);roundP (rfE oF sF aF mF) 300 (aP Tryz.f18 0) (adh f v k z c q) (dM [0,3,5,6,7] [0,1,2] [5])=(.vc (f.length=f.length) (.br (decide (z<(↑f.length:Int))) (.vc ((0<=z/\z<(↑f.length:Int))/\f.length<=f.length) (.vc (z.toNat<f.length) (.vc ((0+(f.getD z.toNat []).length*4<=(ad RK.fr (f.getD z.toNat [])).length/\0=0/\(f.getD z.toNat []).length<1125899906842624/\0=0/\4=4)/\bQ (List.take (f.getD z.toNat []).length (List.drop 0 (f.getD z.toNat [])))) (.vc (((0+c*4<=(ad RK.fr q).length/\0=0/\c<1125899906842624/\0=0/\4=4)/\bQ za')/\(0+(sF (List.take (f.getD z.toNat []).length (List.drop 0 (f.getD z.toNat []))) k).length*4<=(ad RK.fr (sF (List.take (f.getD z.toNat []).length (List.drop 0 (f.getD z.toNat []))) k)).length/\0=0/\(sF (List.take (f.getD z.toNat []).length (List.drop 0 (f.getD z.toNat []))) k).length<1125899906842624/\0=0/\4=4)/\bQ (List.take (sF (List.take (f.getD z.toNat []).length (List.drop 0 (f.getD z.toNat []))) k).length (List.drop 0 (sF (List.take (f.getD z.toNat []).length (List.drop 0 (f.getD z.toNat []))) k)))) (.leaf ((.normal,ar 27 [(0,.one (.c (.slc 0 0 (f.length) 1 (.of 0) false))),(3,.one (.c (.ptr 1 0))),(5,.one (.c (.slc 3 0 ((aF za' (List.take (sF (List.take (f.getD z.toNat []).length (List.drop 0 (f.getD z.toNat []))) k).length (List.drop 0 (sF (List.take (f.getD z.toNat []).length (List.drop 0 (f.getD z.toNat []))) k)))).length) 4 (.of 0) false))),(6,.one (.c (.ptr 2 0))),(7,.one (.c (.int .i64 (IntKind.i64.wrap (z+1)))))] [.lists .fr (f),.live ⟨true,24,0,(.row (Row.cs (v:Fr))),false⟩,.live ⟨true,24,0,(.row (Row.cs (mF k v:Fr))),false⟩,.live ⟨true,24,4,(.rows .fr (aF za' (List.take (sF (List.take (f.getD z.toNat []).length (List.drop 0 (f.getD z.toNat []))) k).length (List.drop 0 (sF (List.take (f.getD z.toNat []).length (List.drop 0 (f.getD z.toNat []))) k))):List Fr)),false⟩]))))))) (.leaf ((.exit 0,ar 27 [(0,.one (.c (.slc 0 0 (f.length) 1 (.of 0) false))),(3,.one (.c (.ptr 1 0))),(5,.one (.c (.slc 3 0 (c) 4 (.of 0) false))),(6,.one (.c (.ptr 2 0))),(7,.one (.c (.int .i64 (z))))] [.lists .fr (f),.live ⟨true,24,0,(.row (Row.cs (v:Fr))),false⟩,.live ⟨true,24,0,(.row (Row.cs (k:Fr))),false⟩,.live ⟨true,24,4,(.rows .fr (q:List Fr)),false⟩]))))):=by kernel_rfl
theorem ag9 (oF:Fr) (sF:List Fr->Fr->List Fr) (aF:List Fr->List Fr->List Fr) (mF:Fr->Fr->Fr) (f:List (List Fr)) (v k:Fr) (z:Int) (c:Nat) (q:List Fr):cD (rfE oF sF aF mF) oFrs 100 Tryz.f18 (rfC.drop 5) (adh f v k z c q)=(.leaf (some ((List.take c q,(.p (c<=q.length)))))):=by kernel_rfl
noncomputable abbrev lyC:List Code:=flat (ae Tryz.f15)
noncomputable abbrev lyE (mF:List Fr->Int->Bool):Env:=Ens [(14,K2 (ba .fr) kInt.arg kBool.rs.res mF)] [mo 28]
def aer (f:List (List Fr)) (n m z:Int):St:=ar 25 [(0,lsV 0 .fr f),(1,vI n),(2,vI m),(7,vI z)] [.lists .fr f]
theorem Yj (mF:List Fr->Int->Bool) (f:List (List Fr)) (n m:Int):stageG (lyE mF) 100 (lyC.take 2) (ah Tryz.f15 [lsV 0 .fr f,vI n,vI m] [.lists .fr f]) [0,1,2,7] [0] [(0,.as),(1,.as),(2,.as),(7,.int)] [.as] []=(.leaf (ar 25 [(0,.one (.c (.slc 0 0 (f.length) 1 (.of 0) false))),(1,.one (.c (.int .i64 (n)))),(2,.one (.c (.int .i64 (m)))),(7,.one (.c (.int .i64 0)))] [.lists .fr (f)])):=by kernel_rfl
theorem Yk (mF:List Fr->Int->Bool) (f:List (List Fr)) (n m z:Int):gR (lyE mF) oB 300 Tryz.f15 [aP Tryz.f15 0] (aer f n m z) [0,1,2,7] [0]=(.vc (f.length=f.length) (.br (decide (z<(↑f.length:Int))) (.vc ((0<=z/\z<(↑f.length:Int))/\f.length<=f.length) (.vc (z.toNat<f.length) (.vc (0+(f.getD z.toNat []).length*4<=(ad RK.fr (f.getD z.toNat [])).length/\0=0/\(f.getD z.toNat []).length<1125899906842624/\0=0/\4=4) (.br (!(mF (List.take (f.getD z.toNat []).length (List.drop 0 (f.getD z.toNat []))) m)) (.leaf (.inr (some ((false,.t))))) (.leaf (.inl ((.normal,ar 25 [(0,.one (.c (.slc 0 0 (f.length) 1 (.of 0) false))),(1,.one (.c (.int .i64 (n)))),(2,.one (.c (.int .i64 (m)))),(7,.one (.c (.int .i64 (IntKind.i64.wrap (z+1)))))] [.lists .fr (f)])))))))) (.leaf (.inl ((.exit 0,ar 25 [(0,.one (.c (.slc 0 0 (f.length) 1 (.of 0) false))),(1,.one (.c (.int .i64 (n)))),(2,.one (.c (.int .i64 (m)))),(7,.one (.c (.int .i64 (z))))] [.lists .fr (f)])))))):=by kernel_rfl
theorem ahK (mF:List Fr->Int->Bool) (f:List (List Fr)) (n m z:Int):cD (lyE mF) oB 100 Tryz.f15 (lyC.drop 3) (aer f n m z) =
 (.vc (f.length=f.length)
  (.leaf (some ((decide ((↑f.length:Int)<=n),.t))))):=by kernel_rfl
noncomputable abbrev lpC:List Code:=flat (ae Tryz.f42)
noncomputable abbrev lpE (gF:Fr->Pg1):Env:=En [(32,K1 (aa Fr).arg kg1.rs.res gF)]
def aba (l:List Fr) (z:Int) (c:Nat) (q:List Pg1):St:=ar 20 [(0,rwV .fr 0 l),(3,akJ 1 c),(4,vI z)] [bz .fr l,ahB q]
theorem Yl (gF:Fr->Pg1) (l:List Fr):stageG (lpE gF) 100 (lpC.take 3) (ah Tryz.f42 [rwV .fr 0 l] [bz .fr l]) [0,3,4] [0] [(0,.as),(3,.nilE 1 13),(4,.int)] [.as] [(33,.rows .g1)]=(.leaf (ar 20 [(0,.one (.c (.slc 0 0 (l.length) 4 (.of 0) false))),(3,.one (.c (.slc 1 0 0 13 (.of 0) false))),(4,.one (.c (.int .i64 0)))] [.live ⟨false,0,4,(.rows .fr (l:List Fr)),false⟩,.live ⟨true,33,13,(.rows .g1 ([]:List Pg1)),false⟩])):=by kernel_rfl
theorem Ym (gF:Fr->Pg1) (l:List Fr) (z:Int) (c:Nat) (q:List Pg1):roundP (lpE gF) 300 (aP Tryz.f42 0) (aba l z c q) (dM [0,3,4] [0] [3])=(.vc (0+l.length*4<=(ad RK.fr l).length/\0<4) (.br (decide (z<(↑l.length:Int))) (.vc ((0<=z/\z<(↑l.length:Int))/\0+l.length*4<=(ad RK.fr l).length/\0<4/\0=0) (.vc (0+z.toNat<l.length) (.vc ((0+c*13<=(ad RK.g1 q).length/\0=0)/\c+1<=9223372036854775807/\(c+1)*104<=140737488355328) (.leaf ((.normal,ar 20 [(0,.one (.c (.slc 0 0 (l.length) 4 (.of 0) false))),(3,.one (.c (.slc 1 0 (c+1) 13 (.of 0) false))),(4,.one (.c (.int .i64 (IntKind.i64.wrap (z+1)))))] [.live ⟨false,0,4,(.rows .fr (l:List Fr)),false⟩,.live ⟨true,33,13,(.rows .g1 (List.take (jc c (13 / 13)) (List.drop 0 q) ++ [gF (l.getD (0+z.toNat) { l0:=0,l1:=0,l2:=0,l3:=0 })]:List Pg1)),false⟩])))))) (.leaf ((.exit 0,ar 20 [(0,.one (.c (.slc 0 0 (l.length) 4 (.of 0) false))),(3,.one (.c (.slc 1 0 (c) 13 (.of 0) false))),(4,.one (.c (.int .i64 (z))))] [.live ⟨false,0,4,(.rows .fr (l:List Fr)),false⟩,.live ⟨true,33,13,(.rows .g1 (q:List Pg1)),false⟩]))))):=by kernel_rfl
theorem ahO (gF:Fr->Pg1) (l:List Fr) (z:Int) (c:Nat) (q:List Pg1):cD (lpE gF) oG1s 100 Tryz.f42 (lpC.drop 4) (aba l z c q) =
 (.leaf (some ((List.take c q,(.p (c<=q.length)))))):=by kernel_rfl
noncomputable abbrev lbE (fF:List (List Fr)->Fr->List Fr) (sF:List Fr->Fr->Fr) (g:Pg1) (pF:List Pg1->Fr->Pg1):Env:=Ens [(43,K2 tJ (aa Fr).arg oFrs.res fF),(44,K2 bV (aa Fr).arg r4.res sF),(39,K0 kg1.rs.res g),(45,K2 ((ba .g1).such few) (aa Fr).arg kg1.rs.res pF)] [43]
theorem ahV (fF:List (List Fr)->Fr->List Fr) (sF:List Fr->Fr->Fr) (g:Pg1) (pF:List Pg1->Fr->Pg1):letI za':=(fF [[{ l0:=UInt64.ofNat 1,l1:=UInt64.ofNat 0,l2:=UInt64.ofNat 0,l3:=UInt64.ofNat 0 }],[{ l0:=UInt64.ofNat 2,l1:=UInt64.ofNat 0,l2:=UInt64.ofNat 0,l3:=UInt64.ofNat 0 }]] { l0:=UInt64.ofNat 3,l1:=UInt64.ofNat 0,l2:=UInt64.ofNat 0,l3:=UInt64.ofNat 0 });letI zb':=(pF [g] { l0:=UInt64.ofNat 3,l1:=UInt64.ofNat 0,l2:=UInt64.ofNat 0,l3:=UInt64.ofNat 0 });letI zc':Fr := { l0:=UInt64.ofNat 1,l1:=UInt64.ofNat 0,l2:=UInt64.ofNat 0,l3:=UInt64.ofNat 0 };letI zd':Fr := { l0:=UInt64.ofNat 2,l1:=UInt64.ofNat 0,l2:=UInt64.ofNat 0,l3:=UInt64.ofNat 0 };letI ze':=({ l0:=UInt64.ofNat 7,l1:=UInt64.ofNat 0,l2:=UInt64.ofNat 0,l3:=UInt64.ofNat 0 });cD (lbE fF sF g pF) oB 300 Tryz.f13 (flat (ae Tryz.f13)) (ah Tryz.f13 [] [])=(.vc (fO [[zc'],[zd']]) (.vc (0+za'.length*4<=(ad RK.fr za').length/\0<4) (.br ((↑za'.length:Int)==1) (.vc (0<za'.length/\0+za'.length*4<=(ad RK.fr za').length/\0<4/\0=0) (.vc (0<za'.length) (.br (fw (za'.getD 0 { l0:=0,l1:=0,l2:=0,l3:=0 }) ze') (.vc (bQ [zc',zd']) (.br (fw (sF [zc',zd'] { l0:=UInt64.ofNat 3,l1:=UInt64.ofNat 0,l2:=UInt64.ofNat 0,l3:=UInt64.ofNat 0 }) ze') (.vc (few [g]) (.leaf (some ((zb'.x.l0==g.x.l0 && (zb'.x.l1==g.x.l1 && (zb'.x.l2==g.x.l2 && (zb'.x.l3==g.x.l3 && (zb'.x.l4==g.x.l4 && (zb'.x.l5==g.x.l5 && true))))) && (zb'.y.l0==g.y.l0 && (zb'.y.l1==g.y.l1 && (zb'.y.l2==g.y.l2 && (zb'.y.l3==g.y.l3 && (zb'.y.l4==g.y.l4 && (zb'.y.l5==g.y.l5 && true))))) && (zb'.inf==g.inf && true)),.t))))) (.leaf (some ((false,.t)))))) (.leaf (some ((false,.t))))))) (.leaf (some ((false,.t))))))):=by kernel_rfl
end
set_option maxRecDepth 100000
section
def pwK (o:Fr) (mF:Fr->Fr->Fr) (x:Fr):Nat->Fr
 | 0=>o
 | n+1=>mF (pwK o mF x n) x
theorem zr (o:Fr) (mF:Fr->Fr->Fr) (x:Fr) (n:Nat):pwK o mF x (n+1)=mF (pwK o mF x n) x:=rfl
def pwL (o:Fr) (mF:Fr->Fr->Fr) (x:Fr) (n:Nat):List Fr:=(List.range n).map (pwK o mF x)
theorem Ow (o:Fr) (mF:Fr->Fr->Fr) (x:Fr) (n:Nat):(pwL o mF x n).length=n:=by unfold pwL;rw [List.length_map,List.length_range]
theorem WJ (o:Fr) (mF:Fr->Fr->Fr) (x:Fr) (n:Nat):pwL o mF x (n+1)=pwL o mF x n ++ [pwK o mF x n]:=by unfold pwL;rw [List.range_succ,List.map_append];rfl
theorem afc {oF:UInt64->Fr} {mF:Fr->Fr->Fr} (hE:EnvOk (bpE oF mF)) (x:Fr) (n:Nat) (hn:n<4294967296):DoesL (bpE oF mF) (flat (ae Tryz.f84)) (ah Tryz.f84 [v4 x,vI n] [])
  (EndsAs (bpE oF mF) Tryz.f84 (bO oFrs (pwL (oF (UInt64.ofNat 1)) mF x n))):=by
 refine DoesL.stageG hE 100 4 _ _ _ _ _ (ZJ oF mF x n) ?_
 refine (?_:DoesL _ _ (afd x (pwK (oF (UInt64.ofNat 1)) mF x 0) n ((0:Nat):Int) 0 (pwL (oF (UInt64.ofNat 1)) mF x 0)) _)
 generalize oF (UInt64.ofNat 1)=o
 refine DoesL.blockLoop (B:=aP Tryz.f84 0) (rest:=bpC.drop 5) (id:=0) (by kernel_rfl) (fun j : { j:Nat // j<=n }=>afd x (pwK o mF x j.1) n (j.1:Int) j.1 (pwL o mF x j.1)) (fun j=>n-j.1) ⟨0,Nat.zero_le _⟩ fun j => ?_
 obtain ⟨j,hj⟩:=j
 refine (?_:Does _ _ (afd x (pwK o mF x j) n (j:Int) j (pwL o mF x j)) _)
 have hlen:=Ow o mF x j
 refine Does.roundP hE 300 _ (ZK oF mF x (pwK o mF x j) n (j:Int) j (pwL o mF x j)) ⟨fun h => ?_,fun h => ?_⟩
 ·simp only [decide_eq_true_eq] at h
  refine ⟨⟨⟨by rw [aN,hlen];omega,rfl⟩,by omega,by omega⟩,?_⟩
  intro _
  refine ⟨⟨j+1,by omega⟩,by show n-(j+1)<n-j;omega,?_⟩
  rw [qJ j (by omega),gk hlen,<- WJ,<- zr o mF x j]
  rfl
 ·simp only [decide_eq_false_iff_not] at h
  obtain rfl:j=n:=by omega
  refine ⟨rfl,DoesL.ends hE 100 (aiJ oF mF x _ _ _ _ _) ?_⟩
  rw [List.take_of_length_le (Nat.le_of_eq hlen)]
  exact ⟨_,rfl,Nat.le_of_eq hlen.symm⟩
def lc (x:Fr) (n:Int):List Fr:=pwL (uZ (UInt64.ofNat 1)) cX x n.toNat
theorem H8:CallOk Tryz.prog 84 (K2 (aa Fr).arg ajl oFrs.res lc) :=
 G2 (E:=bpE uZ cX) Tryz.func84 (c:=ae Tryz.f84) (by kernel_rfl) (ab Tryz.func84 (by kernel_rfl) (by kernel_rfl)) (aa Fr).inp (kInt.inp.such aev) oFrs lc fun x n _ hn=>by
  obtain ⟨h1,h2⟩:aev n:=hn.2
  obtain ⟨m,rfl⟩ : ∃ m:Nat,n=(m:Int):=⟨n.toNat,by omega⟩
  exact afc (aj (.cons ON (.cons oT .nil))) x m (by omega)
def EX (aF mF:Fr->Fr->Fr) (y k:List Fr):Nat->Fr
 | 0=>frZ
 | n+1=>aF (EX aF mF y k n) (mF (y.getD n frZ) (k.getD n frZ))
theorem UG (aF mF:Fr->Fr->Fr) (y k:List Fr) (n:Nat):EX aF mF y k (n+1)=aF (EX aF mF y k n) (mF (y.getD n frZ) (k.getD n frZ)):=rfl
theorem afa {pF:Fr->Int->List Fr} {aF mF:Fr->Fr->Fr} (hE:EnvOk (bsE pF aF mF)) (y:List Fr) (v:Fr) (hy:y.length<4294967296) (hp:(pF v (y.length:Int)).length=y.length):DoesL (bsE pF aF mF) (flat (ae Tryz.f44)) (ah Tryz.f44 [rwV .fr 0 y,v4 v] [bz .fr y])
  (EndsAs (bsE pF aF mF) Tryz.f44 (bO r4.out (EX aF mF y (pF v (y.length:Int)) y.length))):=by
 have st:=ZH pF aF mF y v
 generalize pF v (y.length:Int)=k at *
 refine DoesL.stageG hE 100 3 _ _ _ _ _ st ⟨bc y,fun _=>⟨⟨by omega,by omega⟩,fun _=>⟨bc _,fun _ => ?_⟩⟩⟩
 rw [hp]
 refine (?_:DoesL _ _ (afb y (EX aF mF y k 0) (y.length:Int) ((0:Nat):Int) y.length k) _)
 refine DoesL.blockLoop (B:=aP Tryz.f44 0) (rest:=bsC.drop 4) (id:=0) (by kernel_rfl) (fun j : { j:Nat // j<=y.length }=>afb y (EX aF mF y k j.1) (y.length:Int) (j.1:Int) y.length k) (fun j=>y.length-j.1) ⟨0,Nat.zero_le _⟩ fun j => ?_
 obtain ⟨j,hj⟩:=j
 refine (?_:Does _ _ (afb y (EX aF mF y k j) (y.length:Int) (j:Int) y.length k) _)
 refine Does.round hE 300 _ (ZI pF aF mF y (EX aF mF y k j) _ (j:Int) _ k) ⟨fun h => ?_,fun h => ?_⟩
 ·simp only [decide_eq_true_eq] at h
  have hj1:j<y.length:=by omega
  refine ⟨⟨⟨by omega,by omega⟩,by rw [aN,hp];omega,by decide,rfl⟩,fun _=>⟨by rw [hp];omega,fun _=>⟨hO hj1,fun _=>⟨wT hj1,fun _ => ?_⟩⟩⟩⟩
  refine ⟨⟨j+1,hj1⟩,by show y.length-(j+1)<y.length-j;omega,?_⟩
  rw [qJ j (by omega),jY]
  rfl
 ·simp only [decide_eq_false_iff_not] at h
  obtain rfl:j=y.length:=by omega
  exact ⟨rfl,DoesL.ends hE 100 (aiH pF aF mF y _ _ _ _ k) ⟨_,rfl,trivial⟩⟩
theorem pf (x:Fr) (n:Nat):(lc x (n:Int)).length=n:=by
 unfold lc
 rw [Ow,Int.toNat_natCast]
def lQ (y:List Fr) (v:Fr):Fr:=EX dI cX y (lc v (y.length:Int)) y.length
theorem HM:CallOk Tryz.prog 44 (K2 bV (aa Fr).arg r4.res lQ) :=
 G2 (E:=bsE lc dI cX) Tryz.func44 (c:=ae Tryz.f44) (by kernel_rfl) (ab Tryz.func44 (by kernel_rfl) (by kernel_rfl)) iFew (aa Fr).inp r4.out lQ fun y v hy _ =>
  afa (bn (.cons H8 (.cons sU (.cons oT .nil)))) y v hy.2 (pf v _)
def xI (l:List Pg1) (v:Fr):Pg1:=dH l (lc v (l.length:Int))
theorem OB:CallOk Tryz.prog 45 (K2 ((ba .g1).such few) (aa Fr).arg kg1.rs.res xI) :=
 G2 (E:=bqE lc dH) Tryz.func45 (c:=ae Tryz.f45) (by kernel_rfl) (ab Tryz.func45 (by kernel_rfl) (by kernel_rfl)) ((gA .g1).such few) (aa Fr).inp kg1.rs.out xI fun l v hl _=>by
  have hl:l.length<4294967296:=hl.2
  refine DoesL.ends (bn (.cons H8 (.cons zh .nil))) 100 (aiI lc dH l v) ⟨pI l,fun _=>⟨⟨by omega,by omega⟩,fun _=>⟨⟨⟨⟨by rw [fW];omega,rfl,by omega,rfl,rfl⟩,?_⟩,by rw [aN];omega,rfl,by rw [pf];omega,rfl,rfl⟩,fun _ => ?_⟩⟩⟩
  ·show (List.take _ (List.drop 0 l)).length<4294967296
   rw [List.length_take]
   omega
  ·rw [am rfl,List.drop_zero,List.take_length]
   exact ⟨_,rfl,trivial⟩
theorem Ey (l m:List Fr) {n:Nat} (hl:l.length<=n) (hm:m.length<=n):cB l m<=n:=Nat.max_le.2 ⟨hm,hl⟩
theorem Eg (l m:List Fr) {n:Nat} (hl:l.length<=n) (hm:m.length<=n):(fN l m).length<=n:=by
 unfold fN qb
 refine Nat.le_trans (dE _) ?_
 rw [List.length_map,List.length_range]
 exact Ey l m hl hm
theorem ug (l:List Fr) (k:Fr):(bT l k).length<=l.length:=by
 unfold bT rX
 refine Nat.le_trans (dE _) ?_
 rw [List.length_map,List.length_range]
 exact Ey l [] (Nat.le_refl _) (Nat.zero_le _)
theorem adr (l m:List Fr) {n:Nat} (hl:l.length<=n) (hm:m.length<=n):(bS l m).length<=n:=by
 unfold bS
 refine Nat.le_trans (dE _) ?_
 rw [pD]
 exact Ey l m hl hm
theorem BP (l:List Fr) (k:Fr):(aM l k).length<=l.length:=by
 unfold aM
 refine Nat.le_trans (dE _) ?_
 rw [List.length_map]
 exact Nat.le_refl _
def n0 (sF:List Fr->Fr->List Fr) (aF:List Fr->List Fr->List Fr) (f:List (List Fr)) (v:Fr):Nat->List Fr->List Fr
 | 0,q=>q
 | n+1,q=>n0 sF aF f v n (aF (sF q v) (f.getD n []))
theorem kK (sF:List Fr->Fr->List Fr) (aF:List Fr->List Fr->List Fr) (f:List (List Fr)) (v:Fr) (n:Nat) (q:List Fr):n0 sF aF f v (n+1) q=n0 sF aF f v n (aF (sF q v) (f.getD n [])):=rfl
theorem mq {f:List (List Fr)} (h:fO f) (n:Nat):(f.getD n []).length<4294967296:=by
 rw [List.getD_eq_getElem?_getD]
 cases e:f[n]? with
 | none=>decide
 | some x=>exact h.2 x (List.mem_of_getElem? e)
abbrev BfQ (f:List (List Fr)) (v:Fr):Type := { s:Nat × List Fr // s.1<=f.length/\s.2.length<4294967296/\n0 bT fN f v s.1 s.2=n0 bT fN f v f.length [] }
def bH (f:List (List Fr)) (v:Fr):List Fr:=n0 bT fN f v f.length []
theorem ZV (hE:EnvOk (bfE bT fN)) (f:List (List Fr)) (v:Fr):DoesL (bfE bT fN) ((flat (aC Tryz.f43)).take 3) (ar 23 [(0,lsV 0 .fr f),(3,a8 1)] [.lists .fr f,own 24 (Row.cs v)])
  fun r=>match r.1 with | .normal=>r.2=ajk f v (f.length:Int) 0 [] | _=>False:=by
 have st:=ZT bT fN f v
 rw [<- show List.take 3 (List.take 3 (flat (aC Tryz.f43)))=List.take 3 (flat (aC Tryz.f43)) by rw [List.take_take];rfl] at st
 refine DoesL.stageG hE 100 3 _ _ _ _ _ st ⟨rfl,fun _ => ?_⟩
 rw [show List.drop 3 (List.take 3 (flat (aC Tryz.f43))) = [] by kernel_rfl]
 exact ⟨_,Wk.refl _,rfl⟩
theorem vC {f:List Fr} {c:Nat} (hc:f.length=c) (h:c<4294967296):(0+c*4<=(ad RK.fr f).length/\0=0/\c<1125899906842624/\0=0/\4=4)/\bQ (List.take c (List.drop 0 f)):=by
 subst hc
 exact jS h
theorem I5:CallOk Tryz.prog 43 (K2 tJ (aa Fr).arg oFrs.res bH) :=
 G2 (E:=bfE bT fN) Tryz.func43 (c:=ae Tryz.f43) (by kernel_rfl) (ab Tryz.func43 (by kernel_rfl) (by kernel_rfl)) iFls (aa Fr).inp oFrs bH fun f v hf _=>by
  have hf:fO f:=hf.2
  have hE:EnvOk (bfE bT fN):=bn (.cons Lh (.cons Xj .nil))
  refine DoesL.stageE hE 100 1 _ _ (ZU bT fN f v) ?_
  refine DoesL.scopeFnG (body:=aC Tryz.f43) (rest:=mc Tryz.f43) (tail := []) (l:=0) hE (by kernel_rfl) (by kernel_rfl) 3 (by kernel_rfl) (fun s:BfQ f v=>ajk f v (s.1.1:Int) s.1.2.length s.1.2) (fun s=>s.1.1)
   ⟨(f.length,[]),Nat.le_refl _,Nat.zero_lt_succ _,rfl⟩ (ZV hE f v) fun s => ?_
  obtain ⟨⟨m,q⟩,h0,h1,h2⟩:=s
  simp only [] at h0 h1 h2
  have hlf:=hf.1
  have hz:IntKind.i64.wrap ((m:Int)-1)=(m:Int)-1:=IntWalk.i64_in _ (by omega)
  refine DoesL.iterP hE 300 _ (afo bT fN f v (m:Int) q.length q) ?_
  rw [hz]
  refine ⟨fun h => ?_,fun h => ?_⟩
  ·simp only [decide_eq_true_eq] at h
   obtain rfl:m=0:=by omega
   have h2:q=bH f v:=h2
   rw [List.take_length,<- h2]
   exact ⟨_,rfl,Nat.le_refl _⟩
  ·simp only [decide_eq_false_iff_not] at h
   obtain ⟨n,rfl⟩ : ∃ n:Nat,m=n+1:=⟨m-1,by omega⟩
   have e1:((n+1:Nat):Int)-1=(n:Int):=by omega
   rw [e1,Int.toNat_natCast]
   have hs:(bT q v).length<4294967296:=Nat.lt_of_le_of_lt (ug q v) h1
   have hg:=mq hf n
   rw [kK] at h2
   generalize f.getD n []=fn at *
   have eq:List.take q.length (List.drop 0 q)=q:=am rfl
   refine ⟨vC rfl h1,fun _=>⟨⟨⟨by omega,by omega⟩,Nat.le_refl _⟩,fun _=>⟨by omega,fun _ => ?_⟩⟩⟩
   rw [eq]
   refine ⟨⟨vC rfl hs,vC rfl hg⟩,fun _ => ?_⟩
   rw [am (xs:=bT q v) rfl,am (xs:=fn) rfl]
   refine ⟨rfl,⟨(n,fN (bT q v) fn),by show n<=f.length;omega,?_,h2⟩,Nat.lt_succ_self _,rfl⟩
   refine Nat.lt_of_le_of_lt (Eg _ _ (n:=4294967295) ?_ ?_) (by decide)
   ·omega
   ·omega
def iH (sF:List Fr->Fr->List Fr) (aF:List Fr->List Fr->List Fr) (mF:Fr->Fr->Fr) (o:Fr) (f:List (List Fr)) (v:Fr):Nat->List Fr
 | 0 => []
 | n+1=>aF (iH sF aF mF o f v n) (sF (f.getD n []) (pwK o mF v n))
theorem kJ (sF:List Fr->Fr->List Fr) (aF:List Fr->List Fr->List Fr) (mF:Fr->Fr->Fr) (o:Fr) (f:List (List Fr)) (v:Fr) (n:Nat):iH sF aF mF o f v (n+1)=aF (iH sF aF mF o f v n) (sF (f.getD n []) (pwK o mF v n)):=rfl
def li (f:List (List Fr)) (v:Fr):List Fr:=iH aM bS bM bR f v f.length
theorem ut {f:List (List Fr)} (hf:fO f) (o v:Fr) (mF:Fr->Fr->Fr) : ∀ n,(iH aM bS mF o f v n).length<4294967296
 | 0=>Nat.zero_lt_succ _
 | n+1=>by
  rw [kJ]
  have h1:=ut hf o v mF n
  have h2:=BP (f.getD n []) (pwK o mF v n)
  have h3:=mq hf n
  refine Nat.lt_of_le_of_lt (adr _ _ (n:=4294967295) ?_ ?_) (by decide)
  ·omega
  ·omega
theorem Zg:CallOk Tryz.prog 18 (K2 tJ (aa Fr).arg oFrs.res li) :=
 G2 (E:=rfE bR aM bS bM) Tryz.func18 (c:=ae Tryz.f18) (by kernel_rfl) (ab Tryz.func18 (by kernel_rfl) (by kernel_rfl)) iFls (aa Fr).inp oFrs li fun f v hf _=>by
  have hf:fO f:=hf.2
  have hE:EnvOk (rfE bR aM bS bM):=bn (.cons Rm (.cons xC (.cons HW (.cons Ro .nil))))
  refine DoesL.stageG hE 100 4 _ _ _ _ _ (Wo bR aM bS bM f v) ?_
  refine (?_:DoesL _ _ (adh f v (pwK bR bM v 0) ((0:Nat):Int) (iH aM bS bM bR f v 0).length (iH aM bS bM bR f v 0)) _)
  refine DoesL.blockLoop (B:=aP Tryz.f18 0) (rest:=rfC.drop 5) (id:=0) (by kernel_rfl) (fun j : { j:Nat // j<=f.length }=>adh f v (pwK bR bM v j.1) (j.1:Int) (iH aM bS bM bR f v j.1).length (iH aM bS bM bR f v j.1)) (fun j=>f.length-j.1) ⟨0,Nat.zero_le _⟩ fun j => ?_
  obtain ⟨j,hj⟩:=j
  refine (?_:Does _ _ (adh f v (pwK bR bM v j) (j:Int) (iH aM bS bM bR f v j).length (iH aM bS bM bR f v j)) _)
  have h1:=ut hf bR v bM j
  have hlf:=hf.1
  have rd:=Wp bR aM bS bM f v (pwK bR bM v j) (j:Int) (iH aM bS bM bR f v j).length (iH aM bS bM bR f v j)
  have hnext:=kJ aM bS bM bR f v j
  have hk:=zr bR bM v j
  generalize hq:iH aM bS bM bR f v j=q at *
  generalize pwK bR bM v j=k at *
  refine Does.roundP hE 300 _ rd ⟨rfl,fun _=>⟨fun h => ?_,fun h => ?_⟩⟩
  ·simp only [decide_eq_true_eq] at h
   have hj1:j<f.length:=by omega
   have hg:=mq hf j
   rw [Int.toNat_natCast]
   generalize f.getD j []=fn at *
   have hs:(aM fn k).length<4294967296:=Nat.lt_of_le_of_lt (BP fn k) hg
   refine ⟨⟨⟨by omega,by omega⟩,Nat.le_refl _⟩,fun _=>⟨hj1,fun _=>⟨vC rfl hg,fun _ => ?_⟩⟩⟩
   rw [am (xs:=fn) rfl]
   refine ⟨⟨vC rfl h1,vC rfl hs⟩,fun _ => ?_⟩
   rw [am (xs:=q) rfl,am (xs:=aM fn k) rfl]
   refine ⟨⟨j+1,hj1⟩,by show f.length-(j+1)<f.length-j;omega,?_⟩
   rw [hnext,hk,qJ j (by omega)]
   rfl
  ·simp only [decide_eq_false_iff_not] at h
   obtain rfl:j=f.length:=by omega
   refine ⟨rfl,DoesL.ends hE 100 (ag9 bR aM bS bM f v k _ _ q) ?_⟩
   rw [List.take_length,<- hq]
   exact ⟨_,rfl,Nat.le_refl _⟩
end
set_option maxRecDepth 100000
section
def po (mF:List Fr->Int->Bool) (m:Int):List (List Fr)->Bool
 | []=>true
 | x :: l=>match !(mF x m) with
  | true=>false
  | false=>po mF m l
theorem xY (mF:List Fr->Int->Bool) (m:Int) (x:List Fr) (l:List (List Fr)):po mF m (x :: l)=match !(mF x m) with | true=>false | false=>po mF m l:=rfl
def iz (f:List (List Fr)) (n m:Int):Bool:=match po dr m f with
 | true=>decide ((f.length:Int)<=n)
 | false=>false
theorem TO (f:List (List Fr)) {i:Nat} (h:i<f.length):f.drop i=f.getD i [] :: f.drop (i+1):=by
 rw [List.drop_eq_getElem_cons h,List.getD_eq_getElem?_getD,List.getElem?_eq_getElem h]
 rfl
abbrev LyQ (f:List (List Fr)) (m:Int):Type := { i:Nat // i<=f.length/\po dr m (f.drop i)=po dr m f }
theorem IA:CallOk Tryz.prog 15 (K3 (yW .fr) kInt.arg kInt.arg kBool.rs.res iz) :=
 G3 (E:=lyE dr) Tryz.func15 (c:=ae Tryz.f15) (by kernel_rfl) (ab Tryz.func15 (by kernel_rfl) (by kernel_rfl)) (yo .fr) kInt.inp kInt.inp oB iz fun f n m hf _ _=>by
  have hl:f.length<1125899906842624:=hf.1
  have hs:=hf.2
  have hE:EnvOk (lyE dr):=bn (.cons zN .nil)
  refine DoesL.stageG hE 100 2 _ _ _ _ _ (Yj dr f n m) ?_
  refine (?_:DoesL _ _ (aer f n m ((0:Nat):Int)) _)
  refine DoesL.blockLoopR (B:=aP Tryz.f15 0) (rest:=lyC.drop 3) (id:=0) (by kernel_rfl) (fun i:LyQ f m=>aer f n m (i.1:Int)) (fun i=>f.length-i.1) ⟨0,Nat.zero_le _,rfl⟩ fun s => ?_
  obtain ⟨i,h0,h1⟩:=s
  refine (?_:DoesL _ _ (aer f n m (i:Int)) _)
  refine DoesL.iter hE 300 _ _ (Yk dr f n m (i:Int)) ⟨rfl,fun _=>⟨fun h => ?_,fun h => ?_⟩⟩
  ·simp only [decide_eq_true_eq] at h
   have hi:i<f.length:=by omega
   rw [TO f hi,xY] at h1
   rw [Int.toNat_natCast,show IntKind.i64.wrap ((i:Int)+1)=((i+1:Nat):Int) from (IntWalk.i64_in _ (by omega)).trans (by omega)]
   have hg:(f.getD i []).length<1125899906842624:=by
    rw [List.getD_eq_getElem?_getD,List.getElem?_eq_getElem hi]
    exact hs _ (List.getElem_mem hi)
   generalize f.getD i []=fi at *
   refine ⟨⟨⟨by omega,by omega⟩,Nat.le_refl _⟩,fun _=>⟨hi,fun _=>⟨cj hg,fun _ => ?_⟩⟩⟩
   rw [am rfl]
   refine ⟨fun h2 => ?_,fun h2 => ?_⟩
   ·rw [h2] at h1
    have h1:false=po dr m f:=h1
    exact ⟨.t,by unfold iz;rw [<- h1],trivial⟩
   ·rw [h2] at h1
    have h1:po dr m (f.drop (i+1))=po dr m f:=h1
    exact ⟨⟨i+1,hi,h1⟩,by show f.length-(i+1)<f.length-i;omega,rfl⟩
  ·simp only [decide_eq_false_iff_not] at h
   obtain rfl:i=f.length:=by omega
   rw [List.drop_length] at h1
   have h1:true=po dr m f:=h1
   refine ⟨rfl,DoesL.ends hE 100 (ahK dr f n m _) ⟨rfl,fun _=>⟨.t,?_,trivial⟩⟩⟩
   unfold iz
   rw [<- h1]
def ee (l:List Fr):List Pg1:=l.map ej
theorem RL (l:List Fr) (j:Nat) (hj:j<=l.length):((l.take j).map ej).length=j:=by rw [List.length_map,List.length_take,Nat.min_eq_left hj]
theorem W3:CallOk Tryz.prog 42 (K1 bV oG1s.res ee) :=
 G1 (E:=lpE ej) Tryz.func42 (c:=ae Tryz.f42) (by kernel_rfl) (ab Tryz.func42 (by kernel_rfl) (by kernel_rfl)) iFew oG1s ee fun l hl=>by
  have hl:l.length<4294967296:=hl.2
  have hE:EnvOk (lpE ej):=aj (.cons Ah .nil)
  refine DoesL.stageG hE 100 3 _ _ _ _ _ (Yl ej l) ?_
  refine (?_:DoesL _ _ (aba l ((0:Nat):Int) 0 ((l.take 0).map ej)) _)
  refine DoesL.blockLoop (B:=aP Tryz.f42 0) (rest:=lpC.drop 4) (id:=0) (by kernel_rfl) (fun j : { j:Nat // j<=l.length }=>aba l (j.1:Int) j.1 ((l.take j.1).map ej)) (fun j=>l.length-j.1) ⟨0,Nat.zero_le _⟩ fun j => ?_
  obtain ⟨j,hj⟩:=j
  refine (?_:Does _ _ (aba l (j:Int) j ((l.take j).map ej)) _)
  have hlen:=RL l j hj
  refine Does.roundP hE 300 _ (Ym ej l (j:Int) j ((l.take j).map ej)) ⟨bc l,fun _=>⟨fun h => ?_,fun h => ?_⟩⟩
  ·simp only [decide_eq_true_eq] at h
   have hj1:j<l.length:=by omega
   refine ⟨hO hj1,fun _=>⟨wT hj1,fun _=>⟨⟨⟨by rw [fW,hlen];omega,rfl⟩,by omega,by omega⟩,fun _ => ?_⟩⟩⟩
   refine ⟨⟨j+1,hj1⟩,by show l.length-(j+1)<l.length-j;omega,?_⟩
   show _=aba l ((j+1:Nat):Int) (j+1) ((l.take (j+1)).map ej)
   rw [qJ j (by omega),wQ hlen,j8 l hj1,List.map_append,jY]
   rfl
  ·simp only [decide_eq_false_iff_not] at h
   obtain rfl:j=l.length:=by omega
   rw [List.take_length] at hlen ⊢
   refine ⟨rfl,DoesL.ends hE 100 (ahO ej l _ _ _) ?_⟩
   rw [List.take_of_length_le (Nat.le_of_eq hlen)]
   exact ⟨_,rfl,Nat.le_of_eq hlen.symm⟩
def fr1:Fr:=⟨UInt64.ofNat 1,UInt64.ofNat 0,UInt64.ofNat 0,UInt64.ofNat 0⟩
def fr2:Fr:=⟨UInt64.ofNat 2,UInt64.ofNat 0,UInt64.ofNat 0,UInt64.ofNat 0⟩
def fr3:Fr:=⟨UInt64.ofNat 3,UInt64.ofNat 0,UInt64.ofNat 0,UInt64.ofNat 0⟩
def fr7:Fr:=⟨UInt64.ofNat 7,UInt64.ofNat 0,UInt64.ofNat 0,UInt64.ofNat 0⟩
def PV (fF:List (List Fr)->Fr->List Fr) (sF:List Fr->Fr->Fr) (g:Pg1) (pF:List Pg1->Fr->Pg1):Bool :=
 match ((fF [[fr1],[fr2]] fr3).length:Int)==1 with
 | true=>match fw ((fF [[fr1],[fr2]] fr3).getD 0 frZ) fr7 with
  | true=>match fw (sF [fr1,fr2] fr3) fr7 with
   | true=>q8 (pF [g] fr3) g
   | false=>false
  | false=>false
 | false=>false
theorem ZW {fF:List (List Fr)->Fr->List Fr} {sF:List Fr->Fr->Fr} {g:Pg1} {pF:List Pg1->Fr->Pg1} (hE:EnvOk (lbE fF sF g pF)):DoesL (lbE fF sF g pF) (flat (ae Tryz.f13)) (ah Tryz.f13 [] [])
  (EndsAs (lbE fF sF g pF) Tryz.f13 (bO oB (PV fF sF g pF))):=by
 refine DoesL.ends hE 300 (ahV fF sF g pF) ⟨⟨by decide,by decide⟩,fun _=>⟨bc _,fun _=>⟨fun h1 => ?_,fun h1 => ?_⟩⟩⟩
 ·have hp:0<(fF [[fr1],[fr2]] fr3).length:=by
   have:=of_decide_eq_true h1
   have h1':((fF [[fr1],[fr2]] fr3).length:Int)=1:=eq_of_beq h1
   omega
  refine ⟨⟨hp,by rw [aN];omega,by decide,rfl⟩,fun _=>⟨hp,fun _=>⟨fun h2 => ?_,fun h2 => ?_⟩⟩⟩
  ·refine ⟨by decide,fun _=>⟨fun h3 => ?_,fun h3 => ?_⟩⟩
   ·refine ⟨Nat.succ_lt_succ (Nat.zero_lt_succ _),fun _=>⟨.t,?_,trivial⟩⟩
    have h1:(((fF [[fr1],[fr2]] fr3).length:Int)==1)=true:=h1
    have h2:fw ((fF [[fr1],[fr2]] fr3).getD 0 frZ) fr7=true:=h2
    have h3:fw (sF [fr1,fr2] fr3) fr7=true:=h3
    unfold PV
    rw [h1,h2,h3]
    rfl
   ·have h1:(((fF [[fr1],[fr2]] fr3).length:Int)==1)=true:=h1
    have h2:fw ((fF [[fr1],[fr2]] fr3).getD 0 frZ) fr7=true:=h2
    have h3:fw (sF [fr1,fr2] fr3) fr7=false:=h3
    refine ⟨.t,?_,trivial⟩
    unfold PV
    rw [h1,h2,h3]
  ·have h1:(((fF [[fr1],[fr2]] fr3).length:Int)==1)=true:=h1
   have h2:fw ((fF [[fr1],[fr2]] fr3).getD 0 frZ) fr7=false:=h2
   refine ⟨.t,?_,trivial⟩
   unfold PV
   rw [h1,h2]
 ·have h1:(((fF [[fr1],[fr2]] fr3).length:Int)==1)=false:=h1
  refine ⟨.t,?_,trivial⟩
  unfold PV
  rw [h1]
def eW:Bool:=PV bH lQ nX xI
theorem yU:CallOk Tryz.prog 13 (K0 kBool.rs.res eW) :=
 G0 (E:=lbE bH lQ nX xI) Tryz.func13 (c:=ae Tryz.f13) (by kernel_rfl) (ab Tryz.func13 (by kernel_rfl) (by kernel_rfl)) oB eW
  (ZW (bn (.cons I5 (.cons HM (.cons I4 (.cons OB .nil))))))
end
set_option maxRecDepth 100000
section
def mA (f0:UInt64->Fr) (f1:List Pg1->List Fr->Pg1) (f2:List Fr->Fr->Fr) (f3:Fr->Fr->Fr) (f4:Fr->Fr->Fr) (f5:Fr->Fr) (f6:List Pg1->Fr->Pg1) (f7:Pg1) (c:List Pg1) (y:List Fr) (z:Fr) (d:List Pg1) (u:List Fr) (x:Fr) (v:Fr) (r:Fr) (ws:PP):Tree (Option ((Pg1 × Pg1) × Pr)):=letI za':=List.take c.length (List.drop 0 c);letI zb':=List.take d.length (List.drop 0 d);letI zc':=List.take y.length (List.drop 0 y);letI zd':=List.take u.length (List.drop 0 u);
 (.vc (few [ws.a,ws.b]) (.vc ((0+y.length*4<=(ad RK.fr y).length/\0=0/\y.length<1125899906842624/\0=0/\4=4)/\bQ zc') (.vc ((0+u.length*4<=(ad RK.fr u).length/\0=0/\u.length<1125899906842624/\0=0/\4=4)/\bQ zd') (.vc ((0+c.length*13<=(ad RK.g1 c).length/\0=0/\c.length<1125899906842624/\0=0/\13=13)/\few za') (.vc ((0+d.length*13<=(ad RK.g1 d).length/\0=0/\d.length<1125899906842624/\0=0/\13=13)/\few zb') (.vc (few [ws.a,ws.b,f6 za' v,f6 zb' v,f7]) (.leaf (some (((f1 [ws.a,ws.b] [f0 (UInt64.ofNat 1),r],f1 [ws.a,ws.b,f6 za' v,f6 zb' v,f7] [z,f3 r x,f0 (UInt64.ofNat 1),r,f5 (f4 (f2 zc' v) (f3 r (f2 zd' v)))]),.t))))))))))
theorem MS (f0:UInt64->Fr) (f1:List Pg1->List Fr->Pg1) (f2:List Fr->Fr->Fr) (f3:Fr->Fr->Fr) (f4:Fr->Fr->Fr) (f5:Fr->Fr) (f6:List Pg1->Fr->Pg1) (f7:Pg1) (c:List Pg1) (y:List Fr) (z:Fr) (d:List Pg1) (u:List Fr) (x:Fr) (v:Fr) (r:Fr) (ws:PP):cD (Ens [(64,K1 kU64.arg r4.res f0),(55,K2 ((ba .g1).such few) (ba .fr) kg1.rs.res f1),(44,K2 bV (aa Fr).arg r4.res f2),(86,Kr2 f3),(85,Kr2 f4),(65,Kr1 f5),(45,K2 ((ba .g1).such few) (aa Fr).arg kg1.rs.res f6),(63,K0 (aa Pg1).rs.res f7)] []) ((aa Pg1).rs2 (aa Pg1)).out 300 Tryz.f81 (flat (ae Tryz.f81)) (ah Tryz.f81 [rwV .g1 0 c,rwV .fr 1 y,.one ((aa Fr).av z),rwV .g1 2 d,rwV .fr 3 u,.one ((aa Fr).av x),.one ((aa Fr).av v),.one ((aa Fr).av r),.one ((aa PP).av ws)] [bz .g1 c,bz .fr y,bz .g1 d,bz .fr u])=mA f0 f1 f2 f3 f4 f5 f6 f7 c y z d u x v r ws:=by kernel_rfl
def jE (c:List Pg1) (y:List Fr) (z:Fr) (d:List Pg1) (u:List Fr) (x:Fr) (v:Fr) (r:Fr) (ws:PP):Pg1 × Pg1:=(mA uZ dH lQ cX dI pj xI oneG1 c y z d u x v r ws).outD (dK,dK)
theorem MT (h : ∀ (c:List Pg1) (y:List Fr) (z:Fr) (d:List Pg1) (u:List Fr) (x:Fr) (v:Fr) (r:Fr) (ws:PP),((gA .g1).such few).fact c->iFew.fact y->((gA .g1).such few).fact d->iFew.fact u->(mA uZ dH lQ cX dI pj xI oneG1 c y z d u x v r ws).full=true/\(mA uZ dH lQ cX dI pj xI oneG1 c y z d u x v r ws).okAll):CallOk Tryz.prog 81 (KL (ArgL.cons ((ba .g1).such few) (ArgL.cons bV (ArgL.cons (aa Fr).arg (ArgL.cons ((ba .g1).such few) (ArgL.cons bV (ArgL.cons (aa Fr).arg (ArgL.cons (aa Fr).arg (ArgL.cons (aa Fr).arg (ArgL.cons (aa PP).arg ArgL.nil))))))))) ((aa Pg1).rs2 (aa Pg1)).out.res (fun x=>jE x.1 x.2.1 x.2.2.1 x.2.2.2.1 x.2.2.2.2.1 x.2.2.2.2.2.1 x.2.2.2.2.2.2.1 x.2.2.2.2.2.2.2.1 x.2.2.2.2.2.2.2.2.1)) :=
 Go.Proofs.YtgpafcehehaiiaaGreat.GL (E:=Ens [(64,K1 kU64.arg r4.res uZ),(55,K2 ((ba .g1).such few) (ba .fr) kg1.rs.res dH),(44,K2 bV (aa Fr).arg r4.res lQ),(86,Kr2 cX),(85,Kr2 dI),(65,Kr1 pj),(45,K2 ((ba .g1).such few) (aa Fr).arg kg1.rs.res xI),(63,K0 (aa Pg1).rs.res oneG1)] []) Tryz.func81 (c:=ae Tryz.f81) (by kernel_rfl) (ab Tryz.func81 (by kernel_rfl) (by kernel_rfl)) (InpL.cons ((gA .g1).such few) (InpL.cons iFew (InpL.cons (aa Fr).inp (InpL.cons ((gA .g1).such few) (InpL.cons iFew (InpL.cons (aa Fr).inp (InpL.cons (aa Fr).inp (InpL.cons (aa Fr).inp (InpL.cons (aa PP).inp InpL.nil))))))))) ((aa Pg1).rs2 (aa Pg1)).out (fun x=>jE x.1 x.2.1 x.2.2.1 x.2.2.2.1 x.2.2.2.2.1 x.2.2.2.2.2.1 x.2.2.2.2.2.2.1 x.2.2.2.2.2.2.2.1 x.2.2.2.2.2.2.2.2.1) fun x g=>DoesL.outs (bn (.cons ON (.cons zh (.cons HM (.cons oT (.cons sU (.cons XL (.cons OB (.cons Xm .nil))))))))) 300 (dK,dK) (MS uZ dH lQ cX dI pj xI oneG1 x.1 x.2.1 x.2.2.1 x.2.2.2.1 x.2.2.2.2.1 x.2.2.2.2.2.1 x.2.2.2.2.2.2.1 x.2.2.2.2.2.2.2.1 x.2.2.2.2.2.2.2.2.1) (h x.1 x.2.1 x.2.2.1 x.2.2.2.1 x.2.2.2.2.1 x.2.2.2.2.2.1 x.2.2.2.2.2.2.1 x.2.2.2.2.2.2.2.1 x.2.2.2.2.2.2.2.2.1 g.1 g.2.1 g.2.2.2.1 g.2.2.2.2.1).1 (h x.1 x.2.1 x.2.2.1 x.2.2.2.1 x.2.2.2.2.1 x.2.2.2.2.2.1 x.2.2.2.2.2.2.1 x.2.2.2.2.2.2.2.1 x.2.2.2.2.2.2.2.2.1 g.1 g.2.1 g.2.2.2.1 g.2.2.2.2.1).2
def nE (f0:List (List Fr)->Fr->List Fr) (f1:List Pg1 × Pg2->List Fr->Fr->Fr × Pg1 × Int) (p:List Pg1 × Pg2) (f:List (List Fr)) (z:Fr) (g:List (List Fr)) (x:Fr) (v:Fr):Tree (Option ((PP × Int) × Pr)):=letI za':Fp := { l0:=UInt64.ofNat 0,l1:=UInt64.ofNat 0,l2:=UInt64.ofNat 0,l3:=UInt64.ofNat 0,l4:=UInt64.ofNat 0,l5:=UInt64.ofNat 0 };letI zb':=f1 (List.take p.fst.length (List.drop 0 p.fst),p.snd) (List.take (f0 f v).length (List.drop 0 (f0 f v))) z;letI zc':=f1 (List.take p.fst.length (List.drop 0 p.fst),p.snd) (List.take (f0 g v).length (List.drop 0 (f0 g v))) x;letI zd':=(0+p.fst.length*13<=(ad RK.g1 p.fst).length/\0=0/\p.fst.length<1125899906842624/\0=0/\13=13)/\Vi (List.take p.fst.length (List.drop 0 p.fst),p.snd);
 (.vc (f.length=f.length/\fO f) (.vc (zd'/\(0+(f0 f v).length*4<=(ad RK.fr (f0 f v)).length/\0=0/\(f0 f v).length<1125899906842624/\0=0/\4=4)/\bQ (List.take (f0 f v).length (List.drop 0 (f0 f v)))) (.br (zb'.snd.snd != 0) (.leaf (some ((({ a := { x:=za',y:=za',inf:=false },b := { x:=za',y:=za',inf:=false } },zb'.snd.snd),.t)))) (.vc (g.length=g.length/\fO g) (.vc (zd'/\(0+(f0 g v).length*4<=(ad RK.fr (f0 g v)).length/\0=0/\(f0 g v).length<1125899906842624/\0=0/\4=4)/\bQ (List.take (f0 g v).length (List.drop 0 (f0 g v)))) (.br (zc'.snd.snd != 0) (.leaf (some ((({ a := { x:=za',y:=za',inf:=false },b := { x:=za',y:=za',inf:=false } },zc'.snd.snd),.t)))) (.leaf (some ((({ a:=zb'.snd.fst,b:=zc'.snd.fst },0),.t))))))))))
theorem Uk (f0:List (List Fr)->Fr->List Fr) (f1:List Pg1 × Pg2->List Fr->Fr->Fr × Pg1 × Int) (p:List Pg1 × Pg2) (f:List (List Fr)) (z:Fr) (g:List (List Fr)) (x:Fr) (v:Fr):cD (Ens [(43,K2 tJ (aa Fr).arg oFrs.res f0),(24,K3 A4 bV (aa Fr).arg ((aa Fr).rs3 (aa Pg1) kInt).out.res f1)] [43]) ((aa PP).rs2 kInt).out 300 Tryz.f16 (flat (ae Tryz.f16)) (ah Tryz.f16 [(UU .g1 Pg2).av 0 p,lsV 1 .fr f,.one ((aa Fr).av z),lsV 2 .fr g,.one ((aa Fr).av x),.one ((aa Fr).av v)] [bz .g1 p.1,.lists .fr f,.lists .fr g])=nE f0 f1 p f z g x v:=by kernel_rfl
def iK (p:List Pg1 × Pg2) (f:List (List Fr)) (z:Fr) (g:List (List Fr)) (x:Fr) (v:Fr):PP × Int:=(nE bH du p f z g x v).outD (pp0,0)
theorem Ul (h : ∀ (p:List Pg1 × Pg2) (f:List (List Fr)) (z:Fr) (g:List (List Fr)) (x:Fr) (v:Fr),iPow.fact p->iFls.fact f->iFls.fact g->(nE bH du p f z g x v).full=true/\(nE bH du p f z g x v).okAll):CallOk Tryz.prog 16 (KL (ArgL.cons A4 (ArgL.cons tJ (ArgL.cons (aa Fr).arg (ArgL.cons tJ (ArgL.cons (aa Fr).arg (ArgL.cons (aa Fr).arg ArgL.nil)))))) ((aa PP).rs2 kInt).out.res (fun x=>iK x.1 x.2.1 x.2.2.1 x.2.2.2.1 x.2.2.2.2.1 x.2.2.2.2.2.1)) :=
 Go.Proofs.YtgpafcehehaiiaaGreat.GL (E:=Ens [(43,K2 tJ (aa Fr).arg oFrs.res bH),(24,K3 A4 bV (aa Fr).arg ((aa Fr).rs3 (aa Pg1) kInt).out.res du)] [43]) Tryz.func16 (c:=ae Tryz.f16) (by kernel_rfl) (ab Tryz.func16 (by kernel_rfl) (by kernel_rfl)) (InpL.cons iPow (InpL.cons iFls (InpL.cons (aa Fr).inp (InpL.cons iFls (InpL.cons (aa Fr).inp (InpL.cons (aa Fr).inp InpL.nil)))))) ((aa PP).rs2 kInt).out (fun x=>iK x.1 x.2.1 x.2.2.1 x.2.2.2.1 x.2.2.2.2.1 x.2.2.2.2.2.1) fun x g=>DoesL.outs (bn (.cons I5 (.cons YE .nil))) 300 (pp0,0) (Uk bH du x.1 x.2.1 x.2.2.1 x.2.2.2.1 x.2.2.2.2.1 x.2.2.2.2.2.1) (h x.1 x.2.1 x.2.2.1 x.2.2.2.1 x.2.2.2.2.1 x.2.2.2.2.2.1 g.1 g.2.1 g.2.2.2.1).1 (h x.1 x.2.1 x.2.2.1 x.2.2.2.1 x.2.2.2.2.1 x.2.2.2.2.2.1 g.1 g.2.1 g.2.2.2.1).2
noncomputable abbrev biC:List Code:=flat (ae Tryz.f80)
noncomputable abbrev biE (nF:Pg1->Bool):Env:=En [(61,K1 (aa Pg1).arg kBool.rs.res nF)]
def afm (l:List Pg1) (n z:Int):St:=ar 15 [(5,rwV .g1 0 l),(6,vI n),(7,vI z)] [bz .g1 l]
theorem ZO (nF:Pg1->Bool) (l:List Pg1):stageG (biE nF) 100 (biC.take 2) (ah Tryz.f80 [rwV .g1 0 l] [bz .g1 l]) [5,6,7] [0] [(5,.as),(6,.as),(7,.int)] [.as] []=(.vc (0+l.length*13<=(ad RK.g1 l).length/\0<13) (.leaf (ar 15 [(5,.one (.c (.slc 0 0 (l.length) 13 (.of 0) false))),(6,.one (.c (.int .i64 ((↑l.length:Int))))),(7,.one (.c (.int .i64 0)))] [.live ⟨false,0,13,(.rows .g1 (l:List Pg1)),false⟩]))):=by kernel_rfl
theorem ZP (nF:Pg1->Bool) (l:List Pg1) (n z:Int):gR (biE nF) oB 300 Tryz.f80 [aP Tryz.f80 0] (afm l n z) [5,6,7] [0]=(.br (decide (z<n)) (.vc ((0<=z/\z<(↑l.length:Int))/\0+l.length*13<=(ad RK.g1 l).length/\0<13/\0=0) (.vc (0+z.toNat<l.length) (.br (!(nF (l.getD (0+z.toNat) dK))) (.leaf (.inr (some ((false,.t))))) (.leaf (.inl ((.normal,ar 15 [(5,.one (.c (.slc 0 0 (l.length) 13 (.of 0) false))),(6,.one (.c (.int .i64 (n)))),(7,.one (.c (.int .i64 (IntKind.i64.wrap (z+1)))))] [.live ⟨false,0,13,(.rows .g1 (l:List Pg1)),false⟩]))))))) (.leaf (.inl ((.exit 0,ar 15 [(5,.one (.c (.slc 0 0 (l.length) 13 (.of 0) false))),(6,.one (.c (.int .i64 (n)))),(7,.one (.c (.int .i64 (z))))] [.live ⟨false,0,13,(.rows .g1 (l:List Pg1)),false⟩]))))):=by kernel_rfl
theorem aiM (nF:Pg1->Bool) (l:List Pg1) (n z:Int):cD (biE nF) oB 100 Tryz.f80 (biC.drop 3) (afm l n z) =
 (.leaf (some ((true,.t)))):=by kernel_rfl
end
set_option maxRecDepth 100000
section
theorem pG (f:List Fr):List.take f.length (List.drop 0 f)=f:=am rfl
theorem lB (f:List Pg1):List.take f.length (List.drop 0 f)=f:=uJ rfl
theorem vD {f:List Pg1} (h:f.length<4294967296):(0+f.length*13<=(ad RK.g1 f).length/\0=0/\f.length<1125899906842624/\0=0/\13=13)/\few (List.take f.length (List.drop 0 f)):=by
 rw [lB]
 exact ⟨s7 (Nat.lt_of_lt_of_le h (by decide)),h⟩
theorem lt2:2<4294967296:=by decide
theorem lt5:5<4294967296:=by decide
theorem Ui:CallOk Tryz.prog 81 (KL (ArgL.cons ((ba .g1).such few) (ArgL.cons bV (ArgL.cons (aa Fr).arg (ArgL.cons ((ba .g1).such few) (ArgL.cons bV (ArgL.cons (aa Fr).arg (ArgL.cons (aa Fr).arg (ArgL.cons (aa Fr).arg (ArgL.cons (aa PP).arg ArgL.nil))))))))) ((aa Pg1).rs2 (aa Pg1)).out.res (fun x=>jE x.1 x.2.1 x.2.2.1 x.2.2.2.1 x.2.2.2.2.1 x.2.2.2.2.2.1 x.2.2.2.2.2.2.1 x.2.2.2.2.2.2.2.1 x.2.2.2.2.2.2.2.2.1)) :=
 MT fun c y z d u x v r ws hc hy hd hu=>⟨rfl,lt2,jS hy.2,jS hu.2,vD hc.2,vD hd.2,lt5,trivial⟩
theorem ZZ (oF:UInt64->Fr) (sF:List Pg1->List Fr->Pg1) (yF:List Fr->Fr->Fr) (mF aF:Fr->Fr->Fr) (nF:Fr->Fr) (pF:List Pg1->Fr->Pg1) (g:Pg1) (c:List Pg1) (y:List Fr) (z:Fr) (d:List Pg1) (u:List Fr) (x v r:Fr) (ws:PP) (e:Pg1 × Pg1):(mA oF sF yF mF aF nF pF g c y z d u x v r ws).outD e =
  (sF [ws.a,ws.b] [oF (UInt64.ofNat 1),r],sF [ws.a,ws.b,pF c v,pF d v,g] [z,mF r x,oF (UInt64.ofNat 1),r,nF (aF (yF y v) (mF r (yF u v)))]):=by
 unfold mA
 simp only [ko,ki,fq,pG,lB]
theorem Uj (c:List Pg1) (y:List Fr) (z:Fr) (d:List Pg1) (u:List Fr) (x v r:Fr) (ws:PP):jE c y z d u x v r ws =
  (dH [ws.a,ws.b] [uZ (UInt64.ofNat 1),r],dH [ws.a,ws.b,xI c v,xI d v,oneG1] [z,cX r x,uZ (UInt64.ofNat 1),r,pj (dI (lQ y v) (cX r (lQ u v)))]):=ZZ _ _ _ _ _ _ _ _ c y z d u x v r ws _
def pw (nF:Pg1->Bool):List Pg1->Bool
 | []=>true
 | x :: l=>match !(nF x) with
  | true=>false
  | false=>pw nF l
theorem yq (nF:Pg1->Bool) (x:Pg1) (l:List Pg1):pw nF (x :: l)=match !(nF x) with | true=>false | false=>pw nF l:=rfl
theorem TN (f:List Pg1) {i:Nat} (h:i<f.length):f.drop i=f.getD i dK :: f.drop (i+1):=by
 rw [List.drop_eq_getElem_cons h,List.getD_eq_getElem?_getD,List.getElem?_eq_getElem h]
 rfl
abbrev BiQ (nF:Pg1->Bool) (f:List Pg1):Type := { i:Nat // i<=f.length/\pw nF (f.drop i)=pw nF f }
theorem afl {nF:Pg1->Bool} (hE:EnvOk (biE nF)) (l:List Pg1) (hl:l.length<1125899906842624):DoesL (biE nF) (flat (ae Tryz.f80)) (ah Tryz.f80 [rwV .g1 0 l] [bz .g1 l])
  (EndsAs (biE nF) Tryz.f80 (bO oB (pw nF l))):=by
 refine DoesL.stageG hE 100 2 _ _ _ _ _ (ZO nF l) ⟨pI l,fun _ => ?_⟩
 refine (?_:DoesL _ _ (afm l (l.length:Int) ((0:Nat):Int)) _)
 refine DoesL.blockLoopR (B:=aP Tryz.f80 0) (rest:=biC.drop 3) (id:=0) (by kernel_rfl) (fun i:BiQ nF l=>afm l (l.length:Int) (i.1:Int)) (fun i=>l.length-i.1) ⟨0,Nat.zero_le _,rfl⟩ fun s => ?_
 obtain ⟨i,h0,h1⟩:=s
 refine (?_:DoesL _ _ (afm l (l.length:Int) (i:Int)) _)
 refine DoesL.iter hE 300 _ _ (ZP nF l _ (i:Int)) ⟨fun h => ?_,fun h => ?_⟩
 ·simp only [decide_eq_true_eq] at h
  have hi:i<l.length:=by omega
  rw [TN l hi,yq] at h1
  rw [jY,show IntKind.i64.wrap ((i:Int)+1)=((i+1:Nat):Int) from (IntWalk.i64_in _ (by omega)).trans (by omega)]
  refine ⟨acE hi,fun _=>⟨hi,fun _ => ?_⟩⟩
  refine ⟨fun h2 => ?_,fun h2 => ?_⟩
  ·rw [h2] at h1
   have h1:false=pw nF l:=h1
   exact ⟨.t,by rw [<- h1],trivial⟩
  ·rw [h2] at h1
   have h1:pw nF (l.drop (i+1))=pw nF l:=h1
   exact ⟨⟨i+1,hi,h1⟩,by show l.length-(i+1)<l.length-i;omega,rfl⟩
 ·simp only [decide_eq_false_iff_not] at h
  obtain rfl:i=l.length:=by omega
  rw [List.drop_length] at h1
  have h1:true=pw nF l:=h1
  exact ⟨rfl,DoesL.ends hE 100 (aiM nF l _ _) ⟨.t,by rw [<- h1],trivial⟩⟩
def yp (l:List Pg1):Bool:=pw AQ l
theorem aeN:CallOk Tryz.prog 80 (K1 (ba .g1) kBool.rs.res yp) :=
 G1 (E:=biE AQ) Tryz.func80 (c:=ae Tryz.f80) (by kernel_rfl) (ab Tryz.func80 (by kernel_rfl) (by kernel_rfl)) (gA .g1) oB yp fun l hl=>afl (aj (.cons Pf .nil)) l hl
theorem uo (nF:Pg1->Bool) : ∀ l:List Pg1,pw nF l=true <-> ∀ x ∈ l,nF x=true
 | []=>⟨fun _ x hx=>(by cases hx),fun _=>rfl⟩
 | x :: l=>by
  rw [yq]
  have ih:=uo nF l
  cases e:nF x with
  | false=>exact ⟨fun h=>(by cases h),fun h=>by rw [h x (List.mem_cons_self ..)] at e;cases e⟩
  | true=>exact ⟨fun h y hy=>by
    rcases List.mem_cons.1 hy with rfl | hy
    ·exact e
    ·exact ih.1 h y hy,fun h=>ih.2 fun y hy=>h y (List.mem_cons_of_mem _ hy)⟩
theorem Cy {f:List (List Fr)} (hf:fO f) (v:Fr):(bH f v).length<4294967296:=by
 unfold bH
 have : ∀ (n:Nat) (q:List Fr),q.length<4294967296->(n0 bT fN f v n q).length<4294967296:=by
  intro n
  induction n with
  | zero=>intro q hq;exact hq
  | succ n ih =>
   intro q hq
   rw [kK]
   refine ih _ ?_
   have h1:=ug q v
   have h2:=mq hf n
   refine Nat.lt_of_le_of_lt (Eg _ _ (n:=4294967295) ?_ ?_) (by decide)
   ·omega
   ·omega
 exact this _ _ (by decide)
theorem Jm:CallOk Tryz.prog 16 (KL (ArgL.cons A4 (ArgL.cons tJ (ArgL.cons (aa Fr).arg (ArgL.cons tJ (ArgL.cons (aa Fr).arg (ArgL.cons (aa Fr).arg ArgL.nil)))))) ((aa PP).rs2 kInt).out.res (fun x=>iK x.1 x.2.1 x.2.2.1 x.2.2.2.1 x.2.2.2.2.1 x.2.2.2.2.2.1)) :=
 Ul fun p f z g x v hp hf hg=>by
  have h1:=Cy hf.2 v
  have h2:=Cy hg.2 v
  have hq:Vi p:=hp.2
  refine ⟨?_,?_⟩
  ·unfold nE
   simp only [Tree.full,Bool.and_true]
  ·exact ⟨⟨rfl,hf.2⟩,⟨An hq,jS h1⟩,fun _=>trivial,fun _=>⟨⟨rfl,hg.2⟩,⟨An hq,jS h2⟩,fun _=>trivial,fun _=>trivial⟩⟩
theorem afp (fF:List (List Fr)->Fr->List Fr) (kF:List Pg1 × Pg2->List Fr->Fr->Fr × Pg1 × Int) (p:List Pg1 × Pg2) (f:List (List Fr)) (z:Fr) (g:List (List Fr)) (x v:Fr) (e:PP × Int):(nE fF kF p f z g x v).outD e =
  cond ((kF p (fF f v) z).2.2 != 0) (pp0,(kF p (fF f v) z).2.2) (cond ((kF p (fF g v) x).2.2 != 0) (pp0,(kF p (fF g v) x).2.2) (⟨(kF p (fF f v) z).2.1,(kF p (fF g v) x).2.1⟩,0)):=by
 unfold nE
 simp only [ko,ki,fq,pG,lB]
 rfl
theorem Ai (p:List Pg1 × Pg2) (f:List (List Fr)) (z:Fr) (g:List (List Fr)) (x v:Fr):iK p f z g x v =
  cond ((du p (bH f v) z).2.2 != 0) (pp0,(du p (bH f v) z).2.2) (cond ((du p (bH g v) x).2.2 != 0) (pp0,(du p (bH g v) x).2.2) (⟨(du p (bH f v) z).2.1,(du p (bH g v) x).2.1⟩,0)):=afp _ _ p f z g x v _
def kY (f0:List Pg1->Bool) (f1:Pg2->Bool) (f2:List Pg1->List Fr->Fr->List Pg1->List Fr->Fr->Fr->Fr->PP->Pg1 × Pg1) (f3:Pg1->Pg1) (f4:Pg2) (f5:List Duo->Bool) (t:Pg2) (c:List Pg1) (y:List Fr) (z:Fr) (d:List Pg1) (u:List Fr) (x:Fr) (v:Fr) (r:Fr) (ws:PP):Tree (Option ((Bool) × Pr)):=letI za':=f2 (List.take c.length (List.drop 0 c)) (List.take y.length (List.drop 0 y)) z (List.take d.length (List.drop 0 d)) (List.take u.length (List.drop 0 u)) x v r ws;letI zb':=0+c.length*13<=(ad RK.g1 c).length/\0=0/\c.length<1125899906842624/\0=0/\13=13;letI zc':=0+d.length*13<=(ad RK.g1 d).length/\0=0/\d.length<1125899906842624/\0=0/\13=13;letI zd':=List.take c.length (List.drop 0 c);letI ze':=List.take d.length (List.drop 0 d);
 (.vc (0+c.length*13<=(ad RK.g1 c).length/\0<13) (.vc (0+y.length*4<=(ad RK.fr y).length/\0<4) (.br ((↑c.length:Int) != (↑y.length:Int)) (.leaf (some ((false,.t)))) (.vc (0+d.length*13<=(ad RK.g1 d).length/\0<13) (.vc (0+u.length*4<=(ad RK.fr u).length/\0<4) (.br ((↑d.length:Int) != (↑u.length:Int)) (.leaf (some ((false,.t)))) (.vc zb' (.br (!(f0 zd')) (.leaf (some ((false,.t)))) (.vc zc' (.br (!(f0 ze')) (.leaf (some ((false,.t)))) (.br (!(f0 [ws.a,ws.b])) (.leaf (some ((false,.t)))) (.br (!(f1 t)) (.leaf (some ((false,.t)))) (.vc ((zb'/\few zd')/\((0+y.length*4<=(ad RK.fr y).length/\0=0/\y.length<1125899906842624/\0=0/\4=4)/\bQ (List.take y.length (List.drop 0 y)))/\(zc'/\few ze')/\(0+u.length*4<=(ad RK.fr u).length/\0=0/\u.length<1125899906842624/\0=0/\4=4)/\bQ (List.take u.length (List.drop 0 u))) (.leaf (some ((f5 [{ p:=za'.fst,q:=t },{ p:=f3 za'.snd,q:=f4 }],.t)))))))))))))))))
theorem MU (f0:List Pg1->Bool) (f1:Pg2->Bool) (f2:List Pg1->List Fr->Fr->List Pg1->List Fr->Fr->Fr->Fr->PP->Pg1 × Pg1) (f3:Pg1->Pg1) (f4:Pg2) (f5:List Duo->Bool) (t:Pg2) (c:List Pg1) (y:List Fr) (z:Fr) (d:List Pg1) (u:List Fr) (x:Fr) (v:Fr) (r:Fr) (ws:PP):cD (Ens [(80,K1 (ba .g1) kBool.rs.res f0),(62,K1 (aa Pg2).arg kBool.rs.res f1),(81,KL (ArgL.cons ((ba .g1).such few) (ArgL.cons bV (ArgL.cons (aa Fr).arg (ArgL.cons ((ba .g1).such few) (ArgL.cons bV (ArgL.cons (aa Fr).arg (ArgL.cons (aa Fr).arg (ArgL.cons (aa Fr).arg (ArgL.cons (aa PP).arg ArgL.nil))))))))) ((aa Pg1).rs2 (aa Pg1)).out.res (fun x=>f2 x.1 x.2.1 x.2.2.1 x.2.2.2.1 x.2.2.2.2.1 x.2.2.2.2.2.1 x.2.2.2.2.2.2.1 x.2.2.2.2.2.2.2.1 x.2.2.2.2.2.2.2.2.1)),(68,K1 (aa Pg1).arg (aa Pg1).rs.res f3),(67,K0 (aa Pg2).rs.res f4),(66,K1 (ba .duo) kBool.rs.res f5)] []) kBool.rs.out 300 Tryz.f41 (flat (ae Tryz.f41)) (ah Tryz.f41 [.one ((aa Pg2).av t),rwV .g1 0 c,rwV .fr 1 y,.one ((aa Fr).av z),rwV .g1 2 d,rwV .fr 3 u,.one ((aa Fr).av x),.one ((aa Fr).av v),.one ((aa Fr).av r),.one ((aa PP).av ws)] [bz .g1 c,bz .fr y,bz .g1 d,bz .fr u])=kY f0 f1 f2 f3 f4 f5 t c y z d u x v r ws:=by kernel_rfl
def lz (t:Pg2) (c:List Pg1) (y:List Fr) (z:Fr) (d:List Pg1) (u:List Fr) (x:Fr) (v:Fr) (r:Fr) (ws:PP):Bool:=(kY yp u9 jE mL oneG2 gH t c y z d u x v r ws).outD false
theorem MV (h : ∀ (t:Pg2) (c:List Pg1) (y:List Fr) (z:Fr) (d:List Pg1) (u:List Fr) (x:Fr) (v:Fr) (r:Fr) (ws:PP),((gA .g1).such few).fact c->iFew.fact y->((gA .g1).such few).fact d->iFew.fact u->(kY yp u9 jE mL oneG2 gH t c y z d u x v r ws).full=true/\(kY yp u9 jE mL oneG2 gH t c y z d u x v r ws).okAll):CallOk Tryz.prog 41 (KL (ArgL.cons (aa Pg2).arg (ArgL.cons ((ba .g1).such few) (ArgL.cons bV (ArgL.cons (aa Fr).arg (ArgL.cons ((ba .g1).such few) (ArgL.cons bV (ArgL.cons (aa Fr).arg (ArgL.cons (aa Fr).arg (ArgL.cons (aa Fr).arg (ArgL.cons (aa PP).arg ArgL.nil)))))))))) kBool.rs.out.res (fun x=>lz x.1 x.2.1 x.2.2.1 x.2.2.2.1 x.2.2.2.2.1 x.2.2.2.2.2.1 x.2.2.2.2.2.2.1 x.2.2.2.2.2.2.2.1 x.2.2.2.2.2.2.2.2.1 x.2.2.2.2.2.2.2.2.2.1)) :=
 Go.Proofs.YtgpafcehehaiiaaGreat.GL (E:=Ens [(80,K1 (ba .g1) kBool.rs.res yp),(62,K1 (aa Pg2).arg kBool.rs.res u9),(81,KL (ArgL.cons ((ba .g1).such few) (ArgL.cons bV (ArgL.cons (aa Fr).arg (ArgL.cons ((ba .g1).such few) (ArgL.cons bV (ArgL.cons (aa Fr).arg (ArgL.cons (aa Fr).arg (ArgL.cons (aa Fr).arg (ArgL.cons (aa PP).arg ArgL.nil))))))))) ((aa Pg1).rs2 (aa Pg1)).out.res (fun x=>jE x.1 x.2.1 x.2.2.1 x.2.2.2.1 x.2.2.2.2.1 x.2.2.2.2.2.1 x.2.2.2.2.2.2.1 x.2.2.2.2.2.2.2.1 x.2.2.2.2.2.2.2.2.1)),(68,K1 (aa Pg1).arg (aa Pg1).rs.res mL),(67,K0 (aa Pg2).rs.res oneG2),(66,K1 (ba .duo) kBool.rs.res gH)] []) Tryz.func41 (c:=ae Tryz.f41) (by kernel_rfl) (ab Tryz.func41 (by kernel_rfl) (by kernel_rfl)) (InpL.cons (aa Pg2).inp (InpL.cons ((gA .g1).such few) (InpL.cons iFew (InpL.cons (aa Fr).inp (InpL.cons ((gA .g1).such few) (InpL.cons iFew (InpL.cons (aa Fr).inp (InpL.cons (aa Fr).inp (InpL.cons (aa Fr).inp (InpL.cons (aa PP).inp InpL.nil)))))))))) kBool.rs.out (fun x=>lz x.1 x.2.1 x.2.2.1 x.2.2.2.1 x.2.2.2.2.1 x.2.2.2.2.2.1 x.2.2.2.2.2.2.1 x.2.2.2.2.2.2.2.1 x.2.2.2.2.2.2.2.2.1 x.2.2.2.2.2.2.2.2.2.1) fun x g=>DoesL.outs (bn (.cons aeN (.cons Pe (.cons Ui (.cons XO (.cons Xl (.cons KR .nil))))))) 300 false (MU yp u9 jE mL oneG2 gH x.1 x.2.1 x.2.2.1 x.2.2.2.1 x.2.2.2.2.1 x.2.2.2.2.2.1 x.2.2.2.2.2.2.1 x.2.2.2.2.2.2.2.1 x.2.2.2.2.2.2.2.2.1 x.2.2.2.2.2.2.2.2.2.1) (h x.1 x.2.1 x.2.2.1 x.2.2.2.1 x.2.2.2.2.1 x.2.2.2.2.2.1 x.2.2.2.2.2.2.1 x.2.2.2.2.2.2.2.1 x.2.2.2.2.2.2.2.2.1 x.2.2.2.2.2.2.2.2.2.1 g.2.1 g.2.2.1 g.2.2.2.2.1 g.2.2.2.2.2.1).1 (h x.1 x.2.1 x.2.2.1 x.2.2.2.1 x.2.2.2.2.1 x.2.2.2.2.2.1 x.2.2.2.2.2.2.1 x.2.2.2.2.2.2.2.1 x.2.2.2.2.2.2.2.2.1 x.2.2.2.2.2.2.2.2.2.1 g.2.1 g.2.2.1 g.2.2.2.2.1 g.2.2.2.2.2.1).2
end
set_option maxRecDepth 100000
section
def agQ:Code->Code
 | .block _ c=>c
 | c=>c
noncomputable abbrev powRC:List Code:=flat (ae Tryz.f135)
noncomputable abbrev af7:Code:=aP Tryz.f135 0
noncomputable abbrev KW (oF':UInt64->Fr) (mF:Fr->Fr->Fr) (bF:List UInt64->Nat->UInt64):Env:=En [(46,K1 kU64.arg r4.res oF'),(29,Kr2 mF),(166,K2 aL FN kU64.rs.res bF)]
def Fe (e:List UInt64) (a x:Fr) (z:Int):St:=ar 27 [(1,inV 0 e),(2,a8 1),(4,a8 2),(5,a8 3),(6,vI z)] [dJ eU64 e,own 24 (Row.cs a),own 24 (bJ 4),own 24 (Row.cs x)]
theorem KU (oF':UInt64->Fr) (mF:Fr->Fr->Fr) (bF:List UInt64->Nat->UInt64) (a:Fr) (e:List UInt64):b7 (KW oF' mF bF) 100 (powRC.take 3) (ah Tryz.f135 [v4 a,iL.av 0 e] [dJ eU64 e]) [1,2,4,5,6] [0,1,2,3]=(.vc (0+e.length*1<=(List.map EK.u64.cell e).length/\0<1) (.leaf (ar 27 [(1,.one (.c (.slc 0 0 (e.length) 1 (.of 0) false))),(2,.one (.c (.ptr 1 0))),(4,.one (.c (.ptr 2 0))),(5,.one (.c (.ptr 3 0))),(6,.one (.c (.int .i64 (IntKind.i64.wrap (IntKind.i64.wrap (64*(↑e.length:Int))-1)))))] [.live ⟨false,0,1,(.elts .u64 (e:List UInt64)),false⟩,.live ⟨true,24,0,(.row (Row.cs (a:Fr))),false⟩,.live ⟨true,24,0,(.row [(.lit .u64 0),(.lit .u64 0),(.lit .u64 0),(.lit .u64 0)]),false⟩,.live ⟨true,24,0,(.row (Row.cs (oF' (UInt64.ofNat 1):Fr))),false⟩]))):=by kernel_rfl
theorem KV (oF':UInt64->Fr) (mF:Fr->Fr->Fr) (bF:List UInt64->Nat->UInt64) (a x:Fr) (e:List UInt64) (z:Int):letI za':=(Row.cs (a:Fr));letI zb':=IntKind.i64.wrap (z-1);bk (KW oF' mF bF) 100 af7 (Fe e a x z) (same [1,2,4,5,6] [0,1,2,3])=(.br (decide (z >= 0)) (.vc ((0+e.length<=e.length/\e.length<1125899906842624/\0=0/\1=1)/\0<=z/\z<9223372036854775808) (.br (bF (List.take e.length (List.drop 0 e)) z.toNat==UInt64.ofNat 1) (.leaf ((.normal,ar 27 [(1,.one (.c (.slc 0 0 (e.length) 1 (.of 0) false))),(2,.one (.c (.ptr 1 0))),(4,.one (.c (.ptr 2 0))),(5,.one (.c (.ptr 3 0))),(6,.one (.c (.int .i64 zb')))] [.live ⟨false,0,1,(.elts .u64 (e:List UInt64)),false⟩,.live ⟨true,24,0,(.row za'),false⟩,.live ⟨true,24,0,(.row [(.lit .u64 0),(.lit .u64 0),(.lit .u64 0),(.lit .u64 0)]),false⟩,.live ⟨true,24,0,(.row (Row.cs (mF (mF x x) a:Fr))),false⟩]))) (.leaf ((.normal,ar 27 [(1,.one (.c (.slc 0 0 (e.length) 1 (.of 0) false))),(2,.one (.c (.ptr 1 0))),(4,.one (.c (.ptr 2 0))),(5,.one (.c (.ptr 3 0))),(6,.one (.c (.int .i64 zb')))] [.live ⟨false,0,1,(.elts .u64 (e:List UInt64)),false⟩,.live ⟨true,24,0,(.row za'),false⟩,.live ⟨true,24,0,(.row [(.lit .u64 0),(.lit .u64 0),(.lit .u64 0),(.lit .u64 0)]),false⟩,.live ⟨true,24,0,(.row (Row.cs (mF x x:Fr))),false⟩]))))) (.leaf ((.exit 0,ar 27 [(1,.one (.c (.slc 0 0 (e.length) 1 (.of 0) false))),(2,.one (.c (.ptr 1 0))),(4,.one (.c (.ptr 2 0))),(5,.one (.c (.ptr 3 0))),(6,.one (.c (.int .i64 (z))))] [.live ⟨false,0,1,(.elts .u64 (e:List UInt64)),false⟩,.live ⟨true,24,0,(.row za'),false⟩,.live ⟨true,24,0,(.row [(.lit .u64 0),(.lit .u64 0),(.lit .u64 0),(.lit .u64 0)]),false⟩,.live ⟨true,24,0,(.row (Row.cs (x:Fr))),false⟩])))):=by kernel_rfl
theorem WV (oF':UInt64->Fr) (mF:Fr->Fr->Fr) (bF:List UInt64->Nat->UInt64) (a x:Fr) (e:List UInt64) (z:Int):cD (KW oF' mF bF) r4.out 100 Tryz.f135 (powRC.drop 4) (Fe e a x z) =
 (.leaf (some ((x,.t)))):=by kernel_rfl
abbrev r4I:Rs (Fr × Int):=(aa Fr).rs2 kInt
noncomputable abbrev agf (m:Fr) (lF:List UInt64->List UInt64->List UInt64 × Int) (pF:Fr->List UInt64->Fr):Env:=Ens [(53,K0 (rS4 22) m),(134,K2 aLt aLt rLI lF),(135,K2 (aa Fr).arg aL r4.res pF)] [53,134]
theorem YG (m:Fr) (lF:List UInt64->List UInt64->List UInt64 × Int) (pF:Fr->List UInt64->Fr) (a:Fr):letI za':=lF [m.l0,m.l1,m.l2,m.l3] [UInt64.ofNat 2];ac (agf m lF pF) r4I 100 Tryz.f87 [v4 a]=(.br (fw (a) ({ l0:=UInt64.ofNat 0,l1:=UInt64.ofNat 0,l2:=UInt64.ofNat 0,l3:=UInt64.ofNat 0 })) (.leaf (some ((a,7)))) (.vc (aap [m.l0,m.l1,m.l2,m.l3]/\aap [UInt64.ofNat 2]) (.vc (0+za'.fst.length<=za'.fst.length/\za'.fst.length<1125899906842624/\0=0/\1=1) (.leaf (some ((pF a (List.take za'.fst.length (List.drop 0 za'.fst)),0))))))):=by kernel_rfl
abbrev oDv:Out (List Fr × Int):=ahD .fr kInt 24
noncomputable abbrev dvC:List Code:=flat (ae Tryz.f50)
noncomputable abbrev dvB:Code:=aP Tryz.f50 0
noncomputable abbrev dvI:Code:=aP Tryz.f50 1
noncomputable abbrev dvD:Code:=match nth (flat dvB) 2 with | some c=>agQ c | none => .skip
theorem TL:(flat dvB).drop 2 = .block 1 dvD :: (flat dvB).drop 3:=by kernel_rfl
theorem Zp:((flat dvB).drop 3).drop 1 = []:=by kernel_rfl
theorem TK:(flat dvD).drop 3 = .block 2 (.loop dvI) :: []:=by kernel_rfl
noncomputable abbrev dvE (cF:List Fr->List Fr) (iF:Fr->Fr × Int) (mF sF:Fr->Fr->Fr):Env:=Ens [(25,CV cF),(87,K1 (aa Fr).arg r4I.res iF),(29,Kr2 mF),(27,Kr2 sF)] [25]
def dvS (A B:List Fr) (ca cb cq:Nat) (t:Fr) (q:List Fr) (i:Int):St:=ar 84 [(0,qT 0 ca),(1,qT 1 cb),(7,a8 2),(9,qT 3 cq),(10,vI i)] [eP A,eP B,own 24 (Row.cs t),eP q]
def Mv (A B:List Fr) (ca cb cq:Nat) (t:Fr) (q:List Fr) (i:Int) (k:Fr) (j:Int):St:=ar 84 [(0,qT 0 ca),(1,qT 1 cb),(7,a8 2),(9,qT 3 cq),(10,vI i),(11,a8 4),(12,vI j)] [eP A,eP B,own 24 (Row.cs t),eP q,own 24 (Row.cs k)]
theorem Zm (cF:List Fr->List Fr) (iF:Fr->Fr × Int) (mF sF:Fr->Fr->Fr) (a b:List Fr):letI za':=cF (List.take b.length (List.drop 0 b));letI zb':=List.take a.length (List.drop 0 a);letI zc':=(↑(cF zb').length:Int);letI zd':=0+za'.length*4<=(ad RK.fr za').length/\0<4;letI ze':=(↑za'.length:Int);letI zf':=0+(cF zb').length*4<=(ad RK.fr (cF zb')).length/\0<4;letI zg':Fr := { l0:=0,l1:=0,l2:=0,l3:=0 };letI zh':=List.take b.length (List.drop 0 b);letI zi':=IntKind.i64.wrap (ze'-1);HL (dvE cF iF mF sF) oDv 300 Tryz.f50 (dvC.take 7) (ah Tryz.f50 [rwV .fr 0 a,rwV .fr 1 b] [bz .fr a,bz .fr b]) [0,1,7,9,10] [2,3,4,5] [(0,.as),(1,.as),(7,.as),(9,.as),(10,.int)] [.as,.as,.one .fr,.as] []=(.vc ((0+a.length*4<=(ad RK.fr a).length/\0=0/\a.length<1125899906842624/\0=0/\4=4)/\bQ zb') (.vc ((0+b.length*4<=(ad RK.fr b).length/\0=0/\b.length<1125899906842624/\0=0/\4=4)/\bQ zh') (.vc zd' (.br (ze'==0) (.leaf (.inr (some ((([],7),.t))))) (.vc zd' (.vc ((0<=IntKind.i64.wrap (ze'-1)/\IntKind.i64.wrap (ze'-1)<ze')/\0+za'.length*4<=(ad RK.fr za').length/\0<4/\0=0) (.vc (0+zi'.toNat<za'.length) (.vc zf' (.vc (0<=zc'/\zc'<=zc'/\(↑32:Int)*zc'<=281474976710656/\zc'<1125899906842624) (.vc zf' (.vc zd' (.leaf (.inl (ar 84 [(0,.one (.c (.slc 0 0 ((cF zb').length) 4 (.of 0) false))),(1,.one (.c (.slc 1 0 (za'.length) 4 (.of 0) false))),(7,.one (.c (.ptr 2 0))),(9,.one (.c (.slc 3 0 (zc'.toNat) 4 (.of 0) false))),(10,.one (.c (.int .i64 (IntKind.i64.wrap (zc'-ze')))))] [.live ⟨true,24,4,(.rows .fr (cF zb':List Fr)),false⟩,.live ⟨true,24,4,(.rows .fr (cF zh':List Fr)),false⟩,.live ⟨true,24,0,(.row (Row.cs ((iF (za'.getD (0+zi'.toNat) zg')).fst:Fr))),false⟩,.live ⟨true,24,4,(.rows .fr (List.replicate zc'.toNat zg':List Fr)),false⟩])))))))))))))):=by kernel_rfl
theorem ae2 (cF:List Fr->List Fr) (iF:Fr->Fr × Int) (mF sF:Fr->Fr->Fr) (A B:List Fr) (ca cb cq:Nat) (t:Fr) (q:List Fr) (i:Int):UM (dvE cF iF mF sF) 100 ((flat dvB).take 2) (dvS A B ca cb cq t q i) (dM [0,1,7,9,10] [0,1,2,3] [])=(.br (decide (i >= 0)) (.leaf ((.normal,ar 84 [(0,.one (.c (.slc 0 0 (ca) 4 (.of 0) false))),(1,.one (.c (.slc 1 0 (cb) 4 (.of 0) false))),(7,.one (.c (.ptr 2 0))),(9,.one (.c (.slc 3 0 (cq) 4 (.of 0) false))),(10,.one (.c (.int .i64 (i))))] [.live ⟨true,24,4,(.rows .fr (A:List Fr)),false⟩,.live ⟨true,24,4,(.rows .fr (B:List Fr)),false⟩,.live ⟨true,24,0,(.row (Row.cs (t:Fr))),false⟩,.live ⟨true,24,4,(.rows .fr (q:List Fr)),false⟩]))) (.leaf ((.exit 0,ar 84 [(0,.one (.c (.slc 0 0 (ca) 4 (.of 0) false))),(1,.one (.c (.slc 1 0 (cb) 4 (.of 0) false))),(7,.one (.c (.ptr 2 0))),(9,.one (.c (.slc 3 0 (cq) 4 (.of 0) false))),(10,.one (.c (.int .i64 (i))))] [.live ⟨true,24,4,(.rows .fr (A:List Fr)),false⟩,.live ⟨true,24,4,(.rows .fr (B:List Fr)),false⟩,.live ⟨true,24,0,(.row (Row.cs (t:Fr))),false⟩,.live ⟨true,24,4,(.rows .fr (q:List Fr)),false⟩])))):=by kernel_rfl
theorem aj1 (cF:List Fr->List Fr) (iF:Fr->Fr × Int) (mF sF:Fr->Fr->Fr) (A B:List Fr) (ca cb cq:Nat) (t:Fr) (q:List Fr) (i:Int):letI za':=(IntKind.i64.wrap (i+(↑cb:Int))-1);letI zb':=(A.getD (0+(IntKind.i64.wrap za').toNat) { l0:=0,l1:=0,l2:=0,l3:=0 });stageG (dvE cF iF mF sF) 300 ((flat dvD).take 3) (dvS A B ca cb cq t q i) [0,1,7,9,10,11,12] [0,1,2,3,4] [(0,.as),(1,.as),(7,.as),(9,.as),(10,.as),(11,.as),(12,.int)] [.as,.as,.as,.as,.one .fr] []=(.vc (0+cb*4<=(ad RK.fr B).length/\0<4) (.vc ((0<=IntKind.i64.wrap za'/\IntKind.i64.wrap za'<(↑ca:Int))/\0+ca*4<=(ad RK.fr A).length/\0<4/\0=0) (.vc (0+(IntKind.i64.wrap za').toNat<A.length) (.vc ((0<=i/\i<(↑cq:Int))/\0+cq*4<=(ad RK.fr q).length/\0<4/\0=0) (.vc (0+i.toNat<q.length) (.leaf (ar 84 [(0,.one (.c (.slc 0 0 (ca) 4 (.of 0) false))),(1,.one (.c (.slc 1 0 (cb) 4 (.of 0) false))),(7,.one (.c (.ptr 2 0))),(9,.one (.c (.slc 3 0 (cq) 4 (.of 0) false))),(10,.one (.c (.int .i64 (i)))),(11,.one (.c (.ptr 4 0))),(12,.one (.c (.int .i64 0)))] [.live ⟨true,24,4,(.rows .fr (A:List Fr)),false⟩,.live ⟨true,24,4,(.rows .fr (B:List Fr)),false⟩,.live ⟨true,24,0,(.row (Row.cs (t:Fr))),false⟩,.live ⟨true,24,4,(.rows .fr (q.set (0+i.toNat) (mF zb' t):List Fr)),false⟩,.live ⟨true,24,0,(.row (Row.cs (mF zb' t:Fr))),false⟩]))))))):=by kernel_rfl
theorem Zn (cF:List Fr->List Fr) (iF:Fr->Fr × Int) (mF sF:Fr->Fr->Fr) (A B:List Fr) (ca cb cq:Nat) (t:Fr) (q:List Fr) (i:Int) (k:Fr) (j:Int):letI za':=((0<=IntKind.i64.wrap (i+j)/\IntKind.i64.wrap (i+j)<(↑ca:Int))/\0+ca*4<=(ad RK.fr A).length/\0<4/\0=0);letI zb':=IntKind.i64.wrap (i+j);letI zc':Fr := { l0:=0,l1:=0,l2:=0,l3:=0 };letI zd':=0+zb'.toNat<A.length;bk (dvE cF iF mF sF) 300 dvI (Mv A B ca cb cq t q i k j) (same [0,1,7,9,10,11,12] [0,1,2,3,4])=(.vc (0+cb*4<=(ad RK.fr B).length/\0<4) (.br (decide (j<(↑cb:Int))) (.vc za' (.vc zd' (.vc ((0<=j/\j<(↑cb:Int))/\0+cb*4<=(ad RK.fr B).length/\0<4/\0=0) (.vc (0+j.toNat<B.length) (.vc za' (.vc zd' (.leaf ((.normal,ar 84 [(0,.one (.c (.slc 0 0 (ca) 4 (.of 0) false))),(1,.one (.c (.slc 1 0 (cb) 4 (.of 0) false))),(7,.one (.c (.ptr 2 0))),(9,.one (.c (.slc 3 0 (cq) 4 (.of 0) false))),(10,.one (.c (.int .i64 (i)))),(11,.one (.c (.ptr 4 0))),(12,.one (.c (.int .i64 (IntKind.i64.wrap (j+1)))))] [.live ⟨true,24,4,(.rows .fr (A.set (0+zb'.toNat) (sF (A.getD (0+zb'.toNat) zc') (mF k (B.getD (0+j.toNat) zc'))):List Fr)),false⟩,.live ⟨true,24,4,(.rows .fr (B:List Fr)),false⟩,.live ⟨true,24,0,(.row (Row.cs (t:Fr))),false⟩,.live ⟨true,24,4,(.rows .fr (q:List Fr)),false⟩,.live ⟨true,24,0,(.row (Row.cs (k:Fr))),false⟩]))))))))) (.leaf ((.exit 2,ar 84 [(0,.one (.c (.slc 0 0 (ca) 4 (.of 0) false))),(1,.one (.c (.slc 1 0 (cb) 4 (.of 0) false))),(7,.one (.c (.ptr 2 0))),(9,.one (.c (.slc 3 0 (cq) 4 (.of 0) false))),(10,.one (.c (.int .i64 (i)))),(11,.one (.c (.ptr 4 0))),(12,.one (.c (.int .i64 (j))))] [.live ⟨true,24,4,(.rows .fr (A:List Fr)),false⟩,.live ⟨true,24,4,(.rows .fr (B:List Fr)),false⟩,.live ⟨true,24,0,(.row (Row.cs (t:Fr))),false⟩,.live ⟨true,24,4,(.rows .fr (q:List Fr)),false⟩,.live ⟨true,24,0,(.row (Row.cs (k:Fr))),false⟩]))))):=by kernel_rfl
theorem ae1 (cF:List Fr->List Fr) (iF:Fr->Fr × Int) (mF sF:Fr->Fr->Fr) (A B:List Fr) (ca cb cq:Nat) (t:Fr) (q:List Fr) (i:Int) (k:Fr) (j:Int):UM (dvE cF iF mF sF) 100 (((flat dvB).drop 3).take 1) (Mv A B ca cb cq t q i k j) (dM [0,1,7,9,10] [0,1,2,3] [])=(.leaf ((.normal,ar 84 [(0,.one (.c (.slc 0 0 (ca) 4 (.of 0) false))),(1,.one (.c (.slc 1 0 (cb) 4 (.of 0) false))),(7,.one (.c (.ptr 2 0))),(9,.one (.c (.slc 3 0 (cq) 4 (.of 0) false))),(10,.one (.c (.int .i64 (IntKind.i64.wrap (i-1)))))] [.live ⟨true,24,4,(.rows .fr (A:List Fr)),false⟩,.live ⟨true,24,4,(.rows .fr (B:List Fr)),false⟩,.live ⟨true,24,0,(.row (Row.cs (t:Fr))),false⟩,.live ⟨true,24,4,(.rows .fr (q:List Fr)),false⟩]))):=by kernel_rfl
theorem air (cF:List Fr->List Fr) (iF:Fr->Fr × Int) (mF sF:Fr->Fr->Fr) (A B:List Fr) (ca cb cq:Nat) (t:Fr) (q:List Fr) (i:Int):letI za':=List.take cq (List.drop 0 q);cD (dvE cF iF mF sF) oDv 300 Tryz.f50 (dvC.drop 8) (dvS A B ca cb cq t q i)=(.vc ((0+cq*4<=(ad RK.fr q).length/\0=0/\cq<1125899906842624/\0=0/\4=4)/\bQ za') (.vc ((0+ca*4<=(ad RK.fr A).length/\0=0/\ca<1125899906842624/\0=0/\4=4)/\bQ (List.take ca (List.drop 0 A))) (.leaf (some (((List.take (cF za').length (cF za'),0),(.p ((cF za').length<=(cF za').length)))))))):=by kernel_rfl
end
set_option maxRecDepth 100000
section
def nM (a:Fr) (e:List UInt64):Nat->Fr->Fr
 | 0,x=>x
 | n+1,x=>nM a e n (match df e n with | true=>aw (aw x x) a | false=>aw x x)
def xG (a:Fr) (e:List UInt64):Fr:=nM a e (64*e.length) (kB 1)
abbrev aiZ (a:Fr) (e:List UInt64):Type := { q:Int × Fr // -1<=q.1/\q.1<64*e.length/\nM a e (q.1+1).toNat q.2=xG a e }
theorem adE:CallOk Tryz.prog 135 (K2 (aa Fr).arg aL r4.res xG) :=
 G2 (E:=KW kB aw tz) Tryz.func135 (c:=ae Tryz.f135) (by kernel_rfl) (ab Tryz.func135 (by kernel_rfl) (by kernel_rfl)) (aa Fr).inp iL r4.out xG fun a e _ he=>by
  have he:e.length<1125899906842624:=he
  have hE:EnvOk (KW kB aw tz):=aj (.cons th (.cons qk (.cons abL .nil)))
  refine DoesL.stageE hE 100 3 _ _ (KU kB aw tz a e) ⟨pc e,fun _ => ?_⟩
  have hw:IntKind.i64.wrap (IntKind.i64.wrap (64*(e.length:Int))-1)=64*(e.length:Int)-1:=by rw [IntWalk.i64_in (64*(e.length:Int)) (by omega),IntWalk.i64_in _ (by omega)]
  rw [hw]
  refine DoesL.blockLoop (B:=af7) (rest:=powRC.drop 4) (id:=0) (by kernel_rfl) (fun q:aiZ a e=>Fe e a q.1.2 q.1.1) (fun q=>(q.1.1+1).toNat) ⟨(64*(e.length:Int)-1,kB 1),by simp only [];omega,by simp only [];omega,by
   simp only []
   rw [show (64*(e.length:Int)-1+1).toNat=64*e.length by omega]
   rfl⟩ fun q => ?_
  obtain ⟨⟨z,x⟩,h0,h1,h2⟩:=q
  simp only [] at h0 h1 h2
  show Does _ _ (Fe e a x z) _
  refine Does.round hE 100 _ (KV kB aw tz a x e z) ⟨fun h => ?_,fun h => ?_⟩
  ·simp only [ge_iff_le,decide_eq_true_eq] at h
   obtain ⟨n,rfl⟩ : ∃ n:Nat,z=(n:Int):=⟨z.toNat,by omega⟩
   rw [jQ n (by omega),whole,Int.toNat_natCast]
   rw [show ((n:Int)+1).toNat=n+1 by omega] at h2
   simp only [nM] at h2
   have hb:(tz e n==UInt64.ofNat 1)=df e n:=by
    unfold tz
    cases df e n <;> rfl
   rw [hb]
   refine ⟨⟨OM he,by omega,by omega⟩,fun _=>⟨fun h3 => ?_,fun h3 => ?_⟩⟩
   all_goals
    have hn:((n:Int)-1+1).toNat=n:=by omega
    rw [h3] at h2
    simp only [] at h2
   ·refine ⟨⟨((n:Int)-1,aw (aw x x) a),?_,?_,?_⟩,?_,?_⟩
    ·show -1<=(n:Int)-1;omega
    ·show (n:Int)-1<64*e.length;omega
    ·simpa only [hn] using h2
    ·show ((n:Int)-1+1).toNat<((n:Int)+1).toNat;omega
    ·kernel_rfl
   ·refine ⟨⟨((n:Int)-1,aw x x),?_,?_,?_⟩,?_,?_⟩
    ·show -1<=(n:Int)-1;omega
    ·show (n:Int)-1<64*e.length;omega
    ·simpa only [hn] using h2
    ·show ((n:Int)-1+1).toNat<((n:Int)+1).toNat;omega
    ·kernel_rfl
  ·simp only [ge_iff_le,decide_eq_false_iff_not] at h
   obtain rfl:z = -1:=by omega
   exact ⟨rfl,DoesL.ends hE 100 (WV kB aw tz a x e (-1)) (bB (by
    rw [show ((-1:Int)+1).toNat=0 from rfl] at h2
    simp only [nM] at h2
    exact h2))⟩
def rm2:List UInt64:=(jw rLimbs.list [2]).1
def pu (a:Fr):Fr × Int:=match fw a zeroFr with | true=>(a,7) | false=>(xG a rm2,0)
theorem ade:rm2.length<=4:=BK rLimbs.list [2]
theorem aeM:CallOk Tryz.prog 87 (K1 (aa Fr).arg r4I.res pu) :=
 P1 (E:=agf rLimbs jw xG) (bn (.cons te (.cons HO (.cons adE .nil)))) Tryz.func87 (ab Tryz.func87 (by kernel_rfl) (by kernel_rfl)) 100 (aa Fr) r4I pu (YG rLimbs jw xG)
  (fun a=>by
   refine ⟨fun h => ?_,fun h=>⟨⟨?_,?_⟩,fun _=>⟨OM ?_,fun _ => ?_⟩⟩⟩
   ·have h:fw a zeroFr=true:=h
    simp only [pu]
    rw [h]
    rfl
   ·show 4<_
    decide
   ·show 1<_
    decide
   ·have:=ade
    show rm2.length<_
    omega
   ·have h:fw a zeroFr=false:=h
    rw [whole]
    simp only [pu]
    rw [h]
    rfl)
section
variable (mF sF : Fr -> Fr -> Fr)
def je (A B:List Fr) (k:Fr) (i:Nat):Nat->List Fr
 | 0=>A
 | j+1=>(je A B k i j).set (i+j) (sF ((je A B k i j).getD (i+j) frZ) (mF k (B.getD j frZ)))
theorem Mw (A B:List Fr) (k:Fr) (i:Nat):je mF sF A B k i 0=A:=rfl
theorem m6 (A B:List Fr) (k:Fr) (i j:Nat):je mF sF A B k i (j+1)=(je mF sF A B k i j).set (i+j) (sF ((je mF sF A B k i j).getD (i+j) frZ) (mF k (B.getD j frZ))):=rfl
theorem ux (A B:List Fr) (k:Fr) (i:Nat) : ∀ j,(je mF sF A B k i j).length=A.length
 | 0=>rfl
 | j+1=>by rw [m6,List.length_set,ux A B k i j]
def dvR (B:List Fr) (t:Fr):Nat->List Fr × List Fr->List Fr × List Fr
 | 0,s=>s
 | i+1,s=>dvR B t i (je mF sF s.1 B (mF (s.1.getD (i+B.length-1) frZ) t) i B.length,s.2.set i (mF (s.1.getD (i+B.length-1) frZ) t))
theorem sQ (B:List Fr) (t:Fr) (s:List Fr × List Fr):dvR mF sF B t 0 s=s:=rfl
theorem Aa (B:List Fr) (t:Fr) (i:Nat) (A q:List Fr):dvR mF sF B t (i+1) (A,q)=dvR mF sF B t i (je mF sF A B (mF (A.getD (i+B.length-1) frZ) t) i B.length,q.set i (mF (A.getD (i+B.length-1) frZ) t)):=rfl
def dvG (cF:List Fr->List Fr) (iF:Fr->Fr × Int) (a b:List Fr):List Fr × Int :=
 match (cF b).length with
 | 0=>([],7)
 | n+1=>(cF (dvR mF sF (cF b) (iF ((cF b).getD n frZ)).1 ((cF a).length+1-(cF b).length) (cF a,aK (cF a).length)).2,0)
end
theorem wH (n:Nat):(aK n).length=n:=by unfold aK;rw [List.length_replicate]
section
variable {cF : List Fr -> List Fr} {iF : Fr -> Fr × Int} {mF sF : Fr -> Fr -> Fr}
theorem vcF {A:List Fr} {n c:Nat} (hc:A.length=c) (h:n<c):((0:Int)<=(n:Int)/\(n:Int)<(c:Int))/\0+c*4<=(ad RK.fr A).length/\0<4/\0=0:=by
 subst hc
 exact hO h
theorem Zo (hE:EnvOk (dvE cF iF mF sF)) {B:List Fr} {ca cq:Nat} {t k:Fr} {q A:List Fr} {i:Nat} (hA:A.length=ca) (hi:i+B.length<=ca) (hca:ca<4294967296) {R:X × St->Prop}
  (h : ∀ j,R (.normal,Mv (je mF sF A B k i B.length) B ca B.length cq t q (i:Int) k j)) :
  DoesL (dvE cF iF mF sF) ((flat dvD).drop 3) (Mv A B ca B.length cq t q (i:Int) k ((0:Nat):Int)) R:=by
 refine DoesL.blockLoop (B:=dvI) (rest := []) (id:=2) TK (fun j : { j:Nat // j<=B.length }=>Mv (je mF sF A B k i j.1) B ca B.length cq t q (i:Int) k (j.1:Int)) (fun j=>B.length-j.1) ⟨0,Nat.zero_le _⟩ fun j => ?_
 obtain ⟨j,hj⟩:=j
 show Does _ _ (Mv (je mF sF A B k i j) B ca B.length cq t q (i:Int) k (j:Int)) _
 have hl:(je mF sF A B k i j).length=ca:=by rw [ux,hA]
 refine Does.round hE 300 _ (Zn cF iF mF sF (je mF sF A B k i j) B ca B.length cq t q (i:Int) k (j:Int)) ⟨bc B,fun _=>⟨fun h1 => ?_,fun h1 => ?_⟩⟩
 ·simp only [decide_eq_true_eq] at h1
  have hj:j<B.length:=by omega
  have hw:IntKind.i64.wrap ((i:Int)+(j:Int))=((i+j:Nat):Int):=by rw [IntWalk.i64_in _ (by omega)];omega
  rw [hw,jY,jY,lT j (by omega)]
  refine ⟨vcF hl (by omega),fun _=>⟨by omega,fun _=>⟨hO hj,fun _=>⟨hj,fun _=>⟨vcF hl (by omega),fun _=>⟨by omega,fun _ => ?_⟩⟩⟩⟩⟩⟩
  refine ⟨⟨j+1,hj⟩,by show B.length-(j+1)<B.length-j;omega,?_⟩
  show _=Mv (je mF sF A B k i (j+1)) B ca B.length cq t q (i:Int) k ((j+1:Nat):Int)
  rw [m6]
  rfl
 ·simp only [decide_eq_false_iff_not] at h1
  obtain rfl:j=B.length:=by omega
  exact ⟨rfl,_,Wk.refl _,h _⟩
theorem ae0 (hE:EnvOk (dvE cF iF mF sF)) {B:List Fr} {ca:Nat} {t:Fr} {q A:List Fr} {n:Nat} (hA:A.length=ca) (hq:q.length=ca) (hB:0<B.length) (hn:n+B.length<=ca) (hca:ca<4294967296) {R:X × St->Prop}
  (h : ∀ k j,DoesL (dvE cF iF mF sF) ((flat dvB).drop 3) (Mv (je mF sF A B (mF (A.getD (n+B.length-1) frZ) t) n B.length) B ca B.length ca t (q.set n (mF (A.getD (n+B.length-1) frZ) t)) (n:Int) k j) R) :
  DoesL (dvE cF iF mF sF) ((flat dvB).drop 2) (dvS A B ca B.length ca t q (n:Int)) R:=by
 rw [TL]
 show Does _ (.block 1 dvD) _ (ThenX R fun s=>DoesL _ ((flat dvB).drop 3) s R)
 refine Does.block (Does.flat dvD ?_)
 have hw:IntKind.i64.wrap (IntKind.i64.wrap ((n:Int)+(B.length:Int))-1)=((n+B.length-1:Nat):Int):=by
  rw [IntWalk.i64_in ((n:Int)+(B.length:Int)) (by omega),IntWalk.i64_in _ (by omega)]
  omega
 have st:=aj1 cF iF mF sF A B ca B.length ca t q (n:Int)
 rw [hw,jY,jY] at st
 refine DoesL.stageG hE 300 3 _ _ _ _ _ st ⟨bc B,fun _=>⟨vcF hA (by omega),fun _=>⟨by omega,fun _=>⟨vcF hq (by omega),fun _=>⟨by omega,fun _ => ?_⟩⟩⟩⟩⟩
 refine (?_:DoesL _ _ (Mv A B ca B.length ca t (q.set n (mF (A.getD (n+B.length-1) frZ) t)) (n:Int) (mF (A.getD (n+B.length-1) frZ) t) ((0:Nat):Int)) _)
 exact Zo hE hA hn hca fun j=>h _ j
abbrev DvQ (B:List Fr) (t:Fr) (mF sF:Fr->Fr->Fr) (ca:Nat) (S:List Fr × List Fr):Type := { s:Int × List Fr × List Fr // s.1+B.length<=ca/\s.2.1.length=ca/\s.2.2.length=ca/\dvR mF sF B t (s.1+1).toNat s.2=S }
theorem Ab {a b:List Fr} {n:Nat} (h:(cF b).length=n+1):dvG mF sF cF iF a b=(cF (dvR mF sF (cF b) (iF ((cF b).getD n frZ)).1 ((cF a).length+1-(cF b).length) (cF a,aK (cF a).length)).2,0):=by
 unfold dvG
 rw [h]
theorem ae3 (hE:EnvOk (dvE cF iF mF sF)) (hcut : ∀ l,(cF l).length<=l.length) (a b:List Fr) (ha:bQ a) (hb:bQ b):DoesL (dvE cF iF mF sF) (flat (ae Tryz.f50)) (ah Tryz.f50 [rwV .fr 0 a,rwV .fr 1 b] [bz .fr a,bz .fr b])
  (EndsAs (dvE cF iF mF sF) Tryz.f50 (bO oDv (dvG mF sF cF iF a b))):=by
 have st:=Zm cF iF mF sF a b
 have ha':a.length<4294967296:=ha
 have hb':b.length<4294967296:=hb
 have fa:=sk ha
 have fb:=sk hb
 rw [en] at fa fb
 rw [en,en] at st
 have ca:=hcut a
 have cb:=hcut b
 refine DoesL.seg hE 300 7 _ _ _ _ _ st ⟨fa,fun _=>⟨fb,fun _=>⟨bc _,fun _=>⟨fun h => ?_,fun h=>⟨bc _,fun _ => ?_⟩⟩⟩⟩⟩
 ·refine ⟨.t,?_,trivial⟩
  have h0:(cF b).length=0:=by
   have h:(((cF b).length:Int)==0)=true:=h
   simp only [beq_iff_eq] at h
   omega
  unfold dvG
  rw [h0]
 ·obtain ⟨n,hn⟩ : ∃ n,(cF b).length=n+1:=by
   refine ⟨(cF b).length-1,?_⟩
   have h:(((cF b).length:Int)==0)=false:=h
   simp only [beq_eq_false_iff_ne,ne_eq] at h
   omega
  rw [Ab hn]
  have hw:IntKind.i64.wrap (((cF b).length:Int)-1)=((n:Nat):Int):=by rw [IntWalk.i64_in _ (by omega)];omega
  have hw2:IntKind.i64.wrap (((cF a).length:Int)-((cF b).length:Int))=((cF a).length:Int)-((cF b).length:Int):=IntWalk.i64_in _ (by omega)
  rw [hw,hw2,jY]
  refine ⟨hO (by omega),fun _=>⟨by omega,fun _=>⟨bc _,fun _=>⟨⟨by omega,by omega,by omega,by omega⟩,fun _=>⟨bc _,fun _=>⟨bc _,fun _ => ?_⟩⟩⟩⟩⟩⟩
  generalize hA:cF a=A at *
  generalize hB:cF b=B at *
  rw [Int.toNat_natCast]
  refine (?_:DoesL _ _ (dvS A B A.length B.length A.length (iF (B.getD n frZ)).1 (aK A.length) ((A.length:Int)-(B.length:Int))) _)
  generalize (iF (B.getD n frZ)).1=t at *
  generalize hS:(dvR mF sF B t (A.length+1-B.length) (A,aK A.length))=S at *
  refine DoesL.blockLoop (B:=dvB) (rest:=dvC.drop 8) (id:=0) (by kernel_rfl) (fun s:DvQ B t mF sF A.length S=>dvS s.1.2.1 B A.length B.length A.length t s.1.2.2 s.1.1) (fun s=>(s.1.1+1).toNat) ⟨((A.length:Int)-(B.length:Int),A,aK A.length),by show (A.length:Int)-(B.length:Int)+(B.length:Int)<=(A.length:Int);omega,rfl,wH _,by
   rw [<- hS]
   show dvR mF sF B t ((A.length:Int)-(B.length:Int)+1).toNat (A,aK A.length)=_
   rw [show ((A.length:Int)-(B.length:Int)+1).toNat=A.length+1-B.length by omega]⟩ fun s => ?_
  obtain ⟨⟨i,A1,q1⟩,k1,k2,k3,k4⟩:=s
  have k1:i+B.length<=A.length:=k1
  have k2:A1.length=A.length:=k2
  have k3:q1.length=A.length:=k3
  have k4:dvR mF sF B t (i+1).toNat (A1,q1)=S:=k4
  show Does _ _ (dvS A1 B A.length B.length A.length t q1 i) _
  refine Does.flat dvB ?_
  refine DoesL.part hE 100 2 _ (ae2 cF iF mF sF A1 B A.length B.length A.length t q1 i) ⟨fun h => ?_,fun h => ?_⟩
  ·simp only [ge_iff_le,decide_eq_true_eq] at h
   obtain ⟨m,rfl⟩ : ∃ m:Nat,i=(m:Int):=⟨i.toNat,by omega⟩
   rw [show ((m:Int)+1).toNat=m+1 by omega,Aa] at k4
   refine (?_:DoesL _ _ (dvS A1 B A.length B.length A.length t q1 (m:Int)) _)
   refine ae0 hE k2 k3 (by omega) (by omega) (by omega) fun k j => ?_
   refine DoesL.part hE 100 1 _ (ae1 cF iF mF sF _ B A.length B.length A.length t _ (m:Int) k j) ?_
   rw [jQ m (by omega)]
   simp only [Zp]
   refine ⟨_,Wk.refl _,⟨((m:Int)-1,_,_),?_,?_,?_,?_⟩,?_,rfl⟩
   ·show (m:Int)-1+B.length<=A.length
    omega
   ·show (je mF sF A1 B _ m B.length).length=A.length
    rw [ux,k2]
   ·show (q1.set m _).length=A.length
    rw [List.length_set,k3]
   ·show dvR mF sF B t ((m:Int)-1+1).toNat _=S
    rw [show ((m:Int)-1+1).toNat=m by omega]
    exact k4
   ·show ((m:Int)-1+1).toNat<((m:Int)+1).toNat
    omega
  ·simp only [ge_iff_le,decide_eq_false_iff_not] at h
   rw [show (i+1).toNat=0 by omega,sQ] at k4
   subst k4
   refine ⟨rfl,DoesL.ends hE 300 (air cF iF mF sF A1 B A.length B.length A.length t q1 i) ?_⟩
   have f1:=sk (f:=q1) (by show q1.length<4294967296;omega)
   have f2:=sk (f:=A1) (by show A1.length<4294967296;omega)
   rw [k3] at f1
   rw [k2] at f2
   refine ⟨f1,fun _=>⟨f2,fun _ => ?_⟩⟩
   rw [am k3,List.take_length]
   exact ⟨_,rfl,Nat.le_refl _⟩
end
def dvF (a b:List Fr):List Fr × Int:=dvG aw eO aO pu a b
theorem ais:CallOk Tryz.prog 50 (K2 bV bV oDv.res dvF) :=
 G2 (E:=dvE aO pu aw eO) Tryz.func50 (c:=ae Tryz.f50) (by kernel_rfl) (ab Tryz.func50 (by kernel_rfl) (by kernel_rfl)) iFew iFew oDv dvF fun a b ha hb =>
  ae3 (bn (.cons D9 (.cons aeM (.cons qk (.cons Oi .nil))))) dE a b ha.2 hb.2
def Em (f0:UInt64->Fr):Fr:=(f0 (1:UInt64))
def OL (f0:UInt64->Fr):Tree (Option (Fr)) :=
 (.leaf (some (f0 (1:UInt64))))
theorem R8 (f0:UInt64->Fr):ac (En [(46,K1 kU64.arg (aa Fr).rs.res f0)]) (aa Fr).rs 300 Tryz.f47 []=OL f0:=by kernel_rfl
theorem R7 (f0:UInt64->Fr):(OL f0).sat fun q=>q=some (Em f0):=(show some _=some _ from rfl)
def sD  : Fr:=Em kB
theorem Xn:CallOk Tryz.prog 47 (K0 (aa Fr).rs.res sD) :=
 P0 (aj (.cons th .nil)) Tryz.func47 (ab Tryz.func47 (by kernel_rfl) (by kernel_rfl)) 300  (aa Fr).rs sD (R8 kB) (R7 kB)
def pZ (f0:UInt64->Fr) (f1:Fr->Fr) (f2:List Fr->Fr->List Fr) (f3:List Fr->List Fr->List Fr) (l:List Fr) (m:List Fr):Tree (Option ((List Fr) × Pr)):=letI za':=f2 (List.take m.length (List.drop 0 m)) (f1 (f0 (UInt64.ofNat 1)));letI zb':=f3 (List.take l.length (List.drop 0 l)) (List.take za'.length (List.drop 0 za'));
 (.vc ((0+m.length*4<=(ad RK.fr m).length/\0=0/\m.length<1125899906842624/\0=0/\4=4)/\bQ (List.take m.length (List.drop 0 m))) (.vc (((0+l.length*4<=(ad RK.fr l).length/\0=0/\l.length<1125899906842624/\0=0/\4=4)/\bQ (List.take l.length (List.drop 0 l)))/\(0+za'.length*4<=(ad RK.fr za').length/\0=0/\za'.length<1125899906842624/\0=0/\4=4)/\bQ (List.take za'.length (List.drop 0 za'))) (.leaf (some ((List.take zb'.length zb',(.p (zb'.length<=zb'.length))))))))
theorem Rh (f0:UInt64->Fr) (f1:Fr->Fr) (f2:List Fr->Fr->List Fr) (f3:List Fr->List Fr->List Fr) (l:List Fr) (m:List Fr):cD (Ens [(46,K1 kU64.arg (aa Fr).rs.res f0),(51,Kr1 f1),(34,K2 bV (aa Fr).arg oFrs.res f2),(33,K2 bV bV oFrs.res f3)] [34,33]) oFrs 300 Tryz.f49 (flat (ae Tryz.f49)) (ah Tryz.f49 [rwV .fr 0 l,rwV .fr 1 m] [bz .fr l,bz .fr m])=pZ f0 f1 f2 f3 l m:=by kernel_rfl
def jI (l:List Fr) (m:List Fr):List Fr:=(pZ kB dN aM bS l m).outD []
theorem Ri (h : ∀ (l:List Fr) (m:List Fr),iFew.fact l->iFew.fact m->(pZ kB dN aM bS l m).full=true/\(pZ kB dN aM bS l m).okAll):CallOk Tryz.prog 49 (K2 bV bV oFrs.res jI) :=
 Go.Proofs.YtgpafcehehaiiaaGreat.G2 (E:=Ens [(46,K1 kU64.arg (aa Fr).rs.res kB),(51,Kr1 dN),(34,K2 bV (aa Fr).arg oFrs.res aM),(33,K2 bV bV oFrs.res bS)] [34,33]) Tryz.func49 (c:=ae Tryz.f49) (by kernel_rfl) (ab Tryz.func49 (by kernel_rfl) (by kernel_rfl)) iFew iFew oFrs jI fun l m hl hm=>DoesL.outs (bn (.cons th (.cons OT (.cons xC (.cons HW .nil))))) 300 [] (Rh kB dN aM bS l m) (h l m hl hm).1 (h l m hl hm).2
end
set_option maxRecDepth 100000
section
theorem Rp {l m:List Fr} (h1:bQ l) (h2:bQ m):bQ (bS l m):=by
 have h1:l.length<4294967296:=h1
 have h2:m.length<4294967296:=h2
 show (bS l m).length<4294967296
 unfold bS
 refine Nat.lt_of_le_of_lt (dE _) ?_
 rw [pD]
 exact Nat.max_lt.2 ⟨h2,h1⟩
theorem uW {l:List Fr} (h:bQ l) (k:Fr):bQ (aM l k):=by
 have h:l.length<4294967296:=h
 show (aM l k).length<4294967296
 unfold aM
 refine Nat.lt_of_le_of_lt (dE _) ?_
 rw [List.length_map]
 exact h
theorem WE:CallOk Tryz.prog 49 (K2 bV bV oFrs.res jI):=Ri fun l m hl hm=>by
 have hl:bQ l:=hl.2
 have hm:bQ m:=hm.2
 refine ⟨rfl,sk hm,?_⟩
 rw [en l,en m]
 exact ⟨⟨M7 hl,sk (uW hm _)⟩,Nat.le_refl _⟩
theorem zo (l m:List Fr):jI l m=bS l (aM m (dN (kB 1))):=by
 have key : ∀ (o:UInt64->Fr) (n:Fr->Fr) (s:List Fr->Fr->List Fr) (a:List Fr->List Fr->List Fr),(pZ o n s a l m).outD []=a l (s m (n (o 1))):=by
  intro o n s a
  unfold pZ
  simp only [ko,ki,fq,en,List.take_length]
  rfl
 exact key _ _ _ _
def md (f0:List Fr->Fr->Fr) (f1:List Fr->List Fr->List Fr) (f2:Fr->Fr) (f3:Fr) (f4:List Fr->List Fr->List Fr × Int) (f:List Fr) (z:Fr):Tree (Option ((List Fr) × Pr)):=letI za':=f1 (List.take f.length (List.drop 0 f)) [f0 (List.take f.length (List.drop 0 f)) z];letI zb':=f4 (List.take za'.length (List.drop 0 za')) [f2 z,f3];letI zc':=0+f.length*4<=(ad RK.fr f).length/\0=0/\f.length<1125899906842624/\0=0/\4=4;letI zd':=List.take f.length (List.drop 0 f);
 (.vc zc' (.vc ((zc'/\bQ zd')/\bQ [f0 zd' z]) (.vc (((0+za'.length*4<=(ad RK.fr za').length/\0=0/\za'.length<1125899906842624/\0=0/\4=4)/\bQ (List.take za'.length (List.drop 0 za')))/\bQ [f2 z,f3]) (.leaf (some ((List.take zb'.fst.length zb'.fst,(.p (zb'.fst.length<=zb'.fst.length)))))))))
theorem KC (f0:List Fr->Fr->Fr) (f1:List Fr->List Fr->List Fr) (f2:Fr->Fr) (f3:Fr) (f4:List Fr->List Fr->List Fr × Int) (f:List Fr) (z:Fr):cD (Ens [(26,K2 (ba .fr) (aa Fr).arg r4.res f0),(49,K2 bV bV oFrs.res f1),(51,Kr1 f2),(47,K0 (aa Fr).rs.res f3),(50,K2 bV bV oDv.res f4)] [49,50]) oFrs 300 Tryz.f20 (flat (ae Tryz.f20)) (ah Tryz.f20 [rwV .fr 0 f,.one ((aa Fr).av z)] [bz .fr f])=md f0 f1 f2 f3 f4 f z:=by kernel_rfl
def fe (f:List Fr) (z:Fr):List Fr:=(md fC jI dN sD dvF f z).outD []
theorem KD (h : ∀ (f:List Fr) (z:Fr),iFew.fact f->(md fC jI dN sD dvF f z).full=true/\(md fC jI dN sD dvF f z).okAll):CallOk Tryz.prog 20 (K2 bV (aa Fr).arg oFrs.res fe) :=
 Go.Proofs.YtgpafcehehaiiaaGreat.G2 (E:=Ens [(26,K2 (ba .fr) (aa Fr).arg r4.res fC),(49,K2 bV bV oFrs.res jI),(51,Kr1 dN),(47,K0 (aa Fr).rs.res sD),(50,K2 bV bV oDv.res dvF)] [49,50]) Tryz.func20 (c:=ae Tryz.f20) (by kernel_rfl) (ab Tryz.func20 (by kernel_rfl) (by kernel_rfl)) iFew (aa Fr).inp oFrs fe fun f z hf _=>DoesL.outs (bn (.cons Eb (.cons WE (.cons OT (.cons Xn (.cons ais .nil)))))) 300 [] (KC fC jI dN sD dvF f z) (h f z hf).1 (h f z hf).2
theorem BO {l m:List Fr} (h1:bQ l) (h2:bQ m):bQ (jI l m):=by
 rw [zo]
 exact Rp h1 (uW h2 _)
theorem aji (a:Fr):bQ [a]:=by
 show 1<4294967296
 decide
theorem ajY (a b:Fr):bQ [a,b]:=by
 show 2<4294967296
 decide
theorem Rl:CallOk Tryz.prog 20 (K2 bV (aa Fr).arg oFrs.res fe):=KD fun f z hf=>by
 have hf:bQ f:=hf.2
 refine ⟨rfl,cj (Nat.lt_of_lt_of_le hf (by decide)),⟨sk hf,aji _⟩,?_⟩
 rw [en f]
 exact ⟨⟨sk (BO hf (aji _)),ajY _ _⟩,Nat.le_refl _⟩
theorem BR (f:List Fr) (z:Fr):fe f z=(dvF (jI f [fC f z]) [dN z,sD]).1:=by
 have key : ∀ (a:List Fr->Fr->Fr) (s:List Fr->List Fr->List Fr) (n:Fr->Fr) (o:Fr) (d:List Fr->List Fr->List Fr × Int),(md a s n o d f z).outD []=(d (s f [a f z]) [n z,o]).1:=by
  intro a s n o d
  unfold md
  simp only [ko,ki,fq,en,List.take_length]
 exact key _ _ _ _ _
theorem ZC:CallOk Tryz.prog 19 (K2 (aa Fr).arg (ba .fr) (aa Pg1).rs.out.res lR):=T8 fun tau f hf=>⟨rfl,cj hf,trivial⟩
theorem ZD (tau:Fr) (f:List Fr):lR tau f=ej (fC f tau):=by
 have key : ∀ (a:List Fr->Fr->Fr) (g:Fr->Pg1),(qB a g tau f).outD dK=g (a f tau):=by
  intro a g
  unfold qB
  simp only [ko,ki,fq,en]
 exact key _ _
end
set_option maxRecDepth 100000
section
theorem Um:CallOk Tryz.prog 41 (KL (ArgL.cons (aa Pg2).arg (ArgL.cons ((ba .g1).such few) (ArgL.cons bV (ArgL.cons (aa Fr).arg (ArgL.cons ((ba .g1).such few) (ArgL.cons bV (ArgL.cons (aa Fr).arg (ArgL.cons (aa Fr).arg (ArgL.cons (aa Fr).arg (ArgL.cons (aa PP).arg ArgL.nil)))))))))) kBool.rs.out.res (fun x=>lz x.1 x.2.1 x.2.2.1 x.2.2.2.1 x.2.2.2.2.1 x.2.2.2.2.2.1 x.2.2.2.2.2.2.1 x.2.2.2.2.2.2.2.1 x.2.2.2.2.2.2.2.2.1 x.2.2.2.2.2.2.2.2.2.1)) :=
 MV fun t c y z d u x v r ws hc hy hd hu=>by
  refine ⟨by unfold kY;simp only [Tree.full,Bool.and_true],?_⟩
  have l1:=hc.2
  have l2:=hd.2
  have e1:c.length<1125899906842624:=hc.1
  have e2:d.length<1125899906842624:=hd.1
  exact ⟨pI c,bc y,fun _=>trivial,fun _=>⟨pI d,bc u,fun _=>trivial,fun _=>⟨s7 e1,fun _=>trivial,fun _=>⟨s7 e2,fun _=>trivial,fun _=>⟨fun _=>trivial,fun _=>⟨fun _=>trivial,fun _=>⟨⟨vD hc.2,jS hy.2,vD hd.2,jS hu.2⟩,trivial⟩⟩⟩⟩⟩⟩⟩
theorem Z0 (iF:List Pg1->Bool) (jF:Pg2->Bool) (sF:List Pg1->List Fr->Fr->List Pg1->List Fr->Fr->Fr->Fr->PP->Pg1 × Pg1) (nF:Pg1->Pg1) (o:Pg2) (cF:List Duo->Bool) (t:Pg2) (c:List Pg1) (y:List Fr) (z:Fr) (d:List Pg1) (u:List Fr) (x v r:Fr) (ws:PP):(kY iF jF sF nF o cF t c y z d u x v r ws).outD false =
  ((c.length==y.length) && ((d.length==u.length) && (iF c && (iF d && (iF [ws.a,ws.b] && (jF t && cF [⟨(sF c y z d u x v r ws).1,t⟩,⟨nF (sF c y z d u x v r ws).2,o⟩])))))):=by
 unfold kY
 simp only [ko,ki,fq,pG,lB]
 have e : ∀ (a b:Nat),((a:Int) != (b:Int)) = !(a==b):=fun a b=>by
  cases h:(a==b) with
  | true =>
   have:=eq_of_beq h
   subst this
   simp
  | false =>
   have:a ≠ b:=by simpa using h
   simp only [Bool.not_false,bne_iff_ne,ne_eq]
   omega
 rw [e,e]
 generalize (c.length==y.length)=b1
 generalize (d.length==u.length)=b2
 generalize iF c=b3
 generalize iF d=b4
 generalize iF [ws.a,ws.b]=b5
 generalize jF t=b6
 cases b1 <;> cases b2 <;> cases b3 <;> cases b4 <;> cases b5 <;> cases b6 <;> rfl
theorem Un (t:Pg2) (c:List Pg1) (y:List Fr) (z:Fr) (d:List Pg1) (u:List Fr) (x v r:Fr) (ws:PP):lz t c y z d u x v r ws =
  ((c.length==y.length) && ((d.length==u.length) && (yp c && (yp d && (yp [ws.a,ws.b] && (u9 t && gH [⟨(jE c y z d u x v r ws).1,t⟩,⟨mL (jE c y z d u x v r ws).2,oneG2⟩])))))):=Z0 _ _ _ _ _ _ t c y z d u x v r ws
def dh (f0:Bool) (f1:List Fr->Int->Bool) (f2:List (List Fr)->Int->Int->Bool) (f3:Fr->Int->List Pg1 × Pg2) (f4:List Pg1 × Pg2->List (List Fr)->Fr->List (List Fr)->Fr->Fr->PP × Int) (f5:List (List Fr)->Fr->List Fr) (f6:List Fr->Fr->List Fr) (f7:Fr->List Fr->Pg1) (tau:Fr) (n:UInt8) (f:List (List Fr)) (m:List (List Fr)) (z:Fr) (x:Fr) (v:Fr):Tree (Option ((Bool) × Pr)):=letI za':=(f4 (List.take (f3 tau (IntKind.i64.wrap (3+(↑(n % UInt8.ofNat 4).toNat:Int)))).fst.length (List.drop 0 (f3 tau (IntKind.i64.wrap (3+(↑(n % UInt8.ofNat 4).toNat:Int)))).fst),(f3 tau (IntKind.i64.wrap (3+(↑(n % UInt8.ofNat 4).toNat:Int)))).snd) f z m x v);letI zb':=f7 tau (List.take (f6 (List.take (f5 m v).length (List.drop 0 (f5 m v))) x).length (List.drop 0 (f6 (List.take (f5 m v).length (List.drop 0 (f5 m v))) x)));letI zc':=za'.fst.b.x.l0==UInt64.ofNat 0 && (za'.fst.b.x.l1==UInt64.ofNat 0 && (za'.fst.b.x.l2==UInt64.ofNat 0 && (za'.fst.b.x.l3==UInt64.ofNat 0 && (za'.fst.b.x.l4==UInt64.ofNat 0 && (za'.fst.b.x.l5==UInt64.ofNat 0 && true))))) && (za'.fst.b.y.l0==UInt64.ofNat 0 && (za'.fst.b.y.l1==UInt64.ofNat 0 && (za'.fst.b.y.l2==UInt64.ofNat 0 && (za'.fst.b.y.l3==UInt64.ofNat 0 && (za'.fst.b.y.l4==UInt64.ofNat 0 && (za'.fst.b.y.l5==UInt64.ofNat 0 && true))))) && (za'.fst.b.inf==false && true)) && true;letI zd':=(IntKind.i64.wrap (3+(↑(n % UInt8.ofNat 4).toNat:Int)));letI ze':=za'.fst.a.y.l0==UInt64.ofNat 0 && (za'.fst.a.y.l1==UInt64.ofNat 0 && (za'.fst.a.y.l2==UInt64.ofNat 0 && (za'.fst.a.y.l3==UInt64.ofNat 0 && (za'.fst.a.y.l4==UInt64.ofNat 0 && (za'.fst.a.y.l5==UInt64.ofNat 0 && true))))) && (za'.fst.a.inf==false && true);letI zf':=List.take (f5 f v).length (List.drop 0 (f5 f v));letI zg':=za'.fst.a.x.l1==UInt64.ofNat 0 && (za'.fst.a.x.l2==UInt64.ofNat 0 && (za'.fst.a.x.l3==UInt64.ofNat 0 && (za'.fst.a.x.l4==UInt64.ofNat 0 && (za'.fst.a.x.l5==UInt64.ofNat 0 && true))));letI zh':=List.take (f5 m v).length (List.drop 0 (f5 m v));letI zi':=(3+(↑(n % UInt8.ofNat 4).toNat:Int));letI zj':=f.length=f.length/\fO f;letI zk':=ad RK.fr (f5 f v);letI zl':=ad RK.fr (f5 m v);
 (.br (!(f0)) (.leaf (some ((false,.t)))) (.br (!(f1 [tau,z,x,v] 4)) (.leaf (some ((true,.t)))) (.vc (f.length=f.length) (.br (!(f2 f 4 6)) (.leaf (some ((true,.t)))) (.vc (m.length=m.length) (.br (!(f2 m 4 6)) (.leaf (some ((true,.t)))) (.vc (Mr zd') (.vc (((0+(f3 tau zd').fst.length*13<=(ad RK.g1 (f3 tau zd').fst).length/\0=0/\(f3 tau zd').fst.length<1125899906842624/\0=0/\13=13)/\Vi (List.take (f3 tau zd').fst.length (List.drop 0 (f3 tau zd').fst),(f3 tau zd').snd))/\zj'/\m.length=m.length/\fO m) (.vc zj' (.vc (m.length=m.length/\fO m) (.vc (0+(f5 f v).length*4<=zk'.length/\0<4) (.br (decide ((↑(f5 f v).length:Int) > IntKind.i64.wrap zi')) (.br (za'.snd==8) (.leaf (some ((za'.fst.a.x.l0==UInt64.ofNat 0 && zg' && ze' && zc',.t)))) (.leaf (some ((false,.t))))) (.vc (0+(f5 m v).length*4<=zl'.length/\0<4) (.br (decide ((↑(f5 m v).length:Int) > IntKind.i64.wrap zi')) (.br (za'.snd==8) (.leaf (some ((za'.fst.a.x.l0==UInt64.ofNat 0 && zg' && ze' && zc',.t)))) (.leaf (some ((false,.t))))) (.br (za'.snd==0) (.vc ((0+(f5 f v).length*4<=zk'.length/\0=0/\(f5 f v).length<1125899906842624/\0=0/\4=4)/\bQ zf') (.vc (0+(f6 zf' z).length*4<=(ad RK.fr (f6 zf' z)).length/\0=0/\(f6 zf' z).length<1125899906842624/\0=0/\4=4) (.br (q8 (za'.fst.a) (f7 tau (List.take (f6 zf' z).length (List.drop 0 (f6 zf' z))))) (.vc ((0+(f5 m v).length*4<=zl'.length/\0=0/\(f5 m v).length<1125899906842624/\0=0/\4=4)/\bQ zh') (.vc (0+(f6 zh' x).length*4<=(ad RK.fr (f6 zh' x)).length/\0=0/\(f6 zh' x).length<1125899906842624/\0=0/\4=4) (.leaf (some ((za'.fst.b.x.l0==zb'.x.l0 && (za'.fst.b.x.l1==zb'.x.l1 && (za'.fst.b.x.l2==zb'.x.l2 && (za'.fst.b.x.l3==zb'.x.l3 && (za'.fst.b.x.l4==zb'.x.l4 && (za'.fst.b.x.l5==zb'.x.l5 && true))))) && (za'.fst.b.y.l0==zb'.y.l0 && (za'.fst.b.y.l1==zb'.y.l1 && (za'.fst.b.y.l2==zb'.y.l2 && (za'.fst.b.y.l3==zb'.y.l3 && (za'.fst.b.y.l4==zb'.y.l4 && (za'.fst.b.y.l5==zb'.y.l5 && true))))) && (za'.fst.b.inf==zb'.inf && true)),.t)))))) (.leaf (some ((false,.t))))))) (.leaf (some ((false,.t)))))))))))))))))))
theorem wq (f0:Bool) (f1:List Fr->Int->Bool) (f2:List (List Fr)->Int->Int->Bool) (f3:Fr->Int->List Pg1 × Pg2) (f4:List Pg1 × Pg2->List (List Fr)->Fr->List (List Fr)->Fr->Fr->PP × Int) (f5:List (List Fr)->Fr->List Fr) (f6:List Fr->Fr->List Fr) (f7:Fr->List Fr->Pg1) (tau:Fr) (n:UInt8) (f:List (List Fr)) (m:List (List Fr)) (z:Fr) (x:Fr) (v:Fr):cD (Ens [(13,K0 kBool.rs.res f0),(14,K2 (ba .fr) kInt.arg kBool.rs.res f1),(15,K3 (yW .fr) kInt.arg kInt.arg kBool.rs.res f2),(17,K2 (aa Fr).arg (kInt.arg.such Mr) oPow.res f3),(16,KL (ArgL.cons A4 (ArgL.cons tJ (ArgL.cons (aa Fr).arg (ArgL.cons tJ (ArgL.cons (aa Fr).arg (ArgL.cons (aa Fr).arg ArgL.nil)))))) ((aa PP).rs2 kInt).out.res (fun x=>f4 x.1 x.2.1 x.2.2.1 x.2.2.2.1 x.2.2.2.2.1 x.2.2.2.2.2.1)),(18,K2 tJ (aa Fr).arg oFrs.res f5),(20,K2 bV (aa Fr).arg oFrs.res f6),(19,K2 (aa Fr).arg (ba .fr) (aa Pg1).rs.out.res f7)] [17,18,20]) kBool.rs.out 300 Tryz.f3 (flat (ae Tryz.f3)) (ah Tryz.f3 [.one ((aa Fr).av tau),.one (kU8.av n),lsV 0 .fr f,lsV 1 .fr m,.one ((aa Fr).av z),.one ((aa Fr).av x),.one ((aa Fr).av v)] [.lists .fr f,.lists .fr m])=dh f0 f1 f2 f3 f4 f5 f6 f7 tau n f m z x v:=by kernel_rfl
def m9 (tau:Fr) (n:UInt8) (f:List (List Fr)) (m:List (List Fr)) (z:Fr) (x:Fr) (v:Fr):Bool:=(dh eW dr iz co iK li fe lR tau n f m z x v).outD false
theorem rE (tau:Fr) (n:UInt8) (f:List (List Fr)) (m:List (List Fr)) (z:Fr) (x:Fr) (v:Fr) {w:World} {vtau vn vf vm vz vx vv:Value} (gtau:(aa Fr).arg.is w vtau tau) (gn:kU8.arg.is w vn n) (gf:(yW .fr).is w vf f) (gm:(yW .fr).is w vm m) (gz:(aa Fr).arg.is w vz z) (gx:(aa Fr).arg.is w vx x) (gv:(aa Fr).arg.is w vv v) (h:(yo .fr).fact f->(yo .fr).fact m->(dh eW dr iz co iK li fe lR tau n f m z x v).full=true/\(dh eW dr iz co iK li fe lR tau n f m z x v).okAll):Gives Tryz.prog 3 #[vtau,vn,vf,vm,vz,vx,vv] w kBool.rs.out.res (m9 tau n f m z x v) :=
 GLg (E:=Ens [(13,K0 kBool.rs.res eW),(14,K2 (ba .fr) kInt.arg kBool.rs.res dr),(15,K3 (yW .fr) kInt.arg kInt.arg kBool.rs.res iz),(17,K2 (aa Fr).arg (kInt.arg.such Mr) oPow.res co),(16,KL (ArgL.cons A4 (ArgL.cons tJ (ArgL.cons (aa Fr).arg (ArgL.cons tJ (ArgL.cons (aa Fr).arg (ArgL.cons (aa Fr).arg ArgL.nil)))))) ((aa PP).rs2 kInt).out.res (fun x=>iK x.1 x.2.1 x.2.2.1 x.2.2.2.1 x.2.2.2.2.1 x.2.2.2.2.2.1)),(18,K2 tJ (aa Fr).arg oFrs.res li),(20,K2 bV (aa Fr).arg oFrs.res fe),(19,K2 (aa Fr).arg (ba .fr) (aa Pg1).rs.out.res lR)] [17,18,20]) Tryz.func3 (c:=ae Tryz.f3) (by kernel_rfl) (InpL.cons (aa Fr).inp (InpL.cons kU8.inp (InpL.cons (yo .fr) (InpL.cons (yo .fr) (InpL.cons (aa Fr).inp (InpL.cons (aa Fr).inp (InpL.cons (aa Fr).inp InpL.nil))))))) kBool.rs.out (m9 tau n f m z x v) (vs := [vtau,vn,vf,vm,vz,vx,vv]) (x:=(tau,n,f,m,z,x,v,())) ⟨gtau,gn,gf,gm,gz,gx,gv,rfl⟩ fun g =>
  (DoesL.outs (bn (.cons yU (.cons zN (.cons IA (.cons H9 (.cons Jm (.cons Zg (.cons Rl (.cons ZC .nil))))))))) 300 false (wq eW dr iz co iK li fe lR tau n f m z x v) (h g.2.2.1 g.2.2.2.1).1 (h g.2.2.1 g.2.2.2.1).2)
end
end Go.Proofs.YtgpafcehehaiiaaGreat
namespace Go.Proofs.YtgpafcehehaiiaaGreat
def qN:Nat:=0x73eda753299d7d483339d80809a1d80553bda402fffe5bfeffffffff00000001
def r4N:Nat:=0x10000000000000000000000000000000000000000000000000000000000000000
def Fr.nat (a:Fr):Nat:=a.l0.toNat+W64*(a.l1.toNat+W64*(a.l2.toNat+W64*(a.l3.toNat)))
theorem Fr.nat_lt (a:Fr):a.nat<r4N:=by
 have h0:=a.l0.toNat_lt
 have h1:=a.l1.toNat_lt
 have h2:=a.l2.toNat_lt
 have h3:=a.l3.toNat_lt
 unfold Fr.nat r4N W64
 omega
theorem Fr.nat_inj {a b:Fr} (h:a.nat=b.nat):a=b:=by
 have h0:=a.l0.toNat_lt
 have h1:=a.l1.toNat_lt
 have h2:=a.l2.toNat_lt
 have h3:=a.l3.toNat_lt
 have k0:=b.l0.toNat_lt
 have k1:=b.l1.toNat_lt
 have k2:=b.l2.toNat_lt
 have k3:=b.l3.toNat_lt
 unfold Fr.nat W64 at h
 have e0:a.l0=b.l0:=UInt64.toNat.inj (by omega)
 have e1:a.l1=b.l1:=UInt64.toNat.inj (by omega)
 have e2:a.l2=b.l2:=UInt64.toNat.inj (by omega)
 have e3:a.l3=b.l3:=UInt64.toNat.inj (by omega)
 cases a;cases b
 simp only [] at e0 e1 e2 e3
 subst e0 e1 e2 e3
 rfl
theorem gp:rLimbs.nat=qN:=by decide +kernel
theorem uH (a b:Fr):(cp a b).1.nat+r4N*(cp a b).2.toNat=a.nat+b.nat:=by
 unfold cp
 simp only []
 have s0:=dx a.l0 b.l0 false
 generalize ct a.l0 b.l0 false=c0 at *
 have s1:=dx a.l1 b.l1 c0
 generalize ct a.l1 b.l1 c0=c1 at *
 have s2:=dx a.l2 b.l2 c1
 generalize ct a.l2 b.l2 c1=c2 at *
 have s3:=dx a.l3 b.l3 c2
 generalize ct a.l3 b.l3 c2=c3 at *
 unfold Fr.nat r4N W64 at *
 simp only [Bool.toNat_false] at *
 omega
theorem tZ (a b:Fr):(cC a b).1.nat+b.nat=a.nat+r4N*(cC a b).2.toNat:=by
 unfold cC
 simp only []
 have s0:=fT a.l0 b.l0 false
 generalize dZ a.l0 b.l0 false=c0 at *
 have s1:=fT a.l1 b.l1 c0
 generalize dZ a.l1 b.l1 c0=c1 at *
 have s2:=fT a.l2 b.l2 c1
 generalize dZ a.l2 b.l2 c1=c2 at *
 have s3:=fT a.l3 b.l3 c2
 generalize dZ a.l3 b.l3 c2=c3 at *
 unfold Fr.nat r4N W64 at *
 simp only [Bool.toNat_false] at *
 omega
theorem oD (a m:Fr):bU a m=decide (a.nat<m.nat):=by
 have h0:=a.l0.toNat_lt
 have k0:=m.l0.toNat_lt
 have h1:=a.l1.toNat_lt
 have k1:=m.l1.toNat_lt
 have h2:=a.l2.toNat_lt
 have k2:=m.l2.toNat_lt
 have same : ∀ {x y:UInt64},(x != y)=false->x.toNat=y.toNat:=fun h=>by
  simp only [bne_eq_false_iff_eq] at h
  rw [h]
 unfold bU
 cases e3:a.l3 != m.l3 with
 | true =>
  have:=u64_ne.1 e3
  refine decide_eq_decide.2 ?_
  rw [UInt64.lt_iff_toNat_lt]
  unfold Fr.nat W64
  omega
 | false =>
  have e3:=same e3
  simp only []
  cases e2:a.l2 != m.l2 with
  | true =>
   have:=u64_ne.1 e2
   refine decide_eq_decide.2 ?_
   rw [UInt64.lt_iff_toNat_lt]
   unfold Fr.nat W64
   omega
  | false =>
   have e2:=same e2
   simp only []
   cases e1:a.l1 != m.l1 with
   | true =>
    have:=u64_ne.1 e1
    refine decide_eq_decide.2 ?_
    rw [UInt64.lt_iff_toNat_lt]
    unfold Fr.nat W64
    omega
   | false =>
    have e1:=same e1
    simp only []
    cases e0:a.l0 != m.l0 with
    | true =>
     have:=u64_ne.1 e0
     refine decide_eq_decide.2 ?_
     rw [UInt64.lt_iff_toNat_lt]
     unfold Fr.nat W64
     omega
    | false =>
     have e0:=same e0
     refine (decide_eq_false ?_).symm
     unfold Fr.nat W64
     omega
theorem SP (a:Fr):gP a=decide (a.nat<qN):=by
 rw [show gP a=bU a rLimbs from rfl,oD,gp]
theorem oC (a b:Fr):(cC a b).2=decide (a.nat<b.nat):=by
 have h:=tZ a b
 have h1:=(cC a b).1.nat_lt
 have hb:=b.nat_lt
 cases e:(cC a b).2 with
 | true =>
  rw [e,Bool.toNat_true,Nat.mul_one] at h
  exact (decide_eq_true (by omega)).symm
 | false =>
  rw [e,Bool.toNat_false,Nat.mul_zero] at h
  exact (decide_eq_false (by omega)).symm
theorem lp:0<qN:=by decide +kernel
theorem D7 (t:Fr) (c:Nat) (hc:c<=1) (h:t.nat+r4N*c<2*qN):((c=1 \/ ¬ t.nat<qN)->(cC t rLimbs).1.nat=(t.nat+r4N*c) % qN)/\((c=0/\t.nat<qN)->t.nat=(t.nat+r4N*c) % qN):=by
 have h1:=tZ t rLimbs
 have h2:=oC t rLimbs
 rw [gp] at h1 h2
 have h3:=t.nat_lt
 have h4:=(cC t rLimbs).1.nat_lt
 have hq:qN<r4N:=by decide +kernel
 have hq2:r4N<3*qN:=by decide +kernel
 constructor
 ·intro hh
  rcases Nat.lt_or_ge t.nat qN with hl | hl
  ·have hc1:c=1:=hh.resolve_right (fun e=>e hl)
   subst hc1
   rw [h2,decide_eq_true hl,Bool.toNat_true,Nat.mul_one] at h1
   rw [Nat.mul_one,Nat.mod_eq_sub_mod (by omega),Nat.mod_eq_of_lt (by omega)]
   omega
  ·rw [h2,decide_eq_false (by omega),Bool.toNat_false,Nat.mul_zero] at h1
   have hc0:c=0:=by
    rcases Nat.eq_zero_or_pos c with e | e
    ·exact e
    ·have:c=1:=by omega
     subst this
     omega
   subst hc0
   rw [Nat.mul_zero,Nat.add_zero] at h ⊢
   rw [Nat.mod_eq_sub_mod hl,Nat.mod_eq_of_lt (by omega)]
   omega
 ·rintro ⟨rfl,hl⟩
  rw [Nat.mul_zero,Nat.add_zero,Nat.mod_eq_of_lt hl]
theorem uF {a b:Fr} (ha:a.nat<qN) (hb:b.nat<qN):(bf a b).nat=(a.nat+b.nat) % qN:=by
 have h:=uH a b
 have hc:(cp a b).2.toNat<=1:=by cases (cp a b).2 <;> simp
 obtain ⟨r1,r2⟩:=D7 (cp a b).1 (cp a b).2.toNat hc (by omega)
 rw [h] at r1 r2
 unfold bf nN
 cases e:(cp a b).2 with
 | true=>exact r1 (.inl (by rw [e];rfl))
 | false =>
  rw [oD,gp]
  by_cases hl:(cp a b).1.nat<qN
  ·rw [decide_eq_true hl]
   exact r2 ⟨by rw [e];rfl,hl⟩
  ·rw [decide_eq_false hl]
   exact r1 (.inr hl)
theorem tX {a b:Fr} (ha:a.nat<qN) (hb:b.nat<qN):(eO a b).nat=(a.nat+qN-b.nat) % qN:=by
 have h:=tZ a b
 have hb2:=oC a b
 have h3:=(cC a b).1.nat_lt
 unfold eO lG
 by_cases hl:a.nat<b.nat
 ·rw [decide_eq_true hl] at hb2
  rw [hb2] at h ⊢
  have h2:=uH (cC a b).1 rLimbs
  rw [gp] at h2
  have h4:=(cp (cC a b).1 rLimbs).1.nat_lt
  have hc:(cp (cC a b).1 rLimbs).2.toNat<=1:=by cases (cp (cC a b).1 rLimbs).2 <;> simp
  rw [Bool.toNat_true,Nat.mul_one] at h
  have hq:qN<r4N:=by decide +kernel
  show (cp (cC a b).1 rLimbs).1.nat=_
  rw [Nat.mod_eq_of_lt (by omega)]
  rcases Nat.eq_zero_or_pos (cp (cC a b).1 rLimbs).2.toNat with e | e
  ·rw [e,Nat.mul_zero] at h2;omega
  ·have:(cp (cC a b).1 rLimbs).2.toNat=1:=by omega
   rw [this,Nat.mul_one] at h2
   omega
 ·rw [decide_eq_false hl] at hb2
  rw [hb2] at h ⊢
  rw [Bool.toNat_false,Nat.mul_zero] at h
  show (cC a b).1.nat=_
  rw [show a.nat+qN-b.nat=(a.nat-b.nat)+qN by omega,Nat.add_mod_right,Nat.mod_eq_of_lt (by omega)]
  omega
theorem wI:zeroFr.nat=0:=by decide +kernel
theorem B3 {a:Fr} (ha:a.nat<qN):(dN a).nat=(qN-a.nat) % qN:=by
 have h:zeroFr.nat<qN:=by rw [wI];exact lp
 show (eO zeroFr a).nat=_
 rw [tX h ha,wI,Nat.zero_add]
def L5.nat (t:L5):Nat:=t.t0.toNat+W64*(t.t1.toNat+W64*(t.t2.toNat+W64*(t.t3.toNat+W64*(t.t4.toNat))))
theorem L5.nat_low (t:L5):t.nat=t.low.nat+r4N*t.t4.toNat:=by
 unfold L5.nat L5.low Fr.nat r4N W64
 simp only []
 omega
def g9:UInt64:=0xfffffffeffffffff
theorem ft:bP rLimbs.l0=g9:=by decide +kernel
theorem S1 (t:UInt64):(gr (t*g9) rLimbs.l0+b2u (ct t (t*g9*rLimbs.l0) false)).toNat*W64=(t*g9).toNat*rLimbs.l0.toNat+t.toNat:=by
 generalize hx:t*g9=x
 have hx':x.toNat=t.toNat*18446744069414584319 % 18446744073709551616:=by rw [<- hx,UInt64.toNat_mul];rfl
 have hp:rLimbs.l0.toNat=18446744069414584321:=rfl
 have ht:=t.toNat_lt
 have hlt:=x.toNat_lt
 rw [UInt64.toNat_add,da,k8,iR,UInt64.toNat_mul,hp]
 rw [Bool.toNat_false,Nat.add_zero]
 unfold W64
 have key:(x.toNat*18446744069414584321 % 18446744073709551616+t.toNat) % 18446744073709551616=0:=by
  rw [hx']
  omega
 omega
theorem rmw (x y t c:UInt64):(rmH x y t c).toNat*W64+(rmL x y t c).toNat=x.toNat*y.toNat+t.toNat+c.toNat:=by rw [AD,AC];exact pp x y t c
theorem LH (t0 t1 t2 t3 top:UInt64) (more:Bool) :
  (AL rLimbs g9 t0 t1 t2 t3 top more).nat*W64=(t0.toNat+W64*(t1.toNat+W64*(t2.toNat+W64*(t3.toNat+W64*(top.toNat+W64*(more.toNat))))))+(t0*g9).toNat*qN:=by
 have q0:=S1 t0
 unfold AL
 simp only [L5.nat]
 generalize gr (t0*g9) rLimbs.l0+b2u (ct t0 (t0*g9*rLimbs.l0) false)=d0 at *
 generalize t0*g9=x at *
 have q1:=rmw x rLimbs.l1 t1 d0
 generalize rmH x rLimbs.l1 t1 d0=d1 at *
 have q2:=rmw x rLimbs.l2 t2 d1
 generalize rmH x rLimbs.l2 t2 d1=d2 at *
 have q3:=rmw x rLimbs.l3 t3 d2
 generalize rmH x rLimbs.l3 t3 d2=d3 at *
 have q6:=dx top d3 false
 have q7:(b2u more+b2u (ct top d3 false)).toNat=more.toNat+(ct top d3 false).toNat:=by
  rw [UInt64.toNat_add,da,da]
  cases more <;> cases ct top d3 false <;> rfl
 rw [q7]
 have ep:qN=rLimbs.l0.toNat+W64*(rLimbs.l1.toNat+W64*(rLimbs.l2.toNat+W64*(rLimbs.l3.toNat))):=by decide +kernel
 have exp:x.toNat*qN=x.toNat*rLimbs.l0.toNat+W64*(x.toNat*rLimbs.l1.toNat+W64*(x.toNat*rLimbs.l2.toNat+W64*(x.toNat*rLimbs.l3.toNat))):=by
  rw [ep]
  simp only [Nat.mul_add,Nat.mul_left_comm x.toNat W64]
 rw [exp]
 have s4:(fm top d3 false).toNat+W64*(more.toNat+(ct top d3 false).toNat)=(top.toNat+W64*more.toNat)+d3.toNat:=by
  simp only [Bool.toNat_false] at q6
  unfold W64 at *
  omega
 have s3:=bL q3 s4
 have s2:=bL q2 s3
 have s1:=bL q1 s2
 rw [s1]
 generalize x.toNat*rLimbs.l0.toNat=y0 at *
 generalize x.toNat*rLimbs.l1.toNat=y1 at *
 generalize x.toNat*rLimbs.l2.toNat=y2 at *
 generalize x.toNat*rLimbs.l3.toNat=y3 at *
 exact akm (wE (wE (afH _ _ _))) q0
theorem kE (b:Fr) (ai:UInt64) (t:L5) : ∃ m:Nat,m<W64/\(fh rLimbs g9 ai b t).nat*W64=t.nat+ai.toNat*b.nat+m*qN:=by
 unfold fh
 simp only []
 have q0:=rmw ai b.l0 t.t0 0
 generalize rmH ai b.l0 t.t0 0=c0 at *
 have q1:=rmw ai b.l1 t.t1 c0
 generalize rmH ai b.l1 t.t1 c0=c1 at *
 have q2:=rmw ai b.l2 t.t2 c1
 generalize rmH ai b.l2 t.t2 c1=c2 at *
 have q3:=rmw ai b.l3 t.t3 c2
 generalize rmH ai b.l3 t.t3 c2=c3 at *
 have q6:=dx t.t4 c3 false
 refine ⟨(rmL ai b.l0 t.t0 0*g9).toNat,UInt64.toNat_lt _,?_⟩
 rw [LH]
 refine congrArg (fun z=>z+(rmL ai b.l0 t.t0 0*g9).toNat*qN) ?_
 have e:ai.toNat*b.nat=ai.toNat*b.l0.toNat+W64*(ai.toNat*b.l1.toNat+W64*(ai.toNat*b.l2.toNat+W64*(ai.toNat*b.l3.toNat))):=by
  unfold Fr.nat
  simp only [Nat.mul_add,Nat.mul_left_comm ai.toNat W64]
 rw [e]
 have s4:(fm t.t4 c3 false).toNat+W64*(ct t.t4 c3 false).toNat=t.t4.toNat+c3.toNat:=by simpa using q6
 have s3:=bL q3 s4
 have s2:=bL q2 s3
 have s1:=bL q1 s2
 have s0:=bL q0 s1
 rw [s0]
 have z:(0:UInt64).toNat=0:=rfl
 rw [z,L5.nat]
 generalize ai.toNat*b.l0.toNat=x0 at *
 generalize ai.toNat*b.l1.toNat=x1 at *
 generalize ai.toNat*b.l2.toNat=x2 at *
 generalize ai.toNat*b.l3.toNat=x3 at *
 rw [Nat.add_zero]
 exact wE (wE (wE (afH _ _ _)))
theorem jK {b:Fr} {ai:UInt64} {t:L5} (h:t.nat<b.nat+qN):(fh rLimbs g9 ai b t).nat<b.nat+qN:=by
 obtain ⟨m,hm,e⟩:=kE b ai t
 have hb:=ai.toNat_lt
 have h1:ai.toNat*b.nat<=(W64-1)*b.nat:=Nat.mul_le_mul_right _ (by unfold W64;omega)
 have h2:m*qN<=(W64-1)*qN:=Nat.mul_le_mul_right _ (by omega)
 have h3:(fh rLimbs g9 ai b t).nat*W64<(b.nat+qN)*W64:=by
  rw [e]
  unfold W64 at *
  omega
 exact Nat.lt_of_mul_lt_mul_right h3
set_option maxRecDepth 100000 in
theorem xU (a b:Fr) : ∃ k:Nat,(ew a b rLimbs).nat*r4N=a.nat*b.nat+k*qN/\(ew a b rLimbs).nat<b.nat+qN:=by
 have hp0:0<qN:=lp
 obtain ⟨m0,_,e0⟩:=kE b a.l0 ⟨0,0,0,0,0⟩
 obtain ⟨m1,_,e1⟩:=kE b a.l1 (fH a b rLimbs)
 obtain ⟨m2,_,e2⟩:=kE b a.l2 (fG a b rLimbs)
 obtain ⟨m3,_,e3⟩:=kE b a.l3 (fE a b rLimbs)
 have z:(L5.mk 0 0 0 0 0).nat=0:=by decide +kernel
 have b0:(fH a b rLimbs).nat<b.nat+qN:=by unfold fH;rw [ft];exact jK (by rw [z];omega)
 have b1:(fG a b rLimbs).nat<b.nat+qN:=by unfold fG;rw [ft];exact jK b0
 have b2:(fE a b rLimbs).nat<b.nat+qN:=by unfold fE;rw [ft];exact jK b1
 have b3:(ew a b rLimbs).nat<b.nat+qN:=by unfold ew;rw [ft];exact jK b2
 refine ⟨m0+W64*(m1+W64*(m2+W64*(m3))),?_,b3⟩
 rw [z] at e0
 rw [show fh rLimbs g9 a.l0 b ⟨0,0,0,0,0⟩=fH a b rLimbs by unfold fH;rw [ft]] at e0
 rw [show fh rLimbs g9 a.l1 b (fH a b rLimbs)=fG a b rLimbs by unfold fG;rw [ft]] at e1
 rw [show fh rLimbs g9 a.l2 b (fG a b rLimbs)=fE a b rLimbs by unfold fE;rw [ft]] at e2
 rw [show fh rLimbs g9 a.l3 b (fE a b rLimbs)=ew a b rLimbs by unfold ew;rw [ft]] at e3
 have er:r4N=W64*(W64*(W64*W64)):=by decide +kernel
 have eb:a.nat*b.nat=a.l0.toNat*b.nat+W64*(a.l1.toNat*b.nat+W64*(a.l2.toNat*b.nat+W64*(a.l3.toNat*b.nat))):=by
  rw [show a.nat=a.l0.toNat+W64*(a.l1.toNat+W64*(a.l2.toNat+W64*(a.l3.toNat))) from rfl]
  simp only [Nat.add_mul,Nat.mul_assoc]
 have ek:(m0+W64*(m1+W64*(m2+W64*(m3))))*qN=m0*qN+W64*(m1*qN+W64*(m2*qN+W64*(m3*qN))):=by
  simp only [Nat.add_mul,Nat.mul_assoc]
 rw [er,eb,ek]
 have st : ∀ {t' t z R:Nat},t'*W64=t+z -> ∀ s:Nat,t'*(W64*s)=(t+z)*s:=fun h s=>by rw [<- Nat.mul_assoc,h]
 rw [st (R:=0) (t:=(fE a b rLimbs).nat) (z:=a.l3.toNat*b.nat+m3*qN) (by rw [e3,Nat.add_assoc])]
 rw [Nat.add_mul,st (R:=0) (t:=(fG a b rLimbs).nat) (z:=a.l2.toNat*b.nat+m2*qN) (by rw [e2,Nat.add_assoc])]
 rw [Nat.add_mul _ _ (W64*W64),st (R:=0) (t:=(fH a b rLimbs).nat) (z:=a.l1.toNat*b.nat+m1*qN) (by rw [e1,Nat.add_assoc])]
 rw [Nat.add_mul _ _ W64,e0]
 generalize a.l0.toNat*b.nat=x0
 generalize a.l1.toNat*b.nat=x1
 generalize a.l2.toNat*b.nat=x2
 generalize a.l3.toNat*b.nat=x3
 generalize m0*qN=y0
 generalize m1*qN=y1
 generalize m2*qN=y2
 generalize m3*qN=y3
 clear e0 e1 e2 e3 eb ek st
 unfold W64
 omega
theorem LF (t:L5) (h6:t.t4.toNat<=1) (h:t.low.nat+r4N*t.t4.toNat<2*qN):(rZ rLimbs t).nat=(t.low.nat+r4N*t.t4.toNat) % qN:=by
 obtain ⟨r1,r2⟩:=D7 t.low t.t4.toNat h6 h
 unfold rZ
 cases e:t.t4 != 0 with
 | true =>
  have:=u64_ne.1 e
  rw [show (0:UInt64).toNat=0 from rfl] at this
  exact r1 (.inl (by omega))
 | false =>
  rw [bne_eq_false_iff_eq] at e
  have e0:t.t4.toNat=0:=by rw [e];rfl
  rw [oD,gp]
  by_cases hl:t.low.nat<qN
  ·rw [decide_eq_true hl]
   exact r2 ⟨e0,hl⟩
  ·rw [decide_eq_false hl]
   exact r1 (.inr hl)
theorem ajB:qN<r4N:=by decide +kernel
theorem xV {a b:Fr} (hb:b.nat<qN):(lr a b rLimbs).nat<qN/\((lr a b rLimbs).nat*r4N) % qN=(a.nat*b.nat) % qN:=by
 obtain ⟨k,h1,h2⟩:=xU a b
 unfold lr
 generalize ew a b rLimbs=t at *
 rw [L5.nat_low] at h1 h2
 have hlt:=t.low.nat_lt
 have hq3:=ajB
 have h6:t.t4.toNat<=1:=by
  rcases Nat.lt_or_ge t.t4.toNat 2 with h | h
  ·omega
  ·have:r4N*2<=r4N*t.t4.toNat:=Nat.mul_le_mul_left _ h
   omega
 rw [LF t h6 (by omega)]
 refine ⟨Nat.mod_lt _ lp,?_⟩
 rw [Nat.mod_mul_mod,h1,Nat.add_mul_mod_self_right]
def af1:Nat:=0x1bbe869330009d577204078a4f77266aab6fca8f09dc705f13f75b69fe75c040
theorem ahj:r4N*af1 % qN=1:=by decide +kernel
theorem BT {x y:Nat} (h:x*r4N % qN=y*r4N % qN):x % qN=y % qN:=by
 have e : ∀ z,z % qN=z*r4N % qN*af1 % qN:=fun z=>by
  rw [Nat.mod_mul_mod,Nat.mul_assoc,<- Nat.mul_mod_mod,ahj,Nat.mul_one]
 rw [e x,e y,h]
theorem DX:sq4Limbs.nat=r4N*r4N % qN:=by decide +kernel
theorem uj {a b:Fr} (hb:b.nat<qN):(aw a b).nat=a.nat*b.nat % qN:=by
 have hs:sq4Limbs.nat<qN:=by rw [DX];exact Nat.mod_lt _ lp
 obtain ⟨h1,h2⟩:=xV (a:=a) hb
 obtain ⟨h3,h4⟩:=xV (a:=lr a b rLimbs) hs
 have e:(aw a b).nat % qN=a.nat*b.nat % qN:=by
  refine BT ?_
  show (lr (lr a b rLimbs) sq4Limbs rLimbs).nat*r4N % qN=_
  rw [h4,DX,Nat.mul_mod_mod,<- Nat.mul_assoc,<- Nat.mod_mul_mod,h2,Nat.mod_mul_mod]
 rw [<- e]
 exact (Nat.mod_eq_of_lt h3).symm
theorem XW {a b:Fr} (hb:b.nat<qN):(aw a b).nat<qN:=by rw [uj hb];exact Nat.mod_lt _ lp
theorem Z9 {a b:Fr} (ha:a.nat<qN) (hb:b.nat<qN):(bf a b).nat<qN:=by rw [uF ha hb];exact Nat.mod_lt _ lp
theorem XJ {a:Fr} (ha:a.nat<qN):(dN a).nat<qN:=by rw [B3 ha];exact Nat.mod_lt _ lp
end Go.Proofs.YtgpafcehehaiiaaGreat
namespace Go.Proofs.YtgpafcehehaiiaaGreat
theorem Dj {n F:Nat} (hn1:1<n) (key : ∀ d,IsPrime d->d ∣ n->F ∣ d-1) (hF:n<(F+1)*(F+1)):IsPrime n:=by
 have key : ∀ d,IsPrime d->d ∣ n->F+1<=d:=fun d hd hdn=>by
  have:=Nat.le_of_dvd (by have:=hd.1;omega) (key d hd hdn)
  have:=hd.1
  omega
 refine ⟨hn1,fun x hx => ?_⟩
 by_cases hx1:x=1
 ·exact .inl hx1
 ·right
  obtain ⟨y,hy⟩:=hx
  have hx0:x ≠ 0:=by rintro rfl;omega
  by_cases hy1:y=1
  ·subst hy1;omega
  ·have hy0:y ≠ 0:=by rintro rfl;omega
   obtain ⟨d,hd,hdx⟩:=eU x (by omega)
   obtain ⟨e,he,hey⟩:=eU y (by omega)
   have h1:=key d hd (Nat.dvd_trans hdx ⟨y,hy⟩)
   have h2:=key e he (Nat.dvd_trans hey ⟨x,by rw [hy,Nat.mul_comm]⟩)
   have h3:=Nat.le_of_dvd (by omega) hdx
   have h4:=Nat.le_of_dvd (by omega) hey
   have:=Nat.mul_le_mul (Nat.le_trans h1 h3) (Nat.le_trans h2 h4)
   omega
theorem kS {n q r a k:Nat} (hn:n=q*r+1) (hq:IsPrime q) (hr:0<r) (hk:q*r<2 ^ k) (h1:B5 k a (q*r) n=1) (h2:Nat.gcd (B5 k a r n+(n-1)) n=1) {d:Nat} (hd:IsPrime d) (hdn:d ∣ n):q ∣ d-1:=by
 have hrq:r<2 ^ k:=Nat.lt_of_le_of_lt (Nat.le_mul_of_pos_left r (by have:=hq.1;omega)) hk
 rw [ig n k a _ hk] at h1
 rw [ig n k a _ hrq] at h2
 exact If hn hq hr h1 h2 hd hdn
theorem qA {a b m:Nat} (h:Nat.gcd a b=1) (ha:a ∣ m) (hb:b ∣ m):a*b ∣ m:=Nat.Coprime.mul_dvd_of_dvd_of_dvd h ha hb
theorem Gf:IsPrime 10177:=cz (k:=100) (by decide) (by decide +kernel) (by decide)
theorem Dn:IsPrime 125527:=cz (k:=354) (by decide) (by decide +kernel) (by decide)
theorem Gd:IsPrime 47737:=cz (k:=217) (by decide) (by decide +kernel) (by decide)
theorem Dl:IsPrime 859267:=K6 0 (q:=47737) (r:=18) (a:=2) (k:=30) (by decide) Gd (by decide) (fun k h=>absurd h (by omega)) (by decide) (by decide) (by decide +kernel) (by decide +kernel)
theorem KK:IsPrime 1607:=cz (k:=40) (by decide) (by decide +kernel) (by decide)
theorem Dk:IsPrime 906349:=K6 0 (q:=1607) (r:=564) (a:=2) (k:=30) (by decide) KK (by decide) (fun k h=>absurd h (by omega)) (by decide) (by decide) (by decide +kernel) (by decide +kernel)
theorem AG:IsPrime 2508409:=cz (k:=1583) (by decide) (by decide +kernel) (by decide)
theorem Ge:IsPrime 18329:=cz (k:=135) (by decide) (by decide +kernel) (by decide)
theorem AF:IsPrime 2529403:=K6 0 (q:=18329) (r:=138) (a:=2) (k:=30) (by decide) Ge (by decide) (fun k h=>absurd h (by omega)) (by decide) (by decide) (by decide +kernel) (by decide +kernel)
theorem Dm:IsPrime 609743:=cz (k:=781) (by decide) (by decide +kernel) (by decide)
theorem wi:IsPrime 52437899:=K6 0 (q:=609743) (r:=86) (a:=2) (k:=30) (by decide) Dm (by decide) (fun k h=>absurd h (by omega)) (by decide) (by decide) (by decide +kernel) (by decide +kernel)
theorem aiq {d:Nat} (hd:IsPrime d) (hdn:d ∣ qN):331010811950628058101279066386724501604961 ∣ d-1:=(qA (a:=6312434675360049381484164084963139) (b:=52437899) (by decide +kernel) (qA (a:=2495622356484929203248420313) (b:=2529403) (by decide +kernel) (qA (a:=994902488583372649057) (b:=2508409) (by decide +kernel) (qA (a:=1097703521031493) (b:=906349) (by decide +kernel) (qA (a:=1277488279) (b:=859267) (by decide +kernel) (qA (a:=10177) (b:=125527) (by decide +kernel) (kS (n:=qN) (q:=10177) (r:=5152390210781781515127025695999407078479959958782316775336902692339449856) (a:=2) (k:=255) (by decide +kernel) Gf (by decide +kernel) (by decide +kernel) (by decide +kernel) (by decide +kernel) hd hdn) (kS (n:=qN) (q:=125527) (r:=417725869136729074059347714102830194601086240414633009811464136798765056) (a:=2) (k:=255) (by decide +kernel) Dn (by decide +kernel) (by decide +kernel) (by decide +kernel) (by decide +kernel) hd hdn)) (kS (n:=qN) (q:=859267) (r:=61023960160376449321861238134579782346686830170980193377150127608692736) (a:=2) (k:=255) (by decide +kernel) Dl (by decide +kernel) (by decide +kernel) (by decide +kernel) (by decide +kernel) hd hdn)) (kS (n:=qN) (q:=906349) (r:=57853956009358636109763171259841369977448590444219211167666824479244288) (a:=2) (k:=255) (by decide +kernel) Dk (by decide +kernel) (by decide +kernel) (by decide +kernel) (by decide +kernel) hd hdn)) (kS (n:=qN) (q:=2508409) (r:=20904037250355181503274681484632675866531555460264908084209416686010368) (a:=2) (k:=255) (by decide +kernel) AG (by decide +kernel) (by decide +kernel) (by decide +kernel) (by decide +kernel) hd hdn)) (kS (n:=qN) (q:=2529403) (r:=20730534112249487519168649878325425342537568153642435714120548880482304) (a:=2) (k:=255) (by decide +kernel) AF (by decide +kernel) (by decide +kernel) (by decide +kernel) (by decide +kernel) hd hdn)) (kS (n:=qN) (q:=52437899) (r:=999961405302035279473110478895921551656570994587857873989262207090688) (a:=2) (k:=255) (by decide +kernel) wi (by decide +kernel) (by decide +kernel) (by decide +kernel) (by decide +kernel) hd hdn))
theorem prime_qN:IsPrime qN:=Dj (F:=331010811950628058101279066386724501604961) (by decide +kernel) (fun d hd hdn=>aiq hd hdn) (by decide +kernel)
end Go.Proofs.YtgpafcehehaiiaaGreat
namespace Go.Proofs.YtgpafcehehaiiaaGreat
theorem sC {K:Type} [Fld K] {p:Nat} (h:IsPrime p) (h0:(CR.nat p:K)=0) (a b:K) : ∀ n,(a+b) ^ (p ^ n)=a ^ (p ^ n)+b ^ (p ^ n)
 | 0=>by rw [Nat.pow_zero,eI,eI,eI]
 | n+1=>by rw [Nat.pow_succ,aE,aE,aE,sC h h0 a b n,acp h h0]
def e6 (x:V6):V12:=⟨x,0⟩
def e2 (c:V2):V12:=e6 ⟨c,0,0⟩
def ww:V12:=⟨0,1⟩
theorem AT (x y:V6):e6 (x+y)=e6 x+e6 y:=Qd.ext' rfl (show (0:V6)=0+0 by grind)
theorem abB (x y:V6):e6 (x-y)=e6 x-e6 y:=Qd.ext' rfl (show (0:V6)=0-0 by grind)
theorem NO (x:V6):e6 (-x) = -e6 x:=Qd.ext' rfl (show (0:V6) = -0 by grind)
theorem mv (x y:V6):e6 (x*y)=e6 x*e6 y:=Qd.of_mul x y
theorem aio:e6 1=1:=rfl
theorem e6_zero:e6 0=0:=rfl
theorem aip {x y:V6} (h:e6 x=e6 y):x=y:=congrArg Qd.a h
theorem jC (x y:V2):e2 (x+y)=e2 x+e2 y:=by
 show e6 ⟨x+y,0,0⟩=e6 ⟨x,0,0⟩+e6 ⟨y,0,0⟩
 rw [<- AT]
 exact congrArg e6 (Cb.ext' rfl (show (0:V2)=0+0 by grind) (show (0:V2)=0+0 by grind))
theorem abC (x y:V2):e2 (x-y)=e2 x-e2 y:=by
 show e6 ⟨x-y,0,0⟩=e6 ⟨x,0,0⟩-e6 ⟨y,0,0⟩
 rw [<- abB]
 exact congrArg e6 (Cb.ext' rfl (show (0:V2)=0-0 by grind) (show (0:V2)=0-0 by grind))
theorem n4 (x:V2):e2 (-x) = -e2 x:=by
 show e6 ⟨-x,0,0⟩ = -e6 ⟨x,0,0⟩
 rw [<- NO]
 exact congrArg e6 (Cb.ext' rfl (show (0:V2) = -0 by grind) (show (0:V2) = -0 by grind))
theorem bw (x y:V2):e2 (x*y)=e2 x*e2 y:=by
 show e6 ⟨x*y,0,0⟩=e6 ⟨x,0,0⟩*e6 ⟨y,0,0⟩
 rw [<- mv]
 exact congrArg e6 (Cb.ext' (by rw [Cb.mul_a];show x*y=x*y+CP.cr*(0*0+0*0);grind) (by rw [Cb.mul_b];show 0=x*0+0*y+CP.cr*(0*0);grind) (by rw [Cb.mul_c];show 0=x*0+0*0+0*y;grind))
theorem NP:e2 1=1:=rfl
theorem aeZ:e2 0=0:=rfl
theorem AU (x:V2) : ∀ n:Nat,e2 x ^ n=e2 (x ^ n)
 | 0=>rfl
 | n+1=>by rw [aq,AU x n,aq,bw]
theorem UH:ww*ww=e6 vv:=Qd.ext' (by rw [Qd.mul_a];show (0:V6)*0+vv*(1*1)=vv;generalize vv=v;grind) (by rw [Qd.mul_b];show (0:V6)*1+1*0=0;grind)
theorem acD:vv*vv*vv=⟨xi,0,0⟩:=by
 have h:vv*vv=⟨0,0,1⟩:=Cb.ext' (by rw [Cb.mul_a];show (0:V2)*0+CP.cr*(1*0+0*1)=0;grind) (by rw [Cb.mul_b];show (0:V2)*1+1*0+CP.cr*(0*0)=0;grind) (by rw [Cb.mul_c];show (0:V2)*0+1*1+0*0=1;grind)
 rw [h]
 exact Cb.ext' (by rw [Cb.mul_a];show (0:V2)*0+xi*(0*0+1*1)=xi;generalize xi=x;grind) (by rw [Cb.mul_b];show (0:V2)*1+0*0+CP.cr*(1*0)=0;grind) (by rw [Cb.mul_c];show (0:V2)*0+0*1+1*0=0;grind)
theorem vy:ww ^ 6=e2 xi:=by
 have h:ww ^ 6=(ww*ww)*(ww*ww)*(ww*ww):=by generalize ww=w;grind
 rw [h,UH,<- mv,<- mv,acD]
 rfl
theorem kX (x:V6):e6 x=e2 x.a+e2 x.b*(ww*ww)+e2 x.c*(ww*ww*(ww*ww)):=by
 have hs:vv*vv=⟨0,0,1⟩:=Cb.ext' (by rw [Cb.mul_a];show (0:V2)*0+CP.cr*(1*0+0*1)=0;grind) (by rw [Cb.mul_b];show (0:V2)*1+1*0+CP.cr*(0*0)=0;grind) (by rw [Cb.mul_c];show (0:V2)*0+1*1+0*0=1;grind)
 rw [UH,<- mv,hs]
 unfold e2
 rw [<- mv,<- mv,<- AT,<- AT]
 refine congrArg e6 (Cb.ext' ?_ ?_ ?_)
 ·show x.a=x.a+(x.b*0+CP.cr*(0*0+0*1))+(x.c*0+CP.cr*(0*1+0*0));grind
 ·show x.b=0+(x.b*1+0*0+CP.cr*(0*0))+(x.c*0+0*0+CP.cr*(0*1));grind
 ·show x.c=0+(x.b*0+0*1+0*0)+(x.c*1+0*0+0*0);grind
theorem xf (z:V12):z=e6 z.a+e6 z.b*ww:=Qd.ext' (by rw [Qd.add_a,Qd.mul_a];show z.a=z.a+(z.b*0+QP.nr*(0*1));grind) (by rw [Qd.add_b,Qd.mul_b];show z.b=0+(z.b*1+0*0);grind)
theorem aad (k:Nat):ww ^ (6*k+1)=e2 (xi ^ k)*ww:=by rw [aq,aE,vy,AU]
def gg:V2:=xi ^ ((pN-1) / 6)
theorem Ik:pN=6*((pN-1) / 6)+1:=by decide +kernel
theorem afM:ww ^ pN=e2 gg*ww:=by
 conv=>lhs;rw [Ik]
 exact aad _
theorem Mu (c:V2):e2 c ^ pN=e2 c.conj:=by rw [AU,V2.frob]
theorem conj_conj (c:V2):c.conj.conj=c:=Qd.ext' rfl (CR.neg_neg _)
theorem V2.pow_pp (c:V2):c ^ (pN*pN)=c:=by rw [aE,V2.frob,V2.frob,conj_conj]
theorem V2.pow_ev (c:V2) : ∀ n:Nat,c ^ (pN ^ (2*n))=c
 | 0=>by rw [Nat.mul_zero,Nat.pow_zero,eI]
 | n+1=>by rw [show 2*(n+1)=2*n+1+1 from rfl,Nat.pow_succ,Nat.pow_succ,Nat.mul_assoc,aE,V2.pow_ev c n,V2.pow_pp]
theorem afI:xi ≠ 0:=fun h=>by
 have h1:xi.norm=0:=by rw [h];show (0:V1)*0-QP.nr*(0*0)=0;grind
 rw [wJ] at h1
 exact Go.Proofs.YtgpafcehehaiiaaGreat.two_ne h1
theorem ajo:xi ^ (pN+1)=Qd.of 2:=by rw [aq,V2.frob,CR.mul_comm,Qd.mul_conj,wJ]
theorem acL:(2:V1) ^ ((pN-1) / 2) = -1:=(Ub Go.Proofs.YtgpafcehehaiiaaGreat.two_ne).resolve_left Hy
theorem acz:xi ^ ((pN+1)*((pN-1) / 2)) = -1:=by
 rw [aE,ajo,Qd.of_pow,acL]
 exact Qd.ext' rfl (show (0:V1) = -0 by grind)
theorem Gj {R:Type} [CR R] (k:Nat):(-1:R) ^ (2*k+1) = -1:=ov k
theorem ac4:pN ^ 6=6*(((pN+1)*((pN-1) / 2))*(2*(((pN ^ 4+pN ^ 2+1) / 3-1) / 2)+1))+1:=by decide +kernel
theorem afL:ww ^ (pN ^ 6) = -ww:=by
 rw [ac4,aad,aE,acz,Gj,n4,NP]
 generalize ww=w
 grind
theorem aco (c:V2):e2 c ^ (pN ^ 6)=e2 c:=by
 rw [AU]
 exact congrArg e2 (V2.pow_ev c 3)
theorem acn (x:V6):e6 x ^ (pN ^ 6)=e6 x:=by
 rw [kX,sC nq V12.char,sC nq V12.char,aY,aY,aY,aY,aY,aco,aco,aco,afL]
 generalize ww=w
 grind
theorem V12.p6 (z:V12):z ^ (pN ^ 6)=z.conj:=by
 conv=>lhs;rw [xf z]
 rw [sC nq V12.char,aY,acn,acn,afL]
 refine Eq.trans ?_ (Qd.ext' (y:=z.conj) (x:=e6 z.a+e6 (-z.b)*ww) ?_ ?_)
 ·rw [NO];generalize ww=w;grind
 ·rw [Qd.add_a,Qd.mul_a];show z.a+(-z.b*0+QP.nr*(0*1))=z.a;grind
 ·rw [Qd.add_b,Qd.mul_b];show 0+(-z.b*1+0*0) = -z.b;grind
theorem V12.conj_conj (z:V12):z.conj.conj=z:=Qd.ext' rfl (CR.neg_neg _)
theorem V12.p12 (z:V12):z ^ (pN ^ 6*pN ^ 6)=z:=by rw [aE,V12.p6,V12.p6,V12.conj_conj]
def kN:Nat:=(pN ^ 6+1) / qN
def eN:Nat:=(pN ^ 6-1)*kN
theorem akT:eN*qN=pN ^ 6*pN ^ 6-1:=by decide +kernel
theorem ain:eN=2*((pN*pN-1)*(eN / (2*(pN*pN-1)))):=by decide +kernel
theorem Im:pN ^ 6*pN ^ 6=(pN ^ 6*pN ^ 6-1)+1:=by decide +kernel
theorem Eh:pN ^ 6=(pN ^ 6-1)+1:=by decide +kernel
theorem adB:pN*pN=(pN*pN-1)+1:=by decide +kernel
theorem pB {K:Type} [Fld K] {a:K} (h:a ≠ 0) {m n:Nat} (hm:m=n+1) (hp:a ^ m=a):a ^ n=1:=by
 rw [hm,aq] at hp
 exact gG h (hp.trans (by rw [CR.mul_comm];exact (i5 a).symm))
def cd (z:V12):V12:=z ^ eN
theorem jD (a b:V12):cd (a*b)=cd a*cd b:=aY a b _
theorem NQ:cd 1=1:=bq _
theorem akx {a:V12} (h:a ≠ 0):cd a ^ qN=1:=by
 unfold cd
 rw [<- aE,akT]
 exact pB h Im (V12.p12 a)
theorem ajZ {x:V6} (h:x ≠ 0):e6 x ≠ 0:=fun e=>h (aip (e.trans e6_zero.symm))
theorem U1 {x:V6} (h:x ≠ 0):cd (e6 x)=1:=by
 unfold cd eN
 rw [aE,pB (ajZ h) Eh (acn x),bq]
theorem ago {c:V2} (h:c ≠ 0):cd (e2 c)=1:=U1 fun e=>h (congrArg Cb.a e)
theorem NR (a:V12):cd (-a)=cd a:=by
 have e : -a=e6 (-1)*a:=by rw [NO,aio];grind
 rw [e,jD,U1 (x := -1) (fun h=>cL (K:=V6) (by grind))]
 grind
theorem PC {z:V12} (h:z ≠ 0):cd z*cd z.conj=1:=by
 rw [<- jD,Qd.mul_conj]
 exact U1 (Qd.norm_ne h)
theorem aiu:cd (ww*ww*ww)=1:=by
 unfold cd
 rw [ain,aE]
 have h:(ww*ww*ww) ^ 2=e2 xi:=by rw [<- vy];generalize ww=w;grind
 rw [h,AU,aE,pB afI adB (V2.pow_pp xi),bq,NP]
theorem aky (a:V12):cd a ^ pN=cd (a ^ pN):=by
 unfold cd
 rw [<- aE,<- aE,Nat.mul_comm]
end Go.Proofs.YtgpafcehehaiiaaGreat
namespace Go.Proofs.YtgpafcehehaiiaaGreat
open Go.RowKit
section
def bFp1:Fp:=⟨4,0,0,0,0,0⟩
theorem bFp1_v:bFp1.ok/\bFp1.v=Crv.b:=⟨ahF 4,by
 show (ofF 4).v=4
 rw [akF]
 exact V1.ext (by decide +kernel)⟩
theorem Xu {f0:Fp->Bool} {f1:Fp->Fp->Fp} {f2:Fp->Fp} {p:Pg1} (h:p.inf=true):mi f0 f1 f2 p=q8 p infG1:=by unfold mi;rw [h]
theorem Xv {f0:Fp->Bool} {f1:Fp->Fp->Fp} {f2:Fp->Fp} {p:Pg1} (h:p.inf=false):mi f0 f1 f2 p=(f0 p.x && f0 p.y && la (f1 p.y p.y) (f2 p.x)):=by
 unfold mi
 rw [h]
 cases f0 p.x <;> cases f0 p.y <;> rfl
theorem LW {f0:Fp->Fp} {p:Pg1} (h:p.inf=true):jo f0 p=dF:=by unfold jo;rw [h]
theorem LX {f0:Fp->Fp} {p:Pg1} (h:p.inf=false):jo f0 p=⟨f0 p.x,f0 p.y,f0 oneFp⟩:=by unfold jo;rw [h]
theorem Td {f0:Fp->Fp × Int} {f1:Fp->Fp} {f2:Fp->Fp->Fp} {s:Sp1} (h:(f0 (f1 s.z)).2=7):jp f0 f1 f2 s=infG1:=by
 unfold jp
 rw [h]
 rfl
theorem LY {f0:Fp->Fp × Int} {f1:Fp->Fp} {f2:Fp->Fp->Fp} {s:Sp1} (h:(f0 (f1 s.z)).2=0):jp f0 f1 f2 s=⟨f2 (f1 s.x) (f2 (f0 (f1 s.z)).1 (f0 (f1 s.z)).1),f2 (f1 s.y) (f2 (f2 (f0 (f1 s.z)).1 (f0 (f1 s.z)).1) (f0 (f1 s.z)).1),false⟩:=by
 unfold jp
 rw [h]
 rfl
theorem Sk {f0:Fp->Fp} {p:Pg1} (h:p.inf=true):lC f0 p=p:=by unfold lC;rw [h]
theorem Sl {f0:Fp->Fp} {p:Pg1} (h:p.inf=false):lC f0 p=⟨p.x,f0 p.y,false⟩:=by unfold lC;rw [h]
theorem Qf (a:Fp):il a=la a zeroFp:=by unfold il y7;rfl
def Pg1.pt (p:Pg1):Pt V1:=match p.inf with
 | true => .inf
 | false => .aff p.x.v p.y.v
def Pg1.ok (p:Pg1):Prop:=p=infG1 \/ (p.inf=false/\p.x.ok/\p.y.ok)
def Pg1.good (p:Pg1):Prop:=p.ok/\p.pt.on
theorem p9 {p:Pg1} (h:p.inf=true):p.pt = .inf:=by unfold Pg1.pt;rw [h]
theorem ib {p:Pg1} (h:p.inf=false):p.pt = .aff p.x.v p.y.v:=by unfold Pg1.pt;rw [h]
theorem uq:infG1.good:=⟨.inl rfl,trivial⟩
theorem Eo {p:Pg1} (h:p.ok) (hi:p.inf=true):p=infG1:=by
 rcases h with h | ⟨h,_⟩
 ·exact h
 ·rw [hi] at h;cases h
theorem qe {p:Pg1} (h:p.ok) (hi:p.inf=false):p.x.ok/\p.y.ok:=by
 rcases h with h | ⟨_,h⟩
 ·rw [h] at hi;cases hi
 ·exact h
theorem ahr {a b:Pg1} (h1:a.x=b.x) (h2:a.y=b.y) (h3:a.inf=b.inf):a=b:=by
 cases a;cases b
 simp_all
theorem z0 {x y:Fp} {u v:V1} (hx:x.ok) (hy:y.ok) (ex:x.v=u) (ey:y.v=v) (h:(Pt.aff u v).on):(⟨x,y,false⟩:Pg1).good/\(⟨x,y,false⟩:Pg1).pt = .aff u v:=by
 subst ex ey
 exact ⟨⟨.inr ⟨rfl,hx,hy⟩,h⟩,rfl⟩
theorem adt {a b:Pg1} (ha:a.ok) (hb:b.ok) (h:a.pt=b.pt):a=b:=by
 cases ea:a.inf with
 | true =>
  cases eb:b.inf with
  | true=>rw [Eo ha ea,Eo hb eb]
  | false=>rw [p9 ea,ib eb] at h;cases h
 | false =>
  cases eb:b.inf with
  | true=>rw [ib ea,p9 eb] at h;cases h
  | false =>
   rw [ib ea,ib eb] at h
   obtain ⟨a1,a2⟩:=qe ha ea
   obtain ⟨b1,b2⟩:=qe hb eb
   injection h with h1 h2
   exact ahr (Fp.v_inj a1 b1 h1) (Fp.v_inj a2 b2 h2) (ea.trans eb.symm)
def m1 (a:Fp):V1:=ri*a.v
theorem iB {a b:Fp} (ha:a.ok) (hb:b.ok):m1 (fo a b)=m1 a+m1 b:=by unfold m1;rw [aak ha hb];exact CR.dist _ _ _
theorem nW {a b:Fp} (ha:a.ok) (hb:b.ok):m1 (fB a b)=m1 a-m1 b:=by unfold m1;rw [agK ha hb];grind
theorem aU {a b:Fp} (ha:a.ok) (hb:b.ok):m1 (aZ a b)=m1 a*m1 b:=by unfold m1;rw [acG ha hb];grind
theorem zP {a:Fp} (ha:a.ok):m1 (bj a)=a.v:=by
 unfold m1
 rw [Vs ha]
 have:=E7
 grind
theorem zg {a:Fp} (ha:a.ok):(jm a).v=m1 a:=agO ha
theorem ag8:ri ≠ 0:=fun e=>cL (K:=V1) (by rw [<- E7,e];exact CR.mul_zero _)
theorem qn {a:Fp} (ha:a.ok):il a=true <-> m1 a=0:=by
 rw [Qf,ack ha sg,N7]
 unfold m1
 constructor
 ·intro h;rw [h];exact CR.mul_zero _
 ·intro h;exact (aD h).resolve_left ag8
theorem kI {a:Fp} (ha:a.ok):il a=false <-> m1 a ≠ 0:=by rw [<- Bool.not_eq_true,qn ha]
def v8 (s:Sp1) (p:Pt V1):Prop:=(s.x.ok/\s.y.ok/\s.z.ok)/\Jc (m1 s.x) (m1 s.y) (m1 s.z) p
theorem D6 {x y z:Fp} {p:Pt V1} (hx:x.ok) (hy:y.ok) (hz:z.ok) (h:Jc (m1 x) (m1 y) (m1 z) p):v8 ⟨x,y,z⟩ p:=⟨⟨hx,hy,hz⟩,h⟩
theorem oP:v8 dF .inf:=⟨⟨sg,sg,sg⟩,by
 show m1 zeroFp=0
 unfold m1
 rw [N7]
 exact CR.mul_zero _⟩
theorem Cd {p:Pg1} (h:p.good):v8 (dR p) p.pt:=by
 unfold dR
 cases hi:p.inf with
 | true=>rw [LW hi,p9 hi];exact oP
 | false =>
  obtain ⟨hx,hy⟩:=qe h.1 hi
  rw [LX hi,ib hi]
  refine D6 (tM hx) (tM hy) (tM OF) ?_
  rw [zP hx,zP hy,zP OF,agM]
  exact ⟨cL,by grind,by grind⟩
theorem ahZ {K:Type} [Fld K] {x z:K} (hz:z ≠ 0):x*(z*z)*(Fld.inv z*Fld.inv z)=x:=by
 have:=bl hz
 grind
theorem aeG {K:Type} [Fld K] {y z:K} (hz:z ≠ 0):y*(z*z*z)*(Fld.inv z*Fld.inv z*Fld.inv z)=y:=by
 have:=bl hz
 grind
theorem Te {s:Sp1} {p:Pt V1} (hp:p.on) (h:v8 s p):(fk s).good/\(fk s).pt=p:=by
 obtain ⟨⟨hx,hy,hz⟩,hj⟩:=h
 obtain ⟨i1,i2⟩:=ah1 (Ez hz)
 rw [zg hz] at i1 i2
 unfold fk
 by_cases h0:m1 s.z=0
 ·rw [Td (i1 h0),hj.inf_of h0]
  exact ⟨uq,rfl⟩
 ·obtain ⟨j1,j2,j3⟩:=i2 h0
  obtain ⟨x,y,rfl,e1,e2⟩:=hj.aff_of h0
  rw [LY j1]
  have kk:=lE j2 j2
  have kkk:=lE kk j2
  have lx:=Ez hx
  have ly:=Ez hy
  have ex:(gU (jm s.x) (gU (i6 (jm s.z)).1 (i6 (jm s.z)).1)).v=x:=by
   rw [nI lx kk,nI j2 j2,zg hx,j3,e1]
   exact ahZ h0
  have ey:(gU (jm s.y) (gU (gU (i6 (jm s.z)).1 (i6 (jm s.z)).1) (i6 (jm s.z)).1)).v=y:=by
   rw [nI ly kkk,nI kk j2,nI j2 j2,zg hy,j3,e2]
   exact aeG h0
  exact z0 (lE lx kk) (lE ly kkk) ex ey hp
theorem ajN (x y:V1):((x*x+x*x)+x*x)*((x*x+x*x)+x*x)-((x*(y*y)+x*(y*y)+(x*(y*y)+x*(y*y)))+(x*(y*y)+x*(y*y)+(x*(y*y)+x*(y*y))))=jx x y:=by unfold jx;grind
theorem ajM (x y:V1):((x*x+x*x)+x*x)*((x*(y*y)+x*(y*y)+(x*(y*y)+x*(y*y)))-jx x y)-((y*y*(y*y)+y*y*(y*y)+(y*y*(y*y)+y*y*(y*y)))+(y*y*(y*y)+y*y*(y*y)+(y*y*(y*y)+y*y*(y*y))))=jy x y:=by unfold jy;generalize jx x y=k;grind
theorem ajL (y z:V1):y*z+y*z=jz y z:=by unfold jz;grind
theorem qP {s:Sp1} {p:Pt V1} (hp:p.on) (h:v8 s p):v8 (a9 s) (p.add p):=by
 obtain ⟨⟨hx,hy,hz⟩,hj⟩:=h
 have ha:=bA hx hx
 have hb:=bA hy hy
 have hc:=bA hb hb
 have hd:=bA hx hb
 have hd2:=fM hd hd
 have hd4:=fM hd2 hd2
 have he:=fM (fM ha ha) ha
 have hee:=bA he he
 have hd8:=fM hd4 hd4
 have hX:=j9 hee hd8
 have hc2:=fM hc hc
 have hc4:=fM hc2 hc2
 have hc8:=fM hc4 hc4
 have hyz:=bA hy hz
 have hs:=j9 hd4 hX
 have hes:=bA he hs
 have hj':=Bw hp hj
 have e1:=nW hee hd8
 rw [aU he he,iB hd4 hd4,iB hd2 hd2,iB hd hd,aU hx hb,aU hy hy,iB (fM ha ha) ha,iB ha ha,aU hx hx,ajN] at e1
 have e2:=nW hes hc8
 rw [aU he hs,nW hd4 hX,e1,iB hc4 hc4,iB hc2 hc2,iB hc hc,aU hb hb,iB hd2 hd2,iB hd hd,aU hx hb,aU hy hy,iB (fM ha ha) ha,iB ha ha,aU hx hx,ajM] at e2
 have e3:=iB hyz hyz
 rw [aU hy hz,ajL] at e3
 unfold a9 tT
 refine D6 hX (j9 hes hc8) (fM hyz hyz) ?_
 rw [e1,e2,e3]
 exact hj'
section
variable {f0 : Fp -> Bool} {f1 f2 f4 : Fp -> Fp -> Fp} {f3 : Sp1 -> Sp1} {s t : Sp1}
theorem W8 (h:f0 s.z=true):cG f0 f1 f2 f3 f4 s t=t:=by unfold cG;rw [h]
theorem W7 (h:f0 s.z=false) (h2:f0 t.z=true):cG f0 f1 f2 f3 f4 s t=s:=by unfold cG;rw [h,h2]
theorem RQ (h:f0 s.z=false) (h2:f0 t.z=false) (h3:f0 (f2 (f1 t.x (f1 s.z s.z)) (f1 s.x (f1 t.z t.z)))=true) (h4:f0 (f2 (f1 t.y (f1 (f1 s.z s.z) s.z)) (f1 s.y (f1 (f1 t.z t.z) t.z)))=true):cG f0 f1 f2 f3 f4 s t=f3 s:=by
 unfold cG
 rw [h,h2,h3,h4]
theorem RR (h:f0 s.z=false) (h2:f0 t.z=false) (h3:f0 (f2 (f1 t.x (f1 s.z s.z)) (f1 s.x (f1 t.z t.z)))=true) (h4:f0 (f2 (f1 t.y (f1 (f1 s.z s.z) s.z)) (f1 s.y (f1 (f1 t.z t.z) t.z)))=false):cG f0 f1 f2 f3 f4 s t=dF:=by
 unfold cG
 rw [h,h2,h3,h4]
theorem Lc (h:f0 s.z=false) (h2:f0 t.z=false) (h3:f0 (f2 (f1 t.x (f1 s.z s.z)) (f1 s.x (f1 t.z t.z)))=false):cG f0 f1 f2 f3 f4 s t=⟨(f2 (f2 (f1 (f2 (f1 t.y (f1 (f1 s.z s.z) s.z)) (f1 s.y (f1 (f1 t.z t.z) t.z))) (f2 (f1 t.y (f1 (f1 s.z s.z) s.z)) (f1 s.y (f1 (f1 t.z t.z) t.z)))) (f1 (f1 (f2 (f1 t.x (f1 s.z s.z)) (f1 s.x (f1 t.z t.z))) (f2 (f1 t.x (f1 s.z s.z)) (f1 s.x (f1 t.z t.z)))) (f2 (f1 t.x (f1 s.z s.z)) (f1 s.x (f1 t.z t.z))))) (f4 (f1 (f1 s.x (f1 t.z t.z)) (f1 (f2 (f1 t.x (f1 s.z s.z)) (f1 s.x (f1 t.z t.z))) (f2 (f1 t.x (f1 s.z s.z)) (f1 s.x (f1 t.z t.z))))) (f1 (f1 s.x (f1 t.z t.z)) (f1 (f2 (f1 t.x (f1 s.z s.z)) (f1 s.x (f1 t.z t.z))) (f2 (f1 t.x (f1 s.z s.z)) (f1 s.x (f1 t.z t.z))))))),(f2 (f1 (f2 (f1 t.y (f1 (f1 s.z s.z) s.z)) (f1 s.y (f1 (f1 t.z t.z) t.z))) (f2 (f1 (f1 s.x (f1 t.z t.z)) (f1 (f2 (f1 t.x (f1 s.z s.z)) (f1 s.x (f1 t.z t.z))) (f2 (f1 t.x (f1 s.z s.z)) (f1 s.x (f1 t.z t.z))))) (f2 (f2 (f1 (f2 (f1 t.y (f1 (f1 s.z s.z) s.z)) (f1 s.y (f1 (f1 t.z t.z) t.z))) (f2 (f1 t.y (f1 (f1 s.z s.z) s.z)) (f1 s.y (f1 (f1 t.z t.z) t.z)))) (f1 (f1 (f2 (f1 t.x (f1 s.z s.z)) (f1 s.x (f1 t.z t.z))) (f2 (f1 t.x (f1 s.z s.z)) (f1 s.x (f1 t.z t.z)))) (f2 (f1 t.x (f1 s.z s.z)) (f1 s.x (f1 t.z t.z))))) (f4 (f1 (f1 s.x (f1 t.z t.z)) (f1 (f2 (f1 t.x (f1 s.z s.z)) (f1 s.x (f1 t.z t.z))) (f2 (f1 t.x (f1 s.z s.z)) (f1 s.x (f1 t.z t.z))))) (f1 (f1 s.x (f1 t.z t.z)) (f1 (f2 (f1 t.x (f1 s.z s.z)) (f1 s.x (f1 t.z t.z))) (f2 (f1 t.x (f1 s.z s.z)) (f1 s.x (f1 t.z t.z))))))))) (f1 (f1 s.y (f1 (f1 t.z t.z) t.z)) (f1 (f1 (f2 (f1 t.x (f1 s.z s.z)) (f1 s.x (f1 t.z t.z))) (f2 (f1 t.x (f1 s.z s.z)) (f1 s.x (f1 t.z t.z)))) (f2 (f1 t.x (f1 s.z s.z)) (f1 s.x (f1 t.z t.z)))))),(f1 (f1 s.z t.z) (f2 (f1 t.x (f1 s.z s.z)) (f1 s.x (f1 t.z t.z))))⟩:=by
 unfold cG
 rw [h,h2,h3]
end
theorem ajC (u h r:V1):r*r-h*h*h-(u*(h*h)+u*(h*h))=r*r-h*h*h-2*(u*(h*h)):=by grind
theorem ue {s t:Sp1} {p q:Pt V1} (hp:p.on) (hq:q.on) (hs:v8 s p) (ht:v8 t q):v8 (aR s t) (p.add q):=by
 have hs0:=hs
 have ht0:=ht
 obtain ⟨⟨hx,hy,hz⟩,hj⟩:=hs
 obtain ⟨⟨kx,ky,kz⟩,kj⟩:=ht
 unfold aR
 by_cases z1:m1 s.z=0
 ·rw [W8 ((qn hz).2 z1),hj.inf_of z1,bZ]
  exact ht0
 by_cases z2:m1 t.z=0
 ·rw [W7 ((kI hz).2 z1) ((qn kz).2 z2),kj.inf_of z2,cn]
  exact hs0
 have n1:=(kI hz).2 z1
 have n2:=(kI kz).2 z2
 have zz:=bA hz hz
 have ww:=bA kz kz
 have zzz:=bA zz hz
 have www:=bA ww kz
 have hu:=bA hx ww
 have hv:=bA kx zz
 have ha:=bA hy www
 have hb:=bA ky zzz
 have hh:=j9 hv hu
 have hr:=j9 hb ha
 have eh:m1 (fB (aZ t.x (aZ s.z s.z)) (aZ s.x (aZ t.z t.z)))=m1 t.x*(m1 s.z*m1 s.z)-m1 s.x*(m1 t.z*m1 t.z):=by
  rw [nW hv hu,aU kx zz,aU hx ww,aU hz hz,aU kz kz]
 have er:m1 (fB (aZ t.y (aZ (aZ s.z s.z) s.z)) (aZ s.y (aZ (aZ t.z t.z) t.z)))=m1 t.y*(m1 s.z*m1 s.z*m1 s.z)-m1 s.y*(m1 t.z*m1 t.z*m1 t.z):=by
  rw [nW hb ha,aU ky zzz,aU hy www,aU zz hz,aU ww kz,aU hz hz,aU kz kz]
 by_cases h0:m1 t.x*(m1 s.z*m1 s.z)-m1 s.x*(m1 t.z*m1 t.z)=0
 ·obtain ⟨c1,c2⟩:=BW hp hq hj kj z1 z2 h0
  have n3:=(qn hh).2 (by rw [eh];exact h0)
  by_cases r0:m1 t.y*(m1 s.z*m1 s.z*m1 s.z)-m1 s.y*(m1 t.z*m1 t.z*m1 t.z)=0
  ·rw [RQ n1 n2 n3 ((qn hr).2 (by rw [er];exact r0)),c1 r0]
   exact qP hp hs0
  ·rw [RR n1 n2 n3 ((kI hr).2 (by rw [er];exact r0)),c2 r0]
   exact oP
 ·rw [Lc n1 n2 ((kI hh).2 (by rw [eh];exact h0))]
  have key:=Ig hp hq hj kj z1 z2 h0
  have h2:=bA hh hh
  have h3:=bA h2 hh
  have hw:=bA hu h2
  have hrr:=bA hr hr
  have hw2:=fM hw hw
  have hrh:=j9 hrr h3
  have hX:=j9 hrh hw2
  have hwx:=j9 hw hX
  have hrw:=bA hr hwx
  have hah:=bA ha h3
  have hst:=bA hz kz
  have eu:m1 (aZ s.x (aZ t.z t.z))=m1 s.x*(m1 t.z*m1 t.z):=by rw [aU hx ww,aU kz kz]
  have ea:m1 (aZ s.y (aZ (aZ t.z t.z) t.z))=m1 s.y*(m1 t.z*m1 t.z*m1 t.z):=by rw [aU hy www,aU ww kz,aU kz kz]
  have e1:=nW hrh hw2
  rw [nW hrr h3,aU hr hr,er,aU h2 hh,aU hh hh,eh,iB hw hw,aU hu h2,eu,aU hh hh,eh,ajC] at e1
  have e1':_=px (m1 s.x) (m1 s.y) (m1 s.z) (m1 t.x) (m1 t.y) (m1 t.z):=e1
  have e2:=nW hrw hah
  rw [aU hr hwx,nW hw hX,e1',aU hu h2,eu,aU hh hh,eh,aU ha h3,ea,aU h2 hh,aU hh hh,eh,er] at e2
  have e3:=aU hst hh
  rw [aU hz kz,eh] at e3
  refine D6 hX (j9 hrw hah) (bA hst hh) ?_
  rw [e1',e2,e3]
  exact key
theorem aee {a:Pg1} (ha:a.good):(mL a).good/\(mL a).pt=a.pt.neg:=by
 unfold mL
 cases hi:a.inf with
 | true =>
  rw [Sk hi,p9 hi]
  exact ⟨ha,rfl⟩
 | false =>
  obtain ⟨hx,hy⟩:=qe ha.1 hi
  have ho:=b8 ha.2
  rw [ib hi] at ho ⊢
  rw [Sl hi]
  exact z0 hx (aeb hy) rfl (agN hy) ho
theorem Rc (f0 f1:Fp->Fp->Fp) (x:Fp):D3 f0 f1 x=f0 (f1 (f1 x x) x) bFp1:=rfl
theorem aay {x:Fp} (hx:x.ok):(xv x).ok/\(xv x).v=x.v*x.v*x.v+Crv.b:=by
 have hb:bFp1.ok/\bFp1.v=Crv.b:=bFp1_v
 have h2:=lE hx hx
 have h3:=lE h2 hx
 unfold xv
 rw [Rc]
 refine ⟨fM h3 hb.1,?_⟩
 rw [aak h3 hb.1,nI h2 hx,nI hx hx,hb.2]
theorem adW (p:Pg1):Vb p=true <-> p.good:=by
 unfold Vb
 cases hi:p.inf with
 | true =>
  rw [Xu hi,jV]
  constructor
  ·intro h;rw [h];exact uq
  ·intro h;exact Eo h.1 hi
 | false =>
  rw [Xv hi,Bool.and_eq_true,Bool.and_eq_true,ID,ID]
  constructor
  ·rintro ⟨⟨hx,hy⟩,h⟩
   obtain ⟨r1,r2⟩:=aay hx
   rw [ack (lE hy hy) r1,nI hy hy,r2] at h
   exact ⟨.inr ⟨hi,hx,hy⟩,by rw [ib hi];exact h⟩
  ·intro h
   obtain ⟨hx,hy⟩:=qe h.1 hi
   obtain ⟨r1,r2⟩:=aay hx
   refine ⟨⟨hx,hy⟩,?_⟩
   rw [ack (lE hy hy) r1,nI hy hy,r2]
   have:=h.2
   rw [ib hi] at this
   exact this
end
section
def bFp2:Fp2:=⟨bFp1,bFp1⟩
theorem aiT:bFp2.ok/\bFp2.v=Crv.b:=⟨Fp2.mk_ok bFp1_v.1 bFp1_v.1,Qd.ext' bFp1_v.2 bFp1_v.2⟩
theorem Xq {f0:Fp2->Bool} {f1:Fp2->Fp2->Fp2} {f2:Fp2->Fp2} {p:Pg2} (h:p.inf=true):mh f0 f1 f2 p=Le p infG2:=by unfold mh;rw [h]
theorem Xr {f0:Fp2->Bool} {f1:Fp2->Fp2->Fp2} {f2:Fp2->Fp2} {p:Pg2} (h:p.inf=false):mh f0 f1 f2 p=(f0 p.x && f0 p.y && mW (f1 p.y p.y) (f2 p.x)):=by
 unfold mh
 rw [h]
 cases f0 p.x <;> cases f0 p.y <;> rfl
theorem LR {f0:Fp2->Fp2} {p:Pg2} (h:p.inf=true):jn f0 p=zeroFp6:=by unfold jn;rw [h]
theorem LS {f0:Fp2->Fp2} {p:Pg2} (h:p.inf=false):jn f0 p=⟨f0 p.x,f0 p.y,f0 oneFp2⟩:=by unfold jn;rw [h]
theorem Qe (a:Fp2):ik a=mW a zeroFp2:=by unfold ik y6;rfl
def Pg2.pt (p:Pg2):Pt V2:=match p.inf with
 | true => .inf
 | false => .aff p.x.v p.y.v
def Pg2.ok (p:Pg2):Prop:=p=infG2 \/ (p.inf=false/\p.x.ok/\p.y.ok)
def Pg2.good (p:Pg2):Prop:=p.ok/\p.pt.on
theorem Ec {p:Pg2} (h:p.inf=true):p.pt = .inf:=by unfold Pg2.pt;rw [h]
theorem p8 {p:Pg2} (h:p.inf=false):p.pt = .aff p.x.v p.y.v:=by unfold Pg2.pt;rw [h]
theorem Cq:infG2.good:=⟨.inl rfl,trivial⟩
theorem adY {p:Pg2} (h:p.ok) (hi:p.inf=true):p=infG2:=by
 rcases h with h | ⟨h,_⟩
 ·exact h
 ·rw [hi] at h;cases h
theorem Ep {p:Pg2} (h:p.ok) (hi:p.inf=false):p.x.ok/\p.y.ok:=by
 rcases h with h | ⟨_,h⟩
 ·rw [h] at hi;cases hi
 ·exact h
theorem Y3 {x y:Fp2} {u v:V2} (hx:x.ok) (hy:y.ok) (ex:x.v=u) (ey:y.v=v) (h:(Pt.aff u v).on):(⟨x,y,false⟩:Pg2).good/\(⟨x,y,false⟩:Pg2).pt = .aff u v:=by
 subst ex ey
 exact ⟨⟨.inr ⟨rfl,hx,hy⟩,h⟩,rfl⟩
def m2 (a:Fp2):V2:=ri2*a.v
theorem iA {a b:Fp2} (ha:a.ok) (hb:b.ok):m2 (aI a b)=m2 a+m2 b:=by unfold m2;rw [gY ha hb];exact CR.dist _ _ _
theorem nV {a b:Fp2} (ha:a.ok) (hb:b.ok):m2 (aH a b)=m2 a-m2 b:=by unfold m2;rw [l7 ha hb];grind
theorem aT {a b:Fp2} (ha:a.ok) (hb:b.ok):m2 (ag a b)=m2 a*m2 b:=by unfold m2;rw [jg ha hb];grind
theorem zO {a:Fp2} (ha:a.ok):m2 (ay a)=a.v:=by
 unfold m2
 rw [jf ha]
 have:=vJ
 grind
theorem ag7:ri2 ≠ 0:=fun e=>cL (K:=V2) (by rw [<- vJ,e];exact CR.mul_zero _)
theorem qm {a:Fp2} (ha:a.ok):ik a=true <-> m2 a=0:=by
 rw [Qe,EE ha dn,j0]
 unfold m2
 constructor
 ·intro h;rw [h];exact CR.mul_zero _
 ·intro h;exact (aD h).resolve_left ag7
theorem kH {a:Fp2} (ha:a.ok):ik a=false <-> m2 a ≠ 0:=by rw [<- Bool.not_eq_true,qm ha]
def BM (s:Fp6) (p:Pt V2):Prop:=(s.c0.ok/\s.c1.ok/\s.c2.ok)/\Jc (m2 s.c0) (m2 s.c1) (m2 s.c2) p
theorem D5 {x y z:Fp2} {p:Pt V2} (hx:x.ok) (hy:y.ok) (hz:z.ok) (h:Jc (m2 x) (m2 y) (m2 z) p):BM ⟨x,y,z⟩ p:=⟨⟨hx,hy,hz⟩,h⟩
theorem zn:BM zeroFp6 .inf:=⟨⟨dn,dn,dn⟩,by
 show m2 zeroFp2=0
 unfold m2
 rw [j0]
 exact CR.mul_zero _⟩
theorem S9 {p:Pg2} (h:p.good):BM (qp p) p.pt:=by
 unfold qp
 cases hi:p.inf with
 | true=>rw [LR hi,Ec hi];exact zn
 | false =>
  obtain ⟨hx,hy⟩:=Ep h.1 hi
  rw [LS hi,p8 hi]
  refine D5 (cw hx) (cw hy) (cw kt) ?_
  rw [zO hx,zO hy,zO kt,vE]
  exact ⟨cL,by grind,by grind⟩
theorem ahY (x y:V2):((x*x+x*x)+x*x)*((x*x+x*x)+x*x)-((x*(y*y)+x*(y*y)+(x*(y*y)+x*(y*y)))+(x*(y*y)+x*(y*y)+(x*(y*y)+x*(y*y))))=jx x y:=by unfold jx;grind
theorem ahX (x y:V2):((x*x+x*x)+x*x)*((x*(y*y)+x*(y*y)+(x*(y*y)+x*(y*y)))-jx x y)-((y*y*(y*y)+y*y*(y*y)+(y*y*(y*y)+y*y*(y*y)))+(y*y*(y*y)+y*y*(y*y)+(y*y*(y*y)+y*y*(y*y))))=jy x y:=by unfold jy;generalize jx x y=k;grind
theorem ahW (y z:V2):y*z+y*z=jz y z:=by unfold jz;grind
theorem w5 {s:Fp6} {p:Pt V2} (hp:p.on) (h:BM s p):BM (cT s) (p.add p):=by
 obtain ⟨⟨hx,hy,hz⟩,hj⟩:=h
 have ha:=ap hx hx
 have hb:=ap hy hy
 have hc:=ap hb hb
 have hd:=ap hx hb
 have hd2:=bh hd hd
 have hd4:=bh hd2 hd2
 have he:=bh (bh ha ha) ha
 have hee:=ap he he
 have hd8:=bh hd4 hd4
 have hX:=bX hee hd8
 have hc2:=bh hc hc
 have hc4:=bh hc2 hc2
 have hc8:=bh hc4 hc4
 have hyz:=ap hy hz
 have hs:=bX hd4 hX
 have hes:=ap he hs
 have hj':=Bw hp hj
 have e1:=nV hee hd8
 rw [aT he he,iA hd4 hd4,iA hd2 hd2,iA hd hd,aT hx hb,aT hy hy,iA (bh ha ha) ha,iA ha ha,aT hx hx,ahY] at e1
 have e2:=nV hes hc8
 rw [aT he hs,nV hd4 hX,e1,iA hc4 hc4,iA hc2 hc2,iA hc hc,aT hb hb,iA hd2 hd2,iA hd hd,aT hx hb,aT hy hy,iA (bh ha ha) ha,iA ha ha,aT hx hx,ahX] at e2
 have e3:=iA hyz hyz
 rw [aT hy hz,ahW] at e3
 unfold cT tS
 refine D5 hX (bX hes hc8) (bh hyz hyz) ?_
 rw [e1,e2,e3]
 exact hj'
section
variable {f0 : Fp2 -> Bool} {f1 f2 f4 : Fp2 -> Fp2 -> Fp2} {f3 : Fp6 -> Fp6} {s t : Fp6}
theorem W6 (h:f0 s.c2=true):cE f0 f1 f2 f3 f4 s t=t:=by unfold cE;rw [h]
theorem W5 (h:f0 s.c2=false) (h2:f0 t.c2=true):cE f0 f1 f2 f3 f4 s t=s:=by unfold cE;rw [h,h2]
theorem RN (h:f0 s.c2=false) (h2:f0 t.c2=false) (h3:f0 (f2 (f1 t.c0 (f1 s.c2 s.c2)) (f1 s.c0 (f1 t.c2 t.c2)))=true) (h4:f0 (f2 (f1 t.c1 (f1 (f1 s.c2 s.c2) s.c2)) (f1 s.c1 (f1 (f1 t.c2 t.c2) t.c2)))=true):cE f0 f1 f2 f3 f4 s t=f3 s:=by
 unfold cE
 rw [h,h2,h3,h4]
theorem RP (h:f0 s.c2=false) (h2:f0 t.c2=false) (h3:f0 (f2 (f1 t.c0 (f1 s.c2 s.c2)) (f1 s.c0 (f1 t.c2 t.c2)))=true) (h4:f0 (f2 (f1 t.c1 (f1 (f1 s.c2 s.c2) s.c2)) (f1 s.c1 (f1 (f1 t.c2 t.c2) t.c2)))=false):cE f0 f1 f2 f3 f4 s t=zeroFp6:=by
 unfold cE
 rw [h,h2,h3,h4]
theorem K9 (h:f0 s.c2=false) (h2:f0 t.c2=false) (h3:f0 (f2 (f1 t.c0 (f1 s.c2 s.c2)) (f1 s.c0 (f1 t.c2 t.c2)))=false):cE f0 f1 f2 f3 f4 s t=⟨(f2 (f2 (f1 (f2 (f1 t.c1 (f1 (f1 s.c2 s.c2) s.c2)) (f1 s.c1 (f1 (f1 t.c2 t.c2) t.c2))) (f2 (f1 t.c1 (f1 (f1 s.c2 s.c2) s.c2)) (f1 s.c1 (f1 (f1 t.c2 t.c2) t.c2)))) (f1 (f1 (f2 (f1 t.c0 (f1 s.c2 s.c2)) (f1 s.c0 (f1 t.c2 t.c2))) (f2 (f1 t.c0 (f1 s.c2 s.c2)) (f1 s.c0 (f1 t.c2 t.c2)))) (f2 (f1 t.c0 (f1 s.c2 s.c2)) (f1 s.c0 (f1 t.c2 t.c2))))) (f4 (f1 (f1 s.c0 (f1 t.c2 t.c2)) (f1 (f2 (f1 t.c0 (f1 s.c2 s.c2)) (f1 s.c0 (f1 t.c2 t.c2))) (f2 (f1 t.c0 (f1 s.c2 s.c2)) (f1 s.c0 (f1 t.c2 t.c2))))) (f1 (f1 s.c0 (f1 t.c2 t.c2)) (f1 (f2 (f1 t.c0 (f1 s.c2 s.c2)) (f1 s.c0 (f1 t.c2 t.c2))) (f2 (f1 t.c0 (f1 s.c2 s.c2)) (f1 s.c0 (f1 t.c2 t.c2))))))),(f2 (f1 (f2 (f1 t.c1 (f1 (f1 s.c2 s.c2) s.c2)) (f1 s.c1 (f1 (f1 t.c2 t.c2) t.c2))) (f2 (f1 (f1 s.c0 (f1 t.c2 t.c2)) (f1 (f2 (f1 t.c0 (f1 s.c2 s.c2)) (f1 s.c0 (f1 t.c2 t.c2))) (f2 (f1 t.c0 (f1 s.c2 s.c2)) (f1 s.c0 (f1 t.c2 t.c2))))) (f2 (f2 (f1 (f2 (f1 t.c1 (f1 (f1 s.c2 s.c2) s.c2)) (f1 s.c1 (f1 (f1 t.c2 t.c2) t.c2))) (f2 (f1 t.c1 (f1 (f1 s.c2 s.c2) s.c2)) (f1 s.c1 (f1 (f1 t.c2 t.c2) t.c2)))) (f1 (f1 (f2 (f1 t.c0 (f1 s.c2 s.c2)) (f1 s.c0 (f1 t.c2 t.c2))) (f2 (f1 t.c0 (f1 s.c2 s.c2)) (f1 s.c0 (f1 t.c2 t.c2)))) (f2 (f1 t.c0 (f1 s.c2 s.c2)) (f1 s.c0 (f1 t.c2 t.c2))))) (f4 (f1 (f1 s.c0 (f1 t.c2 t.c2)) (f1 (f2 (f1 t.c0 (f1 s.c2 s.c2)) (f1 s.c0 (f1 t.c2 t.c2))) (f2 (f1 t.c0 (f1 s.c2 s.c2)) (f1 s.c0 (f1 t.c2 t.c2))))) (f1 (f1 s.c0 (f1 t.c2 t.c2)) (f1 (f2 (f1 t.c0 (f1 s.c2 s.c2)) (f1 s.c0 (f1 t.c2 t.c2))) (f2 (f1 t.c0 (f1 s.c2 s.c2)) (f1 s.c0 (f1 t.c2 t.c2))))))))) (f1 (f1 s.c1 (f1 (f1 t.c2 t.c2) t.c2)) (f1 (f1 (f2 (f1 t.c0 (f1 s.c2 s.c2)) (f1 s.c0 (f1 t.c2 t.c2))) (f2 (f1 t.c0 (f1 s.c2 s.c2)) (f1 s.c0 (f1 t.c2 t.c2)))) (f2 (f1 t.c0 (f1 s.c2 s.c2)) (f1 s.c0 (f1 t.c2 t.c2)))))),(f1 (f1 s.c2 t.c2) (f2 (f1 t.c0 (f1 s.c2 s.c2)) (f1 s.c0 (f1 t.c2 t.c2))))⟩:=by
 unfold cE
 rw [h,h2,h3]
end
theorem ahk (u h r:V2):r*r-h*h*h-(u*(h*h)+u*(h*h))=r*r-h*h*h-2*(u*(h*h)):=by grind
theorem RU {s t:Fp6} {p q:Pt V2} (hp:p.on) (hq:q.on) (hs:BM s p) (ht:BM t q):BM (ir s t) (p.add q):=by
 have hs0:=hs
 have ht0:=ht
 obtain ⟨⟨hx,hy,hz⟩,hj⟩:=hs
 obtain ⟨⟨kx,ky,kz⟩,kj⟩:=ht
 unfold ir
 by_cases z1:m2 s.c2=0
 ·rw [W6 ((qm hz).2 z1),hj.inf_of z1,bZ]
  exact ht0
 by_cases z2:m2 t.c2=0
 ·rw [W5 ((kH hz).2 z1) ((qm kz).2 z2),kj.inf_of z2,cn]
  exact hs0
 have n1:=(kH hz).2 z1
 have n2:=(kH kz).2 z2
 have zz:=ap hz hz
 have ww:=ap kz kz
 have zzz:=ap zz hz
 have www:=ap ww kz
 have hu:=ap hx ww
 have hv:=ap kx zz
 have ha:=ap hy www
 have hb:=ap ky zzz
 have hh:=bX hv hu
 have hr:=bX hb ha
 have eh:m2 (aH (ag t.c0 (ag s.c2 s.c2)) (ag s.c0 (ag t.c2 t.c2)))=m2 t.c0*(m2 s.c2*m2 s.c2)-m2 s.c0*(m2 t.c2*m2 t.c2):=by
  rw [nV hv hu,aT kx zz,aT hx ww,aT hz hz,aT kz kz]
 have er:m2 (aH (ag t.c1 (ag (ag s.c2 s.c2) s.c2)) (ag s.c1 (ag (ag t.c2 t.c2) t.c2)))=m2 t.c1*(m2 s.c2*m2 s.c2*m2 s.c2)-m2 s.c1*(m2 t.c2*m2 t.c2*m2 t.c2):=by
  rw [nV hb ha,aT ky zzz,aT hy www,aT zz hz,aT ww kz,aT hz hz,aT kz kz]
 by_cases h0:m2 t.c0*(m2 s.c2*m2 s.c2)-m2 s.c0*(m2 t.c2*m2 t.c2)=0
 ·obtain ⟨c1,c2⟩:=BW hp hq hj kj z1 z2 h0
  have n3:=(qm hh).2 (by rw [eh];exact h0)
  by_cases r0:m2 t.c1*(m2 s.c2*m2 s.c2*m2 s.c2)-m2 s.c1*(m2 t.c2*m2 t.c2*m2 t.c2)=0
  ·rw [RN n1 n2 n3 ((qm hr).2 (by rw [er];exact r0)),c1 r0]
   exact w5 hp hs0
  ·rw [RP n1 n2 n3 ((kH hr).2 (by rw [er];exact r0)),c2 r0]
   exact zn
 ·rw [K9 n1 n2 ((kH hh).2 (by rw [eh];exact h0))]
  have key:=Ig hp hq hj kj z1 z2 h0
  have h2:=ap hh hh
  have h3:=ap h2 hh
  have hw:=ap hu h2
  have hrr:=ap hr hr
  have hw2:=bh hw hw
  have hrh:=bX hrr h3
  have hX:=bX hrh hw2
  have hwx:=bX hw hX
  have hrw:=ap hr hwx
  have hah:=ap ha h3
  have hst:=ap hz kz
  have eu:m2 (ag s.c0 (ag t.c2 t.c2))=m2 s.c0*(m2 t.c2*m2 t.c2):=by rw [aT hx ww,aT kz kz]
  have ea:m2 (ag s.c1 (ag (ag t.c2 t.c2) t.c2))=m2 s.c1*(m2 t.c2*m2 t.c2*m2 t.c2):=by rw [aT hy www,aT ww kz,aT kz kz]
  have e1:=nV hrh hw2
  rw [nV hrr h3,aT hr hr,er,aT h2 hh,aT hh hh,eh,iA hw hw,aT hu h2,eu,aT hh hh,eh,ahk] at e1
  have e1':_=px (m2 s.c0) (m2 s.c1) (m2 s.c2) (m2 t.c0) (m2 t.c1) (m2 t.c2):=e1
  have e2:=nV hrw hah
  rw [aT hr hwx,nV hw hX,e1',aT hu h2,eu,aT hh hh,eh,aT ha h3,ea,aT h2 hh,aT hh hh,eh,er] at e2
  have e3:=aT hst hh
  rw [aT hz kz,eh] at e3
  refine D5 hX (bX hrw hah) (ap hst hh) ?_
  rw [e1',e2,e3]
  exact key
theorem Rb (f0 f1:Fp2->Fp2->Fp2) (x:Fp2):D2 f0 f1 x=f0 (f1 (f1 x x) x) bFp2:=rfl
theorem aax {x:Fp2} (hx:x.ok):(xu x).ok/\(xu x).v=x.v*x.v*x.v+Crv.b:=by
 have hb:bFp2.ok/\bFp2.v=Crv.b:=aiT
 have h2:=ck hx hx
 have h3:=ck h2 hx
 unfold xu
 rw [Rb]
 refine ⟨bh h3 hb.1,?_⟩
 rw [gY h3 hb.1,dj h2 hx,dj hx hx,hb.2]
theorem adV (p:Pg2):Va p=true <-> p.good:=by
 unfold Va
 cases hi:p.inf with
 | true =>
  rw [Xq hi,RV]
  constructor
  ·intro h;rw [h];exact Cq
  ·intro h;exact adY h.1 hi
 | false =>
  rw [Xr hi,Bool.and_eq_true,Bool.and_eq_true,IC,IC]
  constructor
  ·rintro ⟨⟨hx,hy⟩,h⟩
   obtain ⟨r1,r2⟩:=aax hx
   rw [EE (ck hy hy) r1,dj hy hy,r2] at h
   exact ⟨.inr ⟨hi,hx,hy⟩,by rw [p8 hi];exact h⟩
  ·intro h
   obtain ⟨hx,hy⟩:=Ep h.1 hi
   obtain ⟨r1,r2⟩:=aax hx
   refine ⟨⟨hx,hy⟩,?_⟩
   rw [EE (ck hy hy) r1,dj hy hy,r2]
   have:=h.2
   rw [p8 hi] at this
   exact this
end
section
theorem abS {K:Type} [Fld K] [Crv K] {f0:Fp2->Fp2->Bool->Fp2} {f1 f2:Fp2->Fp2->Fp2} {f3:Fp2->Bool->Fp2} {b:K} {small:Bool} (ok:Fp2->Prop) (v:Fp2->K)
  (hA : ∀ {x y},ok x->ok y->ok (f1 x y)/\v (f1 x y)=v x+v y) (hS : ∀ {x y},ok x->ok y->ok (f2 x y)/\v (f2 x y)=v x-v y) (hM : ∀ {x y},ok x->ok y->ok (f0 x y small)/\v (f0 x y small)=v x*v y) (hB : ∀ {x},ok x->ok (f3 x small)/\v (f3 x small)=3*b*v x)
  {s t:Fp6} (hs:ok s.c0/\ok s.c1/\ok s.c2) (ht:ok t.c0/\ok t.c1/\ok t.c2) :
  (ok (lN f0 f1 f2 f3 s t small).c0/\ok (lN f0 f1 f2 f3 s t small).c1/\ok (lN f0 f1 f2 f3 s t small).c2) /\
  v (lN f0 f1 f2 f3 s t small).c0=rx b (v s.c0) (v s.c1) (v s.c2) (v t.c0) (v t.c1) (v t.c2)/\v (lN f0 f1 f2 f3 s t small).c1=ry b (v s.c0) (v s.c1) (v s.c2) (v t.c0) (v t.c1) (v t.c2)/\v (lN f0 f1 f2 f3 s t small).c2=rz b (v s.c0) (v s.c1) (v s.c2) (v t.c0) (v t.c1) (v t.c2):=by
 obtain ⟨s0,s1,s2⟩:=hs
 obtain ⟨t0,t1,t2⟩:=ht
 have a0:=hM s0 t0
 have a1:=hM s1 t1
 have a2:=hM s2 t2
 have b3:=hM (hA s0 s1).1 (hA t0 t1).1
 have b4:=hM (hA s1 s2).1 (hA t1 t2).1
 have b5:=hM (hA s0 s2).1 (hA t0 t2).1
 have c3:=hS (hS b3.1 a0.1).1 a1.1
 have c4:=hS (hS b4.1 a1.1).1 a2.1
 have c5:=hS (hS b5.1 a0.1).1 a2.1
 have d0:=hA (hA a0.1 a0.1).1 a0.1
 have d2:=hB a2.1
 have dz:=hA a1.1 d2.1
 have d1:=hS a1.1 d2.1
 have dy:=hB c5.1
 have x1:=hM c3.1 d1.1
 have x2:=hM c4.1 dy.1
 have y1:=hM d1.1 dz.1
 have y2:=hM dy.1 d0.1
 have z1:=hM dz.1 c4.1
 have z2:=hM d0.1 c3.1
 have X:=hS x1.1 x2.1
 have Y:=hA y1.1 y2.1
 have Z:=hA z1.1 z2.1
 have e3:=c3.2
 rw [(hS b3.1 a0.1).2,b3.2,a0.2,a1.2,(hA s0 s1).2,(hA t0 t1).2] at e3
 have e4:=c4.2
 rw [(hS b4.1 a1.1).2,b4.2,a1.2,a2.2,(hA s1 s2).2,(hA t1 t2).2] at e4
 have e5:=c5.2
 rw [(hS b5.1 a0.1).2,b5.2,a0.2,a2.2,(hA s0 s2).2,(hA t0 t2).2] at e5
 have eX:=X.2
 rw [x1.2,x2.2,e3,e4,d1.2,dy.2,e5,d2.2,a1.2,a2.2] at eX
 have eY:=Y.2
 rw [y1.2,y2.2,d1.2,dz.2,dy.2,e5,d0.2,(hA a0.1 a0.1).2,d2.2,a0.2,a1.2,a2.2] at eY
 have eZ:=Z.2
 rw [z1.2,z2.2,dz.2,e4,d0.2,(hA a0.1 a0.1).2,d2.2,e3,a0.2,a1.2,a2.2] at eZ
 refine ⟨⟨X.1,Y.1,Z.1⟩,eX.trans ?_,eY.trans ?_,eZ.trans ?_⟩
 ·unfold rx;clear eX eY eZ e3 e4 e5;grind
 ·unfold ry;clear eX eY eZ e3 e4 e5;grind
 ·unfold rz;clear eX eY eZ e3 e4 e5;grind
def gQ (x:Fp2):Prop:=x.c0.ok/\x.c1=zeroFp
def mQ (x:Fp2):V1:=x.c0.v
theorem Bn {f:Fp->Fp->Fp} (h:f zeroFp zeroFp=zeroFp) {x y:Fp2} (hx:x.c1=zeroFp) (hy:y.c1=zeroFp):f x.c1 y.c1=zeroFp:=by rw [hx,hy,h]
theorem afA:fo zeroFp zeroFp=zeroFp:=Fp.v_inj (eF bI bI) bI (by rw [qM bI bI,lk];exact CR.add_zero _)
theorem ac1:fB zeroFp zeroFp=zeroFp:=Fp.v_inj (ia bI bI) bI (by rw [sl bI bI,lk];exact QI rfl)
theorem abb {x y:Fp} {z:V1} (h:x.ok) (hy:y=zeroFp) (hv:x.v=z):gQ ⟨x,y⟩/\mQ ⟨x,y⟩=z:=⟨⟨h,hy⟩,hv⟩
theorem tu {x y:Fp2} (hx:gQ x) (hy:gQ y):gQ (ni x y)/\mQ (ni x y)=mQ x+mQ y:=by
 rw [Jv,sV]
 exact abb (eF hx.1 hy.1) (Bn afA hx.2 hy.2) (qM hx.1 hy.1)
theorem aes {x y:Fp2} (hx:gQ x) (hy:gQ y):gQ (qS x y)/\mQ (qS x y)=mQ x-mQ y:=by
 rw [HI,sq]
 exact abb (ia hx.1 hy.1) (Bn ac1 hx.2 hy.2) (sl hx.1 hy.1)
theorem Ss (f0:Fp->Fp->Fp) (f1:Fp2->Fp2->Fp2) (x y:Fp2):vQ f0 f1 x y true=⟨f0 x.c0 y.c0,zeroFp⟩:=rfl
theorem Ly (f0:Fp->Fp->Fp) (f1:Fp2->Fp2->Fp2) (x y:Fp2):vQ f0 f1 x y false=f1 x y:=rfl
theorem LM {x:Fp} (h:x.ok):gQ ⟨x,zeroFp⟩/\mQ ⟨x,zeroFp⟩=x.v:=⟨⟨h,rfl⟩,rfl⟩
theorem aeu {x y:Fp2} (hx:gQ x) (hy:gQ y):gQ (Et x y true)/\mQ (Et x y true)=mQ x*mQ y:=by
 unfold Et
 rw [Ss,kT hx.1 hy.1,<- show (gU x.c0 y.c0).v=mQ x*mQ y from pd hx.1 hy.1]
 exact LM (cV hx.1)
theorem afq (f0 f1:Fp2->Fp2->Fp2) (f2 x:Fp2):FM f0 f1 f2 x true=f0 (f0 (f0 (f0 x x) (f0 x x)) (f0 (f0 x x) (f0 x x))) (f0 (f0 x x) (f0 x x)):=rfl
theorem Z3 (f0 f1:Fp2->Fp2->Fp2) (f2 x:Fp2):FM f0 f1 f2 x false=f1 (f0 (f0 (f0 (f0 x x) (f0 x x)) (f0 (f0 x x) (f0 x x))) (f0 (f0 x x) (f0 x x))) f2:=rfl
theorem Hz {K:Type} [CR K] (x:K):x+x+(x+x)+(x+x+(x+x))+(x+x+(x+x))=3*4*x:=by grind
theorem ahP {x:Fp2} (hx:gQ x):gQ (b3R x true)/\mQ (b3R x true)=3*Crv.b*mQ x:=by
 unfold b3R
 rw [afq]
 have h2:=tu hx hx
 have h4:=tu h2.1 h2.1
 have h8:=tu h4.1 h4.1
 have h12:=tu h8.1 h4.1
 refine ⟨h12.1,?_⟩
 rw [h12.2,h8.2,h4.2,h2.2]
 exact Hz _
def akP (s:Fp6):Prop:=gQ s.c0/\gQ s.c1/\gQ s.c2
def sv (s:Fp6) (p:Pt V1):Prop:=akP s/\Pj (mQ s.c0) (mQ s.c1) (mQ s.c2) p
theorem CU {s t:Fp6} {p q:Pt V1} (hp:p.on) (hq:q.on) (hs:sv s p) (ht:sv t q):sv (jL s t true) (p.add q):=by
 unfold jL
 obtain ⟨h1,h2,h3,h4⟩:=abS (b:=(Crv.b:V1)) gQ mQ tu aes aeu ahP hs.1 ht.1
 refine ⟨h1,?_⟩
 rw [h2,h3,h4]
 exact pQ hp hq hs.2 ht.2
theorem HQ {a b c:Fp2} {p:Pt V1} (ha:gQ a) (hb:gQ b) (hc:gQ c) (h:Pj (mQ a) (mQ b) (mQ c) p):sv ⟨a,b,c⟩ p:=⟨⟨ha,hb,hc⟩,h⟩
theorem Is:jb=⟨zeroFp2,oneFp2,zeroFp2⟩:=by
 unfold jb
 rw [zy]
 rfl
theorem zero_low:gQ zeroFp2/\mQ zeroFp2=0:=⟨⟨bI,rfl⟩,lk⟩
theorem one_low:gQ oneFp2/\mQ oneFp2=1:=⟨⟨kv,rfl⟩,A6⟩
theorem B2:sv jb .inf:=by
 rw [Is]
 refine HQ zero_low.1 one_low.1 zero_low.1 ?_
 rw [zero_low.2,one_low.2]
 exact ⟨rfl,rfl,cL⟩
theorem ad6 {f0:Fp6} {f1:Fp2} {a:Pg1} (h:a.inf=true):qh f0 f1 a=f0:=by unfold qh;rw [h]
theorem ad7 {f0:Fp6} {f1:Fp2} {a:Pg1} (h:a.inf=false):qh f0 f1 a=⟨⟨a.x,zeroFp⟩,⟨a.y,zeroFp⟩,f1⟩:=by unfold qh;rw [h]
theorem ad5 {a:Pg1} (ha:a.good):sv (Vd a) a.pt:=by
 unfold Vd
 cases hi:a.inf with
 | true=>rw [ad6 hi,p9 hi];exact B2
 | false =>
  obtain ⟨hx,hy⟩:=qe ha.1 hi
  rw [ad7 hi,ib hi,zy]
  refine HQ (LM hx).1 (LM hy).1 one_low.1 ?_
  rw [(LM hx).2,(LM hy).2,one_low.2]
  exact ⟨cL,(CR.mul_one _).symm,(CR.mul_one _).symm⟩
theorem agU {f0:Fp->Fp × Int} {f1:Fp->Fp->Fp} {s:Fp6} (h:(f0 s.c2.c0).2=7):pO f0 f1 s=infG1:=by
 unfold pO
 rw [h]
 rfl
theorem acS {f0:Fp->Fp × Int} {f1:Fp->Fp->Fp} {s:Fp6} (h:(f0 s.c2.c0).2=0):pO f0 f1 s=⟨f1 s.c0.c0 (f0 s.c2.c0).1,f1 s.c1.c0 (f0 s.c2.c0).1,false⟩:=by
 unfold pO
 rw [h]
 rfl
theorem Fh {K:Type} [Fld K] {x z:K} (hz:z ≠ 0):x*z*Fld.inv z=x:=by
 have:=bl hz
 grind
theorem acT {s:Fp6} {p:Pt V1} (hp:p.on) (h:sv s p):(Oe s).good/\(Oe s).pt=p:=by
 obtain ⟨⟨h0,h1,h2⟩,hj⟩:=h
 obtain ⟨i1,i2⟩:=US h2.1
 have ei:=sM h2.1
 unfold Oe
 cases p with
 | inf =>
  rw [agU (by rw [ei];exact i1 hj.2.1)]
  exact ⟨uq,rfl⟩
 | aff x y =>
  obtain ⟨hz,e1,e2⟩:=hj
  obtain ⟨j1,j2,j3⟩:=i2 hz
  rw [acS (by rw [ei];exact j1),ei,kT h0.1 j2,kT h1.1 j2]
  refine z0 (cV h0.1) (cV h1.1) ?_ ?_ hp
  ·rw [pd h0.1 j2,j3,show s.c0.c0.v=x*s.c2.c0.v from e1]
   exact Fh hz
  ·rw [pd h1.1 j2,j3,show s.c1.c0.v=y*s.c2.c0.v from e2]
   exact Fh hz
theorem JQ {s:Fp6} {p:Pt V1} (hp:p.on) (h:sv s p) (e:List UInt64):sv (jU s e true) (p.mul (vZ e)) :=
 mw sv hp (fun hq h=>CU hq hq h h) (fun hq k=>CU hq hp k h) e B2
theorem afk {x y:Fp2} (hx:x.ok) (hy:y.ok):(Et x y false).ok/\(Et x y false).v=x.v*y.v:=by
 unfold Et
 rw [Ly,mm hx hy]
 exact ⟨ck hx hy,dj hx hy⟩
theorem tA {x y:Fp2} (hx:x.ok) (hy:y.ok):(ni x y).ok/\(ni x y).v=x.v+y.v:=by rw [Jv];exact ⟨bh hx hy,gY hx hy⟩
theorem afj {x y:Fp2} (hx:x.ok) (hy:y.ok):(qS x y).ok/\(qS x y).v=x.v-y.v:=by rw [HI];exact ⟨bX hx hy,l7 hx hy⟩
theorem aiS:bb2=4*xi:=Qd.ext'
 (by rw [V2.mul_a,afK,afJ];show (4:V1)=4*1-0*1;grind)
 (by rw [V2.mul_b,afK,afJ];show (4:V1)=4*1+0*1;grind)
theorem aj8 (x k b:V2) (h:b=4*k):3*4*x*k=3*b*x:=by rw [h];grind
theorem aiL {x:Fp2} (hx:x.ok):(b3R x false).ok/\(b3R x false).v=3*Crv.b*x.v:=by
 unfold b3R
 rw [Z3]
 have h2:=tA hx hx
 have h4:=tA h2.1 h2.1
 have h8:=tA h4.1 h4.1
 have h12:=tA h8.1 h4.1
 rw [mm h12.1 M3]
 refine ⟨ck h12.1 M3,?_⟩
 rw [dj h12.1 M3,h12.2,h8.2,h4.2,h2.2,Hz,ajq]
 exact aj8 _ _ _ aiS
def akX (s:Fp6):Prop:=s.c0.ok/\s.c1.ok/\s.c2.ok
def su (s:Fp6) (p:Pt V2):Prop:=akX s/\Pj s.c0.v s.c1.v s.c2.v p
theorem CT {s t:Fp6} {p q:Pt V2} (hp:p.on) (hq:q.on) (hs:su s p) (ht:su t q):su (jL s t false) (p.add q):=by
 unfold jL
 obtain ⟨h1,h2,h3,h4⟩:=abS (b:=(Crv.b:V2)) Fp2.ok Fp2.v tA afj afk aiL hs.1 ht.1
 refine ⟨h1,?_⟩
 rw [h2,h3,h4]
 exact pQ hp hq hs.2 ht.2
theorem HP {a b c:Fp2} {p:Pt V2} (ha:a.ok) (hb:b.ok) (hc:c.ok) (h:Pj a.v b.v c.v p):su ⟨a,b,c⟩ p:=⟨⟨ha,hb,hc⟩,h⟩
theorem B1:su jb .inf:=by
 rw [Is]
 refine HP dn kt dn ?_
 rw [j0,vE]
 exact ⟨rfl,rfl,cL⟩
theorem ad2 {f0:Fp6} {f1:Fp2} {a:Pg2} (h:a.inf=true):qg f0 f1 a=f0:=by unfold qg;rw [h]
theorem ad3 {f0:Fp6} {f1:Fp2} {a:Pg2} (h:a.inf=false):qg f0 f1 a=⟨a.x,a.y,f1⟩:=by unfold qg;rw [h]
theorem ad1 {a:Pg2} (ha:a.good):su (Vc a) a.pt:=by
 unfold Vc
 cases hi:a.inf with
 | true=>rw [ad2 hi,Ec hi];exact B1
 | false =>
  obtain ⟨hx,hy⟩:=Ep ha.1 hi
  rw [ad3 hi,p8 hi,zy]
  refine HP hx hy kt ?_
  rw [vE]
  exact ⟨cL,(CR.mul_one _).symm,(CR.mul_one _).symm⟩
theorem agT {f0:Fp2->Fp2 × Int} {f1:Fp2->Fp2->Fp2} {s:Fp6} (h:(f0 s.c2).2=7):pM f0 f1 s=infG2:=by
 unfold pM
 rw [h]
 rfl
theorem acP {f0:Fp2->Fp2 × Int} {f1:Fp2->Fp2->Fp2} {s:Fp6} (h:(f0 s.c2).2=0):pM f0 f1 s=⟨f1 s.c0 (f0 s.c2).1,f1 s.c1 (f0 s.c2).1,false⟩:=by
 unfold pM
 rw [h]
 rfl
theorem acQ {s:Fp6} {p:Pt V2} (hp:p.on) (h:su s p):(Od s).good/\(Od s).pt=p:=by
 obtain ⟨⟨h0,h1,h2⟩,hj⟩:=h
 obtain ⟨i1,i2⟩:=aeI h2
 have ei:=YP h2
 unfold Od
 cases p with
 | inf =>
  rw [agT (by rw [ei];exact i1 hj.2.1)]
  exact ⟨Cq,rfl⟩
 | aff x y =>
  obtain ⟨hz,e1,e2⟩:=hj
  obtain ⟨j1,j2,j3⟩:=i2 hz
  rw [acP (by rw [ei];exact j1),ei,mm h0 j2,mm h1 j2]
  refine Y3 (ck h0 j2) (ck h1 j2) ?_ ?_ hp
  ·rw [dj h0 j2,j3,e1]
   exact Fh hz
  ·rw [dj h1 j2,j3,e2]
   exact Fh hz
theorem JP {s:Fp6} {p:Pt V2} (hp:p.on) (h:su s p) (e:List UInt64):su (jU s e false) (p.mul (vZ e)) :=
 mw su hp (fun hq h=>CT hq hq h h) (fun hq k=>CT hq hp k h) e B1
theorem ul (k:Fr):vZ k.list=k.nat:=by
 show gO [k.l0,k.l1,k.l2,k.l3] 4=_
 unfold Fr.nat
 simp only [gO,atF,List.getD_eq_getElem?_getD,List.getElem?_cons_zero,List.getElem?_cons_succ,Option.getD_some,W64]
 omega
theorem QC {s:Sp1} {p:Pt V1} (hp:p.on) (h:v8 s p) (e:List UInt64):v8 (j6 s e) (p.mul (vZ e)) :=
 mw v8 hp (fun hq h=>qP hq h) (fun hq k=>ue hq hp k h) e oP
theorem QB {s:Fp6} {p:Pt V2} (hp:p.on) (h:BM s p) (e:List UInt64):BM (j5 s e) (p.mul (vZ e)) :=
 mw BM hp (fun hq h=>w5 hq h) (fun hq k=>RU hq hp k h) e zn
theorem F4 (f0:Fp6->Pg1) (f1:Fp6->List UInt64->Bool->Fp6) (f2:Pg1->Fp6) (a:Pg1) (k:Fr):tV f0 f1 f2 a k=f0 (f1 (f2 a) k.list true):=rfl
theorem F1 (f0:Fp6->Pg2) (f1:Fp6->List UInt64->Bool->Fp6) (f2:Pg2->Fp6) (a:Pg2) (k:Fr):tU f0 f1 f2 a k=f0 (f1 (f2 a) k.list false):=rfl
theorem JV {a:Pg1} (ha:a.good) (k:Fr):(jh a k).good/\(jh a k).pt=a.pt.mul k.nat:=by
 unfold jh
 rw [F4,<- ul]
 exact acT (ci ha.2 _) (JQ ha.2 (ad5 ha) _)
theorem JT {a:Pg2} (ha:a.good) (k:Fr):(j7 a k).good/\(j7 a k).pt=a.pt.mul k.nat:=by
 unfold j7
 rw [F1,<- ul]
 exact acQ (ci ha.2 _) (JP ha.2 (ad1 ha) _)
end
section
def UZ {α:Type} (n:Nat) (k:Nat->α):α:=match n with
 | 0=>k 0
 | m+1=>k (m+1)
theorem z8 {α:Type} (n:Nat) (k:Nat->α):UZ n k=k n:=by cases n <;> rfl
def ajj {α:Type} (a:V1) (k:V1->α):α:=UZ a.nat fun n=>k (V1.of n)
theorem aeX {α:Type} (a:V1) (k:V1->α):ajj a k=k a:=by unfold ajj;rw [z8,V1.of_nat]
def qz {α:Type} (a:V2) (k:V2->α):α:=UZ a.a.nat fun n=>UZ a.b.nat fun m=>k ⟨V1.of n,V1.of m⟩
theorem ij {α:Type} (a:V2) (k:V2->α):qz a k=k a:=by unfold qz;rw [z8,z8,V1.of_nat,V1.of_nat]
def goP {K:Type} [Fld K] [Crv K] (fc:K->(K->K × K × K)->K × K × K) (b gx gy:K) (e:List UInt64):Nat->K->K->K->K × K × K
 | 0,X,Y,Z=>(X,Y,Z)
 | n+1,X,Y,Z=>fc (rx b X Y Z X Y Z) fun X'=>fc (ry b X Y Z X Y Z) fun Y'=>fc (rz b X Y Z X Y Z) fun Z'=>match df e n with
  | true=>fc (rx b X' Y' Z' gx gy 1) fun X''=>fc (ry b X' Y' Z' gx gy 1) fun Y''=>fc (rz b X' Y' Z' gx gy 1) fun Z''=>goP fc b gx gy e n X'' Y'' Z''
  | false=>goP fc b gx gy e n X' Y' Z'
theorem FA {K:Type} [Fld K] [Crv K] {fc:K->(K->K × K × K)->K × K × K} (h : ∀ a k,fc a k=k a) (b gx gy:K) (e:List UInt64) : ∀ (n:Nat) (X Y Z:K),
  goP fc b gx gy e n X Y Z=vb (fun s=>(rx b s.1 s.2.1 s.2.2 s.1 s.2.1 s.2.2,ry b s.1 s.2.1 s.2.2 s.1 s.2.1 s.2.2,rz b s.1 s.2.1 s.2.2 s.1 s.2.1 s.2.2)) (fun s=>(rx b s.1 s.2.1 s.2.2 gx gy 1,ry b s.1 s.2.1 s.2.2 gx gy 1,rz b s.1 s.2.1 s.2.2 gx gy 1)) e n (X,Y,Z)
 | 0,X,Y,Z=>rfl
 | n+1,X,Y,Z=>by
  simp only [goP,h,vb]
  cases df e n with
  | true=>exact FA h b gx gy e n _ _ _
  | false=>exact FA h b gx gy e n _ _ _
theorem In {K:Type} [Fld K] [Crv K] {fc:K->(K->K × K × K)->K × K × K} (h : ∀ a k,fc a k=k a) {gx gy:K} (hg:(Pt.aff gx gy).on) (e:List UInt64) (hz:(goP fc Crv.b gx gy e (64*e.length) 0 1 0).2.2=0):(Pt.aff gx gy).mul (vZ e) = .inf:=by
 rw [FA h] at hz
 have key:=mw (fun (s:K × K × K) p=>Pj s.1 s.2.1 s.2.2 p) (p:=Pt.aff gx gy) hg (tw:=fun s=>(rx Crv.b s.1 s.2.1 s.2.2 s.1 s.2.1 s.2.2,ry Crv.b s.1 s.2.1 s.2.2 s.1 s.2.1 s.2.2,rz Crv.b s.1 s.2.1 s.2.2 s.1 s.2.1 s.2.2)) (pl:=fun s=>(rx Crv.b s.1 s.2.1 s.2.2 gx gy 1,ry Crv.b s.1 s.2.1 s.2.2 gx gy 1,rz Crv.b s.1 s.2.1 s.2.2 gx gy 1))
  (fun hq k=>pQ hq hq k k) (fun hq k=>pQ hq hg k ⟨cL,(CR.mul_one _).symm,(CR.mul_one _).symm⟩) e (o:=((0:K),(1:K),(0:K))) ⟨rfl,rfl,cL⟩
 generalize (Pt.aff gx gy).mul (vZ e)=p at *
 cases p with
 | inf=>rfl
 | aff x y=>exact absurd hz key.1
theorem gen1_ok:oneG1.x.ok/\oneG1.y.ok:=⟨by unfold Fp.ok;decide +kernel,by unfold Fp.ok;decide +kernel⟩
theorem I3:oneG1.inf=false:=rfl
theorem Pu:(Pt.aff oneG1.x.v oneG1.y.v).on:=V1.ext (by
 show (oneG1.y.v*oneG1.y.v).nat=(oneG1.x.v*oneG1.x.v*oneG1.x.v+(4:V1)).nat
 rw [V1.nat_mul,V1.nat_add,V1.nat_mul,V1.nat_mul,Fp.v_nat gen1_ok.1,Fp.v_nat gen1_ok.2]
 decide +kernel)
theorem gen1_good:oneG1.good:=⟨.inr ⟨I3,gen1_ok⟩,Pu⟩
theorem yC:oneG1.pt = .aff oneG1.x.v oneG1.y.v:=ib I3
theorem kf:vZ rLimbs.list=qN:=by rw [ul,gp]
theorem iE:oneG1.pt.mul qN = .inf:=by
 rw [<- kf,yC]
 exact In (fc:=ajj) aeX Pu rLimbs.list (V1.ext (by decide +kernel))
theorem aeS:oneG2.x.ok/\oneG2.y.ok:=⟨⟨by unfold Fp.ok;decide +kernel,by unfold Fp.ok;decide +kernel⟩,⟨by unfold Fp.ok;decide +kernel,by unfold Fp.ok;decide +kernel⟩⟩
theorem I2:oneG2.inf=false:=rfl
theorem V2.ext_nat {x y:V2} (h:x.a.nat=y.a.nat) (g:x.b.nat=y.b.nat):x=y:=Qd.ext' (V1.ext h) (V1.ext g)
theorem ED:(Pt.aff oneG2.x.v oneG2.y.v).on:=V2.ext_nat (by
 show ((oneG2.y.v*oneG2.y.v).a).nat=(oneG2.x.v*oneG2.x.v*oneG2.x.v+bb2).a.nat
 decide +kernel) (by
 show ((oneG2.y.v*oneG2.y.v).b).nat=(oneG2.x.v*oneG2.x.v*oneG2.x.v+bb2).b.nat
 decide +kernel)
theorem gen2_good:oneG2.good:=⟨.inr ⟨I2,aeS⟩,ED⟩
theorem yA:oneG2.pt = .aff oneG2.x.v oneG2.y.v:=p8 I2
theorem Mn:oneG2.pt.mul qN = .inf:=by
 rw [<- kf,yA]
 exact In (fc:=qz) ij ED rLimbs.list (V2.ext_nat (by decide +kernel) (by decide +kernel))
end
end Go.Proofs.YtgpafcehehaiiaaGreat
namespace Go.Proofs.YtgpafcehehaiiaaGreat
theorem aeh {K:Type} [Fld K] [Crv K] {p:Pt K} (hp:p.on) : ∀ m n:Nat,p.mul m = .inf->p.mul n = .inf->p.mul (Nat.gcd m n) = .inf:=by
 intro m n
 induction m,n using Nat.gcd.induction with
 | H0 n=>intro _ h;rw [Nat.gcd_zero_left];exact h
 | H1 m n hm ih =>
  intro h1 h2
  rw [Nat.gcd_rec]
  refine ih ?_ h1
  rw [rb hp h1]
  exact h2
theorem iw {K:Type} [Fld K] [Crv K] {p:Pt K} (hp:p.on) (h0:p ≠ .inf) (hq:p.mul qN = .inf) {k:Nat} (hk:0<k) (hk2:k<qN):p.mul k ≠ .inf:=fun h=>by
 have hg:=aeh hp qN k hq h
 have h1:Nat.gcd qN k=1:=prime_qN.coprime fun hd=>by
  have:=Nat.le_of_dvd hk hd
  omega
 rw [h1,eT] at hg
 exact h0 hg
theorem aeT:oneG1.pt ≠ .inf:=by rw [yC];exact fun h=>by cases h
end Go.Proofs.YtgpafcehehaiiaaGreat
set_option maxRecDepth 100000
namespace Go.Proofs.YtgpafcehehaiiaaGreat
def pX (x:V1):V12:=e2 (Qd.of x)*(ww*ww)
def pY (y:V1):V12:=e2 (Qd.of y)*(ww*ww*ww)
theorem acv:bb2=Qd.of 4*xi:=Qd.ext' (by rw [Qd.mul_a];show (4:V1)=4*1+QP.nr*(0*1);grind) (by rw [Qd.mul_b];show (4:V1)=4*1+0*1;grind)
theorem Nr (x y:V1):(Qd.of (x+y):V2)=Qd.of x+Qd.of y:=Qd.ext' rfl (show (0:V1)=0+0 by grind)
theorem aaW (x:V1):(Qd.of (-x):V2) = -Qd.of x:=Qd.ext' rfl (show (0:V1) = -0 by grind)
theorem ajE (y:V1):pY y*pY y=e2 (Qd.of (y*y)*xi):=by
 unfold pY
 rw [bw,<- vy,Qd.of_mul,bw]
 generalize ww=w
 generalize e2 (Qd.of y)=u
 grind
theorem adQ (x:V1):pX x*pX x*pX x=e2 (Qd.of (x*x*x)*xi):=by
 unfold pX
 rw [bw,<- vy,Qd.of_mul,Qd.of_mul,bw,bw]
 generalize ww=w
 generalize e2 (Qd.of x)=u
 grind
theorem abH:(Crv.b:V1)=4:=rfl
theorem FH:(Crv.b:V2)=bb2:=rfl
theorem ae8 {x y:V1} (h:y*y=x*x*x+Crv.b):pY y*pY y=pX x*pX x*pX x+e2 bb2:=by
 rw [ajE,adQ,h,abH,Nr,acv,<- jC]
 congr 1
 generalize xi=z
 grind
theorem UN (x:V1):pX x=e6 ⟨0,Qd.of x,0⟩:=by
 unfold pX e2
 rw [UH,<- mv]
 refine congrArg e6 (Cb.ext' ?_ ?_ ?_)
 ·show Qd.of x*0+CP.cr*(0*0+0*1)=(0:V2);grind
 ·show Qd.of x*1+0*0+CP.cr*(0*0)=Qd.of x;grind
 ·show Qd.of x*0+0*1+0*0=(0:V2);grind
theorem aks (y:V1):pY y=e6 ⟨0,Qd.of y,0⟩*ww:=by
 have e:pY y=pX y*ww:=by unfold pY pX;grind
 rw [e,UN]
theorem akU (x y:V6):(e6 x*ww-e6 y).b=x:=by
 rw [Qd.sub_b,Qd.mul_b]
 show x*1+0*0-0=x
 grind
def lnV (x y:V1) (l m:V2):V12:=pY y-e2 l*pX x-e2 m
theorem ahT (x y:V1) (l m:V2):lnV x y l m=e6 ⟨0,Qd.of y,0⟩*ww-e6 (⟨l,0,0⟩*⟨0,Qd.of x,0⟩+⟨m,0,0⟩):=by
 unfold lnV
 rw [aks,UN,AT,mv]
 show _=_-(e2 l*_+e2 m)
 generalize e6 ⟨0,Qd.of x,0⟩=u
 generalize e6 ⟨0,Qd.of y,0⟩*ww=t
 grind
theorem agb {x:V1} (h:x ≠ 0):(Qd.of x:V2) ≠ 0:=fun e=>h (congrArg Qd.a e)
theorem abc {x y:V1} (hy:y ≠ 0) (l m:V2):lnV x y l m ≠ 0:=fun e=>by
 rw [ahT] at e
 have h:=congrArg Qd.b e
 rw [akU] at h
 exact agb hy (congrArg Cb.b h)
theorem nD (x:V6):(e6 x).conj=e6 x:=Qd.ext' rfl (show -(0:V6)=0 by grind)
theorem PK:ww.conj = -ww:=Qd.ext' (show (0:V6) = -0 by grind) rfl
theorem Ae (a b:V12):(a-b).conj=a.conj-b.conj:=Qd.ext' rfl (show -(a.b-b.b) = -a.b - -b.b by grind)
theorem aaQ (y:V1):pY (-y) = -pY y:=by unfold pY;rw [aaW,n4];generalize ww=w;grind
theorem Yt (x y:V1) (l m:V2):(lnV x y l m).conj=lnV x (-y) l m:=by
 unfold lnV
 rw [Ae,Ae,Qd.conj_mul,UN,aaQ,aks,Qd.conj_mul,PK]
 unfold e2
 rw [nD,nD,nD,nD]
 generalize ww=w
 grind
theorem aex (x y:V1) (l m:V2):lnV x (-y) l m = -lnV x y (-l) (-m):=by
 unfold lnV
 rw [aaQ,n4,n4]
 grind
theorem NB {x y:V1} (hy:y ≠ 0) (l m:V2):cd (lnV x y l m)*cd (lnV x (-y) l m)=1:=by
 rw [<- Yt]
 exact PC (abc hy l m)
theorem ahS {x y:V1} (hy:y ≠ 0) (l m:V2):cd (lnV x y l m)*cd (lnV x y (-l) (-m))=1:=by
 have e:=NB (x:=x) hy l m
 rw [aex,NR] at e
 exact e
theorem aey {x y:V1} (hy:y ≠ 0) {l m l' m':V2} (h1:l' = -l) (h2:m' = -m):cd (lnV x y l m)*cd (lnV x y l' m')=1:=by
 rw [h1,h2]
 exact ahS hy l m
theorem aij {x:V1} (hx:x ≠ 0) (a:V2):cd (pX x-e2 a)=1:=by
 have e:pX x-e2 a=e6 ⟨-a,Qd.of x,0⟩:=by
  rw [UN]
  unfold e2
  rw [<- abB]
  exact congrArg e6 (Cb.ext' (show (0:V2)-a = -a by grind) (show Qd.of x-0=(Qd.of x:V2) by grind) (show (0:V2)-0=0 by grind))
 rw [e]
 exact U1 fun h=>agb hx (congrArg Cb.b h)
structure PtOk (x y : V1) : Prop where
 nx:x ≠ 0
 ny:y ≠ 0
 on:y*y=x*x*x+Crv.b
noncomputable def cY (x y:V1) (h:PtOk x y):Lv V2 V12 where
 S:=fun l m=>cd (lnV x y l m)
 F:=fun p q r=>cd (pX x*pX x+e2 p*pX x+e2 q-e2 r*pY y)
 four:=fun l m k n a h1 h2=>by
  have e:=S4 (R:=V12) (l:=e2 l) (m:=e2 m) (k:=e2 k) (n:=e2 n) (a:=e2 a) (b:=e2 bb2) (X:=pX x) (Y:=pY y) (ae8 h.on)
   (by rw [<- bw,<- jC,<- bw,h1,jC,bw,bw,FH]) (by rw [<- bw,<- jC,h2,n4,jC,bw])
  have e':lnV x y l m*lnV x y k n=(pX x-e2 a)*(pX x*pX x+e2 (a+l*k)*pX x+e2 (l*n+k*m+a*(a+l*k))-e2 (l+k)*pY y):=by
   unfold lnV
   rw [e]
   simp only [jC,bw]
  rw [<- jD,e',jD,aij h.nx]
  exact (CR.mul_comm _ _).trans (i5 _)
 opp:=fun l m=>aey (x:=x) (y:=y) h.ny rfl rfl
theorem NN (a b:V12):(a+b) ^ pN=a ^ pN+b ^ pN:=by rw [acp nq V12.char]
theorem aii (a:V12):(-a) ^ pN = -(a ^ pN):=by
 have h:=NN (-a) a
 have e : -a+a=0:=by grind
 rw [e,lS _ gZ] at h
 generalize (-a) ^ pN=u at *
 generalize a ^ pN=v at *
 grind
theorem FC (a b:V12):(a-b) ^ pN=a ^ pN-b ^ pN:=by
 have e:a-b=a + -b:=CR.sub_eq a b
 rw [e,NN,aii]
 exact (CR.sub_eq _ _).symm
theorem nv (x:V1):(Qd.of x:V2).conj=Qd.of x:=Qd.ext' rfl (show -(0:V1)=0 by grind)
theorem akN (x:V1):pX x ^ pN=e2 (gg*gg)*pX x:=by
 unfold pX
 rw [aY,aY,afM,Mu,nv,bw]
 generalize ww=w
 generalize e2 gg=g
 generalize e2 (Qd.of x)=u
 grind
theorem akM (y:V1):pY y ^ pN=e2 (gg*gg*gg)*pY y:=by
 unfold pY
 rw [aY,aY,aY,afM,Mu,nv,bw,bw]
 generalize ww=w
 generalize e2 gg=g
 generalize e2 (Qd.of y)=u
 grind
theorem UW:gg ≠ 0:=OA afI _
def gi:V2:=Fld.inv gg
theorem UV:gg*gi=1:=bl UW
theorem aib:gg*gg*gg*gg*gg*gg*xi=xi.conj:=by
 have h:gg ^ 6=xi ^ (6*((pN-1) / 6)):=by rw [Nat.mul_comm];exact (aE xi _ 6).symm
 have h2:gg*gg*gg*gg*gg*gg=gg ^ 6:=by generalize gg=g;grind
 rw [h2,h,<- V2.frob,<- aq,<- Ik]
theorem PW:bb2.conj*(gi*gi*gi*gi*gi*gi)=bb2:=by
 have h:=aib
 have k:=UV
 rw [acv,Qd.conj_mul,nv,<- h]
 generalize xi=z at *
 generalize gg=g at *
 generalize gi=i at *
 have e:Qd.of 4*(g*g*g*g*g*g*z)*(i*i*i*i*i*i)=Qd.of 4*z*((g*i)*(g*i)*(g*i)*(g*i)*(g*i)*(g*i)):=by clear h k;grind
 rw [e,k]
 clear h k e
 grind
theorem ajI (x y:V1) (l m:V2):lnV x y l m ^ pN=e2 (gg*gg*gg)*lnV x y (l.conj*gi) (m.conj*(gi*gi*gi)):=by
 have k:=UV
 have e1:l.conj*(gg*gg)=gg*gg*gg*(l.conj*gi):=by
  generalize gg=g at *
  generalize gi=i at *
  have:g*g*g*(l.conj*i)=l.conj*(g*g)*(g*i):=by clear k;grind
  rw [this,k]
  grind
 have e2':m.conj=gg*gg*gg*(m.conj*(gi*gi*gi)):=by
  generalize gg=g at *
  generalize gi=i at *
  have:g*g*g*(m.conj*(i*i*i))=m.conj*((g*i)*(g*i)*(g*i)):=by clear k;grind
  rw [this,k]
  grind
 unfold lnV
 rw [FC,FC,aY,Mu,Mu,akN,akM]
 have h1:e2 l.conj*(e2 (gg*gg)*pX x)=e2 (gg*gg*gg)*(e2 (l.conj*gi)*pX x):=by
  rw [<- CR.mul_assoc,<- bw,e1,bw,CR.mul_assoc]
 have h2:e2 m.conj=e2 (gg*gg*gg)*e2 (m.conj*(gi*gi*gi)):=by
  rw [<- bw,<- e2']
 rw [h1,h2]
 generalize e2 (gg*gg*gg)=u
 generalize e2 (l.conj*gi)*pX x=s
 generalize e2 (m.conj*(gi*gi*gi))=t
 clear h1 h2 e1 e2' k
 grind
theorem abr:gg*gg*gg ≠ 0:=aG (aG UW UW) UW
theorem Zs (x y:V1) (l m:V2):cd (lnV x y l m) ^ pN=cd (lnV x y (l.conj*gi) (m.conj*(gi*gi*gi))):=by
 rw [aky,ajI,jD,ago abr]
 exact (CR.mul_comm _ _).trans (i5 _)
def phi:Pt V2->Pt V2
 | .inf => .inf
 | .aff x y => .aff (x.conj*(gi*gi)) (y.conj*(gi*gi*gi))
theorem FJ (a b:V2):(a+b).conj=a.conj+b.conj:=Qd.conj_add a b
theorem NU (a b:V2):(a*b).conj=a.conj*b.conj:=Qd.conj_mul a b
theorem NT (a:V2):(-a).conj = -a.conj:=rfl
theorem aiE:(2:V2).conj=2:=by
 rw [show (2:V2)=1+1 by grind,FJ]
 have:(1:V2).conj=1:=nv 1
 rw [this]
theorem Ln.phi {l m x1 x2 x3:V2} (h:Ln l m x1 x2 x3):Ln (l.conj*gi) (m.conj*(gi*gi*gi)) (x1.conj*(gi*gi)) (x2.conj*(gi*gi)) (x3.conj*(gi*gi)):=by
 have h1:=congrArg Qd.conj h.s1
 have h2:=congrArg Qd.conj h.s2
 have h3:=congrArg Qd.conj h.s3
 rw [FH] at h3
 simp only [FJ,NU,NT,aiE] at h1 h2 h3
 have hb:=PW
 refine ⟨?_,?_,?_⟩
 ·generalize gi=i at *
  have:l.conj*i*(l.conj*i)=(l.conj*l.conj)*(i*i):=by clear h1 h2 h3 hb;grind
  rw [this,h1]
  clear h1 h2 h3 hb
  grind
 ·generalize gi=i at *
  have:2*(l.conj*i*(m.conj*(i*i*i)))=2*(l.conj*m.conj)*(i*i*i*i):=by clear h1 h2 h3 hb;grind
  rw [this,h2]
  clear h1 h2 h3 hb
  grind
 ·rw [FH]
  generalize gi=i at *
  have:m.conj*(i*i*i)*(m.conj*(i*i*i))=m.conj*m.conj*(i*i*i*i*i*i):=by clear h1 h2 h3 hb;grind
  rw [this,h3]
  generalize bb2.conj=u at *
  rw [<- hb]
  clear h1 h2 h3 hb
  grind
theorem AJ (l m x:V2):(l*x+m).conj*(gi*gi*gi)=l.conj*gi*(x.conj*(gi*gi))+m.conj*(gi*gi*gi):=by
 rw [FJ,NU]
 generalize gi=i
 grind
theorem OD (p:Pt V2):phi p.neg=(phi p).neg:=by
 cases p with
 | inf=>rfl
 | aff x y =>
  show Pt.aff (x.conj*(gi*gi)) ((-y).conj*(gi*gi*gi))=Pt.aff (x.conj*(gi*gi)) (-(y.conj*(gi*gi*gi)))
  rw [NT]
  exact congrArg _ (by generalize gi=i;grind)
theorem mf {p:Pt V2} (hp:p.on):(phi p).on:=by
 cases p with
 | inf=>trivial
 | aff x y =>
  have h:=congrArg Qd.conj (show y*y=x*x*x+bb2 from hp)
  simp only [FJ,NU] at h
  show y.conj*(gi*gi*gi)*(y.conj*(gi*gi*gi))=x.conj*(gi*gi)*(x.conj*(gi*gi))*(x.conj*(gi*gi))+bb2
  have hb:=PW
  generalize gi=i at *
  have:y.conj*(i*i*i)*(y.conj*(i*i*i))=y.conj*y.conj*(i*i*i*i*i*i):=by clear h hb;grind
  rw [this,h]
  generalize bb2.conj=u at *
  rw [<- hb]
  clear h hb
  grind
theorem adK {p q:Pt V2} (hp:p.on) (hq:q.on):phi (p.add q)=(phi p).add (phi q):=by
 cases p with
 | inf=>rfl
 | aff x1 y1 =>
  cases q with
  | inf=>rw [cn];exact (cn _).symm
  | aff x2 y2 =>
   rcases bC hp hq with ⟨h1,h2,h⟩ | ⟨l,m,x3,hL,h1,h2,h⟩
   ·rw [h,h1,h2]
    have e:=bE (mf hq)
    rw [aB (b8 (mf hq)) (mf hq)] at e
    rw [aB (mf (show (Pt.aff x2 (-y2)).on from b8 hq)) (mf hq),show Pt.aff x2 (-y2)=(Pt.aff x2 y2).neg from rfl,OD,e]
    rfl
   ·rw [h,show (Pt.aff x3 (-(l*x3+m)))=(Pt.aff x3 (l*x3+m)).neg from rfl,OD]
    subst h1 h2
    show (Pt.aff _ _).neg=(Pt.aff _ _).add (Pt.aff _ _)
    rw [fu hL.phi (AJ l m x1) (AJ l m x2),<- AJ]
    rfl
theorem ahL {x y:V1} (h:PtOk x y) {p q:Pt V2} (hp:p.on) (hq:q.on):(cY x y h).c (phi p) (phi q)=(cY x y h).c p q ^ pN:=by
 cases p with
 | inf=>rw [show phi .inf=(.inf:Pt V2) from rfl,Lv.c_inf,Lv.c_inf,bq]
 | aff x1 y1 =>
  cases q with
  | inf=>rw [show phi .inf=(.inf:Pt V2) from rfl,Lv.c_inf',Lv.c_inf',bq]
  | aff x2 y2 =>
   rcases bC hp hq with ⟨h1,h2,_⟩ | ⟨l,m,x3,hL,h1,h2,_⟩
   ·rw [(cY x y h).c_opp h1 h2,bq]
    subst h1 h2
    exact Lv.c_opp _ rfl (by rw [NT];generalize gi=i;grind)
   ·rw [(cY x y h).c_ln hL h1 h2]
    subst h1 h2
    show (cY x y h).c (Pt.aff _ _) (Pt.aff _ _)=_
    rw [Lv.c_ln _ hL.phi (AJ l m x1) (AJ l m x2)]
    exact (Zs x y l m).symm
theorem ahM {K M:Type} [Fld K] [Crv K] [CR M] (v:Lv K M) {p q:Pt K} (hp:p.on) (hq:q.on):v.c p.neg q.neg*v.c p q=1:=by
 cases p with
 | inf=>rw [show Pt.neg .inf=(.inf:Pt K) from rfl,Lv.c_inf,Lv.c_inf];exact i5 _
 | aff x1 y1 =>
  cases q with
  | inf=>rw [show Pt.neg .inf=(.inf:Pt K) from rfl,Lv.c_inf',Lv.c_inf'];exact i5 _
  | aff x2 y2 =>
   rcases bC hp hq with ⟨h1,h2,_⟩ | ⟨l,m,x3,hL,h1,h2,_⟩
   ·rw [v.c_opp h1 h2,show (Pt.aff x1 y1).neg = .aff x1 (-y1) from rfl,show (Pt.aff x2 y2).neg = .aff x2 (-y2) from rfl,v.c_opp h1 (by rw [h2])]
    exact i5 _
   ·rw [v.c_ln hL h1 h2,show (Pt.aff x1 y1).neg = .aff x1 (-y1) from rfl,show (Pt.aff x2 y2).neg = .aff x2 (-y2) from rfl,v.c_ln hL.neg (by rw [h1];grind) (by rw [h2];grind),CR.mul_comm]
    exact v.opp l m
end Go.Proofs.YtgpafcehehaiiaaGreat
set_option maxRecDepth 100000
namespace Go.Proofs.YtgpafcehehaiiaaGreat
def tN:Nat:=15132376222941642752
theorem akG:tN+pN=qN*((tN+pN) / qN):=by decide +kernel
theorem S_q (x y:V1) (h:PtOk x y) (l m:V2):(cY x y h).S l m ^ qN=1:=akx (abc h.ny l m)
open Classical in
theorem c_q (x y:V1) (h:PtOk x y) (p q:Pt V2):(cY x y h).c p q ^ qN=1:=by
 cases p with
 | inf=>rw [Lv.c_inf,bq]
 | aff x1 y1 =>
  cases q with
  | inf=>rw [Lv.c_inf',bq]
  | aff x2 y2 =>
   unfold Lv.c
   simp only
   split
   ·exact bq _
   ·exact S_q x y h _ _
theorem f_q (x y:V1) (h:PtOk x y) (q:Pt V2) : ∀ n,(cY x y h).f q n ^ qN=1
 | 0=>bq _
 | n+1=>by
  show ((cY x y h).f q n*(cY x y h).c (q.mul n) q) ^ qN=1
  rw [aY,f_q x y h q n,c_q]
  exact i5 _
theorem agm {a:V12} (h:a ^ qN=1):a ^ tN*a ^ pN=1:=by
 rw [<- cu,akG,aE,h,bq]
structure Good2 (q : Pt V2) : Prop where
 sub:q.sub qN
 tw:q.mul tN=(phi q).neg
theorem Good2.on {q:Pt V2} (h:Good2 q):q.on:=h.sub.1
theorem TA:Good2 .inf:=⟨⟨trivial,gq _⟩,by rw [gq];rfl⟩
theorem u5 {K:Type} [Fld K] [Crv K] {p q:Pt K} (hp:p.on) (hq:q.on):p.neg.add q.neg=(p.add q).neg:=by
 have h1:=bN hp hq
 refine lv (bN (b8 hp) (b8 hq)) (b8 h1) ?_
 have e:(p.neg.add q.neg).neg=p.add q:=by
  refine lv (b8 (bN (b8 hp) (b8 hq))) h1 ?_
  rw [kC,aX (b8 hp) (b8 hq) h1,aB hp hq,<- aX (b8 hq) hq hp,bE hq,bZ,bE hp]
 rw [e,aB h1 (b8 h1),bE h1]
theorem Good2.add {p q:Pt V2} (hp:Good2 p) (hq:Good2 q):Good2 (p.add q) :=
 ⟨xc hp.sub hq.sub,by rw [dc hp.on hq.on,hp.tw,hq.tw,u5 (mf hp.on) (mf hq.on),adK hp.on hq.on]⟩
theorem Good2.mul {p:Pt V2} (hp:Good2 p) : ∀ n,Good2 (p.mul n)
 | 0=>TA
 | n+1=>(Good2.mul hp n).add hp
section
variable {d : Pt V2} (hd : d.on) (hdn : d.mul qN ≠ .inf)
include hd hdn in
theorem aik (x y:V1) (h:PtOk x y) {p q:Pt V2} (hp:Good2 p) (hq:Good2 q):(cY x y h).f (p.add q) tN=(cY x y h).f p tN*(cY x y h).f q tN:=by
 have e:=Lv.f_sum (cY x y h) hd hdn hp.sub hq.sub tN
 have e2:=ahM (cY x y h) (mf hp.on) (mf hq.on)
 rw [<- hp.tw,<- hq.tw,ahL h hp.on hq.on] at e2
 have e3:=agm (c_q x y h p q)
 generalize (cY x y h).f (p.add q) tN=a at *
 generalize (cY x y h).f p tN=b at *
 generalize (cY x y h).f q tN=c at *
 generalize (cY x y h).c (p.mul tN) (q.mul tN)=z at *
 generalize (cY x y h).c p q ^ tN=s at *
 generalize (cY x y h).c p q ^ pN=t at *
 have:a*(s*t)=b*c*(z*t):=by
  have:a*(s*t)=(a*s)*t:=by grind
  rw [this,e]
  grind
 rw [e3,e2] at this
 exact (i5 a).symm.trans (this.trans (i5 _))
end
def lnH (k n:V1) (x y:V2):V12:=e2 y-e2 (Qd.of k)*ww*e2 x-e2 (Qd.of n)*(ww*ww*ww)
theorem NC (k n:V1) (x y:V2):lnH k n x y=e2 y-e6 (⟨Qd.of k,0,0⟩*⟨x,0,0⟩+⟨Qd.of n,0,0⟩*vv)*ww:=by
 unfold lnH e2
 rw [AT,mv,mv,<- UH]
 generalize ww=w
 generalize e6 ⟨y,0,0⟩=s1
 generalize e6 ⟨Qd.of k,0,0⟩=s2
 generalize e6 ⟨Qd.of n,0,0⟩=s3
 generalize e6 ⟨x,0,0⟩=s4
 grind
theorem aj0 (x y:V6):(e6 x-e6 y*ww).a=x:=by
 rw [Qd.sub_a,Qd.mul_a]
 show x-(y*0+QP.nr*(0*1))=x
 grind
theorem abe (k n:V1) {x y:V2} (hy:y ≠ 0):lnH k n x y ≠ 0:=fun e=>by
 rw [NC] at e
 have h:=congrArg Qd.a e
 rw [show e2 y=e6 ⟨y,0,0⟩ from rfl,aj0] at h
 exact hy (congrArg Cb.a h)
theorem Yu (k n:V1) (x y:V2):lnH k n x (-y) = -(lnH k n x y).conj:=by
 rw [NC,NC,Ae,Qd.conj_mul,nD,PK,n4]
 unfold e2
 rw [nD]
 generalize ww=w
 grind
theorem abd (k n:V1) {x y y':V2} (hy:y ≠ 0) (h:y' = -y):cd (lnH k n x y)*cd (lnH k n x y')=1:=by
 rw [h,Yu,NR]
 exact PC (abe k n hy)
theorem ajJ (k n:V1) (x y:V2):lnH k n x y ^ pN=e2 (gg*gg*gg)*lnH k n (x.conj*(gi*gi)) (y.conj*(gi*gi*gi)):=by
 have hk:=UV
 have h1:e2 y.conj=e2 (gg*gg*gg)*e2 (y.conj*(gi*gi*gi)):=by
  rw [<- bw]
  refine congrArg e2 ?_
  generalize gg=g at *
  generalize gi=i at *
  have:g*g*g*(y.conj*(i*i*i))=y.conj*((g*i)*(g*i)*(g*i)):=by clear hk;grind
  rw [this,hk]
  grind
 have h2:e2 gg*e2 x.conj=e2 (gg*gg*gg)*e2 (x.conj*(gi*gi)):=by
  rw [<- bw,<- bw]
  refine congrArg e2 ?_
  generalize gg=g at *
  generalize gi=i at *
  have:g*g*g*(x.conj*(i*i))=g*x.conj*((g*i)*(g*i)):=by clear hk;grind
  rw [this,hk]
  grind
 unfold lnH
 rw [FC,FC,aY,aY,aY,aY,aY,Mu,Mu,Mu,Mu,afM,nv,nv]
 have h3:e2 (Qd.of k)*(e2 gg*ww)*e2 x.conj=e2 (gg*gg*gg)*(e2 (Qd.of k)*ww*e2 (x.conj*(gi*gi))):=by
  have:e2 (Qd.of k)*(e2 gg*ww)*e2 x.conj=e2 (Qd.of k)*ww*(e2 gg*e2 x.conj):=by
   generalize ww=w;generalize e2 gg=u;generalize e2 (Qd.of k)=s;generalize e2 x.conj=t;clear h1 h2 hk;grind
  rw [this,h2]
  generalize ww=w;generalize e2 (gg*gg*gg)=u;generalize e2 (Qd.of k)=s;generalize e2 (x.conj*(gi*gi))=t
  clear h1 h2 hk this
  grind
 rw [h1,h3,bw (gg*gg) gg,bw gg gg]
 generalize ww=w
 generalize e2 gg=u
 generalize e2 (Qd.of k)*w*e2 (x.conj*(gi*gi))=s
 generalize e2 (y.conj*(gi*gi*gi))=t
 generalize e2 (Qd.of n)=r
 clear h1 h2 h3 hk
 grind
def hV (k n:V1):Pt V2->V12
 | .inf=>1
 | .aff x y=>cd (lnH k n x y)
theorem ah7 (k n:V1):hV k n .inf=1:=rfl
theorem ah6 (k n:V1) {q:Pt V2} (hq:q.on):hV k n q*hV k n q.neg=1:=by
 cases q with
 | inf=>exact i5 _
 | aff x y=>exact abd k n (y_ne hq) rfl
theorem ajT (k n:V1) {x y y':V2} (ho:(Pt.aff x y).on) (h:y' = -y):hV k n (.aff x y)*hV k n (.aff x y')=1:=abd k n (y_ne ho) h
theorem akR (k n:V1) {q:Pt V2} (hq:q.on):hV k n q ^ qN=1:=by
 cases q with
 | inf=>exact bq _
 | aff x y=>exact akx (abe k n (y_ne hq))
theorem ah5 (k n:V1) (q:Pt V2):hV k n (phi q)=hV k n q ^ pN:=by
 cases q with
 | inf=>exact (bq _).symm
 | aff x y =>
  show cd _=cd _ ^ pN
  rw [aky,ajJ,jD,ago abr]
  exact ((CR.mul_comm _ _).trans (i5 _)).symm
theorem ajS (k n:V1) {q:Pt V2} (hq:Good2 q):hV k n (q.mul tN)*hV k n q ^ pN=1:=by
 rw [hq.tw,<- ah5,CR.mul_comm]
 exact ah6 k n (mf hq.on)
theorem HB (a b c:V12):cd a*cd b*cd c=cd (a*b*c):=by rw [jD,jD]
theorem agz (x y:V1) (h:PtOk x y) (l m:V2):(cY x y h).S l m=cd (lnV x y l m):=rfl
theorem NJ (k n:V1) (x y:V2):hV k n (.aff x y)=cd (lnH k n x y):=rfl
theorem Yx {k n x1 x2 x3:V1} (hL:Ln k n x1 x2 x3) (o1:PtOk x1 (k*x1+n)) (o2:PtOk x2 (k*x2+n)) (o3:PtOk x3 (-(k*x3+n))) (l m u1 u2 u3:V2) (hK:Ln l m u1 u2 u3) {w1 w2 w3:V2} (g1:w1=l*u1+m) (g2:w2=l*u2+m) (g3:w3=l*u3+m) :
  (cY _ _ o1).S l m*(cY _ _ o2).S l m=(cY _ _ o3).S l m*(hV k n (.aff u1 w1)*hV k n (.aff u2 w2)*hV k n (.aff u3 w3)):=by
 subst g1 g2 g3
 rw [agz,agz,agz,NJ,NJ,NJ]
 have hy3:k*x3+n ≠ 0:=fun e=>o3.ny (by rw [e];grind)
 have pm:=NB (x:=x3) hy3 l m
 have e2two:e2 2=2:=by rw [show (2:V2)=1+1 by grind,jC,NP];grind
 have of2:(Qd.of 2:V2)=2:=by rw [show (2:V1)=1+1 by grind,Nr];show (1:V2)+1=2;grind
 have oz : ∀ a b:V1,e2 (Qd.of (a*b))=e2 (Qd.of a)*e2 (Qd.of b):=fun a b=>by rw [Qd.of_mul,bw]
 have oa : ∀ a b:V1,e2 (Qd.of (a+b))=e2 (Qd.of a)+e2 (Qd.of b):=fun a b=>by rw [Nr,jC]
 have on' : ∀ a:V1,e2 (Qd.of (-a)) = -e2 (Qd.of a):=fun a=>by rw [aaW,n4]
 have e:=ajx (R:=V12) (b:=e2 bb2) (l:=e2 l) (m:=e2 m) (x1:=e2 u1) (x2:=e2 u2) (x3:=e2 u3) (k:=e2 (Qd.of k)*ww) (n:=e2 (Qd.of n)*(ww*ww*ww)) (u1:=pX x1) (u2:=pX x2) (u3:=pX x3)
  (by rw [<- bw,hK.s1,jC,jC]) (by rw [<- e2two,<- bw,<- bw,hK.s2];simp only [n4,jC,bw]) (by rw [<- bw,hK.s3,jC,bw,bw,FH])
  (by
   have h:=congrArg (fun z=>e2 (Qd.of z)) hL.s1
   simp only [oz,oa] at h
   unfold pX
   generalize ww=w
   generalize e2 (Qd.of k)=s at *
   have:s*w*(s*w)=s*s*(w*w):=by clear h;grind
   rw [this,h]
   clear h this pm
   grind)
  (by
   have h:=congrArg (fun z=>e2 (Qd.of z)) hL.s2
   simp only [oz,oa,on'] at h
   rw [of2,e2two] at h
   unfold pX
   generalize ww=w
   generalize e2 (Qd.of k)=s at *
   generalize e2 (Qd.of n)=t at *
   have:2*(s*w*(t*(w*w*w)))=2*(s*t)*(w*w*(w*w)):=by clear h;grind
   rw [this,h]
   clear h this pm
   grind)
  (by
   have h:=congrArg (fun z=>e2 (Qd.of z)) hL.s3
   simp only [oz,oa] at h
   rw [abH] at h
   rw [acv,bw,<- vy]
   unfold pX
   generalize ww=w
   generalize e2 (Qd.of n)=t at *
   have:t*(w*w*w)*(t*(w*w*w))=t*t*w ^ 6:=by clear h;grind
   rw [this,h]
   clear h this pm
   grind)
 have hl : ∀ x:V1,e2 (Qd.of k)*ww*pX x+e2 (Qd.of n)*(ww*ww*ww)-e2 l*pX x-e2 m=lnV x (k*x+n) l m:=fun x=>by
  unfold lnV pY
  rw [oa,oz]
  unfold pX
  generalize ww=w
  clear e pm
  grind
 have hr : ∀ u:V2,e2 l*e2 u+e2 m-e2 (Qd.of k)*ww*e2 u-e2 (Qd.of n)*(ww*ww*ww)=lnH k n u (l*u+m):=fun u=>by
  unfold lnH
  rw [jC,bw]
 rw [hl,hl,hl,hr,hr,hr] at e
 have e':=congrArg cd e
 rw [NR,<- HB,<- HB] at e'
 rw [<- e']
 generalize cd (lnV x1 (k*x1+n) l m)=a at *
 generalize cd (lnV x2 (k*x2+n) l m)=b at *
 generalize cd (lnV x3 (k*x3+n) l m)=c at *
 generalize cd (lnV x3 (-(k*x3+n)) l m)=d at *
 have:d*(a*b*c)=a*b*(c*d):=by clear e e' hl hr pm;grind
 rw [this,pm]
 exact (i5 _).symm
theorem ail {k n x1 x2 x3 y1 y2 y3:V1} (hL:Ln k n x1 x2 x3) (e1:y1=k*x1+n) (e2:y2=k*x2+n) (e3:y3 = -(k*x3+n)) (o1:PtOk x1 y1) (o2:PtOk x2 y2) (o3:PtOk x3 y3) {q:Pt V2} (hq:Good2 q) :
  (cY _ _ o1).f q tN*(cY _ _ o2).f q tN=(cY _ _ o3).f q tN:=by
 subst e1 e2 e3
 have e:=abz (v1:=cY _ _ o1) (v2:=cY _ _ o2) (v3:=cY _ _ o3) (h:=hV k n) (ah7 k n) (fun x y ho=>ajT k n ho rfl) (fun l m u1 u2 u3 hK=>Yx hL o1 o2 o3 l m u1 u2 u3 hK rfl rfl rfl) hq.on tN
 have e2:=ajS k n hq
 have e3:=agm (akR k n hq.on)
 generalize (cY _ _ o1).f q tN=a at *
 generalize (cY _ _ o2).f q tN=b at *
 generalize (cY _ _ o3).f q tN=c at *
 generalize hV k n (q.mul tN)=z at *
 generalize hV k n q ^ tN=s at *
 generalize hV k n q ^ pN=t at *
 have:a*b*(z*t)=c*(s*t):=by
  have:a*b*(z*t)=(a*b*z)*t:=by grind
  rw [this,e]
  grind
 rw [e2,e3] at this
 exact (i5 _).symm.trans (this.trans (i5 _))
theorem aiG {x y y':V1} (hy:y' = -y) (h1:PtOk x y) (h2:PtOk x y') (p q:Pt V2):(cY x y h1).c p q*(cY x y' h2).c p q=1:=by
 subst hy
 cases p with
 | inf=>rw [Lv.c_inf,Lv.c_inf];exact i5 _
 | aff x1 y1 =>
  cases q with
  | inf=>rw [Lv.c_inf',Lv.c_inf'];exact i5 _
  | aff x2 y2 =>
   unfold Lv.c
   simp only
   split
   ·exact i5 _
   ·exact NB h1.ny _ _
theorem abA {x y y':V1} (hy:y' = -y) (h1:PtOk x y) (h2:PtOk x y') (q:Pt V2) : ∀ n,(cY x y h1).f q n*(cY x y' h2).f q n=1
 | 0=>i5 _
 | n+1=>by
  have ih:=abA hy h1 h2 q n
  have e:=aiG hy h1 h2 (q.mul n) q
  show (cY x y h1).f q n*(cY x y h1).c (q.mul n) q*((cY x y' h2).f q n*(cY x y' h2).c (q.mul n) q)=1
  generalize (cY x y h1).f q n=a at *
  generalize (cY x y' h2).f q n=b at *
  generalize (cY x y h1).c (q.mul n) q=c at *
  generalize (cY x y' h2).c (q.mul n) q=d at *
  have:a*c*(b*d)=(a*b)*(c*d):=by clear e ih;grind
  rw [this,ih,e]
  exact i5 _
theorem ajt {x y:V1} (h:(Pt.aff x y).sub qN):x ≠ 0:=fun e=>by
 subst e
 have hn : ¬ ((0:V1)=0/\y = -y):=fun e=>jP h.1 e.2
 have h2:(Pt.aff 0 y).mul 2=(Pt.aff (0:V1) y).neg:=by
  rw [show (2:Nat)=1+1 from rfl,aJ,eT,lM,if_neg hn]
  have hs:dd (0:V1) y 0 y=0:=by
   unfold dd
   rw [if_pos rfl]
   grind
  rw [hs]
  show Pt.aff _ _=Pt.aff 0 (-y)
  congr 1 <;> grind
 have h3:(Pt.aff (0:V1) y).mul 3 = .inf:=by
  rw [show (3:Nat)=2+1 from rfl,aJ,h2]
  exact bE h.1
 exact iw h.1 (fun e=>by cases e) h.2 (k:=3) (by decide) (by decide +kernel) h3
theorem oM {x y:V1} (h:(Pt.aff x y).sub qN):PtOk x y:=⟨ajt h,y_ne h.1,h.1⟩
open Classical in
noncomputable def prV:Pt V1->Pt V2->V12
 | .inf,_=>1
 | .aff x y,q=>if h:PtOk x y then (cY x y h).f q tN else 1
theorem xE (q:Pt V2):prV .inf q=1:=rfl
open Classical in
theorem nL {x y:V1} (h:PtOk x y) (q:Pt V2):prV (.aff x y) q=(cY x y h).f q tN:=dif_pos h
open Classical in
theorem AH {x y:V1} (h : ¬ PtOk x y) (q:Pt V2):prV (.aff x y) q=1:=dif_neg h
theorem af5 (p:Pt V1) (q:Pt V2):prV p q ^ qN=1:=by
 cases p with
 | inf=>exact bq _
 | aff x y =>
  by_cases h:PtOk x y
  ·rw [nL h];exact f_q x y h q tN
  ·rw [AH h]
   exact bq _
theorem WN {p1 p2:Pt V1} (h1:p1.sub qN) (h2:p2.sub qN) {q:Pt V2} (hq:Good2 q):prV (p1.add p2) q=prV p1 q*prV p2 q:=by
 cases p1 with
 | inf=>rw [bZ,xE,CR.mul_comm];exact (i5 _).symm
 | aff x1 y1 =>
  cases p2 with
  | inf=>rw [cn,xE];exact (i5 _).symm
  | aff x2 y2 =>
   have o1:=oM h1
   have o2:=oM h2
   have h3:=xc h1 h2
   rw [nL o1,nL o2]
   rcases bC h1.1 h2.1 with ⟨e1,e2,e⟩ | ⟨k,n,x3,hL,e1,e2,e⟩
   ·rw [e,xE]
    subst e1
    rw [CR.mul_comm]
    exact (abA e2 o2 o1 q tN).symm
   ·rw [e] at h3 ⊢
    have o3:=oM h3
    rw [nL o3]
    exact (ail hL e1 e2 rfl o1 o2 o3 hq).symm
open Classical in
theorem H2 (p:Pt V1):prV p .inf=1:=by
 cases p with
 | inf=>rfl
 | aff x y =>
  by_cases h:PtOk x y
  ·rw [nL h]
   have : ∀ n,(cY x y h).f .inf n=1:=fun n=>by
    induction n with
    | zero=>rfl
    | succ n ih =>
     show (cY x y h).f .inf n*(cY x y h).c ((Pt.inf:Pt V2).mul n) .inf=1
     rw [ih,Lv.c_inf']
     exact i5 _
   exact this tN
  ·exact AH h _
section
variable {d : Pt V2} (hd : d.on) (hdn : d.mul qN ≠ .inf)
open Classical in
include hd hdn in
theorem WM (p:Pt V1) {q r:Pt V2} (hq:Good2 q) (hr:Good2 r):prV p (q.add r)=prV p q*prV p r:=by
 cases p with
 | inf=>exact (i5 _).symm
 | aff x y =>
  by_cases h:PtOk x y
  ·rw [nL h,nL h,nL h]
   exact aik hd hdn x y h hq hr
  ·rw [AH h,AH h,AH h]
   exact (i5 _).symm
theorem HZ {p:Pt V1} (hp:p.sub qN) {q:Pt V2} (hq:Good2 q) : ∀ a,prV (p.mul a) q=prV p q ^ a
 | 0=>rfl
 | a+1=>by rw [aJ,WN (sub_mul hp a) hp hq,HZ hp hq a,aq]
include hd hdn in
theorem HY (p:Pt V1) {q:Pt V2} (hq:Good2 q) : ∀ b,prV p (q.mul b)=prV p q ^ b
 | 0=>H2 p
 | b+1=>by rw [aJ,WM hd hdn p (hq.mul b) hq,HY p hq b,aq]
include hd hdn in
theorem adz {p:Pt V1} (hp:p.sub qN) {q:Pt V2} (hq:Good2 q) (a b:Nat):prV (p.mul a) (q.mul b)=prV p q ^ (a*b):=by
 rw [HZ hp (hq.mul b) a,HY hd hdn p hq b,<- aE,Nat.mul_comm]
end
end Go.Proofs.YtgpafcehehaiiaaGreat
set_option maxRecDepth 100000
namespace Go.Proofs.YtgpafcehehaiiaaGreat
section
variable {K : Type} [Fld K] [Crv K] {fc : K -> (K -> K × K × K) -> K × K × K} (h : ∀ a k, fc a k = k a) {gx gy : K} (hg : (Pt.aff gx gy).on) (e : List UInt64)
include h hg in
theorem abn:Pj (goP fc Crv.b gx gy e (64*e.length) 0 1 0).1 (goP fc Crv.b gx gy e (64*e.length) 0 1 0).2.1 (goP fc Crv.b gx gy e (64*e.length) 0 1 0).2.2 ((Pt.aff gx gy).mul (vZ e)):=by
 rw [FA h]
 exact mw (fun (s:K × K × K) p=>Pj s.1 s.2.1 s.2.2 p) (p:=Pt.aff gx gy) hg (tw:=fun s=>(rx Crv.b s.1 s.2.1 s.2.2 s.1 s.2.1 s.2.2,ry Crv.b s.1 s.2.1 s.2.2 s.1 s.2.1 s.2.2,rz Crv.b s.1 s.2.1 s.2.2 s.1 s.2.1 s.2.2)) (pl:=fun s=>(rx Crv.b s.1 s.2.1 s.2.2 gx gy 1,ry Crv.b s.1 s.2.1 s.2.2 gx gy 1,rz Crv.b s.1 s.2.1 s.2.2 gx gy 1))
  (fun hq k=>pQ hq hq k k) (fun hq k=>pQ hq hg k ⟨cL,(CR.mul_one _).symm,(CR.mul_one _).symm⟩) e (o:=((0:K),(1:K),(0:K))) ⟨rfl,rfl,cL⟩
include h hg in
theorem Sr (hz:(goP fc Crv.b gx gy e (64*e.length) 0 1 0).2.2 ≠ 0):(Pt.aff gx gy).mul (vZ e) ≠ .inf:=fun hi=>by
 have k:=abn h hg e
 rw [hi] at k
 exact hz k.2.1
include h hg in
theorem Sq {g i cx cy:K} (hgi:g*i=1) (hX:(goP fc Crv.b gx gy e (64*e.length) 0 1 0).1*(g*g)=cx*(goP fc Crv.b gx gy e (64*e.length) 0 1 0).2.2) (hY:(goP fc Crv.b gx gy e (64*e.length) 0 1 0).2.1*(g*g*g) = -cy*(goP fc Crv.b gx gy e (64*e.length) 0 1 0).2.2)
  (hZ:(goP fc Crv.b gx gy e (64*e.length) 0 1 0).2.2 ≠ 0):(Pt.aff gx gy).mul (vZ e) = .aff (cx*(i*i)) (-(cy*(i*i*i))):=by
 have k:=abn h hg e
 generalize (goP fc Crv.b gx gy e (64*e.length) 0 1 0)=s at *
 generalize (Pt.aff gx gy).mul (vZ e)=p at *
 cases p with
 | inf=>exact absurd k.2.1 hZ
 | aff x y =>
  obtain ⟨_,k1,k2⟩:=k
  rw [k1] at hX
  rw [k2] at hY
  have ex:x*(g*g)=cx:=gG hZ (by rw [<- hX];generalize s.2.2=z;clear hX hY hZ k1 k2 hgi h;grind)
  have ey:y*(g*g*g) = -cy:=gG hZ (by rw [<- hY];generalize s.2.2=z;clear hX hY hZ k1 k2 hgi h;grind)
  have fx:x=cx*(i*i):=by
   rw [<- ex]
   have:x*(g*g)*(i*i)=x*((g*i)*(g*i)):=by clear ex ey hX hY hZ k1 k2 hgi h;grind
   rw [this,hgi]
   clear ex ey hX hY hZ k1 k2 hgi this h
   grind
  have fy:y = -(cy*(i*i*i)):=by
   have e : -(cy*(i*i*i)) = -cy*(i*i*i):=by clear ex ey hX hY hZ k1 k2 hgi fx h;grind
   rw [e,<- ey]
   have:y*(g*g*g)*(i*i*i)=y*((g*i)*(g*i)*(g*i)):=by clear ex ey hX hY hZ k1 k2 hgi fx e h;grind
   rw [this,hgi]
   clear ex ey hX hY hZ k1 k2 hgi this fx e h
   grind
  rw [<- fx,<- fy]
end
def dX:V2:=⟨0,1⟩
def dY:V2:=⟨V1.of 2973677408986561043442465346520108879172042883009249989176415018091420807192182638567116318576472649347015917690530,V1.of 3086196438705319049925973437647385832154519810789273688466929354097832529895965677626713931657629044072635064607771⟩
theorem ae6:(Pt.aff dX dY).on:=V2.ext_nat (by
 show ((dY*dY).a).nat=(dX*dX*dX+bb2).a.nat
 decide +kernel) (by
 show ((dY*dY).b).nat=(dX*dX*dX+bb2).b.nat
 decide +kernel)
theorem V2.ne_nat {z:V2} (h:z.a.nat ≠ 0):z ≠ 0:=fun e=>h (by rw [e];exact V1.nat_zero)
theorem agn:(Pt.aff dX dY).mul qN ≠ .inf:=by
 rw [<- kf]
 exact Sr (fc:=qz) ij ae6 rLimbs.list (V2.ne_nat (by decide +kernel))
def K5 {K:Type} [CR K] (fc:K->(K->K)->K) (f:K) (e:Nat):Nat->K->K
 | 0,a=>a
 | n+1,a=>fc (a*a) fun b=>match e.testBit n with
  | true=>fc (b*f) fun c=>K5 fc f e n c
  | false=>K5 fc f e n b
theorem Ef {K:Type} [CR K] {fc:K->(K->K)->K} (h : ∀ a k,fc a k=k a) (f:K) (e:Nat) : ∀ (n:Nat) (a:K),K5 fc f e n a=a ^ 2 ^ n*f ^ (e % 2 ^ n)
 | 0,a=>by
  show a=a ^ 1*f ^ (e % 1)
  rw [Nat.mod_one,eI,bu]
  exact (CR.mul_one a).symm
 | n+1,a=>by
  have h2:(a*a) ^ 2 ^ n=a ^ 2 ^ (n+1):=by
   rw [Nat.pow_succ,Nat.mul_comm,aE]
   congr 1
   show a*a=a ^ (1+1)
   rw [aq,eI]
  have h3:e % 2 ^ (n+1)=e % 2 ^ n+2 ^ n*(e / 2 ^ n % 2):=Nat.mod_pow_succ
  simp only [K5,h]
  rw [Nat.testBit_eq_decide_div_mod_eq]
  rcases Nat.mod_two_eq_zero_or_one (e / 2 ^ n) with k | k
  ·rw [k] at h3
   simp only [Nat.mul_zero,Nat.add_zero] at h3
   rw [k,h3]
   show K5 fc f e n (a*a)=_
   rw [Ef h f e n,h2]
  ·rw [k] at h3
   rw [k,h3]
   show K5 fc f e n (a*a*f)=_
   rw [Ef h f e n,aY,h2,Nat.mul_one,cu]
   generalize a ^ 2 ^ (n+1)=u
   generalize f ^ 2 ^ n=v
   generalize f ^ (e % 2 ^ n)=w
   grind
theorem Ie {K:Type} [CR K] {fc:K->(K->K)->K} (h : ∀ a k,fc a k=k a) (f:K) {e n:Nat} (he:e<2 ^ n):K5 fc f e n 1=f ^ e:=by
 rw [Ef h,bq,Nat.mod_eq_of_lt he,CR.mul_comm]
 exact CR.mul_one _
def gC:V2:=⟨V1.of 3850754370037169011952147076051364057158807420970682438676050522613628423219637725072182697113062777891589506424760,V1.of 151655185184498381465642749684540099398075398968325446656007613510403227271200139370504932015952886146304766135027⟩
theorem ajV:gg=gC:=by
 unfold gg
 rw [<- Ie (fc:=qz) ij xi (e:=(pN-1) / 6) (n:=384) (by decide +kernel)]
 exact V2.ext_nat (by decide +kernel) (by decide +kernel)
theorem agV:vZ [15132376222941642752]=tN:=by decide +kernel
theorem ajU:gC*gi=1:=by rw [<- ajV];exact UV
theorem aeR:oneG2.pt.mul tN=(phi oneG2.pt).neg:=by
 rw [<- agV,yA]
 exact Sq (fc:=qz) ij ED [15132376222941642752] (cx:=oneG2.x.v.conj) (cy:=oneG2.y.v.conj) ajU (V2.ext_nat (by decide +kernel) (by decide +kernel)) (V2.ext_nat (by decide +kernel) (by decide +kernel)) (V2.ne_nat (by decide +kernel))
theorem gen2_good2:Good2 oneG2.pt:=⟨⟨gen2_good.2,Mn⟩,aeR⟩
abbrev R3:Type:=V12 × V2 × V2
def lnW (px py:V1) (l x y:V2):V12:=⟨⟨xi*Qd.of py,0,0⟩,⟨0,l*x-y, -(l*Qd.of px)⟩⟩
theorem ahR (px py:V1) (l x y:V2):lnW px py l x y=lnV px py l (y-l*x)*(ww*ww*ww):=by
 have h:lnW px py l x y=e6 ⟨xi*Qd.of py,0,0⟩+e6 ⟨0,l*x-y, -(l*Qd.of px)⟩*ww:=xf _
 rw [h,kX,kX]
 show e2 (xi*Qd.of py)+e2 0*_+e2 0*_+(e2 0+e2 (l*x-y)*_+e2 (-(l*Qd.of px))*_)*ww=_
 unfold lnV pX pY
 rw [aeZ,bw xi,<- vy,abC,abC,n4,bw l x,bw l (Qd.of px)]
 generalize ww=w
 grind
theorem abF (px py:V1) (l x y:V2):cd (lnW px py l x y)=cd (lnV px py l (y-l*x)):=by
 rw [ahR,jD,aiu]
 exact CR.mul_one _
def DP (x y:V2):V2:=(x*x+x*x+x*x)*Fld.inv (y+y)
def EM (qx qy x y:V2):V2:=(qy-y)*Fld.inv (qx-x)
def onX (l x z:V2):V2:=l*l-x-z
def onY (l x y z:V2):V2:=l*(x-z)-y
def akn (px py:V1) (l:V2) (s:R3):R3:=(s.1*s.1*lnW px py l s.2.1 s.2.2,onX l s.2.1 s.2.1,onY l s.2.1 s.2.2 (onX l s.2.1 s.2.1))
def Ob (px py:V1) (s:R3):R3:=akn px py (DP s.2.1 s.2.2) s
def akB (px py:V1) (qx l:V2) (s:R3):R3:=(s.1*lnW px py l s.2.1 s.2.2,onX l s.2.1 qx,onY l s.2.1 s.2.2 (onX l s.2.1 qx))
def abQ (px py:V1) (qx qy:V2) (s:R3):R3:=akB px py qx (EM qx qy s.2.1 s.2.2) s
theorem Nb (px py:V1) (f:V12) (x y:V2):Ob px py (f,x,y)=(f*f*lnW px py (DP x y) x y,onX (DP x y) x x,onY (DP x y) x y (onX (DP x y) x x)):=by simp only [Ob,akn]
theorem ER (px py:V1) (qx qy:V2) (f:V12) (x y:V2):abQ px py qx qy (f,x,y)=(f*lnW px py (EM qx qy x y) x y,onX (EM qx qy x y) x qx,onY (EM qx qy x y) x y (onX (EM qx qy x y) x qx)):=by simp only [abQ,akB]
def mlV (px py:V1) (qx qy:V2):Nat->R3->R3
 | 0,s=>s
 | n+1,s=>match tN.testBit n with
  | true=>mlV px py qx qy n (abQ px py qx qy (Ob px py s))
  | false=>mlV px py qx qy n (Ob px py s)
structure MlOk (px py : V1) (h : PtOk px py) (q : Pt V2) (j : Nat) (s : R3) : Prop where
 j1:0<j
 pt:q.mul j = .aff s.2.1 s.2.2
 val:cd s.1=(cY px py h).f q j
open Classical in
theorem agB {px py:V1} {h:PtOk px py} {x y u w:V2} (hn : ¬ (x=u/\y = -w)):(cY px py h).c (.aff x y) (.aff u w)=cd (lnV px py (dd x y u w) (y-dd x y u w*x)):=by
 unfold Lv.c
 simp only
 rw [if_neg hn]
 exact agz _ _ _ _ _
theorem P8 {K M:Type} [Fld K] [Crv K] [CR M] (v:Lv K M) (q:Pt K) (n:Nat):v.f q (n+1)=v.f q n*v.c (q.mul n) q:=rfl
theorem BD (x y:V2):DP x y=dd x y x y:=by
 unfold DP dd
 rw [if_pos rfl,show y+y=2*y by grind,show x*x+x*x+x*x=3*x*x by grind]
section
variable {d : Pt V2} (hd : d.on) (hdn : d.mul qN ≠ .inf)
include hd hdn in
theorem MlOk.two {px py:V1} {h:PtOk px py} {q:Pt V2} {j:Nat} {s:R3} (k:MlOk px py h q j s) (hq:q.sub qN):MlOk px py h q (j+j) (Ob px py s):=by
 obtain ⟨f,x,y⟩:=s
 obtain ⟨k1,k2,k3⟩:=k
 have k2:q.mul j = .aff x y:=k2
 have k3:cd f=(cY px py h).f q j:=k3
 have ho:(Pt.aff x y).on:=by rw [<- k2];exact ci hq.1 j
 rw [Nb]
 have hn : ¬ (x=x/\y = -y):=fun e=>jP ho e.2
 refine ⟨by omega,?_,?_⟩
 ·rw [cW hq.1,k2]
  show (Pt.aff x y).add (.aff x y)=_
  rw [lM,if_neg hn,<- BD]
  rfl
 ·rw [Lv.f_add (cY px py h) hd hdn hq,k2,<- k3]
  have hc:(cY px py h).c (.aff x y) (.aff x y)=cd (lnV px py (DP x y) (y-DP x y*x)):=by
   rw [BD]
   exact agB hn
  rw [hc]
  simp only []
  rw [jD,jD,abF]
end
theorem MlOk.add {px py:V1} {h:PtOk px py} {qx qy:V2} {j:Nat} {s:R3} (k:MlOk px py h (.aff qx qy) j s) (hq:(Pt.aff qx qy).sub qN) (h1:1<j) (h2:j+1<qN):MlOk px py h (.aff qx qy) (j+1) (abQ px py qx qy s):=by
 obtain ⟨f,x,y⟩:=s
 obtain ⟨k1,k2,k3⟩:=k
 have k2:(Pt.aff qx qy).mul j = .aff x y:=k2
 have k3:cd f=(cY px py h).f (.aff qx qy) j:=k3
 have hi:Pt.aff qx qy ≠ .inf:=fun e=>by cases e
 have ho:(Pt.aff x y).on:=by rw [<- k2];exact ci hq.1 j
 have hx:x ≠ qx:=fun e=>by
  subst e
  rcases k7 ho hq.1 with e | e
  ·rw [e] at k2
   obtain ⟨m,rfl⟩ : ∃ m,j=m+1:=⟨j-1,by omega⟩
   have c:=iU hq.1 (ci hq.1 m)
   rw [aB hq.1 (ci hq.1 m),<- aJ,k2,bE hq.1] at c
   exact iw hq.1 hi hq.2 (k:=m) (by omega) (by omega) c.symm
  ·have c:(Pt.aff x qy).mul (j+1) = .inf:=by
    rw [aJ,k2,e,aB ho (b8 ho),bE ho]
   exact iw hq.1 hi hq.2 (k:=j+1) (by omega) h2 c
 have hn : ¬ (x=qx/\y = -qy):=fun e=>hx e.1
 have hs:EM qx qy x y=dd x y qx qy:=by
  unfold EM dd
  rw [if_neg hx]
 rw [ER]
 refine ⟨by omega,?_,?_⟩
 ·rw [aJ,k2,lM,if_neg hn,<- hs]
  rfl
 ·rw [P8]
  have hc:(cY px py h).c (.aff x y) (.aff qx qy)=cd (lnV px py (EM qx qy x y) (y-EM qx qy x y*x)):=by
   rw [hs]
   exact agB hn
  rw [k2,hc,<- k3]
  simp only []
  rw [jD,abF]
theorem afV:tN<qN:=by decide +kernel
section
variable {d : Pt V2} (hd : d.on) (hdn : d.mul qN ≠ .inf)
include hd hdn in
theorem Nu {px py:V1} {h:PtOk px py} {qx qy:V2} (hq:(Pt.aff qx qy).sub qN) : ∀ (n:Nat) (s:R3),MlOk px py h (.aff qx qy) (tN / 2 ^ n) s->MlOk px py h (.aff qx qy) tN (mlV px py qx qy n s)
 | 0,s,k=>by
  rw [Nat.pow_zero,Nat.div_one] at k
  exact k
 | n+1,s,k=>by
  have hb:=Nat.testBit_eq_decide_div_mod_eq (i:=n) (x:=tN)
  have hj:tN / 2 ^ (n+1)=tN / 2 ^ n / 2:=by rw [Nat.pow_succ,Nat.div_div_eq_div_mul]
  have hle:tN / 2 ^ n<=tN:=Nat.div_le_self _ _
  have hlt:=afV
  have k1:=k.two hd hdn hq
  have j1:=k.j1
  unfold mlV
  rw [hb]
  rw [hj] at k1 j1
  clear hb hj
  generalize hm:tN / 2 ^ n=m at *
  rcases Nat.mod_two_eq_zero_or_one m with e | e
  ·rw [e]
   show MlOk _ _ _ _ _ (mlV px py qx qy n (Ob px py s))
   refine Nu hq n _ ?_
   rw [hm,show m=m / 2+m / 2 by omega]
   exact k1
  ·rw [e]
   show MlOk _ _ _ _ _ (mlV px py qx qy n (abQ px py qx qy (Ob px py s)))
   refine Nu hq n _ ?_
   rw [hm,show m=m / 2+m / 2+1 by omega]
   exact k1.add hq (by omega) (by omega)
include hd hdn in
theorem aaF {px py:V1} (h:PtOk px py) {qx qy:V2} (hq:(Pt.aff qx qy).sub qN):prV (.aff px py) (.aff qx qy)=cd (mlV px py qx qy 63 (1,qx,qy)).1:=by
 rw [nL h]
 have k:MlOk px py h (.aff qx qy) (tN / 2 ^ 63) (1,qx,qy):=by
  rw [show tN / 2 ^ 63=1 by decide +kernel]
  exact ⟨Nat.one_pos,eT _,by
   show cd 1=(1:V12)*(cY px py h).c .inf _
   rw [NQ,Lv.c_inf]
   exact (CR.mul_one _).symm⟩
 exact (Nu hd hdn hq 63 _ k).val.symm
end
def CA {α:Type} (a:V12) (k:V12->α):α:=qz a.a.a fun x0=>qz a.a.b fun x1=>qz a.a.c fun x2=>qz a.b.a fun x3=>qz a.b.b fun x4=>qz a.b.c fun x5=>k ⟨⟨x0,x1,x2⟩,⟨x3,x4,x5⟩⟩
theorem EF {α:Type} (a:V12) (k:V12->α):CA a k=k a:=by
 unfold CA
 rw [ij,ij,ij,ij,ij,ij]
def mlE (px py:V1) (qx qy:V2):Nat->V12->V2->V2->V12
 | 0,f,_,_=>f
 | n+1,f,x,y=>qz (Fld.inv (y+y)) fun i=>qz ((x*x+x*x+x*x)*i) fun l=>CA (f*f) fun f2=>CA (f2*lnW px py l x y) fun f3=>qz (onX l x x) fun x'=>qz (onY l x y x') fun y'=>match tN.testBit n with
  | true=>qz (Fld.inv (qx-x')) fun i=>qz ((qy-y')*i) fun l=>CA (f3*lnW px py l x' y') fun f4=>qz (onX l x' qx) fun x''=>qz (onY l x' y' x'') fun y''=>mlE px py qx qy n f4 x'' y''
  | false=>mlE px py qx qy n f3 x' y'
theorem Nv (px py:V1) (qx qy:V2) : ∀ (n:Nat) (f:V12) (x y:V2),mlE px py qx qy n f x y=(mlV px py qx qy n (f,x,y)).1
 | 0,f,x,y=>rfl
 | n+1,f,x,y=>by
  simp only [mlE,mlV,ij,EF,Nb,ER,DP,EM]
  cases tN.testBit n with
  | true=>exact Nv px py qx qy n _ _ _
  | false=>exact Nv px py qx qy n _ _ _
theorem Zr {f:V12} (h0:f ≠ 0) (h:cd f=1):(f ^ kN).b=0:=by
 unfold cd eN at h
 rw [Nat.mul_comm,aE] at h
 have e:(f ^ kN) ^ (pN ^ 6)=f ^ kN:=by
  conv=>lhs;rw [Eh]
  rw [aq,h,CR.mul_comm]
  exact CR.mul_one _
 rw [V12.p6] at e
 have e2 : -(f ^ kN).b=(f ^ kN).b:=congrArg Qd.b e
 generalize (f ^ kN).b=z at *
 have h2:(2:V6)*z=0:=by grind
 rcases aD h2 with k | k
 ·exact absurd (congrArg (fun z:V6=>z.a) k) fun k=>V2.two_ne (by
   have:(2:V6).a=2:=by
    rw [show (2:V6)=1+1 by grind]
    show (1:V2)+1=2
    grind
   rw [<- this]
   exact k)
 ·exact k
theorem XR {d:Pt V2} (hd:d.on) (hdn:d.mul qN ≠ .inf) {px py:V1} {qx qy:V2} (o1:PtOk px py) (s2:(Pt.aff qx qy).sub qN) (h0:(CA (mlE px py qx qy 63 1 qx qy) fun f=>f).a.a ≠ 0)
  (hk:kN<2 ^ 2048) (h1:(CA (mlE px py qx qy 63 1 qx qy) fun f=>K5 CA f kN 2048 1).b ≠ 0):prV (.aff px py) (.aff qx qy) ≠ 1:=fun h=>by
 rw [aaF hd hdn o1 s2,<- Nv] at h
 rw [EF] at h0 h1
 rw [Ie (fc:=CA) EF _ hk] at h1
 generalize mlE px py qx qy 63 1 qx qy=f at *
 exact h1 (Zr (fun e=>h0 (by rw [e];rfl)) h)
theorem ajK:kN<2 ^ 2048:=by decide +kernel
theorem ajW:PtOk oneG1.x.v oneG1.y.v:=oM (by rw [<- yC];exact ⟨gen1_good.2,iE⟩)
theorem aie:(Pt.aff oneG2.x.v oneG2.y.v).sub qN:=by rw [<- yA];exact gen2_good2.sub
theorem V6.ne_nat {z:V6} (h:z.a.a.nat ≠ 0):z ≠ 0:=fun e=>h (by rw [e];exact V1.nat_zero)
theorem ahH:(CA (mlE oneG1.x.v oneG1.y.v oneG2.x.v oneG2.y.v 63 1 oneG2.x.v oneG2.y.v) fun f=>f).a.a ≠ 0:=V2.ne_nat (by decide +kernel)
theorem ahG:(CA (mlE oneG1.x.v oneG1.y.v oneG2.x.v oneG2.y.v 63 1 oneG2.x.v oneG2.y.v) fun f=>K5 CA f kN 2048 1).b ≠ 0:=V6.ne_nat (by decide +kernel)
theorem aic:prV oneG1.pt oneG2.pt ≠ 1:=by
 rw [yC,yA]
 exact XR ae6 agn ajW aie ahH ajK ahG
end Go.Proofs.YtgpafcehehaiiaaGreat
