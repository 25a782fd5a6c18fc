/- Texts of the proof, joined. -/
import Derived.Test.YtcbplfkeeaecgaaGreatZG6
set_option linter.unusedSectionVars false
set_option linter.unusedSimpArgs false
set_option linter.unusedVariables false
namespace Go.Proofs.YtcbplfkeeaecgaaGreat
open Go.RowKit
set_option maxRecDepth 100000
section
section
variable {o2 : Pg2} {m2 : Pg2 -> Fr -> Pg2} {oF : UInt64 -> Fr} {o1 : Pg1} {m1 : Pg1 -> Fr -> Pg1} {mF : Fr -> Fr -> Fr}
theorem ad7 (hE:EnvOk (mkE o2 m2 oF o1 m1 mF)) (x:Fr) (n:Nat) (hn:n<65536):DoesL (mkE o2 m2 oF o1 m1 mF) (mkC.drop 2) (aj3 x n)
  (EndsAs (mkE o2 m2 oF o1 m1 mF) Tryz.f9 (bI oMk ((p5 (oF 1) (m1 o1) mF x n,m2 o2 x),0))):=by
 have st:=X3 o2 m2 oF o1 m1 mF x n
 generalize m2 o2 x=t at *
 refine DoesL.stageN hE 100 3 _ _ _ _ _ _ st ?_
 refine (?_:DoesL _ _ (mkS x (ua (oF 1) mF x 0) t n ((0:Nat):Int) 0 (p5 (oF 1) (m1 o1) mF x 0)) _)
 refine DoesL.blockLoop (B:=bk Tryz.f9 0) (rest:=mkC.drop 6) (id:=1) (by kernel_rfl) (fun j : { j:Nat // j<=n }=>mkS x (ua (oF 1) mF x j.1) t n (j.1:Int) j.1 (p5 (oF 1) (m1 o1) mF x j.1)) (fun j=>n-j.1) ⟨0,Nat.zero_le _⟩ fun j => ?_
 obtain ⟨j,hj⟩:=j
 refine (?_:Does _ _ (mkS x (ua (oF 1) mF x j) t n (j:Int) j (p5 (oF 1) (m1 o1) mF x j)) _)
 have hlen:=yc (oF 1) (m1 o1) mF x j
 refine Does.roundP hE 300 _ (X4 o2 m2 oF o1 m1 mF x (ua (oF 1) mF x j) t n (j:Int) j (p5 (oF 1) (m1 o1) mF x j)) ⟨fun h => ?_,fun h => ?_⟩
 ·simp only [decide_eq_true_eq] at h
  refine ⟨⟨⟨by rw [jR,hlen];omega,rfl⟩,by omega,by omega⟩,fun _ => ?_⟩
  refine ⟨⟨j+1,by omega⟩,by show n-(j+1)<n-j;omega,?_⟩
  rw [Uw j (by omega),pI hlen]
  show _=mkS x (ua (oF 1) mF x (j+1)) t n ((j+1:Nat):Int) (j+1) (p5 (oF 1) (m1 o1) mF x (j+1))
  rw [Rz,ta (oF 1) mF x j]
  rfl
 ·simp only [decide_eq_false_iff_not] at h
  obtain rfl:j=n:=by omega
  refine ⟨rfl,DoesL.ends hE 100 (ahs o2 m2 oF o1 m1 mF x _ t _ _ _ _) ?_⟩
  rw [List.take_of_length_le (Nat.le_of_eq hlen)]
  exact ⟨_,rfl,Nat.le_of_eq hlen.symm⟩
end
def mkG (o2:Pg2) (m2:Pg2->Fr->Pg2) (oF:UInt64->Fr) (o1:Pg1) (m1:Pg1->Fr->Pg1) (mF:Fr->Fr->Fr) (x:Fr) (n:Int):(List Pg1 × Pg2) × Int :=
 match decide (n<2) with
 | true=>(([],gn),1)
 | false=>match decide (n > 80) with
  | true=>(([],gn),1)
  | false=>match eE x frZ with
   | true=>(([],gn),7)
   | false=>((p5 (oF 1) (m1 o1) mF x n.toNat,m2 o2 x),0)
def qh (x:Fr) (n:Int):(List Pg1 × Pg2) × Int:=mkG oneG2 rK zt oneG1 rM k6 x n
theorem ad8 {o2:Pg2} {m2:Pg2->Fr->Pg2} {oF:UInt64->Fr} {o1:Pg1} {m1:Pg1->Fr->Pg1} {mF:Fr->Fr->Fr} (hE:EnvOk (mkE o2 m2 oF o1 m1 mF)) (x:Fr) (n:Int):DoesL (mkE o2 m2 oF o1 m1 mF) (flat (af Tryz.f9)) (ah Tryz.f9 [v4 x,vI n] [])
  (EndsAs (mkE o2 m2 oF o1 m1 mF) Tryz.f9 (bI oMk (mkG o2 m2 oF o1 m1 mF x n))):=by
 refine DoesL.seg hE 300 2 _ _ _ _ _ (ahr o2 m2 oF o1 m1 mF x n) ⟨fun h => ?_,fun h=>⟨fun h2 => ?_,fun h2=>⟨fun h3 => ?_,fun h3 => ?_⟩⟩⟩
 ·exact ⟨.t,by unfold mkG;rw [h];rfl,trivial⟩
 ·exact ⟨.t,by unfold mkG;rw [h,h2];rfl,trivial⟩
 ·exact ⟨.t,by unfold mkG;rw [h,h2,show eE x frZ=true from h3];rfl,trivial⟩
 ·have e:mkG o2 m2 oF o1 m1 mF x n=((p5 (oF 1) (m1 o1) mF x n.toNat,m2 o2 x),0):=by unfold mkG;rw [h,h2,show eE x frZ=false from h3]
  rw [e]
  simp only [decide_eq_false_iff_not] at h h2
  obtain ⟨m,rfl⟩ : ∃ m:Nat,n=(m:Int):=⟨n.toNat,by omega⟩
  exact ad7 hE x m (by omega)
theorem Yd:CallOk Tryz.prog 9 (K2 (aa Fr).arg kInt.arg oMk.res qh) :=
 G2 (E:=mkE oneG2 rK zt oneG1 rM k6) Tryz.func9 (c:=af Tryz.f9) (by kernel_rfl) (ac Tryz.func9 (by kernel_rfl) (by kernel_rfl)) (aa Fr).inp kInt.inp oMk qh fun x n _ _ =>
  ad8 (ag (.cons Hj (.cons XO (.cons adJ (.cons Hk (.cons XP (.cons XM .nil))))))) x n
def sdL (i1:Pg1->Bool):List Pg1->Bool->Option Bool
 | [],b=>some b
 | x :: l,b=>match !(i1 x) with
  | true=>none
  | false=>sdL i1 l (match b with | true=>true | false=>x.inf)
theorem lq (i1:Pg1->Bool) (x:Pg1) (l:List Pg1) (b:Bool):sdL i1 (x :: l) b=match !(i1 x) with
  | true=>none
  | false=>sdL i1 l (match b with | true=>true | false=>x.inf):=rfl
def sdK (x b:Bool):Int:=match x with
 | true=>6
 | false=>match b with
  | true=>7
  | false=>0
def sdG (i1:Pg1->Bool) (i2:Pg2->Bool) (p:List Pg1 × Pg2):Int :=
 match sdL i1 p.1 p.2.inf with
 | none=>6
 | some b=>sdK (!(i2 p.2)) b
theorem DQ {i1:Pg1->Bool} {i2:Pg2->Bool} {p:List Pg1 × Pg2} {b:Bool} (h:sdL i1 p.1 p.2.inf=some b):sdG i1 i2 p=sdK (!(i2 p.2)) b:=by
 unfold sdG
 rw [h]
def mI (p:List Pg1 × Pg2):Int:=sdG j5 mv p
abbrev SdQ (i1:Pg1->Bool) (p:List Pg1 × Pg2):Type := { q:Nat × Bool // q.1<=p.1.length/\sdL i1 p.1 p.2.inf=sdL i1 (p.1.drop q.1) q.2 }
theorem acI {i1:Pg1->Bool} {i2:Pg2->Bool} (hE:EnvOk (sdE i1 i2)) (p:List Pg1 × Pg2) (hl:p.1.length<1125899906842624):DoesL (sdE i1 i2) (flat (af Tryz.f32)) (ah Tryz.f32 [pwV 0 p] [k9 .g1 p.1])
  (EndsAs (sdE i1 i2) Tryz.f32 (bI oI (sdG i1 i2 p))):=by
 refine DoesL.stageG hE 100 3 _ _ _ _ _ (VP i1 i2 p) ⟨eO p.1,fun _ => ?_⟩
 refine (?_:DoesL _ _ (sdS p p.2.inf ((0:Nat):Int)) _)
 refine DoesL.blockLoopR (B:=bk Tryz.f32 0) (rest:=sdC.drop 4) (id:=0) (by kernel_rfl) (fun i:SdQ i1 p=>sdS p i.1.2 (i.1.1:Int)) (fun i=>p.1.length-i.1.1) ⟨(0,p.2.inf),Nat.zero_le _,rfl⟩ fun s => ?_
 obtain ⟨⟨i,b⟩,h0,h1⟩:=s
 have h0:i<=p.1.length:=h0
 have h1:sdL i1 p.1 p.2.inf=sdL i1 (p.1.drop i) b:=h1
 refine (?_:DoesL _ _ (sdS p b (i:Int)) _)
 refine DoesL.iterL hE 300 _ _ _ _ (VQ i1 i2 p b (i:Int)) ⟨fun h => ?_,fun h => ?_⟩
 ·simp only [decide_eq_true_eq] at h
  have hi:i<p.1.length:=by omega
  have hw:IntKind.i64.wrap ((i:Int)+1)=((i+1:Nat):Int):=(IntWalk.i64_in _ (by omega)).trans (by omega)
  refine ⟨mn hi,fun _=>⟨ab3 hi,fun _=>⟨fun h2 => ?_,fun h2 => ?_⟩⟩⟩
  ·rw [up] at h2
   rw [dT p.1 hi cS,lq,h2] at h1
   have h1:sdL i1 p.1 p.2.inf=none:=h1
   exact ⟨.t,by unfold sdG;rw [h1],trivial⟩
  ·rw [up] at h2
   rw [dT p.1 hi cS,lq,h2] at h1
   rw [up,hw]
   refine ⟨fun h3 => ?_,fun h3 => ?_⟩
   ·have h3:b=true:=h3
    subst h3
    exact ⟨⟨(i+1,true),hi,h1⟩,by show p.1.length-(i+1)<p.1.length-i;omega,rfl⟩
   ·have h3:b=false:=h3
    subst h3
    exact ⟨⟨(i+1,(p.1.getD i cS).inf),hi,h1⟩,by show p.1.length-(i+1)<p.1.length-i;omega,rfl⟩
 ·simp only [decide_eq_false_iff_not] at h
  obtain rfl:i=p.1.length:=by omega
  rw [List.drop_length] at h1
  have h1:sdL i1 p.1 p.2.inf=some b:=h1
  refine ⟨rfl,DoesL.ends hE 100 (agO i1 i2 p b _) ⟨fun h2 => ?_,fun h2=>⟨fun h3 => ?_,fun h3 => ?_⟩⟩⟩
  ·exact ⟨.t,by rw [DQ h1,h2];rfl,trivial⟩
  ·exact ⟨.t,by rw [DQ h1,h2,show b=true from h3];rfl,trivial⟩
  ·exact ⟨.t,by rw [DQ h1,h2,show b=false from h3];rfl,trivial⟩
theorem Qu:CallOk Tryz.prog 32 (K1 zR kInt.rs.res mI) :=
 G1 (E:=sdE j5 mv) Tryz.func32 (c:=af Tryz.f32) (by kernel_rfl) (ac Tryz.func32 (by kernel_rfl) (by kernel_rfl)) aeu oI mI fun p hp =>
  acI (ag (.cons Dq (.cons Dp .nil))) p hp.1
def wa (o2:Pg2) (nF:Pg1->Pg1) (cF:List Duo->Bool) (t:Pg2):List Pg1->Bool
 | a :: b :: l=>match !(cF [⟨b,o2⟩,⟨nF a,t⟩]) with
  | true=>false
  | false=>wa o2 nF cF t (b :: l)
 | _=>true
theorem sY (o2:Pg2) (nF:Pg1->Pg1) (cF:List Duo->Bool) (t:Pg2) (a b:Pg1) (l:List Pg1):wa o2 nF cF t (a :: b :: l)=match !(cF [⟨b,o2⟩,⟨nF a,t⟩]) with
  | true=>false
  | false=>wa o2 nF cF t (b :: l):=rfl
def u4 (sF:List Pg1 × Pg2->Int) (o1:Pg1) (eF:Pg1->Pg1->Bool) (o2:Pg2) (nF:Pg1->Pg1) (cF:List Duo->Bool) (p:List Pg1 × Pg2):Int :=
 match decide ((p.1.length:Int)<2) with
 | true=>1
 | false=>match decide ((p.1.length:Int) > 80) with
  | true=>1
  | false=>match sF p != 0 with
   | true=>sF p
   | false=>match !(eF (p.1.getD 0 cS) o1) with
    | true=>9
    | false=>match wa o2 nF cF p.2 p.1 with
     | true=>0
     | false=>9
def bU (p:List Pg1 × Pg2):Int:=u4 mI oneG1 OT oneG2 fB iP p
theorem aaa (p:List Pg1 × Pg2):(List.take p.1.length (List.drop 0 p.1),p.2)=p:=by rw [vr]
theorem aiX {p:List Pg1 × Pg2} (h:few p.1):(0+p.fst.length*13<=(ao RK.g1 p.fst).length/\0=0/\p.fst.length<1125899906842624/\0=0/\13=13)/\Lp (List.take p.fst.length (List.drop 0 p.fst),p.snd):=DI h
abbrev akA (o2:Pg2) (nF:Pg1->Pg1) (cF:List Duo->Bool) (p:List Pg1 × Pg2):Type := { i:Nat // i<p.1.length/\wa o2 nF cF p.2 p.1=wa o2 nF cF p.2 (p.1.drop i) }
theorem VU {sF:List Pg1 × Pg2->Int} {o1:Pg1} {eF:Pg1->Pg1->Bool} {o2:Pg2} {nF:Pg1->Pg1} {cF:List Duo->Bool} (hE:EnvOk (UT sF o1 eF o2 nF cF)) (p:List Pg1 × Pg2) (hl:few p.1):DoesL (UT sF o1 eF o2 nF cF) (flat (af Tryz.f11)) (ah Tryz.f11 [pwV 0 p] [k9 .g1 p.1])
  (EndsAs (UT sF o1 eF o2 nF cF) Tryz.f11 (bI oI (u4 sF o1 eF o2 nF cF p))):=by
 refine DoesL.seg hE 300 9 _ _ _ _ _ (Qw sF o1 eF o2 nF cF p) ⟨eO p.1,fun _=>⟨fun h => ?_,fun h=>⟨eO p.1,fun _=>⟨fun h2 => ?_,fun h2=>⟨aiX hl,fun _ => ?_⟩⟩⟩⟩⟩
 ·exact ⟨.t,by unfold u4;rw [h],trivial⟩
 ·exact ⟨.t,by unfold u4;rw [h,h2],trivial⟩
 ·rw [aaa]
  have h2':=h2
  have h':=h
  simp only [decide_eq_false_iff_not] at h' h2'
  have h0:0<p.1.length:=by omega
  refine ⟨fun h3 => ?_,fun h3=>⟨⟨h0,(eO p.1).1,by decide,rfl⟩,fun _=>⟨h0,fun _=>⟨fun h4 => ?_,fun h4 => ?_⟩⟩⟩⟩
  ·exact ⟨.t,by unfold u4;rw [h,h2,h3],trivial⟩
  ·exact ⟨.t,by unfold u4;rw [h,h2,h3,h4],trivial⟩
  ·have e:u4 sF o1 eF o2 nF cF p=match wa o2 nF cF p.2 p.1 with | true=>0 | false=>9:=by unfold u4;rw [h,h2,h3,h4]
   rw [e]
   refine (?_:DoesL _ _ (acK p ((0+1:Nat):Int)) _)
   refine DoesL.blockLoopR (B:=bk Tryz.f11 0) (rest:=sckC.drop 10) (id:=0) (by kernel_rfl) (fun i:akA o2 nF cF p=>acK p ((i.1+1:Nat):Int)) (fun i=>p.1.length-i.1) ⟨0,h0,rfl⟩ fun s => ?_
   obtain ⟨i,k0,k1⟩:=s
   refine (?_:DoesL _ _ (acK p ((i+1:Nat):Int)) _)
   refine DoesL.iter hE 300 _ _ (Qx sF o1 eF o2 nF cF p ((i+1:Nat):Int)) ⟨eO p.1,fun _=>⟨fun q => ?_,fun q => ?_⟩⟩
   ·simp only [decide_eq_true_eq] at q
    have hi:i+1<p.1.length:=by omega
    have hw:IntKind.i64.wrap (((i+1:Nat):Int)+1)=((i+1+1:Nat):Int):=(IntWalk.i64_in _ (by omega)).trans (by omega)
    have hw2:IntKind.i64.wrap (((i+1:Nat):Int)-1)=((i:Nat):Int):=(IntWalk.i64_in _ (by omega)).trans (by omega)
    rw [hw2,hw,up,up]
    rw [dT p.1 k0 cS,dT p.1 hi cS,sY] at k1
    refine ⟨mn hi,fun _=>⟨hi,fun _=>⟨mn k0,fun _=>⟨k0,fun _=>⟨fun q2 => ?_,fun q2 => ?_⟩⟩⟩⟩⟩
    ·rw [q2] at k1
     have k1:wa o2 nF cF p.2 p.1=false:=k1
     exact ⟨.t,by rw [k1],trivial⟩
    ·rw [q2] at k1
     exact ⟨⟨i+1,hi,by rw [k1,dT p.1 hi cS]⟩,by show p.1.length-(i+1)<p.1.length-i;omega,rfl⟩
   ·simp only [decide_eq_false_iff_not] at q
    have hi:i+1=p.1.length:=by omega
    rw [dT p.1 k0 cS,hi,List.drop_length] at k1
    have k1:wa o2 nF cF p.2 p.1=true:=k1
    refine ⟨rfl,DoesL.ends hE 100 (acJ sF o1 eF o2 nF cF p _) ?_⟩
    exact ⟨.t,by rw [k1],trivial⟩
theorem tH:CallOk Tryz.prog 11 (K1 zR kInt.rs.res bU) :=
 G1 (E:=UT mI oneG1 OT oneG2 fB iP) Tryz.func11 (c:=af Tryz.f11) (by kernel_rfl) (ac Tryz.func11 (by kernel_rfl) (by kernel_rfl)) aeu oI bU fun p hp =>
  VU (ag (.cons Qu (.cons Hk (.cons aeF (.cons Hj (.cons Hr (.cons JT .nil))))))) p hp.2
def smL:List Pg1->List Pg1->Bool
 | a :: l,b :: m=>match !(mL a b) with
  | true=>false
  | false=>smL l m
 | _,_=>true
theorem GD (a b:Pg1) (l m:List Pg1):smL (a :: l) (b :: m)=match !(mL a b) with
  | true=>false
  | false=>smL l m:=rfl
def mJ (p q:List Pg1 × Pg2):Bool :=
 match (p.1.length:Int) != (q.1.length:Int) with
 | true=>false
 | false=>match !(uw p.2 q.2) with
  | true=>false
  | false=>smL p.1 q.1
abbrev SmQ (p q:List Pg1 × Pg2):Type := { i:Nat // i<=p.1.length/\smL p.1 q.1=smL (p.1.drop i) (q.1.drop i) }
theorem V4:CallOk Tryz.prog 10 (K2 zR zR kBool.rs.res mJ) :=
 G2 (E:=En []) Tryz.func10 (c:=af Tryz.f10) (by kernel_rfl) (ac Tryz.func10 (by kernel_rfl) (by kernel_rfl)) aeu aeu oB mJ fun p q hp hq=>by
  have hE:EnvOk (En []):=ag .nil
  have hl:p.1.length<1125899906842624:=hp.1
  refine DoesL.seg hE 300 4 _ _ _ _ _ (Qq p q) ⟨eO p.1,fun _=>⟨eO q.1,fun _=>⟨fun h => ?_,fun h=>⟨fun h2 => ?_,fun h2 => ?_⟩⟩⟩⟩
  ·exact ⟨.t,by unfold mJ;rw [h],trivial⟩
  ·exact ⟨.t,by unfold mJ;rw [h,h2],trivial⟩
  ·have e:mJ p q=smL p.1 q.1:=by unfold mJ;rw [h,h2]
   rw [e]
   have hlen:p.1.length=q.1.length:=by
    simp only [bne_eq_false_iff_eq] at h
    omega
   refine (?_:DoesL _ _ (acC p q ((0:Nat):Int)) _)
   refine DoesL.blockLoopR (B:=bk Tryz.f10 0) (rest:=smeC.drop 5) (id:=0) (by kernel_rfl) (fun i:SmQ p q=>acC p q (i.1:Int)) (fun i=>p.1.length-i.1) ⟨0,Nat.zero_le _,rfl⟩ fun s => ?_
   obtain ⟨i,k0,k1⟩:=s
   refine (?_:DoesL _ _ (acC p q (i:Int)) _)
   refine DoesL.iter hE 300 _ _ (Qr p q (i:Int)) ⟨eO p.1,fun _=>⟨fun z => ?_,fun z => ?_⟩⟩
   ·simp only [decide_eq_true_eq] at z
    have hi:i<p.1.length:=by omega
    have hj:i<q.1.length:=by omega
    have hw:IntKind.i64.wrap ((i:Int)+1)=((i+1:Nat):Int):=(IntWalk.i64_in _ (by omega)).trans (by omega)
    rw [up,hw]
    rw [dT p.1 hi cS,dT q.1 hj cS,GD] at k1
    refine ⟨mn hi,fun _=>⟨hi,fun _=>⟨mn hj,fun _=>⟨hj,fun _=>⟨fun z2 => ?_,fun z2 => ?_⟩⟩⟩⟩⟩
    ·rw [z2] at k1
     have k1:smL p.1 q.1=false:=k1
     exact ⟨.t,by rw [k1],trivial⟩
    ·rw [z2] at k1
     exact ⟨⟨i+1,hi,k1⟩,by show p.1.length-(i+1)<p.1.length-i;omega,rfl⟩
   ·simp only [decide_eq_false_iff_not] at z
    obtain rfl:i=p.1.length:=by omega
    rw [List.drop_length] at k1
    have k1:smL p.1 q.1=true:=k1
    refine ⟨rfl,DoesL.ends hE 100 (acB p q _) ?_⟩
    exact ⟨.t,by rw [k1],trivial⟩
end
section
theorem Bw (xs:List UInt64):aY (aY xs)=aY xs:=by
 have h1:=yK xs xs.length
 have h2:=nn xs
 unfold aY at h2 ⊢
 generalize hn:mf xs xs.length=n at *
 have h3:mf (xs.take n) (xs.take n).length=n:=by
  rw [h2]
  cases n with
  | zero=>rfl
  | succ k =>
   unfold mf
   rw [It xs (Nat.lt_succ_self k),if_neg (by simpa using h1 (Nat.succ_pos k))]
 rw [h3,List.take_take,Nat.min_self]
def aiu (xs:List UInt64):Prop:=aY xs=xs
theorem wM {xs:List UInt64} (h:aiu xs) {k:Nat} (hk:fw xs<W64 ^ k):xs.length<=k:=by
 rcases Nat.lt_or_ge k xs.length with h1 | h1
 ·have h2:=Bv xs (by rw [h];omega)
  rw [h] at h2
  have h3:W64 ^ k<=W64 ^ (xs.length-1):=Nat.pow_le_pow_right (by decide) (by omega)
  omega
 ·exact h1
theorem okW {xs:List UInt64} (h:xs.length<1125899906842624):0+xs.length<=xs.length/\xs.length<1125899906842624/\True/\True:=⟨by omega,h,trivial,trivial⟩
end
end Go.Proofs.YtcbplfkeeaecgaaGreat
namespace Go.Proofs.YtcbplfkeeaecgaaGreat
theorem LY {xs:List UInt64} {n:Nat} (h:n<xs.length) (v:UInt64):atF (xs.set n v) n=v:=by
 unfold atF
 rw [List.getD_eq_getElem?_getD,List.getElem?_set_self h]
 rfl
theorem ae3 (n j:Nat):atF (List.replicate n 0) j=0:=by
 unfold atF
 rw [List.getD_eq_getElem?_getD,List.getElem?_replicate]
 split <;> rfl
end Go.Proofs.YtcbplfkeeaecgaaGreat
namespace Go.Proofs.YtcbplfkeeaecgaaGreat
open Go.RowKit
section
abbrev Kr (F:List UInt64->Fp):ak:=K1 aL oF.res F
end
section
abbrev aB:Arg (List UInt8):=LZ eU8
abbrev iB:Inp (List UInt8):=Em eU8
noncomputable abbrev cut2C:List Code:=flat (af Tryz.f184)
def MU (xs:List UInt64) (z:Int):St:=aw 23 [(0,inV 0 xs),(3,vI z)] [bN eU64 xs]
theorem Lu (xs:List UInt64):stageG (En []) 100 (cut2C.take 2) (ah Tryz.f184 [iL.av 0 xs] [bN eU64 xs]) [0,3] [0] [(0,.as),(3,.int)] [] []=(.vc (0+xs.length*1<=(List.map EK.u64.cell xs).length/\0<1) (.leaf (aw 23 [(0,.one (.c (.slc 0 0 (xs.length) 1 (.of 0) false))),(3,.one (.c (.int .i64 ((↑xs.length:Int)))))] [.live ⟨false,0,1,(.elts .u64 (xs:List UInt64)),false⟩]))):=by kernel_rfl
theorem Lx (xs:List UInt64) (z:Int):letI za':=IntKind.i64.wrap (z-1);bm (En []) 100 (bk Tryz.f184 0) (MU xs z) (same [0,3] [0])=(.br (decide (z > 0)) (.vc ((0<=IntKind.i64.wrap (z-1)/\IntKind.i64.wrap (z-1)<(↑xs.length:Int))/\0+xs.length*1<=(List.map EK.u64.cell xs).length/\0<1) (.vc (0+za'.toNat*1<xs.length) (.br (xs.getD (0+za'.toNat*1) 0==UInt64.ofNat 0) (.leaf ((.normal,aw 23 [(0,.one (.c (.slc 0 0 (xs.length) 1 (.of 0) false))),(3,.one (.c (.int .i64 za')))] [.live ⟨false,0,1,(.elts .u64 (xs:List UInt64)),false⟩]))) (.leaf ((.exit 0,aw 23 [(0,.one (.c (.slc 0 0 (xs.length) 1 (.of 0) false))),(3,.one (.c (.int .i64 (z))))] [.live ⟨false,0,1,(.elts .u64 (xs:List UInt64)),false⟩])))))) (.leaf ((.exit 0,aw 23 [(0,.one (.c (.slc 0 0 (xs.length) 1 (.of 0) false))),(3,.one (.c (.int .i64 (z))))] [.live ⟨false,0,1,(.elts .u64 (xs:List UInt64)),false⟩])))):=by kernel_rfl
theorem H7 (xs:List UInt64) (z:Int):dx (En []) oL 100 Tryz.f184 (cut2C.drop 3) (MU xs z)=(.vc (0<=z/\0<=z.toNat/\z.toNat<=xs.length/\0+xs.length*1<=(List.map EK.u64.cell xs).length/\0<1/\(0=0 \/ 0<z.toNat)/\0=0/\1=1) (.vc (0+(z.toNat-0)<=xs.length/\0+(z.toNat-0)<=9223372036854775807/\(0+(z.toNat-0))*8<=140737488355328) (.leaf (some ((List.take (0+(z.toNat-0)) ([]++List.take (z.toNat-0) (List.drop 0 xs)),(.p (0+(z.toNat-0)<=([]++List.take (z.toNat-0) (List.drop 0 xs)).length)))))))):=by kernel_rfl
noncomputable abbrev takC:List Code:=flat (af Tryz.f146)
def zV (b:List UInt8) (out:List UInt64) (i:Int):St:=aw 41 [(0,.one (.c (.slc 0 0 b.length 1 (.of 0) false))),(3,slV 1 out),(12,.one (.c (.slc 0 0 b.length 1 (.of 0) false))),(13,vI b.length),(14,vI i)] [bN eU8 b,u5 out]
noncomputable abbrev acu (cF:List UInt64->List UInt64):Env:=Ens [(184,K1 aLt rL cF)] [184]
theorem P7 (cF:List UInt64->List UInt64) (b:List UInt8):letI za':=(IntKind.i64.wrap ((↑b.length:Int).tdiv 8)+1);letI zb':=0+b.length*1<=(List.map EK.u8.cell b).length/\0<1;letI zc':=IntKind.i64.wrap za';stageG (acu cF) 100 (takC.take 3) (ah Tryz.f146 [iB.av 0 b] [bN eU8 b]) [0,3,12,13,14] [0,1] [(0,.as),(3,.as),(12,.as),(13,.int),(14,.int)] [] []=(.vc zb' (.vc (0<=IntKind.i64.wrap za'/\IntKind.i64.wrap za'<=IntKind.i64.wrap za'/\(↑8:Int)*IntKind.i64.wrap za'<=281474976710656/\IntKind.i64.wrap za'<1125899906842624) (.vc zb' (.leaf (aw 41 [(0,.one (.c (.slc 0 0 (b.length) 1 (.of 0) false))),(3,.one (.c (.slc 1 0 (zc'.toNat) 1 (.of 0) false))),(12,.one (.c (.slc 0 0 (b.length) 1 (.of 0) false))),(13,.one (.c (.int .i64 ((↑b.length:Int))))),(14,.one (.c (.int .i64 0)))] [.live ⟨false,0,1,(.elts .u8 (b:List UInt8)),false⟩,.live ⟨true,22,1,(.elts .u64 (List.replicate zc'.toNat 0:List UInt64)),false⟩]))))):=by kernel_rfl
theorem P8 (cF:List UInt64->List UInt64) (b:List UInt8) (out:List UInt64) (i:Int):letI za':=(IntKind.i64.wrap (IntKind.i64.wrap ((↑b.length:Int)-1)-i));letI zb':=((0<=IntKind.i64.wrap (za'.tdiv 8)/\IntKind.i64.wrap (za'.tdiv 8)<(↑out.length:Int))/\0+out.length*1<=(List.map EK.u64.cell out).length/\0<1);letI zc':=IntKind.i64.wrap (za'.tdiv 8);letI zd':=(↑b.length:Int);letI ze':=0+zc'.toNat*1<out.length;letI zf':=List.map EK.u8.cell b;bm (acu cF) 100 (bk Tryz.f146 0) (zV b out i) (same [0,3,12,13,14] [0,1])=(.br (decide (i<zd')) (.vc ((0<=i/\i<zd')/\0+b.length*1<=zf'.length/\0<1) (.vc (0+i.toNat*1<b.length) (.vc (0+b.length*1<=zf'.length/\0<1) (.vc zb' (.vc ze' (.vc zb' (.vc ze' (.leaf ((.normal,aw 41 [(0,.one (.c (.slc 0 0 (b.length) 1 (.of 0) false))),(3,.one (.c (.slc 1 0 (out.length) 1 (.of 0) false))),(12,.one (.c (.slc 0 0 (b.length) 1 (.of 0) false))),(13,.one (.c (.int .i64 (zd')))),(14,.one (.c (.int .i64 (IntKind.i64.wrap (i+1)))))] [.live ⟨false,0,1,(.elts .u8 (b:List UInt8)),false⟩,.live ⟨true,22,1,(.elts .u64 (out.set (0+zc'.toNat*1) (out.getD (0+zc'.toNat*1) 0 ||| tV (b.getD (0+i.toNat*1) 0).toUInt64 (↑(UInt64.ofNat (IntKind.i64.wrap (8*za'.tmod 8) % 18446744073709551616).toNat).toNat:Int)):List UInt64)),false⟩])))))))))) (.leaf ((.exit 0,aw 41 [(0,.one (.c (.slc 0 0 (b.length) 1 (.of 0) false))),(3,.one (.c (.slc 1 0 (out.length) 1 (.of 0) false))),(12,.one (.c (.slc 0 0 (b.length) 1 (.of 0) false))),(13,.one (.c (.int .i64 (zd')))),(14,.one (.c (.int .i64 (i))))] [.live ⟨false,0,1,(.elts .u8 (b:List UInt8)),false⟩,.live ⟨true,22,1,(.elts .u64 (out:List UInt64)),false⟩])))):=by kernel_rfl
theorem acs (cF:List UInt64->List UInt64) (b:List UInt8) (out:List UInt64) (i:Int):letI za':=List.take out.length (List.drop 0 out);dx (acu cF) oL 100 Tryz.f146 (takC.drop 4) (zV b out i)=(.vc ((0+out.length<=out.length/\out.length<1125899906842624/\0=0/\1=1)/\tS za') (.leaf (some ((List.take (cF za').length (cF za'),(.p ((cF za').length<=(cF za').length))))))):=by kernel_rfl
end
end Go.Proofs.YtcbplfkeeaecgaaGreat
namespace Go.Proofs.YtcbplfkeeaecgaaGreat
def bAt (b:List UInt8) (j:Nat):UInt8:=b.getD j 0
def qt (b:List UInt8):Nat->Nat
 | 0=>0
 | n+1=>qt b n+(bAt b (b.length-1-n)).toNat*256 ^ n
theorem xu (b:List UInt8) : ∀ n,qt b n<256 ^ n
 | 0=>by simp [qt]
 | n+1=>by
  have ih:=xu b n
  have h:=(bAt b (b.length-1-n)).toNat_lt
  simp only [qt]
  rw [Nat.pow_succ]
  have h2:(bAt b (b.length-1-n)).toNat*256 ^ n<=255*256 ^ n:=Nat.mul_le_mul_right _ (by omega)
  omega
theorem qA (xs:List UInt64) (n:Nat) (v:UInt64) : ∀ {m:Nat},m<=n->bj (xs.set n v) m=bj xs m
 | 0,_=>rfl
 | m+1,h=>by
  simp only [bj]
  rw [qA xs n v (m:=m) (by omega),CY xs n v (by omega)]
theorem As {xs:List UInt64} {n:Nat} (h:n<xs.length) (v:UInt64) : ∀ {m:Nat},n<m->bj (xs.set n v) m+(atF xs n).toNat*W64 ^ n=bj xs m+v.toNat*W64 ^ n
 | 0,h1=>by omega
 | m+1,h1=>by
  simp only [bj]
  rcases Nat.lt_or_ge n m with h2 | h2
  ·have ih:=As h v h2
   rw [CY xs n v (by omega)]
   omega
  ·have e:m=n:=by omega
   subst e
   rw [qA xs m v (Nat.le_refl _),LY h]
   omega
theorem tO (xs:List UInt64) (q:Nat) : ∀ {m:Nat},q<m -> ∃ r,bj xs m=bj xs q+(atF xs q).toNat*W64 ^ q+r*W64 ^ (q+1)
 | 0,h=>by omega
 | m+1,h=>by
  rcases Nat.lt_or_ge q m with h2 | h2
  ·obtain ⟨r,hr⟩:=tO xs q h2
   refine ⟨r+(atF xs m).toNat*W64 ^ (m-(q+1)),?_⟩
   simp only [bj]
   rw [hr,Nat.add_mul,Nat.mul_assoc,<- Nat.pow_add,show m-(q+1)+(q+1)=m by omega]
   omega
  ·have e:m=q:=by omega
   subst e
   exact ⟨0,by simp only [bj];omega⟩
theorem Ih (k:Nat):256 ^ k=256 ^ (k % 8)*W64 ^ (k / 8):=by
 have h:=Nat.mod_add_div k 8
 calc 256 ^ k=256 ^ (k % 8+8*(k / 8)):=by rw [h]
  _=256 ^ (k % 8)*(256 ^ 8) ^ (k / 8):=by rw [Nat.pow_add,Nat.pow_mul]
  _=_:=rfl
theorem GG (c:UInt8) {s:Nat} (hs:s<8):(tV c.toUInt64 ((8*s:Nat):Int)).toNat=c.toNat*256 ^ s:=by
 have hc:=c.toNat_lt
 unfold tV
 rw [Int.toNat_natCast,Nat.min_eq_left (by omega),UInt64.toNat_ofNat',Nat.pow_mul]
 have h1:(c.toUInt64).toNat=c.toNat:=rfl
 rw [h1]
 show c.toNat*256 ^ s % 18446744073709551616=_
 have h2:256 ^ s<=256 ^ 7:=Nat.pow_le_pow_right (by decide) (by omega)
 have h3:c.toNat*256 ^ s<=255*256 ^ 7:=Nat.mul_le_mul (by omega) h2
 exact Nat.mod_eq_of_lt (Nat.lt_of_le_of_lt h3 (by decide))
theorem At (n:Nat) : ∀ m,bj (List.replicate n 0) m=0
 | 0=>rfl
 | m+1=>by
  simp only [bj]
  rw [At n m,ae3]
  simp
def di (b:List UInt8):Nat->List UInt64
 | 0=>List.replicate (b.length / 8+1) 0
 | i+1=>(di b i).set ((b.length-1-i) / 8) (atF (di b i) ((b.length-1-i) / 8) ||| tV (bAt b i).toUInt64 ((8*((b.length-1-i) % 8):Nat):Int))
theorem fP (b:List UInt8) : ∀ i,(di b i).length=b.length / 8+1
 | 0=>by simp only [di,List.length_replicate]
 | i+1=>by simp only [di,List.length_set,fP b i]
theorem ahl {x y:UInt64} {s:Nat} (hs:s<8) {c:Nat} (hy:y.toNat=c*256 ^ s) (hc:c<256) {m:Nat} (hx:x.toNat=m*256 ^ (s+1)):(x ||| y).toNat=x.toNat+y.toNat:=by
 rw [UInt64.toNat_or]
 have h2:(256:Nat) ^ (s+1)=2 ^ (8*(s+1)):=by rw [Nat.pow_mul]
 have hlt:y.toNat<2 ^ (8*(s+1)):=by
  rw [<- h2,hy,Nat.pow_succ,Nat.mul_comm (256 ^ s)]
  exact Nat.mul_lt_mul_of_pos_right hc (Nat.pow_pos (by decide))
 rw [hx,h2,Nat.mul_comm m]
 exact (Nat.two_pow_add_eq_or_of_lt hlt m).symm
theorem AF (b:List UInt8) : ∀ i,i<=b.length->bj (di b i) (b.length / 8+1)+qt b (b.length-i)=qt b b.length /\ ∃ m,bj (di b i) (b.length / 8+1)=m*256 ^ (b.length-i)
 | 0,_=>by
  rw [show di b 0=List.replicate (b.length / 8+1) 0 from rfl,At]
  exact ⟨by rw [Nat.zero_add,Nat.sub_zero],0,by rw [Nat.zero_mul]⟩
 | i+1,hi=>by
  obtain ⟨ih,m,hm⟩:=AF b i (by omega)
  have hl:=fP b i
  obtain ⟨k,hk⟩ : ∃ k,b.length-1-i=k:=⟨_,rfl⟩
  have hk1:b.length-i=k+1:=by omega
  have hk2:b.length-(i+1)=k:=by omega
  have hk3:b.length-1-k=i:=by omega
  have hq:k / 8<b.length / 8+1:=by omega
  have hs:k % 8<8:=Nat.mod_lt _ (by decide)
  rw [hk1] at ih hm
  simp only [qt] at ih
  rw [hk3] at ih
  rw [hk2]
  simp only [di]
  rw [hk]
  have e:=As (xs:=di b i) (n:=k / 8) (by omega) (atF (di b i) (k / 8) ||| tV (bAt b i).toUInt64 ((8*(k % 8):Nat):Int)) hq
  obtain ⟨r,hr⟩:=tO (di b i) (k / 8) hq
  have hvl:=nt (di b i) (k / 8)
  have hW:0<W64 ^ (k / 8):=Nat.pow_pos (by decide)
  have hpow:256 ^ (k+1)=256 ^ (k % 8+1)*W64 ^ (k / 8):=by rw [Nat.pow_succ,Ih k,Nat.mul_right_comm,<- Nat.pow_succ]
  have h0:bj (di b i) (k / 8)=0/\(atF (di b i) (k / 8)).toNat+r*W64=m*256 ^ (k % 8+1):=by
   rw [hm,hpow,show W64 ^ (k / 8+1)=W64*W64 ^ (k / 8) by rw [Nat.pow_succ,Nat.mul_comm],<- Nat.mul_assoc m,<- Nat.mul_assoc r,Nat.add_assoc,<- Nat.add_mul] at hr
   have h1:=congrArg (· % W64 ^ (k / 8)) hr
   simp only [Nat.mul_mod_left,Nat.add_mul_mod_self_right,Nat.mod_eq_of_lt hvl] at h1
   refine ⟨h1.symm,?_⟩
   rw [<- h1,Nat.zero_add] at hr
   exact (Nat.eq_of_mul_eq_mul_right hW hr).symm
  obtain ⟨n,hn⟩ : ∃ n,(atF (di b i) (k / 8)).toNat=n*256 ^ (k % 8+1):=by
   have hd:256 ^ (k % 8+1) ∣ W64:=⟨256 ^ (7-k % 8),by rw [<- Nat.pow_add,show k % 8+1+(7-k % 8)=8 by omega];rfl⟩
   have h1:256 ^ (k % 8+1) ∣ (atF (di b i) (k / 8)).toNat:=(Nat.dvd_add_left (Nat.dvd_trans hd (Nat.dvd_mul_left _ r))).1 ⟨m,by rw [h0.2,Nat.mul_comm]⟩
   obtain ⟨n,hn⟩:=h1
   exact ⟨n,by rw [hn,Nat.mul_comm]⟩
  have hsum:=ahl hs (GG (bAt b i) hs) (bAt b i).toNat_lt hn
  rw [hsum,GG _ hs,Nat.add_mul,Nat.mul_assoc _ (256 ^ (k % 8)),<- Ih] at e
  refine ⟨by omega,m*256+(bAt b i).toNat,?_⟩
  rw [hm] at e
  rw [Nat.add_mul,Nat.mul_assoc,Nat.mul_comm 256,<- Nat.pow_succ]
  generalize m*256 ^ (k+1)=X at *
  generalize (bAt b i).toNat*256 ^ k=Z at *
  generalize (atF (di b i) (k / 8)).toNat*W64 ^ (k / 8)=Y at *
  clear ih hm hr h0 hn hsum hpow hvl hW
  omega
def qB (b:List UInt8):List UInt64:=aY (di b b.length)
theorem xR (b:List UInt8):fw (qB b)=qt b b.length:=by
 have h:=(AF b b.length (Nat.le_refl _)).1
 rw [Nat.sub_self] at h
 unfold qB
 rw [ll]
 unfold fw
 rw [fP]
 exact h
end Go.Proofs.YtcbplfkeeaecgaaGreat
namespace Go.Proofs.YtcbplfkeeaecgaaGreat
open Go.RowKit
section
theorem Lw:cut2C.drop 2 = .block 0 (.loop (bk Tryz.f184 0)) :: cut2C.drop 3:=by kernel_rfl
theorem aeL:CallOk Tryz.prog 184 (K1 aLt rL aY) :=
 G1 (E:=En []) Tryz.func184 (c:=af Tryz.f184) (by kernel_rfl) (ac Tryz.func184 (by kernel_rfl) (by kernel_rfl)) iLt oL aY fun xs hx=>by
  have hx:xs.length<4294967296:=hx.2
  refine DoesL.stageG (ag .nil) 100 2 [0,3] [0] [(0,.as),(3,.int)] [] [] (Lu xs) ⟨⟨by rw [eQ];omega,by decide⟩,fun _ => ?_⟩
  refine DoesL.blockLoop Lw (fun n:agq xs=>MU xs (n.1:Int)) (fun n=>n.1) ⟨xs.length,Nat.le_refl _,rfl⟩ fun n => ?_
  obtain ⟨n,h1,h2⟩:=n
  refine Does.round (ag .nil) 100 _ (Lx xs n) ⟨fun h => ?_,fun h => ?_⟩
  ·simp only [decide_eq_true_eq] at h
   obtain ⟨m,rfl⟩ : ∃ m,n=m+1:=⟨n-1,by omega⟩
   have hw:IntKind.i64.wrap (((m+1:Nat):Int)-1)=(m:Int):=by rw [IntWalk.i64_in _ (by omega)];omega
   rw [hw]
   refine ⟨⟨⟨by omega,by omega⟩,by rw [eQ];omega,by decide⟩,fun _=>⟨by omega,fun _=>⟨fun h3 => ?_,fun h3 => ?_⟩⟩⟩
   ·refine ⟨⟨m,by omega,?_⟩,by show m<m+1;omega,rfl⟩
    rw [<- h2]
    have:atF xs m=0:=by
     simp only [beq_iff_eq,Nat.zero_add,Nat.mul_one,Int.toNat_natCast] at h3
     exact h3
    simp only [mf,if_pos this]
   ·refine ⟨rfl,DoesL.ends (ag .nil) 100 (H7 xs ((m+1:Nat):Int)) ⟨?_,fun _=>⟨?_,fun _=>fR ?_ ?_⟩⟩⟩
    ·rw [eQ,Int.toNat_natCast];exact ⟨by omega,by omega,by omega,by omega,by decide,.inl rfl,rfl,rfl⟩
    ·rw [Int.toNat_natCast];omega
    ·simp only [Int.toNat_natCast,Nat.zero_add,Nat.sub_zero,List.drop_zero,List.nil_append,List.take_take,Nat.min_self]
     unfold aY
     rw [<- h2]
     have:atF xs m ≠ 0:=by
      simp only [beq_eq_false_iff_ne,Nat.zero_add,Nat.mul_one,Int.toNat_natCast] at h3
      exact h3
     simp only [mf,if_neg this]
    ·simp only [Int.toNat_natCast,Nat.zero_add,Nat.sub_zero,List.drop_zero,List.nil_append,List.length_take]
     omega
  ·simp only [decide_eq_false_iff_not] at h
   obtain rfl:n=0:=by omega
   refine ⟨rfl,DoesL.ends (ag .nil) 100 (H7 xs 0) ⟨?_,fun _=>⟨?_,fun _=>fR ?_ ?_⟩⟩⟩
   ·rw [eQ];exact ⟨by omega,by omega,by simp,by omega,by decide,.inl rfl,rfl,rfl⟩
   ·simp
   ·unfold aY
    rw [<- h2]
    simp [mf]
   ·simp
abbrev e8 (xs:List UInt8):Prop:=xs.length<16777216
abbrev aBs:Arg (List UInt8):=aB.such e8
abbrev iBs:Inp (List UInt8):=iB.such e8
theorem agE (xs:List UInt8):(List.map EK.u8.cell xs).length=xs.length:=List.length_map _
theorem jo (xs:List UInt8):0+xs.length*1<=(List.map EK.u8.cell xs).length/\0<1:=⟨by rw [agE];omega,by decide⟩
theorem Mc {xs:List UInt8} {n:Nat} (h:n<xs.length):((0:Int)<=(n:Int)/\(n:Int)<(xs.length:Int))/\0+xs.length*1<=(List.map EK.u8.cell xs).length/\0<1:=⟨⟨by omega,by omega⟩,jo xs⟩
theorem Md {xs:List UInt8} {n:Nat} (h:n<xs.length):0+((n:Int)).toNat*1<xs.length:=by rw [Int.toNat_natCast];omega
theorem aj7 (xs:List UInt8) (n:Nat):xs.getD (0+((n:Int)).toNat*1) 0=bAt xs n:=by rw [Int.toNat_natCast,Nat.zero_add,Nat.mul_one];rfl
theorem Uz (n:Nat):((n:Int)).tdiv 8=((n / 8:Nat):Int):=by rw [Int.tdiv_eq_ediv_of_nonneg (by omega)];omega
theorem abu (n:Nat):((n:Int)).tmod 8=((n % 8:Nat):Int):=by rw [Int.tmod_eq_emod_of_nonneg (by omega)];omega
theorem w8 {n:Nat} (h:n<9223372036854775808):IntKind.i64.wrap (n:Int)=(n:Int):=IntWalk.i64_in _ (by omega)
theorem Ir {l i:Nat} (h:i<l) (hl:l<9223372036854775808):IntKind.i64.wrap (IntKind.i64.wrap ((l:Int)-1)-(i:Int))=((l-1-i:Nat):Int):=by
 rw [IntWalk.i64_in ((l:Int)-1) (by omega),IntWalk.i64_in _ (by omega)]
 omega
theorem sX (k:Nat):IntKind.i64.wrap (8*((k % 8:Nat):Int))=((8*(k % 8):Nat):Int):=by
 rw [IntWalk.i64_in _ (by omega)]
 omega
theorem Vf {n:Nat} (h:n<18446744073709551616):(((UInt64.ofNat (((n:Int) % 18446744073709551616).toNat)).toNat:Nat):Int)=(n:Int):=by
 rw [UInt64.toNat_ofNat']
 omega
theorem agJ:CallOk Tryz.prog 146 (K1 aBs rL qB) :=
 G1 (E:=acu aY) Tryz.func146 (c:=af Tryz.f146) (by kernel_rfl) (ac Tryz.func146 (by kernel_rfl) (by kernel_rfl)) iBs oL qB fun b hb=>by
  have hb:b.length<16777216:=hb.2
  have hE:EnvOk (acu aY):=cm (.cons aeL .nil)
  refine DoesL.stageG hE 100 3 _ _ _ _ _ (P7 aY b) ?_
  have hw:IntKind.i64.wrap (IntKind.i64.wrap ((b.length:Int).tdiv 8)+1)=((b.length / 8+1:Nat):Int):=by
   rw [Uz,w8 (by omega),IntWalk.i64_in _ (by omega)]
   omega
  rw [hw]
  refine ⟨jo b,fun _=>⟨⟨by omega,by omega,by omega,by omega⟩,fun _=>⟨jo b,fun _ => ?_⟩⟩⟩
  rw [Int.toNat_natCast]
  have h0:=fP b 0
  refine (?_:DoesL _ _ (aw 41 [(0,.one (.c (.slc 0 0 b.length 1 (.of 0) false))),(3,.one (.c (.slc 1 0 (b.length / 8+1) 1 (.of 0) false))),(12,.one (.c (.slc 0 0 b.length 1 (.of 0) false))),(13,vI b.length),(14,vI 0)] [bN eU8 b,u5 (di b 0)]) _)
  rw [<- h0]
  refine (?_:DoesL _ _ (zV b (di b 0) ((0:Nat):Int)) _)
  refine DoesL.blockLoop (B:=bk Tryz.f146 0) (rest:=takC.drop 4) (id:=0) (by kernel_rfl) (fun i : { i:Nat // i<=b.length }=>zV b (di b i.1) (i.1:Int)) (fun i=>b.length-i.1) ⟨0,Nat.zero_le _⟩ fun i => ?_
  obtain ⟨i,hi⟩:=i
  have hl:=fP b i
  show Does _ _ (zV b (di b i) (i:Int)) _
  refine Does.round hE 100 _ (P8 aY b (di b i) (i:Int)) ⟨fun h => ?_,fun h => ?_⟩
  ·simp only [decide_eq_true_eq] at h
   have hi':i<b.length:=by omega
   rw [Ir hi' (by omega),Uz,abu,w8 (by omega),sX,Vf (by omega),fM i (by omega)]
   have hq:(b.length-1-i) / 8<(di b i).length:=by omega
   refine ⟨Mc hi',fun _=>⟨Md hi',fun _=>⟨jo b,fun _=>⟨mC hq,fun _=>⟨mD hq,fun _=>⟨mC hq,fun _=>⟨mD hq,fun _ => ?_⟩⟩⟩⟩⟩⟩⟩
   refine ⟨⟨i+1,hi'⟩,by show b.length-(i+1)<b.length-i;omega,?_⟩
   rw [OL,aj7,Int.toNat_natCast,Nat.zero_add,Nat.mul_one]
   have e:(di b (i+1)).length=(di b i).length:=by rw [fP,fP]
   show _=zV b (di b (i+1)) ((i+1:Nat):Int)
   unfold zV slV
   rw [e]
   rfl
  ·simp only [decide_eq_false_iff_not] at h
   obtain rfl:i=b.length:=by omega
   refine ⟨rfl,DoesL.ends hE 100 (acs aY b _ _) ?_⟩
   simp only [whole]
   refine ⟨⟨okW (by omega),by show (di b _).length<_;omega⟩,fun _=>fR ?_ (Nat.le_refl _)⟩
   rw [List.take_length]
   rfl
end
section
abbrev rBI:Res (List UInt8 × Int):=Mq eU8 5
abbrev oBI:Out (List UInt8 × Int):=aae eU8 5
abbrev rB:Res (List UInt8):=zZ eU8 5
abbrev oBl:Out (List UInt8):=D4 eU8 5
def adv (xs:List UInt8):HE := .live ⟨true,5,1,.elts .u8 xs,false⟩
def slB (i:Nat) (xs:List UInt8):AV := .one (.c (.slc i 0 xs.length 1 (.of 0) false))
noncomputable abbrev putE (cF:List UInt64->List UInt64):Env:=Ens [(184,K1 aLt rL cF)] [184]
noncomputable abbrev zX (cF:List UInt64->List UInt64) (lF:List UInt64->Nat->UInt64):Env:=Ens [(137,K1 aLc rL cF),(136,K2 aL kI kU64.rs.res lF)] [137]
noncomputable abbrev rputC:List Code:=flat (af Tryz.f158)
def DU (a:List UInt64) (n i:Int):St:=aw 59 [(0,slV 0 a),(1,vI n),(6,vI i)] [u5 a]
def oP (a:List UInt64) (n:Int) (out:List UInt8) (i:Int):St:=aw 59 [(0,slV 0 a),(1,vI n),(7,slB 1 out),(8,vI i)] [u5 a,adv out]
theorem JC (cF:List UInt64->List UInt64) (lF:List UInt64->Nat->UInt64) (a:List UInt64) (n:Int):letI za':=List.take a.length (List.drop 0 a);GH (zX cF lF) oBI 100 Tryz.f158 (rputC.take 5) (ah Tryz.f158 [iL.av 0 a,vI n] [bN eU64 a]) [0,1,6] [1] [(0,.as),(1,.as),(6,.as)] [] []=(.vc ((0+a.length<=a.length/\a.length<1125899906842624/\0=0/\1=1)/\nV za') (.br (decide (n<0)) (.leaf (.inr (some ((([],8),.t))))) (.br (decide (n > 192)) (.leaf (.inr (some ((([],8),.t))))) (.leaf (.inl (aw 59 [(0,.one (.c (.slc 0 0 ((cF za').length) 1 (.of 0) false))),(1,.one (.c (.int .i64 (n)))),(6,.one (.c (.int .i64 (n))))] [.live ⟨true,22,1,(.elts .u64 (cF za':List UInt64)),false⟩])))))):=by kernel_rfl
theorem JD (cF:List UInt64->List UInt64) (lF:List UInt64->Nat->UInt64) (a:List UInt64) (n i:Int):letI za':=IntKind.i64.wrap (i.tdiv 8);letI zb':=List.map EK.u64.cell a;fE (zX cF lF) oBI 100 Tryz.f158 [bk Tryz.f158 0] (DU a n i) [0,1,6] [0]=(.vc (0+a.length*1<=zb'.length/\0<1) (.br (decide (i<IntKind.i64.wrap (8*(↑a.length:Int)))) (.vc ((0<=IntKind.i64.wrap (i.tdiv 8)/\IntKind.i64.wrap (i.tdiv 8)<(↑a.length:Int))/\0+a.length*1<=zb'.length/\0<1) (.vc (0+za'.toNat*1<a.length) (.vc (0<=IntKind.i64.wrap (8*i.tmod 8)) (.br ((gk (a.getD (0+za'.toNat*1) 0) (IntKind.i64.wrap (8*i.tmod 8))).toUInt8 != UInt8.ofNat 0) (.leaf (.inr (some ((([],8),.t))))) (.leaf (.inl ((.normal,aw 59 [(0,.one (.c (.slc 0 0 (a.length) 1 (.of 0) false))),(1,.one (.c (.int .i64 (n)))),(6,.one (.c (.int .i64 (IntKind.i64.wrap (i+1)))))] [.live ⟨true,22,1,(.elts .u64 (a:List UInt64)),false⟩])))))))) (.leaf (.inl ((.exit 0,aw 59 [(0,.one (.c (.slc 0 0 (a.length) 1 (.of 0) false))),(1,.one (.c (.int .i64 (n)))),(6,.one (.c (.int .i64 (i))))] [.live ⟨true,22,1,(.elts .u64 (a:List UInt64)),false⟩])))))):=by kernel_rfl
theorem Wm (cF:List UInt64->List UInt64) (lF:List UInt64->Nat->UInt64) (a:List UInt64) (n i:Int):stageG (zX cF lF) 100 ((rputC.drop 6).take 2) (DU a n i) [0,1,7,8] [0,1] [(0,.as),(1,.as),(7,.as),(8,.int)] [] []=(.vc (0<=n/\n<=n/\(↑1:Int)*n<=281474976710656/\n<1125899906842624) (.leaf (aw 59 [(0,.one (.c (.slc 0 0 (a.length) 1 (.of 0) false))),(1,.one (.c (.int .i64 (n)))),(7,.one (.c (.slc 1 0 (n.toNat) 1 (.of 0) false))),(8,.one (.c (.int .i64 0)))] [.live ⟨true,22,1,(.elts .u64 (a:List UInt64)),false⟩,.live ⟨true,5,1,(.elts .u8 (List.replicate n.toNat 0:List UInt8)),false⟩]))):=by kernel_rfl
theorem QQ (cF:List UInt64->List UInt64) (lF:List UInt64->Nat->UInt64) (a:List UInt64) (n:Int) (out:List UInt8) (i:Int):letI za':=IntKind.i64.wrap (n-1)-i;letI zb':=IntKind.i64.wrap za';bm (zX cF lF) 100 (bk Tryz.f158 1) (oP a n out i) (same [0,1,7,8] [0,1])=(.br (decide (i<n)) (.vc ((0+a.length<=a.length/\a.length<1125899906842624/\0=0/\1=1)/\0<=IntKind.i64.wrap (i.tdiv 8)) (.vc (0<=IntKind.i64.wrap (8*i.tmod 8)) (.vc ((0<=IntKind.i64.wrap za'/\IntKind.i64.wrap za'<(↑out.length:Int))/\0+out.length*1<=(List.map EK.u8.cell out).length/\0<1) (.vc (0+zb'.toNat*1<out.length) (.leaf ((.normal,aw 59 [(0,.one (.c (.slc 0 0 (a.length) 1 (.of 0) false))),(1,.one (.c (.int .i64 (n)))),(7,.one (.c (.slc 1 0 (out.length) 1 (.of 0) false))),(8,.one (.c (.int .i64 (IntKind.i64.wrap (i+1)))))] [.live ⟨true,22,1,(.elts .u64 (a:List UInt64)),false⟩,.live ⟨true,5,1,(.elts .u8 (out.set (0+zb'.toNat*1) (gk (lF (List.take a.length (List.drop 0 a)) (IntKind.i64.wrap (i.tdiv 8)).toNat) (IntKind.i64.wrap (8*i.tmod 8))).toUInt8:List UInt8)),false⟩]))))))) (.leaf ((.exit 2,aw 59 [(0,.one (.c (.slc 0 0 (a.length) 1 (.of 0) false))),(1,.one (.c (.int .i64 (n)))),(7,.one (.c (.slc 1 0 (out.length) 1 (.of 0) false))),(8,.one (.c (.int .i64 (i))))] [.live ⟨true,22,1,(.elts .u64 (a:List UInt64)),false⟩,.live ⟨true,5,1,(.elts .u8 (out:List UInt8)),false⟩])))):=by kernel_rfl
theorem Wo (cF:List UInt64->List UInt64) (lF:List UInt64->Nat->UInt64) (a:List UInt64) (n:Int) (out:List UInt8) (i:Int):dx (zX cF lF) oBI 100 Tryz.f158 (rputC.drop 9) (oP a n out i)=(.leaf (some (((List.take out.length out,0),(.p (out.length<=out.length)))))):=by kernel_rfl
end
section
def ib (a:List UInt64) (j:Nat):UInt8:=(gk (atF a (j / 8)) ((8*(j % 8):Nat):Int)).toUInt8
def jM (a:List UInt64) (n g:Nat):List UInt8:=(List.range n).map fun t=>if n-1-t<g then ib a (n-1-t) else 0
def rZ (a:List UInt64) (n:Nat):List UInt8:=(List.range n).map fun t=>ib a (n-1-t)
def j8 (a:List UInt64) (n:Nat):Nat->Bool
 | 0=>false
 | g+1=>j8 a n g || (decide (n<=g) && (ib a g != 0))
def UU (a:List UInt64) (n:Nat):List UInt8 × Int:=match j8 a n (8*a.length) with
 | true=>([],8)
 | false=>(rZ a n,0)
def GT (a:List UInt64) (z:Int):List UInt8 × Int:=if z<0 then ([],8) else if z > 192 then ([],8) else UU (aY a) z.toNat
theorem im (a:List UInt64) (n g:Nat):(jM a n g).length=n:=by unfold jM;rw [List.length_map,List.length_range]
theorem lh (a:List UInt64) (n:Nat):(rZ a n).length=n:=by unfold rZ;rw [List.length_map,List.length_range]
theorem Lo (a:List UInt64) (n:Nat):List.replicate n 0=jM a n 0:=by
 refine List.ext_getElem (by rw [List.length_replicate,im]) fun j h1 h2 => ?_
 simp [jM]
theorem TA (a:List UInt64) {n g:Nat} (h:g<n):(jM a n g).set (n-1-g) (ib a g)=jM a n (g+1):=by
 refine List.ext_getElem (by rw [List.length_set,im,im]) fun j h1 h2 => ?_
 rw [im] at h2
 rw [List.getElem_set]
 simp only [jM,List.getElem_map,List.getElem_range]
 by_cases e:n-1-g=j
 ·rw [if_pos e,if_pos (by omega),show n-1-j=g by omega]
 ·rw [if_neg e]
  by_cases h3:n-1-j<g
  ·rw [if_pos h3,if_pos (by omega)]
  ·rw [if_neg h3,if_neg (by omega)]
theorem TB (a:List UInt64) {n g:Nat} (h:n<=g):jM a n g=rZ a n:=by
 refine List.ext_getElem (by rw [im,lh]) fun j h1 h2 => ?_
 rw [lh] at h2
 simp only [jM,rZ,List.getElem_map,List.getElem_range]
 rw [if_pos (by omega)]
theorem p7 {a:List UInt64} {n:Nat} : ∀ {g h:Nat},g<=h->j8 a n g=true->j8 a n h=true
 | g,0,hl,he=>by rw [show g=0 by omega] at he;exact he
 | g,h+1,hl,he=>by
  rcases Nat.lt_or_ge g (h+1) with h1 | h1
  ·simp only [j8]
   rw [p7 (h:=h) (by omega) he,Bool.true_or]
  ·rw [show h+1=g by omega];exact he
theorem tg {a:List UInt64} {n:Nat} : ∀ {g:Nat},g<=n->j8 a n g=false
 | 0,_=>rfl
 | g+1,h=>by
  simp only [j8]
  rw [tg (g:=g) (by omega),decide_eq_false (by omega)]
  rfl
theorem RL {a:List UInt64} {n g:Nat} (h:n<=g) (hb:(ib a g != 0)=true) (hg:g<8*a.length):UU a n=([],8):=by
 have h1:j8 a n (g+1)=true:=by simp only [j8];rw [hb,decide_eq_true h];simp
 unfold UU
 rw [p7 (by omega) h1]
theorem Xa {a:List UInt64} {n g:Nat} (h:j8 a n g=false) (hb:(ib a g != 0)=false):j8 a n (g+1)=false:=by
 simp only [j8]
 rw [h,hb]
 simp
theorem AT {a:List UInt64} {n:Nat} (h:j8 a n (8*a.length)=false):UU a n=(rZ a n,0):=by
 unfold UU
 rw [h]
end
section
theorem acY:CallOk Tryz.prog 158 (K2 aLt kInt.arg rBI GT) :=
 G2 (E:=zX aY atF) Tryz.func158 (c:=af Tryz.f158) (by kernel_rfl) (ac Tryz.func158 (by kernel_rfl) (by kernel_rfl)) iLt kInt.inp oBI GT fun a0 z ha _=>by
  have ha:a0.length<4294967296:=ha.2
  have hE:EnvOk (zX aY atF):=cm (.cons Ew (.cons wZ .nil))
  refine DoesL.seg hE 100 5 _ _ _ _ _ (JC aY atF a0 z) ?_
  simp only [whole]
  refine ⟨⟨okW (by omega),by show a0.length<_;omega⟩,fun _=>⟨fun h => ?_,fun h=>⟨fun h2 => ?_,fun h2 => ?_⟩⟩⟩
  ·simp only [decide_eq_true_eq] at h
   exact ⟨.t,by unfold GT;rw [if_pos h],trivial⟩
  ·simp only [decide_eq_true_eq] at h2
   exact ⟨.t,by unfold GT;rw [if_neg (by omega),if_pos h2],trivial⟩
  simp only [decide_eq_false_iff_not] at h h2
  obtain ⟨m,rfl⟩ : ∃ m:Nat,z=(m:Int):=⟨z.toNat,by omega⟩
  have hm:m<=192:=by omega
  have hres:GT a0 (m:Int)=UU (aY a0) m:=by unfold GT;rw [if_neg (by omega),if_neg (by omega),Int.toNat_natCast]
  rw [hres]
  have hal:(aY a0).length<4294967296:=Nat.lt_of_le_of_lt (jW a0) ha
  generalize aY a0=a at *
  refine (?_:DoesL _ _ (DU a (m:Int) (m:Int)) _)
  refine DoesL.blockLoopR (B:=bk Tryz.f158 0) (rest:=rputC.drop 6) (id:=0) (by kernel_rfl) (fun g : { g:Nat // m<=g/\g<=max m (8*a.length)/\j8 a m g=false }=>DU a (m:Int) (g.1:Int)) (fun g=>max m (8*a.length)-g.1) ⟨m,Nat.le_refl _,by omega,tg (Nat.le_refl _)⟩ fun g => ?_
  obtain ⟨g,hg1,hg2,hov⟩:=g
  refine DoesL.iter hE 100 _ _ (JD aY atF a (m:Int) (g:Int)) ?_
  have hw:IntKind.i64.wrap (8*(a.length:Int))=((8*a.length:Nat):Int):=by rw [IntWalk.i64_in _ (by omega)];omega
  rw [hw]
  refine ⟨j6 a,fun _=>⟨fun h1 => ?_,fun h1 => ?_⟩⟩
  ·simp only [decide_eq_true_eq] at h1
   have hg:g<8*a.length:=by omega
   rw [Uz,abu,w8 (by omega),sX,fM g (by omega),OL]
   have hq:g / 8<a.length:=by omega
   refine ⟨mC hq,fun _=>⟨mD hq,fun _=>⟨by omega,fun _=>⟨fun h3 => ?_,fun h3 => ?_⟩⟩⟩⟩
   ·exact ⟨.t,by rw [RL hg1 h3 hg],trivial⟩
   ·exact ⟨⟨g+1,by omega,by omega,Xa hov h3⟩,by show max m (8*a.length)-(g+1)<max m (8*a.length)-g;omega,rfl⟩
  ·simp only [decide_eq_false_iff_not] at h1
   refine ⟨rfl,?_⟩
   have hov2:j8 a m (8*a.length)=false:=by
    cases hb:j8 a m (8*a.length) with
    | false=>rfl
    | true=>rw [p7 (by omega) hb] at hov;exact hov
   rw [AT hov2]
   refine DoesL.stageG hE 100 2 _ _ _ _ _ (Wm aY atF a (m:Int) (g:Int)) ⟨⟨by omega,by omega,by omega,by omega⟩,fun _ => ?_⟩
   rw [Int.toNat_natCast,Lo a m]
   have e0:aw 59 [(0,slV 0 a),(1,vI m),(7,.one (.c (.slc 1 0 m 1 (.of 0) false))),(8,vI ((0:Nat):Int))] [u5 a,adv (jM a m 0)]=oP a (m:Int) (jM a m 0) ((0:Nat):Int):=by
    unfold oP slB
    rw [im]
   refine (?_:DoesL _ _ (aw 59 [(0,slV 0 a),(1,vI m),(7,.one (.c (.slc 1 0 m 1 (.of 0) false))),(8,vI ((0:Nat):Int))] [u5 a,adv (jM a m 0)]) _)
   rw [e0]
   refine DoesL.blockLoop (B:=bk Tryz.f158 1) (rest:=rputC.drop 9) (id:=2) (by kernel_rfl) (fun i : { i:Nat // i<=m }=>oP a (m:Int) (jM a m i.1) (i.1:Int)) (fun i=>m-i.1) ⟨0,Nat.zero_le _⟩ fun i => ?_
   obtain ⟨i,hi⟩:=i
   have hl:=im a m i
   show Does _ _ (oP a (m:Int) (jM a m i) (i:Int)) _
   refine Does.round hE 100 _ (QQ aY atF a (m:Int) (jM a m i) (i:Int)) ⟨fun h4 => ?_,fun h4 => ?_⟩
   ·simp only [decide_eq_true_eq] at h4
    have hi':i<m:=by omega
    rw [Uz,abu,w8 (by omega),sX,Ir hi' (by omega),fM i (by omega),Int.toNat_natCast,whole]
    have hlt:m-1-i<(jM a m i).length:=by omega
    refine ⟨⟨AY (by omega),by omega⟩,fun _=>⟨by omega,fun _=>⟨Mc hlt,fun _=>⟨Md hlt,fun _ => ?_⟩⟩⟩⟩
    refine ⟨⟨i+1,hi'⟩,by show m-(i+1)<m-i;omega,?_⟩
    show _=oP a (m:Int) (jM a m (i+1)) ((i+1:Nat):Int)
    rw [<- TA a hi',Int.toNat_natCast,Nat.zero_add,Nat.mul_one]
    unfold oP slB
    rw [List.length_set]
    rfl
   ·simp only [decide_eq_false_iff_not] at h4
    obtain rfl:i=m:=by omega
    refine ⟨rfl,DoesL.ends hE 100 (Wo aY atF a _ _ _) (fR ?_ (Nat.le_refl _))⟩
    rw [List.take_length,TB a (Nat.le_refl _)]
end
section
theorem lk (xs:List UInt8):List.take xs.length (List.drop 0 xs)=xs:=by rw [List.drop_zero,List.take_length]
theorem ako {xs:List UInt8} (h:xs.length<1125899906842624):0+xs.length<=xs.length/\xs.length<1125899906842624/\True/\True:=⟨by omega,h,trivial,trivial⟩
abbrev oFI:Out (Fp × Int):=rFI.out
theorem aeD (xs:List UInt64):letI za':=List.take xs.length (List.drop 0 xs);letI zb':=UInt64.ofNat 0;dx (En []) oF 100 Tryz.f145 (flat (af Tryz.f145)) (ah Tryz.f145 [iL.av 0 xs] [bN eU64 xs])=(.vc (0+xs.length<=xs.length) (.leaf (some (({ l0:=fA (Nat.blt 0 xs.length) (za'.getD 0 0) zb',l1:=fA (Nat.blt 1 xs.length) (za'.getD 1 0) zb',l2:=fA (Nat.blt 2 xs.length) (za'.getD 2 0) zb',l3:=fA (Nat.blt 3 xs.length) (za'.getD 3 0) zb',l4:=fA (Nat.blt 4 xs.length) (za'.getD 4 0) zb',l5:=fA (Nat.blt 5 xs.length) (za'.getD 5 0) zb' },.t))))):=by kernel_rfl
abbrev akd (F:List UInt64->Int->List UInt8 × Int):ak:=K2 aLt kInt.arg rBI F
theorem Q9 (pF:List UInt64->Int->List UInt8 × Int) (a:Fp):letI za':=pF [a.l0,a.l1,a.l2,a.l3,a.l4,a.l5] 48;dx (Ens [(158,akd pF)] [158]) oBl 100 Tryz.f97 (flat (af Tryz.f97)) (ah Tryz.f97 [vF a] [])=(.vc (tS [a.l0,a.l1,a.l2,a.l3,a.l4,a.l5]) (.leaf (some ((List.take za'.fst.length za'.fst,(.p (za'.fst.length<=za'.fst.length))))))):=by kernel_rfl
abbrev Ktk (F:List UInt8->List UInt64):ak:=K1 aBs rL F
theorem Ty (tF:List UInt8->List UInt64) (oF':List UInt64->Fp) (mF:Fp->Bool) (b:List UInt8):letI za':Fp := { l0:=UInt64.ofNat 0,l1:=UInt64.ofNat 0,l2:=UInt64.ofNat 0,l3:=UInt64.ofNat 0,l4:=UInt64.ofNat 0,l5:=UInt64.ofNat 0 };letI zb':=List.take b.length (List.drop 0 b);letI zc':=0+b.length*1<=(List.map EK.u8.cell b).length/\0<1;letI zd':=List.take (tF zb').length (List.drop 0 (tF zb'));dx (Ens [(146,Ktk tF),(145,Kr oF'),(147,Kfb mF)] [146]) oFI 100 Tryz.f88 (flat (af Tryz.f88)) (ah Tryz.f88 [iB.av 0 b] [bN eU8 b])=(.vc zc' (.br (decide ((↑b.length:Int)<48)) (.leaf (some (((za',2),.t)))) (.vc zc' (.br (decide ((↑b.length:Int) > 48)) (.leaf (some (((za',8),.t)))) (.vc ((0+b.length<=b.length/\b.length<1125899906842624/\0=0/\1=1)/\e8 zb') (.vc (0+(tF zb').length<=(tF zb').length/\(tF zb').length<1125899906842624/\0=0/\1=1) (.br (!(mF (oF' zd'))) (.leaf (some (((za',4),.t)))) (.leaf (some (((oF' zd',0),.t))))))))))):=by kernel_rfl
abbrev L4 (F:Fp->List UInt8):ak:=K1 (aa Fp).arg rB F
abbrev zS (F:List UInt8->Fp × Int):ak:=K1 aBs rFI.res F
theorem ahT:CallOk Tryz.prog 145 (Kr ofL) :=
 G1 (E:=En []) Tryz.func145 (c:=af Tryz.f145) (by kernel_rfl) (ac Tryz.func145 (by kernel_rfl) (by kernel_rfl)) iL oF ofL fun xs hx=>by
  refine DoesL.ends (ag .nil) 100 (aeD xs) ⟨by omega,fun _=>bA ?_⟩
  rw [dw,dw,dw,dw,dw,dw]
  rfl
def aX (a:Fp):List UInt8:=(GT a.list 48).1
theorem GO:CallOk Tryz.prog 97 (L4 aX) :=
 G1 (E:=Ens [(158,akd GT)] [158]) Tryz.func97 (c:=af Tryz.f97) (by kernel_rfl) (ac Tryz.func97 (by kernel_rfl) (by kernel_rfl)) (aa Fp).inp oBl aX fun a _=>by
  refine DoesL.ends (cm (.cons acY .nil)) 100 (Q9 GT a) ⟨?_,fun _=>fR ?_ (Nat.le_refl _)⟩
  ·show a.list.length<_;rw [nK];decide
  ·rw [List.take_length];rfl
def pM (n:Nat) (x:Fp) (m:Bool):Fp × Int:=match decide ((n:Int)<48) with
 | true=>(zeroFp,2)
 | false=>match decide ((n:Int) > 48) with
  | true=>(zeroFp,8)
  | false=>match !m with
   | true=>(zeroFp,4)
   | false=>(x,0)
def aM (b:List UInt8):Fp × Int:=pM b.length (ofL (qB b)) (qG (ofL (qB b)))
theorem VC (b:List UInt8):(qB b).length<=b.length / 8+1:=by
 have h:=jW (di b b.length)
 rw [fP] at h
 exact h
theorem HY:CallOk Tryz.prog 88 (zS aM) :=
 G1 (E:=Ens [(146,Ktk qB),(145,Kr ofL),(147,Kfb qG)] [146]) Tryz.func88 (c:=af Tryz.f88) (by kernel_rfl) (ac Tryz.func88 (by kernel_rfl) (by kernel_rfl)) iBs oFI aM fun b hb=>by
  have hb:b.length<16777216:=hb.2
  have hl:=VC b
  refine DoesL.ends (cm (.cons agJ (.cons ahT (.cons MA .nil)))) 100 (Ty qB ofL qG b) ?_
  simp only [whole,lk]
  refine ⟨jo b,fun _=>⟨fun h1=>bA ?_,fun h1=>⟨jo b,fun _=>⟨fun h2=>bA ?_,fun h2=>⟨⟨ako (by omega),hb⟩,fun _=>⟨okW (by omega),fun _=>⟨fun h3=>bA ?_,fun h3=>bA ?_⟩⟩⟩⟩⟩⟩⟩
  ·unfold aM pM;rw [h1];rfl
  ·unfold aM pM;rw [h1,h2];rfl
  ·unfold aM pM;rw [h1,h2,h3];rfl
  ·unfold aM pM;rw [h1,h2,h3]
end
section
def N0 (xs:List UInt8) (m:UInt8):List UInt8:=xs.set 0 (xs.getD 0 0 ||| m)
def qg (xs:List UInt8) (x:Bool × Bool × Unit):List UInt8 :=
 match x.2.1 with
 | true=>N0 (match x.1 with | true=>N0 (N0 xs 128) 64 | false=>N0 xs 128) 32
 | false=>match x.1 with | true=>N0 (N0 xs 128) 64 | false=>N0 xs 128
def Z3 (mF:List UInt8->Bool × Bool × Unit->List UInt8) (pF:Fp->List UInt8) (gF:Fp->Bool) (a:Pg1):Tree (Option ((List UInt8) × Pr)):=letI za':=mF [UInt8.ofNat 0,UInt8.ofNat 0,UInt8.ofNat 0,UInt8.ofNat 0,UInt8.ofNat 0,UInt8.ofNat 0,UInt8.ofNat 0,UInt8.ofNat 0,UInt8.ofNat 0,UInt8.ofNat 0,UInt8.ofNat 0,UInt8.ofNat 0,UInt8.ofNat 0,UInt8.ofNat 0,UInt8.ofNat 0,UInt8.ofNat 0,UInt8.ofNat 0,UInt8.ofNat 0,UInt8.ofNat 0,UInt8.ofNat 0,UInt8.ofNat 0,UInt8.ofNat 0,UInt8.ofNat 0,UInt8.ofNat 0,UInt8.ofNat 0,UInt8.ofNat 0,UInt8.ofNat 0,UInt8.ofNat 0,UInt8.ofNat 0,UInt8.ofNat 0,UInt8.ofNat 0,UInt8.ofNat 0,UInt8.ofNat 0,UInt8.ofNat 0,UInt8.ofNat 0,UInt8.ofNat 0,UInt8.ofNat 0,UInt8.ofNat 0,UInt8.ofNat 0,UInt8.ofNat 0,UInt8.ofNat 0,UInt8.ofNat 0,UInt8.ofNat 0,UInt8.ofNat 0,UInt8.ofNat 0,UInt8.ofNat 0,UInt8.ofNat 0,UInt8.ofNat 0] (true,false,());letI zb':=mF (pF a.x) (false,gF a.y,());
 (.br (a.inf) (.vc (0<48/\48<4294967296) (.leaf (some ((List.take 48 za',(.p (48<=za'.length))))))) (.vc ((pF a.x).length=(pF a.x).length/\0<(pF a.x).length/\(pF a.x).length<4294967296) (.leaf (some ((List.take (pF a.x).length zb',(.p ((pF a.x).length<=zb'.length))))))))
def Z0 (mF:List UInt8->Bool × Bool × Unit->List UInt8) (pF:Fp->List UInt8) (gF:Fp2->Bool) (a:Pg2):Tree (Option ((List UInt8) × Pr)):=letI za':=mF [UInt8.ofNat 0,UInt8.ofNat 0,UInt8.ofNat 0,UInt8.ofNat 0,UInt8.ofNat 0,UInt8.ofNat 0,UInt8.ofNat 0,UInt8.ofNat 0,UInt8.ofNat 0,UInt8.ofNat 0,UInt8.ofNat 0,UInt8.ofNat 0,UInt8.ofNat 0,UInt8.ofNat 0,UInt8.ofNat 0,UInt8.ofNat 0,UInt8.ofNat 0,UInt8.ofNat 0,UInt8.ofNat 0,UInt8.ofNat 0,UInt8.ofNat 0,UInt8.ofNat 0,UInt8.ofNat 0,UInt8.ofNat 0,UInt8.ofNat 0,UInt8.ofNat 0,UInt8.ofNat 0,UInt8.ofNat 0,UInt8.ofNat 0,UInt8.ofNat 0,UInt8.ofNat 0,UInt8.ofNat 0,UInt8.ofNat 0,UInt8.ofNat 0,UInt8.ofNat 0,UInt8.ofNat 0,UInt8.ofNat 0,UInt8.ofNat 0,UInt8.ofNat 0,UInt8.ofNat 0,UInt8.ofNat 0,UInt8.ofNat 0,UInt8.ofNat 0,UInt8.ofNat 0,UInt8.ofNat 0,UInt8.ofNat 0,UInt8.ofNat 0,UInt8.ofNat 0,UInt8.ofNat 0,UInt8.ofNat 0,UInt8.ofNat 0,UInt8.ofNat 0,UInt8.ofNat 0,UInt8.ofNat 0,UInt8.ofNat 0,UInt8.ofNat 0,UInt8.ofNat 0,UInt8.ofNat 0,UInt8.ofNat 0,UInt8.ofNat 0,UInt8.ofNat 0,UInt8.ofNat 0,UInt8.ofNat 0,UInt8.ofNat 0,UInt8.ofNat 0,UInt8.ofNat 0,UInt8.ofNat 0,UInt8.ofNat 0,UInt8.ofNat 0,UInt8.ofNat 0,UInt8.ofNat 0,UInt8.ofNat 0,UInt8.ofNat 0,UInt8.ofNat 0,UInt8.ofNat 0,UInt8.ofNat 0,UInt8.ofNat 0,UInt8.ofNat 0,UInt8.ofNat 0,UInt8.ofNat 0,UInt8.ofNat 0,UInt8.ofNat 0,UInt8.ofNat 0,UInt8.ofNat 0,UInt8.ofNat 0,UInt8.ofNat 0,UInt8.ofNat 0,UInt8.ofNat 0,UInt8.ofNat 0,UInt8.ofNat 0,UInt8.ofNat 0,UInt8.ofNat 0,UInt8.ofNat 0,UInt8.ofNat 0,UInt8.ofNat 0,UInt8.ofNat 0] (true,false,());letI zb':=List.drop 0 (pF a.x.c1);letI zc':=List.drop 0 (pF a.x.c0);letI zd':=(pF a.x.c1).length+(pF a.x.c0).length;
 (.br (a.inf) (.vc (0<96/\96<4294967296) (.leaf (some ((List.take 96 za',(.p (96<=za'.length))))))) (.vc ((0+(pF a.x.c1).length<=(pF a.x.c1).length/\0+(pF a.x.c0).length<=(pF a.x.c0).length)/\(pF a.x.c1).length+(pF a.x.c0).length<=9223372036854775807/\zd'*1<=140737488355328) (.vc ((pF a.x.c1).length+(pF a.x.c0).length=(List.take (pF a.x.c1).length zb'++List.take (pF a.x.c0).length zc').length/\0<(List.take (pF a.x.c1).length zb'++List.take (pF a.x.c0).length zc').length/\(List.take (pF a.x.c1).length zb'++List.take (pF a.x.c0).length zc').length<4294967296) (.leaf (some ((List.take zd' (mF (List.take (pF a.x.c1).length zb'++List.take (pF a.x.c0).length zc') (false,gF a.y,())),(.p ((pF a.x.c1).length+(pF a.x.c0).length<=(mF (List.take (pF a.x.c1).length zb'++List.take (pF a.x.c0).length zc') (false,gF a.y,())).length)))))))))
def oR (pF:Fp->List UInt8) (gF:Fp->Bool) (a:Pg1):Tree (Option ((List UInt8) × Pr)):=letI za':=(pF a.x).set 0 ((pF a.x).getD 0 0+UInt8.ofNat 32);letI zb':=0<(pF a.x).length/\0+(pF a.x).length*1<=(List.map EK.u8.cell (pF a.x)).length/\0<1;letI zc':=0<(pF a.x).length/\0+(pF a.x).length*1<=(List.map EK.u8.cell za').length/\0<1;letI zd':=0<(pF a.x).length;letI ze':=(pF a.x).set 0 ((pF a.x).getD 0 0+UInt8.ofNat 128);letI zf':=za'.set 0 (za'.getD 0 0+UInt8.ofNat 128);
 (.br (a.inf) (.leaf (some (([UInt8.ofNat 192,UInt8.ofNat 0,UInt8.ofNat 0,UInt8.ofNat 0,UInt8.ofNat 0,UInt8.ofNat 0,UInt8.ofNat 0,UInt8.ofNat 0,UInt8.ofNat 0,UInt8.ofNat 0,UInt8.ofNat 0,UInt8.ofNat 0,UInt8.ofNat 0,UInt8.ofNat 0,UInt8.ofNat 0,UInt8.ofNat 0,UInt8.ofNat 0,UInt8.ofNat 0,UInt8.ofNat 0,UInt8.ofNat 0,UInt8.ofNat 0,UInt8.ofNat 0,UInt8.ofNat 0,UInt8.ofNat 0,UInt8.ofNat 0,UInt8.ofNat 0,UInt8.ofNat 0,UInt8.ofNat 0,UInt8.ofNat 0,UInt8.ofNat 0,UInt8.ofNat 0,UInt8.ofNat 0,UInt8.ofNat 0,UInt8.ofNat 0,UInt8.ofNat 0,UInt8.ofNat 0,UInt8.ofNat 0,UInt8.ofNat 0,UInt8.ofNat 0,UInt8.ofNat 0,UInt8.ofNat 0,UInt8.ofNat 0,UInt8.ofNat 0,UInt8.ofNat 0,UInt8.ofNat 0,UInt8.ofNat 0,UInt8.ofNat 0,UInt8.ofNat 0],.t)))) (.br (gF a.y) (.vc zb' (.vc zd' (.vc zb' (.vc zd' (.vc zc' (.vc (0<za'.length) (.vc zc' (.vc (0<za'.length) (.leaf (some ((List.take (pF a.x).length zf',(.p ((pF a.x).length<=zf'.length)))))))))))))) (.vc zb' (.vc zd' (.vc zb' (.vc zd' (.leaf (some ((List.take (pF a.x).length ze',(.p ((pF a.x).length<=ze'.length))))))))))))
theorem QS (pF:Fp->List UInt8) (gF:Fp->Bool) (a:Pg1):dx (Ens [(97,L4 pF),(78,Kfb gF)] [97]) oBl 300 Tryz.f49 (flat (af Tryz.f49)) (ah Tryz.f49 [.one (kg1.av a)] [])=oR pF gF a:=by kernel_rfl
def oQ (pF:Fp->List UInt8) (gF:Fp2->Bool) (a:Pg2):Tree (Option ((List UInt8) × Pr)):=letI za':=List.drop 0 (pF a.x.c1);letI zb':=List.drop 0 (pF a.x.c0);letI zc':=(pF a.x.c1).length+(pF a.x.c0).length;
 (.vc ((0+(pF a.x.c1).length<=(pF a.x.c1).length/\0+(pF a.x.c0).length<=(pF a.x.c0).length)/\(pF a.x.c1).length+(pF a.x.c0).length<=9223372036854775807/\zc'*1<=140737488355328) (.br (a.inf) (.leaf (some (([UInt8.ofNat 192,UInt8.ofNat 0,UInt8.ofNat 0,UInt8.ofNat 0,UInt8.ofNat 0,UInt8.ofNat 0,UInt8.ofNat 0,UInt8.ofNat 0,UInt8.ofNat 0,UInt8.ofNat 0,UInt8.ofNat 0,UInt8.ofNat 0,UInt8.ofNat 0,UInt8.ofNat 0,UInt8.ofNat 0,UInt8.ofNat 0,UInt8.ofNat 0,UInt8.ofNat 0,UInt8.ofNat 0,UInt8.ofNat 0,UInt8.ofNat 0,UInt8.ofNat 0,UInt8.ofNat 0,UInt8.ofNat 0,UInt8.ofNat 0,UInt8.ofNat 0,UInt8.ofNat 0,UInt8.ofNat 0,UInt8.ofNat 0,UInt8.ofNat 0,UInt8.ofNat 0,UInt8.ofNat 0,UInt8.ofNat 0,UInt8.ofNat 0,UInt8.ofNat 0,UInt8.ofNat 0,UInt8.ofNat 0,UInt8.ofNat 0,UInt8.ofNat 0,UInt8.ofNat 0,UInt8.ofNat 0,UInt8.ofNat 0,UInt8.ofNat 0,UInt8.ofNat 0,UInt8.ofNat 0,UInt8.ofNat 0,UInt8.ofNat 0,UInt8.ofNat 0,UInt8.ofNat 0,UInt8.ofNat 0,UInt8.ofNat 0,UInt8.ofNat 0,UInt8.ofNat 0,UInt8.ofNat 0,UInt8.ofNat 0,UInt8.ofNat 0,UInt8.ofNat 0,UInt8.ofNat 0,UInt8.ofNat 0,UInt8.ofNat 0,UInt8.ofNat 0,UInt8.ofNat 0,UInt8.ofNat 0,UInt8.ofNat 0,UInt8.ofNat 0,UInt8.ofNat 0,UInt8.ofNat 0,UInt8.ofNat 0,UInt8.ofNat 0,UInt8.ofNat 0,UInt8.ofNat 0,UInt8.ofNat 0,UInt8.ofNat 0,UInt8.ofNat 0,UInt8.ofNat 0,UInt8.ofNat 0,UInt8.ofNat 0,UInt8.ofNat 0,UInt8.ofNat 0,UInt8.ofNat 0,UInt8.ofNat 0,UInt8.ofNat 0,UInt8.ofNat 0,UInt8.ofNat 0,UInt8.ofNat 0,UInt8.ofNat 0,UInt8.ofNat 0,UInt8.ofNat 0,UInt8.ofNat 0,UInt8.ofNat 0,UInt8.ofNat 0,UInt8.ofNat 0,UInt8.ofNat 0,UInt8.ofNat 0,UInt8.ofNat 0,UInt8.ofNat 0],.t)))) (.br (gF a.y) (.vc (0<(pF a.x.c1).length+(pF a.x.c0).length/\0+zc'*1<=(List.map EK.u8.cell (List.take (pF a.x.c1).length za'++List.take (pF a.x.c0).length zb')).length/\0<1) (.vc (0+0*1<(List.take (pF a.x.c1).length za'++List.take (pF a.x.c0).length zb').length) (.vc (0<(pF a.x.c1).length+(pF a.x.c0).length/\0+zc'*1<=(List.map EK.u8.cell (List.take (pF a.x.c1).length za'++List.take (pF a.x.c0).length zb')).length/\0<1) (.vc (0+0*1<(List.take (pF a.x.c1).length za'++List.take (pF a.x.c0).length zb').length) (.vc (0<(pF a.x.c1).length+(pF a.x.c0).length/\0+zc'*1<=(List.map EK.u8.cell ((List.take (pF a.x.c1).length za'++List.take (pF a.x.c0).length zb').set (0+0*1) ((List.take (pF a.x.c1).length za'++List.take (pF a.x.c0).length zb').getD (0+0*1) 0+UInt8.ofNat 32))).length/\0<1) (.vc (0+0*1<((List.take (pF a.x.c1).length za'++List.take (pF a.x.c0).length zb').set (0+0*1) ((List.take (pF a.x.c1).length za'++List.take (pF a.x.c0).length zb').getD (0+0*1) 0+UInt8.ofNat 32)).length) (.vc (0<(pF a.x.c1).length+(pF a.x.c0).length/\0+zc'*1<=(List.map EK.u8.cell ((List.take (pF a.x.c1).length za'++List.take (pF a.x.c0).length zb').set (0+0*1) ((List.take (pF a.x.c1).length za'++List.take (pF a.x.c0).length zb').getD (0+0*1) 0+UInt8.ofNat 32))).length/\0<1) (.vc (0+0*1<((List.take (pF a.x.c1).length za'++List.take (pF a.x.c0).length zb').set (0+0*1) ((List.take (pF a.x.c1).length za'++List.take (pF a.x.c0).length zb').getD (0+0*1) 0+UInt8.ofNat 32)).length) (.leaf (some ((List.take zc' (((List.take (pF a.x.c1).length za'++List.take (pF a.x.c0).length zb').set (0+0*1) ((List.take (pF a.x.c1).length za'++List.take (pF a.x.c0).length zb').getD (0+0*1) 0+UInt8.ofNat 32)).set (0+0*1) (((List.take (pF a.x.c1).length za'++List.take (pF a.x.c0).length zb').set (0+0*1) ((List.take (pF a.x.c1).length za'++List.take (pF a.x.c0).length zb').getD (0+0*1) 0+UInt8.ofNat 32)).getD (0+0*1) 0+UInt8.ofNat 128)),(.p ((pF a.x.c1).length+(pF a.x.c0).length<=(((List.take (pF a.x.c1).length za'++List.take (pF a.x.c0).length zb').set (0+0*1) ((List.take (pF a.x.c1).length za'++List.take (pF a.x.c0).length zb').getD (0+0*1) 0+UInt8.ofNat 32)).set (0+0*1) (((List.take (pF a.x.c1).length za'++List.take (pF a.x.c0).length zb').set (0+0*1) ((List.take (pF a.x.c1).length za'++List.take (pF a.x.c0).length zb').getD (0+0*1) 0+UInt8.ofNat 32)).getD (0+0*1) 0+UInt8.ofNat 128)).length)))))))))))))) (.vc (0<(pF a.x.c1).length+(pF a.x.c0).length/\0+zc'*1<=(List.map EK.u8.cell (List.take (pF a.x.c1).length za'++List.take (pF a.x.c0).length zb')).length/\0<1) (.vc (0+0*1<(List.take (pF a.x.c1).length za'++List.take (pF a.x.c0).length zb').length) (.vc (0<(pF a.x.c1).length+(pF a.x.c0).length/\0+zc'*1<=(List.map EK.u8.cell (List.take (pF a.x.c1).length za'++List.take (pF a.x.c0).length zb')).length/\0<1) (.vc (0+0*1<(List.take (pF a.x.c1).length za'++List.take (pF a.x.c0).length zb').length) (.leaf (some ((List.take zc' ((List.take (pF a.x.c1).length za'++List.take (pF a.x.c0).length zb').set (0+0*1) ((List.take (pF a.x.c1).length za'++List.take (pF a.x.c0).length zb').getD (0+0*1) 0+UInt8.ofNat 128)),(.p ((pF a.x.c1).length+(pF a.x.c0).length<=((List.take (pF a.x.c1).length za'++List.take (pF a.x.c0).length zb').set (0+0*1) ((List.take (pF a.x.c1).length za'++List.take (pF a.x.c0).length zb').getD (0+0*1) 0+UInt8.ofNat 128)).length)))))))))))))
theorem QR (pF:Fp->List UInt8) (gF:Fp2->Bool) (a:Pg2):dx (Ens [(97,L4 pF),(98,Kpb gF)] [97]) oBl 300 Tryz.f50 (flat (af Tryz.f50)) (ah Tryz.f50 [.one (kg2.av a)] [])=oQ pF gF a:=by kernel_rfl
theorem Xd (xs:List UInt8) (m:UInt8):(N0 xs m).length=xs.length:=List.length_set ..
theorem n6 (xs:List UInt8) (x:Bool × Bool × Unit):(qg xs x).length=xs.length:=by
 obtain ⟨i,g,u⟩:=x
 cases i <;> cases g <;> simp only [qg,Xd]
end
section
def Ik (c:List UInt64):Nat->Nat
 | 0=>0
 | n+1=>Ik c n+(ib c n).toNat*256 ^ n
theorem LM (c:List UInt64) (j:Nat):(ib c j).toNat=(atF c (j / 8)).toNat / 256 ^ (j % 8) % 256:=by
 have hs:j % 8<8:=Nat.mod_lt _ (by decide)
 have hx:=(atF c (j / 8)).toNat_lt
 unfold ib gk
 rw [UInt64.toNat_toUInt8,Int.toNat_natCast,Nat.min_eq_left (by omega),UInt64.toNat_ofNat',Nat.pow_mul]
 rw [Nat.mod_eq_of_lt (Nat.lt_of_le_of_lt (Nat.div_le_self _ _) hx)]
theorem O7 (c:List UInt64) (k:Nat) (hk:Ik c (8*k)=bj c k) : ∀ s,s<=8->Ik c (8*k+s)=bj c k+(atF c k).toNat % 256 ^ s*256 ^ (8*k)
 | 0,_=>by rw [Nat.add_zero,hk,Nat.pow_zero,Nat.mod_one,Nat.zero_mul,Nat.add_zero]
 | s+1,h=>by
  rw [show 8*k+(s+1)=(8*k+s)+1 from rfl]
  simp only [Ik]
  rw [O7 c k hk s (by omega),LM,show (8*k+s) / 8=k by omega,show (8*k+s) % 8=s by omega,Nat.pow_succ 256 s,Nat.mod_mul,Nat.add_mul,Nat.add_assoc,Nat.pow_add 256 (8*k) s,Nat.mul_comm (256 ^ (8*k)) (256 ^ s),<- Nat.mul_assoc,Nat.mul_comm (256 ^ s) (_ % 256)]
theorem yO (c:List UInt64) : ∀ k,Ik c (8*k)=bj c k
 | 0=>rfl
 | k+1=>by
  rw [show 8*(k+1)=8*k+8 by omega,O7 c k (yO c k) 8 (Nat.le_refl _)]
  simp only [bj]
  rw [Nat.mod_eq_of_lt (show (atF c k).toNat<256 ^ 8 from UInt64.toNat_lt _),Nat.pow_mul]
  rfl
theorem Is (c:List UInt64) {n t:Nat} (h:t<n):bAt (rZ c n) t=ib c (n-1-t):=by
 unfold bAt
 rw [List.getD_eq_getElem?_getD,List.getElem?_eq_getElem (by rw [lh];exact h)]
 simp [rZ]
theorem BI (c:List UInt64) (n:Nat) : ∀ k,k<=n->qt (rZ c n) k=Ik c k
 | 0,_=>rfl
 | k+1,h=>by
  simp only [qt,Ik]
  rw [BI c n k (by omega),lh,Is c (by omega),show n-1-(n-1-k)=k by omega]
theorem tq (a:Fp):aX a=rZ (aY a.list) 48:=by
 have hl:(aY a.list).length<=6:=Nat.le_trans (jW a.list) (Nat.le_of_eq (nK a))
 unfold aX GT
 rw [if_neg (by decide),if_neg (by decide)]
 show (UU (aY a.list) 48).1=_
 rw [AT (tg (by omega))]
theorem H2 (a:Fp):qt (aX a) 48=a.nat:=by
 have hl:(aY a.list).length<=6:=Nat.le_trans (jW a.list) (Nat.le_of_eq (nK a))
 rw [tq,BI _ 48 48 (Nat.le_refl _),show (48:Nat)=8*6 from rfl,yO,nS _ hl,ll,sQ]
theorem bi (a:Fp):(aX a).length=48:=by rw [tq,lh]
theorem ahj:pN<W64 ^ 6:=by decide +kernel
theorem xQ {a:Fp} (ha:a.ok):aM (aX a)=(a,0):=by
 have hv:fw (qB (aX a))=a.nat:=by rw [xR,bi,H2]
 have hlt:a.nat<pN:=ha
 have hl:(qB (aX a)).length<=6:=wM (xs:=qB (aX a)) (Bw _) (by rw [hv];exact Nat.lt_trans hlt ahj)
 have e:ofL (qB (aX a))=a:=Fp.nat_inj (by rw [N8 hl,hv])
 unfold aM
 rw [e,(sx a).2 ha,bi]
 rfl
end
section
theorem Mh (xs:List UInt8):(List.map EK.u8.cell xs).length=xs.length:=List.length_map ..
section
variable {mF : List UInt8 -> Bool × Bool × Unit -> List UInt8} {pF : Fp -> List UInt8} (hm : ∀ xs x, (mF xs x).length = xs.length) (hp : ∀ a, (pF a).length = 48)
include hp in
theorem AP (gF:Fp->Bool) (a:Pg1):(oR pF gF a).full=true/\(oR pF gF a).okAll:=by
 refine ⟨rfl,?_⟩
 unfold oR
 simp only [Tree.okAll,Pr.holds,Mh,List.drop_zero,List.length_append,List.length_take,List.length_set,hp,List.length_cons,List.length_nil]
 simp
include hp in
theorem AO (gF:Fp2->Bool) (a:Pg2):(oQ pF gF a).full=true/\(oQ pF gF a).okAll:=by
 refine ⟨rfl,?_⟩
 unfold oQ
 simp only [Tree.okAll,Pr.holds,Mh,List.drop_zero,List.length_append,List.length_take,List.length_set,hp,List.length_cons,List.length_nil]
 simp
end
def iH (a:Pg1):List UInt8:=(Z3 qg aX bB a).outD []
def jB (a:Pg2):List UInt8:=(Z0 qg aX bX a).outD []
def kA (a:Pg1):List UInt8:=(oR aX cf a).outD []
def kv (a:Pg2):List UInt8:=(oQ aX ee a).outD []
theorem Wr:CallOk Tryz.prog 49 (K1 kg1.arg rB kA) :=
 G1 (E:=Ens [(97,L4 aX),(78,Kfb cf)] [97]) Tryz.func49 (c:=af Tryz.f49) (by kernel_rfl) (ac Tryz.func49 (by kernel_rfl) (by kernel_rfl)) kg1.inp oBl kA fun a _ =>
  DoesL.outs (cm (.cons GO (.cons tm .nil))) 300 [] (QS aX cf a) (AP bi cf a).1 (AP bi cf a).2
theorem Wp:CallOk Tryz.prog 50 (K1 kg2.arg rB kv) :=
 G1 (E:=Ens [(97,L4 aX),(98,Kpb ee)] [97]) Tryz.func50 (c:=af Tryz.f50) (by kernel_rfl) (ac Tryz.func50 (by kernel_rfl) (by kernel_rfl)) kg2.inp oBl kv fun a _ =>
  DoesL.outs (cm (.cons GO (.cons Lh .nil))) 300 [] (QR aX ee a) (AO bi ee a).1 (AO bi ee a).2
end
section
def zW (n:Int):Prop:=0<n/\n<4294967296
abbrev oB4:Out (List UInt8 × Bool × Bool × Int):=ajh 5
noncomputable abbrev bareC:List Code:=flat (aU Tryz.f87)
def zM (l:List UInt8) (n:Int) (g:Bool) (i:Int):St:=aw 61 [(1,vI n),(4,slB 0 l),(6,.one (.c (.bool g))),(8,vI i)] [adv l]
def abT (b:List UInt8) (n:Int):St:=aw 61 [(0,iB.av 0 b),(1,vI n)] [bN eU8 b]
theorem LX (b:List UInt8) (n:Int):b8 (En []) 100 ((flat (af Tryz.f87)).take 1) (ah Tryz.f87 [iB.av 0 b,vI n] [bN eU8 b]) [0,1] [0] = .leaf (abT b n):=by kernel_rfl
theorem LV (b:List UInt8) (n:Int):letI za':=0<b.length/\0+b.length*1<=(List.map EK.u8.cell b).length/\0<1;letI zb':=List.drop 0 b;letI zc':=0+b.length*1<=(List.map EK.u8.cell b).length/\0<1;letI zd':=0+b.length;letI ze':=0<b.length;segP (En []) oB4 300 Tryz.f87 (bareC.take 8) (abT b n) (Bs [1,4,6,8] [] [4]) [(1,.as),(4,.as),(6,.as),(8,.int)] [.as] []=(.vc zc' (.br (decide ((↑b.length:Int)<n)) (.leaf (.inr (some ((([],false,false,2),.t))))) (.vc zc' (.br (decide ((↑b.length:Int) > n)) (.leaf (.inr (some ((([],false,false,8),.t))))) (.vc za' (.vc ze' (.br (b.getD 0 0 &&& UInt8.ofNat 128==UInt8.ofNat 0) (.leaf (.inr (some ((([],false,false,3),.t))))) (.vc (0+b.length<=b.length/\0+b.length<=9223372036854775807/\zd'*1<=140737488355328) (.vc (0<0+b.length/\0+zd'*1<=(List.map EK.u8.cell ([]++List.take b.length zb')).length/\0<1) (.vc (0<([]++List.take b.length zb').length) (.vc (0<0+b.length/\0+zd'*1<=(List.map EK.u8.cell ([]++List.take b.length zb')).length/\0<1) (.vc (0<([]++List.take b.length zb').length) (.vc za' (.vc ze' (.vc za' (.vc ze' (.br (!(b.getD 0 0 &&& UInt8.ofNat 64 != UInt8.ofNat 0)) (.leaf (.inr (some (((List.take zd' (([]++List.take b.length zb').set 0 (([]++List.take b.length zb').getD 0 0 &&& ~~~UInt8.ofNat 224)),false,b.getD 0 0 &&& UInt8.ofNat 32 != UInt8.ofNat 0,0),(.p (0+b.length<=(([]++List.take b.length zb').set 0 (([]++List.take b.length zb').getD 0 0 &&& ~~~UInt8.ofNat 224)).length))))))) (.leaf (.inl (aw 61 [(1,.one (.c (.int .i64 (n)))),(4,.one (.c (.slc 0 0 zd' 1 (.of 0) false))),(6,.one (.c (.bool (b.getD 0 0 &&& UInt8.ofNat 32 != UInt8.ofNat 0)))),(8,.one (.c (.int .i64 0)))] [.live ⟨true,5,1,(.elts .u8 (([]++List.take b.length zb').set 0 (([]++List.take b.length zb').getD 0 0 &&& ~~~UInt8.ofNat 224):List UInt8)),false⟩])))))))))))))))))))):=by kernel_rfl
theorem LW (l:List UInt8) (n:Int) (g:Bool) (i:Int):fE (En []) oB4 300 Tryz.f87 (bareC.drop 8) (zM l n g i) [1,4,6,8] [0]=(.br (g) (.leaf (.inr (some ((([],false,false,3),.t))))) (.vc ((0<=i/\i<(↑l.length:Int))/\0+l.length*1<=(List.map EK.u8.cell l).length/\0<1) (.vc (0+i.toNat*1<l.length) (.br (l.getD (0+i.toNat*1) 0 != UInt8.ofNat 0) (.leaf (.inr (some ((([],false,false,3),.t))))) (.br (decide (IntKind.i64.wrap (i+1)<n)) (.leaf (.inl ((.goto 0,aw 61 [(1,.one (.c (.int .i64 (n)))),(4,.one (.c (.slc 0 0 (l.length) 1 (.of 0) false))),(6,.one (.c (.bool (g)))),(8,.one (.c (.int .i64 (IntKind.i64.wrap (i+1)))))] [.live ⟨true,5,1,(.elts .u8 (l:List UInt8)),false⟩])))) (.leaf (.inr (some (((List.take l.length l,true,false,0),(.p (l.length<=l.length)))))))))))):=by kernel_rfl
def bH (b:List UInt8):List UInt8:=b.set 0 (b.getD 0 0 &&& ~~~(UInt8.ofNat 224))
def dI (l:List UInt8):Nat->Bool
 | 0=>true
 | i+1=>dI l i && (l.getD i 0==0)
def DB (b:List UInt8):Bool:=b.getD 0 0 &&& UInt8.ofNat 128==UInt8.ofNat 0
def zL (b:List UInt8):Bool:=b.getD 0 0 &&& UInt8.ofNat 64 != UInt8.ofNat 0
def qK (b:List UInt8):Bool:=b.getD 0 0 &&& UInt8.ofNat 32 != UInt8.ofNat 0
def m7 (c1 c2 c3 c4 c5 c6:Bool) (l:List UInt8):List UInt8 × Bool × Bool × Int :=
 match c1 with
 | true=>([],false,false,2)
 | false=>match c2 with
  | true=>([],false,false,8)
  | false=>match c3 with
   | true=>([],false,false,3)
   | false=>match c4 with
    | false=>(l,false,c5,0)
    | true=>match c5 || !c6 with
     | true=>([],false,false,3)
     | false=>(l,true,false,0)
def b6 (b:List UInt8) (n:Int):List UInt8 × Bool × Bool × Int:=m7 (decide ((b.length:Int)<n)) (decide ((b.length:Int) > n)) (DB b) (zL b) (qK b) (dI (bH b) b.length) (bH b)
theorem dU (b:List UInt8):(bH b).length=b.length:=List.length_set ..
theorem qz {l:List UInt8} {i:Nat} (h:dI l i=false) : ∀ {n:Nat},i<=n->dI l n=false
 | 0,hn=>by rw [show (0:Nat)=i by omega];exact h
 | n+1,hn=>by
  rcases Nat.lt_or_ge n i with h1 | h1
  ·rw [show n+1=i by omega];exact h
  ·unfold dI
   rw [qz h h1]
   rfl
theorem A3 (b:List UInt8) : []++List.take b.length (List.drop 0 b)=b:=by rw [List.nil_append,List.drop_zero,List.take_length]
abbrev abm (b:List UInt8) (n:Int):Type := { q:Nat // q<b.length/\dI (bH b) q=true/\(q=0 \/ qK b=false)/\(b.length:Int)=n/\DB b=false/\zL b=true }
def agb (b:List UInt8) (n:Int) (q:abm b n):St:=zM (bH b) n (qK b) (q.1:Int)
theorem Ue (b:List UInt8) (n:Int) (hb:b.length<16777216) (hn:0<n) :
  DoesL (En []) (bareC.take 8) (abT b n) (Within (En []) Tryz.f87 oB4 (b6 b n) fun r=>match r.1 with | .normal => ∃ i0:abm b n,b.length-i0.1<b.length+1/\r.2=agb b n i0 | _=>False):=by
 refine DoesL.segP (ag .nil) 300 8 _ _ _ _ ((congrArg (fun c=>segP _ _ 300 _ c _ _ _ _ _) (show (bareC.take 8).take 8=bareC.take 8 by kernel_rfl)).trans (LV b n)) ?_
 rw [A3,Nat.zero_add b.length]
 refine ⟨jo b,fun _=>⟨fun h1=>⟨.t,by unfold b6 m7;rw [h1],trivial⟩,fun h1=>⟨jo b,fun _=>⟨fun h2=>⟨.t,by unfold b6 m7;rw [h1,h2],trivial⟩,fun h2 => ?_⟩⟩⟩⟩
 have e1:(b.length:Int)=n:=by
  simp only [decide_eq_false_iff_not] at h1 h2
  omega
 have h0:0<b.length:=by omega
 have v0:=ajU (ys:=b) rfl h0
 refine ⟨v0,fun _=>⟨h0,fun _=>⟨fun h3=>⟨.t,by unfold b6 m7;rw [h1,h2,show DB b=true from h3],trivial⟩,fun h3 => ?_⟩⟩⟩
 have h3:DB b=false:=h3
 have v1:=ajU (ys := []++List.take b.length (List.drop 0 b)) (congrArg List.length (A3 b)) h0
 refine ⟨⟨Nat.le_refl _,by omega,by omega⟩,fun _=>⟨v1,fun _=>⟨h0,fun _=>⟨v1,fun _=>⟨h0,fun _=>⟨v0,fun _=>⟨h0,fun _=>⟨v0,fun _=>⟨h0,fun _=>⟨fun h4 => ?_,fun h4 => ?_⟩⟩⟩⟩⟩⟩⟩⟩⟩⟩
 ·have h4:(!zL b)=true:=h4
  have h4:zL b=false:=by cases h:zL b with | false=>rfl | true=>rw [h] at h4;cases h4
  refine ⟨.p (b.length<=(bH b).length),?_,by rw [dU];exact Nat.le_refl _⟩
  unfold b6 m7
  rw [h1,h2,h3,h4]
  show some ((List.take b.length (bH b),false,qK b,0),_)=some ((bH b,false,qK b,0),_)
  rw [<- dU b,List.take_length]
  rfl
 ·have h4:zL b=true:=Cf h4
  refine ⟨_,Wk.refl _,⟨0,h0,rfl,.inl rfl,e1,h3,h4⟩,by show b.length-0<b.length+1;omega,?_⟩
  show _=zM (bH b) n (qK b) ((0:Nat):Int)
  unfold zM slB adv
  rw [dU]
  rfl
theorem Pb:CallOk Tryz.prog 87 (K2 aBs (kInt.arg.such zW) oB4.res b6) :=
 Go.Proofs.YtcbplfkeeaecgaaGreat.G2 (E:=En []) Tryz.func87 (c:=af Tryz.f87) (by kernel_rfl) (ac Tryz.func87 (by kernel_rfl) (by kernel_rfl)) iBs (kInt.inp.such zW) oB4 b6 fun b n hb hn=>by
  have hE:EnvOk (En []):=ag .nil
  have hb:b.length<16777216:=hb.2
  obtain ⟨hn1,hn2⟩:0<n/\n<4294967296:=hn.2
  refine DoesL.stageE hE 100 1 [0,1] [0] (LX b n) ?_
  refine DoesL.scopeFnR (body:=aU Tryz.f87) (rest:=oV Tryz.f87) (tail := []) (l:=0) hE (by kernel_rfl) (by kernel_rfl) 8 (by kernel_rfl) (agb b n) (fun q=>b.length-q.1) (b.length+1) (Ue b n hb hn1) fun q => ?_
  obtain ⟨i,hi,hz,h5,e1,h7,h6⟩:=q
  show DoesL _ _ (zM (bH b) n (qK b) (i:Int)) _
  refine DoesL.iter hE 300 _ _ (LW (bH b) n (qK b) (i:Int)) ?_
  have hf:b6 b n=m7 false false false true (qK b) (dI (bH b) b.length) (bH b):=by
   unfold b6
   rw [h7,h6,show decide ((b.length:Int)<n)=false from decide_eq_false (by omega),show decide ((b.length:Int) > n)=false from decide_eq_false (by omega)]
  have hl:i<(bH b).length:=by rw [dU];exact hi
  rw [aj7]
  refine ⟨fun h=>⟨.t,by rw [hf,h];rfl,trivial⟩,fun h=>⟨Mc hl,fun _=>⟨Md hl,fun _=>⟨fun h8=>⟨.t,?_,trivial⟩,fun h8 => ?_⟩⟩⟩⟩
  ·have hz1:dI (bH b) (i+1)=false:=by
    unfold dI
    have h8:(bH b).getD i 0 ≠ 0:=by simpa [bAt] using h8
    rw [hz,Bool.true_and]
    simpa using h8
   rw [hf,h,qz hz1 (show i+1<=b.length by omega)]
   rfl
  ·have hz1:dI (bH b) (i+1)=true:=by
    unfold dI
    have h8:(bH b).getD i 0=0:=by simpa [bAt] using h8
    rw [hz,h8]
    rfl
   rw [fM i (by omega)]
   refine ⟨fun h9 => ?_,fun h9 => ?_⟩
   ·simp only [decide_eq_true_eq] at h9
    exact ⟨rfl,⟨i+1,by omega,hz1,.inr h,e1,h7,h6⟩,by show b.length-(i+1)<b.length-i;omega,rfl⟩
   ·simp only [decide_eq_false_iff_not] at h9
    have e2:i+1=b.length:=by omega
    refine ⟨.p ((bH b).length<=(bH b).length),?_,Nat.le_refl _⟩
    rw [hf,h,<- e2,hz1,List.take_length]
    rfl
end
section
abbrev aN:Arg Int:=kInt.arg.such zW
def gA (f0:List UInt8->Int->List UInt8 × Bool × Bool × Int) (f1:List UInt8->Fp × Int) (f2:Fp->Fp × Bool) (f3:Fp->Fp->Fp) (f4:Fp->Fp->Fp) (f5:UInt64->Fp) (f6:Pg1->Pg1) (f7:Pg1->Bool) (b:List UInt8):Tree (Option ((Pg1 × Int) × Pr)):=letI za':=f1 (List.take (f0 (List.take b.length (List.drop 0 b)) 48).fst.length (List.drop 0 (f0 (List.take b.length (List.drop 0 b)) 48).fst));letI zb':Fp := { l0:=UInt64.ofNat 0,l1:=UInt64.ofNat 0,l2:=UInt64.ofNat 0,l3:=UInt64.ofNat 0,l4:=UInt64.ofNat 0,l5:=UInt64.ofNat 0 };letI zc':=f2 (f3 (f4 (f4 za'.fst za'.fst) za'.fst) (f5 (UInt64.ofNat 4)));letI zd':=f0 (List.take b.length (List.drop 0 b)) 48;letI ze':=zd'.snd.snd.fst;letI zf':=cH (zc'.fst) (zb');
 (.vc (((0+b.length<=b.length/\b.length<1125899906842624/\0=0/\1=1)/\e8 (List.take b.length (List.drop 0 b)))/\zW 48) (.br (zd'.snd.snd.snd != 0) (.leaf (some ((({ x:=zb',y:=zb',inf:=false },zd'.snd.snd.snd),.t)))) (.br (zd'.snd.fst) (.leaf (some ((({ x:=zb',y:=zb',inf:=true },0),.t)))) (.vc ((0+zd'.fst.length<=zd'.fst.length/\zd'.fst.length<1125899906842624/\0=0/\1=1)/\e8 (List.take zd'.fst.length (List.drop 0 zd'.fst))) (.br (za'.snd != 0) (.leaf (some ((({ x:=zb',y:=zb',inf:=false },za'.snd),.t)))) (.br ze' (.br (!(zc'.snd)) (.leaf (some ((({ x:=zb',y:=zb',inf:=false },5),.t)))) (.br ze' (.br zf' (.leaf (some ((({ x:=zb',y:=zb',inf:=false },3),.t)))) (.br (!(f7 (f6 { x:=za'.fst,y:=zc'.fst,inf:=false }))) (.leaf (some ((({ x:=zb',y:=zb',inf:=false },6),.t)))) (.leaf (some (((f6 { x:=za'.fst,y:=zc'.fst,inf:=false },0),.t)))))) (.br (!(f7 (f6 { x:=za'.fst,y:=zc'.fst,inf:=false }))) (.leaf (some ((({ x:=zb',y:=zb',inf:=false },6),.t)))) (.leaf (some (((f6 { x:=za'.fst,y:=zc'.fst,inf:=false },0),.t))))))) (.br (!(zc'.snd)) (.leaf (some ((({ x:=zb',y:=zb',inf:=false },5),.t)))) (.br ze' (.br zf' (.leaf (some ((({ x:=zb',y:=zb',inf:=false },3),.t)))) (.br (!(f7 { x:=za'.fst,y:=zc'.fst,inf:=false })) (.leaf (some ((({ x:=zb',y:=zb',inf:=false },6),.t)))) (.leaf (some ((({ x:=za'.fst,y:=zc'.fst,inf:=false },0),.t)))))) (.br (!(f7 { x:=za'.fst,y:=zc'.fst,inf:=false })) (.leaf (some ((({ x:=zb',y:=zb',inf:=false },6),.t)))) (.leaf (some ((({ x:=za'.fst,y:=zc'.fst,inf:=false },0),.t)))))))))))))
theorem I7 (f0:List UInt8->Int->List UInt8 × Bool × Bool × Int) (f1:List UInt8->Fp × Int) (f2:Fp->Fp × Bool) (f3:Fp->Fp->Fp) (f4:Fp->Fp->Fp) (f5:UInt64->Fp) (f6:Pg1->Pg1) (f7:Pg1->Bool) (b:List UInt8):dx (Ens [(87,K2 aBs aN oB4.res f0),(88,zS f1),(89,EE f2),(90,Kff f3),(91,Kff f4),(92,Kof f5),(35,K1 (aa Pg1).arg (aa Pg1).rs.res f6),(61,K1 (aa Pg1).arg kBool.rs.res f7)] [87]) ((aa Pg1).rs2 kInt).out 300 Tryz.f47 (flat (af Tryz.f47)) (ah Tryz.f47 [iBs.av 0 b] [bN eU8 b])=gA f0 f1 f2 f3 f4 f5 f6 f7 b:=by kernel_rfl
def dJ (b:List UInt8):Pg1 × Int:=(gA b6 aM aT cP bT ofF fB j5 b).outD (cS,0)
theorem I8 (h : ∀ (b:List UInt8),iBs.fact b->(gA b6 aM aT cP bT ofF fB j5 b).full=true/\(gA b6 aM aT cP bT ofF fB j5 b).okAll):CallOk Tryz.prog 47 (K1 aBs ((aa Pg1).rs2 kInt).out.res dJ) :=
 Go.Proofs.YtcbplfkeeaecgaaGreat.G1 (E:=Ens [(87,K2 aBs aN oB4.res b6),(88,zS aM),(89,EE aT),(90,Kff cP),(91,Kff bT),(92,Kof ofF),(35,K1 (aa Pg1).arg (aa Pg1).rs.res fB),(61,K1 (aa Pg1).arg kBool.rs.res j5)] [87]) Tryz.func47 (c:=af Tryz.f47) (by kernel_rfl) (ac Tryz.func47 (by kernel_rfl) (by kernel_rfl)) iBs ((aa Pg1).rs2 kInt).out dJ fun b hb=>DoesL.outs (cm (.cons Pb (.cons HY (.cons vY (.cons m8 (.cons pf (.cons of_ok (.cons Hr (.cons Dq .nil))))))))) 300 (cS,0) (I7 b6 aM aT cP bT ofF fB j5 b) (h b hb).1 (h b hb).2
def gz (f0:List UInt8->Int->List UInt8 × Bool × Bool × Int) (f1:List UInt8->Fp × Int) (f2:Fp2->Fp2 × Bool) (f3:Fp2->Fp2->Fp2) (f4:Fp2->Fp2->Fp2) (f5:Pg2->Pg2) (f6:Pg2->Bool) (b:List UInt8):Tree (Option ((Pg2 × Int) × Pr)):=letI za':Fp := { l0:=UInt64.ofNat 0,l1:=UInt64.ofNat 0,l2:=UInt64.ofNat 0,l3:=UInt64.ofNat 0,l4:=UInt64.ofNat 0,l5:=UInt64.ofNat 0 };letI zb':=f0 (List.take b.length (List.drop 0 b)) 96;letI zc':Fp := { l0:=UInt64.ofNat 4,l1:=UInt64.ofNat 0,l2:=UInt64.ofNat 0,l3:=UInt64.ofNat 0,l4:=UInt64.ofNat 0,l5:=UInt64.ofNat 0 };letI zd':=f1 (List.take (zb'.fst.length-48) (List.drop 48 zb'.fst));letI ze':=f1 (List.take 48 (List.drop 0 zb'.fst));letI zf':=zb'.snd.snd.fst;letI zg':=List.map EK.u8.cell zb'.fst;letI zh':=zb'.fst.length-48;
 (.vc (((0+b.length<=b.length/\b.length<1125899906842624/\0=0/\1=1)/\e8 (List.take b.length (List.drop 0 b)))/\zW 96) (.br (zb'.snd.snd.snd != 0) (.leaf (some ((({ x := { c0:=za',c1:=za' },y := { c0:=za',c1:=za' },inf:=false },zb'.snd.snd.snd),.t)))) (.br (zb'.snd.fst) (.leaf (some ((({ x := { c0:=za',c1:=za' },y := { c0:=za',c1:=za' },inf:=true },0),.t)))) (.vc (0<=48/\48<=zb'.fst.length/\0+zb'.fst.length*1<=zg'.length/\0<1/\(0=0 \/ 0<48)/\0=0/\1=1) (.vc ((48<=zb'.fst.length/\48<1125899906842624/\0=0/\1=1)/\e8 (List.take 48 (List.drop 0 zb'.fst))) (.br (ze'.snd != 0) (.leaf (some ((({ x := { c0:=za',c1:=za' },y := { c0:=za',c1:=za' },inf:=false },ze'.snd),.t)))) (.vc (48<=zb'.fst.length/\zb'.fst.length<=zb'.fst.length/\0+zb'.fst.length*1<=zg'.length/\0<1/\(48=0 \/ 48<zb'.fst.length)/\0=0/\1=1) (.vc ((48+zh'<=zb'.fst.length/\zb'.fst.length-48<1125899906842624/\48=48/\1=1)/\e8 (List.take zh' (List.drop 48 zb'.fst))) (.br (zd'.snd != 0) (.leaf (some ((({ x := { c0:=za',c1:=za' },y := { c0:=za',c1:=za' },inf:=false },zd'.snd),.t)))) (.br zf' (.br (!((f2 (f3 (f4 (f4 { c0:=zd'.fst,c1:=ze'.fst } { c0:=zd'.fst,c1:=ze'.fst }) { c0:=zd'.fst,c1:=ze'.fst }) { c0:=zc',c1:=zc' })).snd)) (.leaf (some ((({ x := { c0:=za',c1:=za' },y := { c0:=za',c1:=za' },inf:=false },5),.t)))) (.br zf' (.br (dj ((f2 (f3 (f4 (f4 { c0:=zd'.fst,c1:=ze'.fst } { c0:=zd'.fst,c1:=ze'.fst }) { c0:=zd'.fst,c1:=ze'.fst }) { c0:=zc',c1:=zc' })).fst) ({ c0:=za',c1:=za' })) (.leaf (some ((({ x := { c0:=za',c1:=za' },y := { c0:=za',c1:=za' },inf:=false },3),.t)))) (.br (!(f6 (f5 { x := { c0:=zd'.fst,c1:=ze'.fst },y:=(f2 (f3 (f4 (f4 { c0:=zd'.fst,c1:=ze'.fst } { c0:=zd'.fst,c1:=ze'.fst }) { c0:=zd'.fst,c1:=ze'.fst }) { c0:=zc',c1:=zc' })).fst,inf:=false }))) (.leaf (some ((({ x := { c0:=za',c1:=za' },y := { c0:=za',c1:=za' },inf:=false },6),.t)))) (.leaf (some (((f5 { x := { c0:=zd'.fst,c1:=ze'.fst },y:=(f2 (f3 (f4 (f4 { c0:=zd'.fst,c1:=ze'.fst } { c0:=zd'.fst,c1:=ze'.fst }) { c0:=zd'.fst,c1:=ze'.fst }) { c0:=zc',c1:=zc' })).fst,inf:=false },0),.t)))))) (.br (!(f6 (f5 { x := { c0:=zd'.fst,c1:=ze'.fst },y:=(f2 (f3 (f4 (f4 { c0:=zd'.fst,c1:=ze'.fst } { c0:=zd'.fst,c1:=ze'.fst }) { c0:=zd'.fst,c1:=ze'.fst }) { c0:=zc',c1:=zc' })).fst,inf:=false }))) (.leaf (some ((({ x := { c0:=za',c1:=za' },y := { c0:=za',c1:=za' },inf:=false },6),.t)))) (.leaf (some (((f5 { x := { c0:=zd'.fst,c1:=ze'.fst },y:=(f2 (f3 (f4 (f4 { c0:=zd'.fst,c1:=ze'.fst } { c0:=zd'.fst,c1:=ze'.fst }) { c0:=zd'.fst,c1:=ze'.fst }) { c0:=zc',c1:=zc' })).fst,inf:=false },0),.t))))))) (.br (!((f2 (f3 (f4 (f4 { c0:=zd'.fst,c1:=ze'.fst } { c0:=zd'.fst,c1:=ze'.fst }) { c0:=zd'.fst,c1:=ze'.fst }) { c0:=zc',c1:=zc' })).snd)) (.leaf (some ((({ x := { c0:=za',c1:=za' },y := { c0:=za',c1:=za' },inf:=false },5),.t)))) (.br zf' (.br (dj ((f2 (f3 (f4 (f4 { c0:=zd'.fst,c1:=ze'.fst } { c0:=zd'.fst,c1:=ze'.fst }) { c0:=zd'.fst,c1:=ze'.fst }) { c0:=zc',c1:=zc' })).fst) ({ c0:=za',c1:=za' })) (.leaf (some ((({ x := { c0:=za',c1:=za' },y := { c0:=za',c1:=za' },inf:=false },3),.t)))) (.br (!(f6 { x := { c0:=zd'.fst,c1:=ze'.fst },y:=(f2 (f3 (f4 (f4 { c0:=zd'.fst,c1:=ze'.fst } { c0:=zd'.fst,c1:=ze'.fst }) { c0:=zd'.fst,c1:=ze'.fst }) { c0:=zc',c1:=zc' })).fst,inf:=false })) (.leaf (some ((({ x := { c0:=za',c1:=za' },y := { c0:=za',c1:=za' },inf:=false },6),.t)))) (.leaf (some ((({ x := { c0:=zd'.fst,c1:=ze'.fst },y:=(f2 (f3 (f4 (f4 { c0:=zd'.fst,c1:=ze'.fst } { c0:=zd'.fst,c1:=ze'.fst }) { c0:=zd'.fst,c1:=ze'.fst }) { c0:=zc',c1:=zc' })).fst,inf:=false },0),.t)))))) (.br (!(f6 { x := { c0:=zd'.fst,c1:=ze'.fst },y:=(f2 (f3 (f4 (f4 { c0:=zd'.fst,c1:=ze'.fst } { c0:=zd'.fst,c1:=ze'.fst }) { c0:=zd'.fst,c1:=ze'.fst }) { c0:=zc',c1:=zc' })).fst,inf:=false })) (.leaf (some ((({ x := { c0:=za',c1:=za' },y := { c0:=za',c1:=za' },inf:=false },6),.t)))) (.leaf (some ((({ x := { c0:=zd'.fst,c1:=ze'.fst },y:=(f2 (f3 (f4 (f4 { c0:=zd'.fst,c1:=ze'.fst } { c0:=zd'.fst,c1:=ze'.fst }) { c0:=zd'.fst,c1:=ze'.fst }) { c0:=zc',c1:=zc' })).fst,inf:=false },0),.t)))))))))))))))))
theorem I5 (f0:List UInt8->Int->List UInt8 × Bool × Bool × Int) (f1:List UInt8->Fp × Int) (f2:Fp2->Fp2 × Bool) (f3:Fp2->Fp2->Fp2) (f4:Fp2->Fp2->Fp2) (f5:Pg2->Pg2) (f6:Pg2->Bool) (b:List UInt8):dx (Ens [(87,K2 aBs aN oB4.res f0),(88,zS f1),(93,K1 (aa Fp2).arg ((aa Fp2).rs2 kBool).res f2),(94,K2 (aa Fp2).arg (aa Fp2).arg (aa Fp2).rs.res f3),(95,K2 (aa Fp2).arg (aa Fp2).arg (aa Fp2).rs.res f4),(96,K1 (aa Pg2).arg (aa Pg2).rs.res f5),(62,K1 (aa Pg2).arg kBool.rs.res f6)] [87]) ((aa Pg2).rs2 kInt).out 300 Tryz.f48 (flat (af Tryz.f48)) (ah Tryz.f48 [iBs.av 0 b] [bN eU8 b])=gz f0 f1 f2 f3 f4 f5 f6 b:=by kernel_rfl
def ki (b:List UInt8):Pg2 × Int:=(gz b6 aM cj az aR j9 mv b).outD (gn,0)
theorem I6 (h : ∀ (b:List UInt8),iBs.fact b->(gz b6 aM cj az aR j9 mv b).full=true/\(gz b6 aM cj az aR j9 mv b).okAll):CallOk Tryz.prog 48 (K1 aBs ((aa Pg2).rs2 kInt).out.res ki) :=
 Go.Proofs.YtcbplfkeeaecgaaGreat.G1 (E:=Ens [(87,K2 aBs aN oB4.res b6),(88,zS aM),(93,K1 (aa Fp2).arg ((aa Fp2).rs2 kBool).res cj),(94,K2 (aa Fp2).arg (aa Fp2).arg (aa Fp2).rs.res az),(95,K2 (aa Fp2).arg (aa Fp2).arg (aa Fp2).rs.res aR),(96,K1 (aa Pg2).arg (aa Pg2).rs.res j9),(62,K1 (aa Pg2).arg kBool.rs.res mv)] [87]) Tryz.func48 (c:=af Tryz.f48) (by kernel_rfl) (ac Tryz.func48 (by kernel_rfl) (by kernel_rfl)) iBs ((aa Pg2).rs2 kInt).out ki fun b hb=>DoesL.outs (cm (.cons Pb (.cons HY (.cons Qp (.cons eH (.cons lA (.cons XD (.cons Dp .nil)))))))) 300 (gn,0) (I5 b6 aM cj az aR j9 mv b) (h b hb).1 (h b hb).2
end
section
abbrev okF (f:List UInt8->Int->List UInt8 × Bool × Bool × Int) (b:List UInt8) (n:Int):Prop:=(f b n).1.length<=b.length/\((f b n).2.2.2=0->(f b n).2.1=false->((f b n).1.length:Int)=n)
theorem afW : ¬ ((2:Int)=0):=by decide
theorem aer : ¬ ((3:Int)=0):=by decide
theorem afV : ¬ ((8:Int)=0):=by decide
theorem Zs (c1 c2 c3 c4 c5 c6:Bool) (l:List UInt8) {m:Nat} {n:Int} (hl:l.length<=m) (h:c1=false->c2=false->(l.length:Int)=n):(m7 c1 c2 c3 c4 c5 c6 l).1.length<=m/\((m7 c1 c2 c3 c4 c5 c6 l).2.2.2=0->(m7 c1 c2 c3 c4 c5 c6 l).2.1=false->((m7 c1 c2 c3 c4 c5 c6 l).1.length:Int)=n):=by
 cases c1 <;> cases c2 <;> cases c3 <;> cases c4 <;> cases c5 <;> cases c6 <;> first
  | exact ⟨hl,fun _ _=>h rfl rfl⟩
  | exact ⟨hl,fun _ h=>Bool.noConfusion h⟩
  | exact ⟨Nat.zero_le _,fun h=>absurd h afW⟩
  | exact ⟨Nat.zero_le _,fun h=>absurd h aer⟩
  | exact ⟨Nat.zero_le _,fun h=>absurd h afV⟩
theorem Iq (b:List UInt8) (n:Int):okF b6 b n :=
 Zs _ _ _ _ _ _ (bH b) (Nat.le_of_eq (dU b)) fun h1 h2=>by
  have h1:=of_decide_eq_false h1
  have h2:=of_decide_eq_false h2
  have hl:=dU b
  omega
theorem dR {n:Int} (h:(n != 0)=false):n=0:=by simpa using h
theorem agN:zW 48:=⟨by decide,by decide⟩
theorem agM:zW 96:=⟨by decide,by decide⟩
theorem Nu {l:List UInt8} {s n:Nat} (h:n<16777216):e8 (List.take n (List.drop s l)):=by show (List.take n (List.drop s l)).length<_;rw [List.length_take];omega
theorem ajj (l:List UInt8):(List.map EK.u8.cell l).length=l.length:=Mh l
theorem P5 {f0:List UInt8->Int->List UInt8 × Bool × Bool × Int} {f1 f2 f3 f4 f5 f6 f7} (b:List UInt8) (hF:okF f0 b 48) (hb:b.length<16777216):(gA f0 f1 f2 f3 f4 f5 f6 f7 b).full=true/\(gA f0 f1 f2 f3 f4 f5 f6 f7 b).okAll:=by
 refine ⟨rfl,?_⟩
 obtain ⟨h1,h2⟩:=hF
 unfold gA
 simp only [Tree.okAll,lk,Pr.holds,implies_true,and_true,true_and]
 have h3:=Nat.lt_of_le_of_lt h1 hb
 refine ⟨⟨⟨?_,hb⟩,agN⟩,fun _ _=>⟨?_,h3⟩⟩ <;> omega
theorem PY {f0:List UInt8->Int->List UInt8 × Bool × Bool × Int} {f1 f2 f3 f4 f5 f6} (b:List UInt8) (hF:okF f0 b 96) (hb:b.length<16777216):(gz f0 f1 f2 f3 f4 f5 f6 b).full=true/\(gz f0 f1 f2 f3 f4 f5 f6 b).okAll:=by
 refine ⟨rfl,?_⟩
 obtain ⟨h1,h2⟩:=hF
 unfold gz
 simp only [Tree.okAll,lk,Pr.holds,implies_true,and_true,true_and]
 refine ⟨⟨⟨by omega,hb⟩,agM⟩,fun a1 a2 => ?_⟩
 have hl:(f0 b 96).1.length=96:=by have:=h2 (dR a1) a2;omega
 have hm:=ajj (f0 b 96).1
 refine ⟨?_,⟨?_,Nu (by omega)⟩,fun _=>⟨?_,?_,Nu (by omega)⟩⟩ <;> omega
theorem P6:CallOk Tryz.prog 47 (K1 aBs ((aa Pg1).rs2 kInt).out.res dJ):=I8 fun b hb=>P5 b (Iq b 48) hb.2
theorem PZ:CallOk Tryz.prog 48 (K1 aBs ((aa Pg2).rs2 kInt).out.res ki):=I6 fun b hb=>PY b (Iq b 96) hb.2
end
section
def hdB (l:List UInt8) (t:UInt8):List UInt8:=l.set 0 (l.getD 0 0+t)
theorem aex (l:List UInt8) (t:UInt8):(hdB l t).length=l.length:=List.length_set ..
def Af:List UInt8:=hdB (List.replicate 48 0) 192
def Ae:List UInt8:=hdB (List.replicate 96 0) 192
theorem nX (a:Pg1):iH a=cond a.inf Af (qg (aX a.x) (false,bB a.y,())):=by
 unfold iH Z3
 simp only [mr,mq,ik]
 rw [show ∀ x,List.take (aX a.x).length (qg (aX a.x) x)=qg (aX a.x) x from fun x=>List.take_of_length_le (Nat.le_of_eq (n6 _ _))]
 rfl
theorem nW (a:Pg2):jB a=cond a.inf Ae (qg (aX a.x.c1++aX a.x.c0) (false,bX a.y,())):=by
 unfold jB Z0
 simp only [mr,mq,ik,lk]
 rw [<- List.length_append,show ∀ x,List.take (aX a.x.c1++aX a.x.c0).length (qg (aX a.x.c1++aX a.x.c0) x)=qg (aX a.x.c1++aX a.x.c0) x from fun x=>List.take_of_length_le (Nat.le_of_eq (n6 _ _))]
 rfl
theorem pV (a:Pg1):kA a=cond a.inf Af (cond (cf a.y) (hdB (hdB (aX a.x) 32) 128) (hdB (aX a.x) 128)):=by
 unfold kA oR
 simp only [mr,mq,ik]
 cases a.inf <;> cases cf a.y <;> first
  | rfl
  | exact List.take_of_length_le (by simp only [List.length_set];exact Nat.le_refl _)
theorem pU (a:Pg2):kv a=cond a.inf Ae (cond (ee a.y) (hdB (hdB (aX a.x.c1++aX a.x.c0) 32) 128) (hdB (aX a.x.c1++aX a.x.c0) 128)):=by
 unfold kv oQ
 simp only [mr,mq,ik,lk]
 cases a.inf <;> cases ee a.y <;> first
  | rfl
  | exact List.take_of_length_le (by simp only [List.length_set,List.length_append];exact Nat.le_refl _)
theorem lb (a:Pg1):(iH a).length=48:=by
 rw [nX]
 cases a.inf
 ·exact (n6 _ _).trans (bi _)
 ·rfl
theorem Rh (a:Pg2):(jB a).length=96:=by
 rw [nW]
 cases a.inf
 ·exact (n6 _ _).trans (by rw [List.length_append,bi,bi])
 ·rfl
end
set_option maxRecDepth 100000
section
def slY (i c:Nat):AV := .one (.c (.slc i 0 c 1 (.of 0) false))
def akm (l:List UInt8):HE := .live ⟨true,5,1,.elts .u8 l,false⟩
noncomputable abbrev byC:List Code:=flat (af Tryz.f19)
noncomputable abbrev byE (f1:Pg1->List UInt8) (f2:Pg2->List UInt8):Env:=Ens [(49,K1 kg1.arg rB f1),(50,K1 kg2.arg rB f2)] [49,50]
def byS (p:List Pg1 × Pg2) (z:Int) (c:Nat) (l:List UInt8):St:=aw 35 [(1,bv 1),(3,slY 2 c),(4,vI z)] [k9 .g1 p.1,J7 0 p,akm l]
theorem Zl (f1:Pg1->List UInt8) (f2:Pg2->List UInt8) (p:List Pg1 × Pg2):letI za':=0+p.fst.length*13<=(ao RK.g1 p.fst).length/\0<13;letI zb':=(↑p.fst.length:Int);stageG (byE f1 f2) 100 (byC.take 3) (ah Tryz.f19 [pwV 0 p] [k9 .g1 p.1]) [1,3,4] [0,1,2] [(1,.as),(3,.slc),(4,.int)] [.as,.as,.lst .u8] []=(.vc za' (.vc za' (.leaf (aw 35 [(1,.one (.c (.ptr 1 0))),(3,.one (.c (.slc 2 0 2 1 (.of 0) false))),(4,.one (.c (.int .i64 0)))] [.live ⟨false,0,13,(.rows .g1 (p.fst:List Pg1)),false⟩,.live ⟨true,35,0,(.row [(.slc 0 0 (p.fst.length) 13 (.of 0) false),(.u64 (p.snd.x.c0.l0)),(.u64 (p.snd.x.c0.l1)),(.u64 (p.snd.x.c0.l2)),(.u64 (p.snd.x.c0.l3)),(.u64 (p.snd.x.c0.l4)),(.u64 (p.snd.x.c0.l5)),(.u64 (p.snd.x.c1.l0)),(.u64 (p.snd.x.c1.l1)),(.u64 (p.snd.x.c1.l2)),(.u64 (p.snd.x.c1.l3)),(.u64 (p.snd.x.c1.l4)),(.u64 (p.snd.x.c1.l5)),(.u64 (p.snd.y.c0.l0)),(.u64 (p.snd.y.c0.l1)),(.u64 (p.snd.y.c0.l2)),(.u64 (p.snd.y.c0.l3)),(.u64 (p.snd.y.c0.l4)),(.u64 (p.snd.y.c0.l5)),(.u64 (p.snd.y.c1.l0)),(.u64 (p.snd.y.c1.l1)),(.u64 (p.snd.y.c1.l2)),(.u64 (p.snd.y.c1.l3)),(.u64 (p.snd.y.c1.l4)),(.u64 (p.snd.y.c1.l5)),(.bool (p.snd.inf))]),false⟩,.live ⟨true,5,1,(.elts .u8 ([UInt8.ofNat (IntKind.i64.wrap (zb'.tdiv 256) % 256).toNat,UInt8.ofNat (zb' % 256).toNat]:List UInt8)),false⟩])))):=by kernel_rfl
theorem Zm (f1:Pg1->List UInt8) (f2:Pg2->List UInt8) (p:List Pg1 × Pg2) (z:Int) (c:Nat) (l:List UInt8):letI za':=f1 (p.fst.getD (0+z.toNat) cS);letI zb':=(↑p.fst.length:Int);roundP (byE f1 f2) 300 (bk Tryz.f19 0) (byS p z c l) (Bs [1,3,4] [0,1] [3])=(.vc (0+p.fst.length*13<=(ao RK.g1 p.fst).length/\0<13) (.br (decide (z<zb')) (.vc ((0<=z/\z<zb')/\0+p.fst.length*13<=(ao RK.g1 p.fst).length/\0<13/\0=0) (.vc (0+z.toNat<p.fst.length) (.vc ((0+c<=l.length/\0+za'.length<=za'.length)/\c+za'.length<=9223372036854775807/\(c+za'.length)*1<=140737488355328) (.leaf ((.normal,aw 35 [(1,.one (.c (.ptr 1 0))),(3,.one (.c (.slc 2 0 (c+za'.length) 1 (.of 0) false))),(4,.one (.c (.int .i64 (IntKind.i64.wrap (z+1)))))] [.live ⟨false,0,13,(.rows .g1 (p.fst:List Pg1)),false⟩,.live ⟨true,35,0,(.row [(.slc 0 0 (p.fst.length) 13 (.of 0) false),(.u64 (p.snd.x.c0.l0)),(.u64 (p.snd.x.c0.l1)),(.u64 (p.snd.x.c0.l2)),(.u64 (p.snd.x.c0.l3)),(.u64 (p.snd.x.c0.l4)),(.u64 (p.snd.x.c0.l5)),(.u64 (p.snd.x.c1.l0)),(.u64 (p.snd.x.c1.l1)),(.u64 (p.snd.x.c1.l2)),(.u64 (p.snd.x.c1.l3)),(.u64 (p.snd.x.c1.l4)),(.u64 (p.snd.x.c1.l5)),(.u64 (p.snd.y.c0.l0)),(.u64 (p.snd.y.c0.l1)),(.u64 (p.snd.y.c0.l2)),(.u64 (p.snd.y.c0.l3)),(.u64 (p.snd.y.c0.l4)),(.u64 (p.snd.y.c0.l5)),(.u64 (p.snd.y.c1.l0)),(.u64 (p.snd.y.c1.l1)),(.u64 (p.snd.y.c1.l2)),(.u64 (p.snd.y.c1.l3)),(.u64 (p.snd.y.c1.l4)),(.u64 (p.snd.y.c1.l5)),(.bool (p.snd.inf))]),false⟩,.live ⟨true,5,1,(.elts .u8 (List.take c (List.drop 0 l)++List.take za'.length (List.drop 0 za'):List UInt8)),false⟩])))))) (.leaf ((.exit 0,aw 35 [(1,.one (.c (.ptr 1 0))),(3,.one (.c (.slc 2 0 (c) 1 (.of 0) false))),(4,.one (.c (.int .i64 (z))))] [.live ⟨false,0,13,(.rows .g1 (p.fst:List Pg1)),false⟩,.live ⟨true,35,0,(.row [(.slc 0 0 (p.fst.length) 13 (.of 0) false),(.u64 (p.snd.x.c0.l0)),(.u64 (p.snd.x.c0.l1)),(.u64 (p.snd.x.c0.l2)),(.u64 (p.snd.x.c0.l3)),(.u64 (p.snd.x.c0.l4)),(.u64 (p.snd.x.c0.l5)),(.u64 (p.snd.x.c1.l0)),(.u64 (p.snd.x.c1.l1)),(.u64 (p.snd.x.c1.l2)),(.u64 (p.snd.x.c1.l3)),(.u64 (p.snd.x.c1.l4)),(.u64 (p.snd.x.c1.l5)),(.u64 (p.snd.y.c0.l0)),(.u64 (p.snd.y.c0.l1)),(.u64 (p.snd.y.c0.l2)),(.u64 (p.snd.y.c0.l3)),(.u64 (p.snd.y.c0.l4)),(.u64 (p.snd.y.c0.l5)),(.u64 (p.snd.y.c1.l0)),(.u64 (p.snd.y.c1.l1)),(.u64 (p.snd.y.c1.l2)),(.u64 (p.snd.y.c1.l3)),(.u64 (p.snd.y.c1.l4)),(.u64 (p.snd.y.c1.l5)),(.bool (p.snd.inf))]),false⟩,.live ⟨true,5,1,(.elts .u8 (l:List UInt8)),false⟩]))))):=by kernel_rfl
theorem aii (f1:Pg1->List UInt8) (f2:Pg2->List UInt8) (p:List Pg1 × Pg2) (z:Int) (c:Nat) (l:List UInt8):letI za':=List.drop 0 (f2 p.snd);letI zb':=c+(f2 p.snd).length;dx (byE f1 f2) oBl 100 Tryz.f19 (byC.drop 4) (byS p z c l)=(.vc ((0+c<=l.length/\0+(f2 p.snd).length<=(f2 p.snd).length)/\c+(f2 p.snd).length<=9223372036854775807/\zb'*1<=140737488355328) (.leaf (some ((List.take zb' (List.take c (List.drop 0 l)++List.take (f2 p.snd).length za'),(.p (c+(f2 p.snd).length<=(List.take c (List.drop 0 l)++List.take (f2 p.snd).length za').length))))))):=by kernel_rfl
noncomputable abbrev tkC:List Code:=flat (af Tryz.f18)
noncomputable abbrev tkE (t1:List UInt8->Pg1 × Int) (t2:List UInt8->Pg2 × Int) (cF:List Pg1 × Pg2->Int):Env:=En [(47,K1 aBs ((aa Pg1).rs2 kInt).out.res t1),(48,K1 aBs ((aa Pg2).rs2 kInt).out.res t2),(11,K1 zR kInt.rs.res cF)]
def tkS (b:List UInt8) (n z:Int) (off len c:Nat) (l:List Pg1):St:=aw 93 [(2,bv 1),(3,vI 0),(6,bv 2),(7,.one (.c (.slc 0 off len 1 (.of off) false))),(53,vI n),(54,vI z)] [bN eU8 b,own 35 aiG,own 35 (.slc 3 0 c 13 (.of 0) false :: (bO 24 ++ [.ff])),.live ⟨true,46,13,.rows .g1 l,false⟩]
theorem Vu (t1:List UInt8->Pg1 × Int) (t2:List UInt8->Pg2 × Int) (cF:List Pg1 × Pg2->Int) (b:List UInt8):letI za':Fp := { l0:=UInt64.ofNat 0,l1:=UInt64.ofNat 0,l2:=UInt64.ofNat 0,l3:=UInt64.ofNat 0,l4:=UInt64.ofNat 0,l5:=UInt64.ofNat 0 };letI zb':=(qD IntKind.i64 (↑(b.getD 0 0).toNat:Int) 8);letI zc':=0+b.length*1<=(List.map EK.u8.cell b).length/\0<1;letI zd':=(IntKind.i64.wrap (2+IntKind.i64.wrap (bits BinOp.or IntKind.i64 zb' (↑(b.getD 1 0).toNat:Int)*48))+96);letI ze':=(↑(b.getD 1 0).toNat:Int);letI zf':=List.map EK.u8.cell b;letI zg':=(↑b.length:Int);segN (tkE t1 t2 cF) oMk 300 Tryz.f18 (tkC.take 9) (ah Tryz.f18 [iBs.av 0 b] [bN eU8 b]) [2,3,6,7,53,54] [0,1,2] [(2,.as),(3,.int),(6,.as),(7,.slc),(53,.as),(54,.int)] [] [] [(2,0,46,.rows .g1)]=(.vc zc' (.br (decide (zg'<2)) (.leaf (.inr (some (((([],{ x := { c0:=za',c1:=za' },y := { c0:=za',c1:=za' },inf:=false }),2),.t))))) (.vc (0<b.length/\0+b.length*1<=zf'.length/\0<1) (.vc (0<b.length) (.vc (1<b.length/\0+b.length*1<=zf'.length/\0<1) (.vc (1<b.length) (.br (decide (bits BinOp.or IntKind.i64 zb' ze'<2)) (.leaf (.inr (some (((([],{ x := { c0:=za',c1:=za' },y := { c0:=za',c1:=za' },inf:=false }),1),.t))))) (.br (decide (bits BinOp.or IntKind.i64 zb' ze' > 80)) (.leaf (.inr (some (((([],{ x := { c0:=za',c1:=za' },y := { c0:=za',c1:=za' },inf:=false }),1),.t))))) (.vc zc' (.br (decide (zg'<IntKind.i64.wrap zd')) (.leaf (.inr (some (((([],{ x := { c0:=za',c1:=za' },y := { c0:=za',c1:=za' },inf:=false }),2),.t))))) (.vc zc' (.br (decide (zg' > IntKind.i64.wrap zd')) (.leaf (.inr (some (((([],{ x := { c0:=za',c1:=za' },y := { c0:=za',c1:=za' },inf:=false }),8),.t))))) (.vc (2<=b.length/\b.length<=b.length/\0+b.length*1<=zf'.length/\0<1/\(2=0 \/ 2<b.length)/\0=0/\1=1) (.leaf (.inl (aw 93 [(2,.one (.c (.ptr 1 0))),(3,.one (.c (.int .i64 0))),(6,.one (.c (.ptr 2 0))),(7,.one (.c (.slc 0 2 (b.length-2) 1 (.of 2) false))),(53,.one (.c (.int .i64 (bits BinOp.or IntKind.i64 zb' ze')))),(54,.one (.c (.int .i64 0)))] [.live ⟨false,0,1,(.elts .u8 (b:List UInt8)),false⟩,.live ⟨true,35,0,(.row [.nils,(.lit .u64 0),(.lit .u64 0),(.lit .u64 0),(.lit .u64 0),(.lit .u64 0),(.lit .u64 0),(.lit .u64 0),(.lit .u64 0),(.lit .u64 0),(.lit .u64 0),(.lit .u64 0),(.lit .u64 0),(.lit .u64 0),(.lit .u64 0),(.lit .u64 0),(.lit .u64 0),(.lit .u64 0),(.lit .u64 0),(.lit .u64 0),(.lit .u64 0),(.lit .u64 0),(.lit .u64 0),(.lit .u64 0),(.lit .u64 0),.ff]),false⟩,.live ⟨true,35,0,(.row [(.slc 3 0 0 13 (.of 0) false),(.lit .u64 0),(.lit .u64 0),(.lit .u64 0),(.lit .u64 0),(.lit .u64 0),(.lit .u64 0),(.lit .u64 0),(.lit .u64 0),(.lit .u64 0),(.lit .u64 0),(.lit .u64 0),(.lit .u64 0),(.lit .u64 0),(.lit .u64 0),(.lit .u64 0),(.lit .u64 0),(.lit .u64 0),(.lit .u64 0),(.lit .u64 0),(.lit .u64 0),(.lit .u64 0),(.lit .u64 0),(.lit .u64 0),(.lit .u64 0),.ff]),false⟩,.live ⟨true,46,13,(.rows .g1 ([]:List Pg1)),false⟩])))))))))))))))):=by kernel_rfl
theorem Vv (t1:List UInt8->Pg1 × Int) (t2:List UInt8->Pg2 × Int) (cF:List Pg1 × Pg2->Int) (b:List UInt8) (n z:Int) (off len c:Nat) (l:List Pg1):letI za':Fp := { l0:=UInt64.ofNat 0,l1:=UInt64.ofNat 0,l2:=UInt64.ofNat 0,l3:=UInt64.ofNat 0,l4:=UInt64.ofNat 0,l5:=UInt64.ofNat 0 };letI zb':=List.take 48 (List.drop (off+0) b);letI zc':=List.map EK.u8.cell b;iterP (tkE t1 t2 cF) oMk 300 Tryz.f18 [bk Tryz.f18 0] (tkS b n z off len c l) (qo [2,3,6,7,53,54] [0,1,2] [] [2])=(.br (decide (z<n)) (.vc (0<=48/\48<=len/\off+len*1<=zc'.length/\0<1/\(0=0 \/ 0<48)/\off*1=off/\1=1) (.vc ((off+0+48<=b.length/\48<1125899906842624/\(off+0)*1=off+0/\1=1)/\e8 zb') (.br ((t1 zb').snd != 0) (.leaf (.inr (some (((([],{ x := { c0:=za',c1:=za' },y := { c0:=za',c1:=za' },inf:=false }),(t1 zb').snd),.t))))) (.vc ((0+c*13<=(ao RK.g1 l).length/\0=0)/\c+1<=9223372036854775807/\(c+1)*104<=140737488355328) (.vc (48<=len/\len<=len/\off+len*1<=zc'.length/\0<1/\(48=0 \/ 48<len)/\off*1=off/\1=1) (.leaf (.inl ((.normal,aw 93 [(2,.one (.c (.ptr 1 0))),(3,.one (.c (.int .i64 0))),(6,.one (.c (.ptr 2 0))),(7,.one (.c (.slc 0 (off+48) (len-48) 1 (.of (off+48)) false))),(53,.one (.c (.int .i64 (n)))),(54,.one (.c (.int .i64 (IntKind.i64.wrap (z+1)))))] [.live ⟨false,0,1,(.elts .u8 (b:List UInt8)),false⟩,.live ⟨true,35,0,(.row [.nils,(.lit .u64 0),(.lit .u64 0),(.lit .u64 0),(.lit .u64 0),(.lit .u64 0),(.lit .u64 0),(.lit .u64 0),(.lit .u64 0),(.lit .u64 0),(.lit .u64 0),(.lit .u64 0),(.lit .u64 0),(.lit .u64 0),(.lit .u64 0),(.lit .u64 0),(.lit .u64 0),(.lit .u64 0),(.lit .u64 0),(.lit .u64 0),(.lit .u64 0),(.lit .u64 0),(.lit .u64 0),(.lit .u64 0),(.lit .u64 0),.ff]),false⟩,.live ⟨true,35,0,(.row [(.slc 3 0 (c+1) 13 (.of 0) false),(.lit .u64 0),(.lit .u64 0),(.lit .u64 0),(.lit .u64 0),(.lit .u64 0),(.lit .u64 0),(.lit .u64 0),(.lit .u64 0),(.lit .u64 0),(.lit .u64 0),(.lit .u64 0),(.lit .u64 0),(.lit .u64 0),(.lit .u64 0),(.lit .u64 0),(.lit .u64 0),(.lit .u64 0),(.lit .u64 0),(.lit .u64 0),(.lit .u64 0),(.lit .u64 0),(.lit .u64 0),(.lit .u64 0),(.lit .u64 0),.ff]),false⟩,.live ⟨true,46,13,(.rows .g1 (List.take (rJ c (13 / 13)) (List.drop 0 l) ++ [(t1 zb').fst]:List Pg1)),false⟩]))))))))) (.leaf (.inl ((.exit 1,aw 93 [(2,.one (.c (.ptr 1 0))),(3,.one (.c (.int .i64 0))),(6,.one (.c (.ptr 2 0))),(7,.one (.c (.slc 0 (off) (len) 1 (.of (off)) false))),(53,.one (.c (.int .i64 (n)))),(54,.one (.c (.int .i64 (z))))] [.live ⟨false,0,1,(.elts .u8 (b:List UInt8)),false⟩,.live ⟨true,35,0,(.row [.nils,(.lit .u64 0),(.lit .u64 0),(.lit .u64 0),(.lit .u64 0),(.lit .u64 0),(.lit .u64 0),(.lit .u64 0),(.lit .u64 0),(.lit .u64 0),(.lit .u64 0),(.lit .u64 0),(.lit .u64 0),(.lit .u64 0),(.lit .u64 0),(.lit .u64 0),(.lit .u64 0),(.lit .u64 0),(.lit .u64 0),(.lit .u64 0),(.lit .u64 0),(.lit .u64 0),(.lit .u64 0),(.lit .u64 0),(.lit .u64 0),.ff]),false⟩,.live ⟨true,35,0,(.row [(.slc 3 0 (c) 13 (.of 0) false),(.lit .u64 0),(.lit .u64 0),(.lit .u64 0),(.lit .u64 0),(.lit .u64 0),(.lit .u64 0),(.lit .u64 0),(.lit .u64 0),(.lit .u64 0),(.lit .u64 0),(.lit .u64 0),(.lit .u64 0),(.lit .u64 0),(.lit .u64 0),(.lit .u64 0),(.lit .u64 0),(.lit .u64 0),(.lit .u64 0),(.lit .u64 0),(.lit .u64 0),(.lit .u64 0),(.lit .u64 0),(.lit .u64 0),(.lit .u64 0),.ff]),false⟩,.live ⟨true,46,13,(.rows .g1 (l:List Pg1)),false⟩]))))):=by kernel_rfl
theorem agI (t1:List UInt8->Pg1 × Int) (t2:List UInt8->Pg2 × Int) (cF:List Pg1 × Pg2->Int) (b:List UInt8) (n z:Int) (off len c:Nat) (l:List Pg1):letI za':Fp := { l0:=UInt64.ofNat 0,l1:=UInt64.ofNat 0,l2:=UInt64.ofNat 0,l3:=UInt64.ofNat 0,l4:=UInt64.ofNat 0,l5:=UInt64.ofNat 0 };letI zb':=List.take len (List.drop off b);letI zc':=List.drop 0 l;dx (tkE t1 t2 cF) oMk 300 Tryz.f18 (tkC.drop 10) (tkS b n z off len c l)=(.vc ((off+len<=b.length/\len<1125899906842624/\off*1=off/\1=1)/\e8 zb') (.br ((t2 zb').snd != 0) (.leaf (some (((([],{ x := { c0:=za',c1:=za' },y := { c0:=za',c1:=za' },inf:=false }),(t2 zb').snd),.t)))) (.vc ((0+c*13<=(ao RK.g1 l).length/\0=0/\c<1125899906842624/\0=0/\13=13)/\Lp (List.take c zc',(t2 zb').fst)) (.br (cF (List.take c zc',(t2 zb').fst) != 0) (.leaf (some (((([],{ x := { c0:=za',c1:=za' },y := { c0:=za',c1:=za' },inf:=false }),cF (List.take c zc',(t2 zb').fst)),.t)))) (.leaf (some ((((List.take c l,(t2 zb').fst),0),(.p (c<=l.length)))))))))):=by kernel_rfl
end
set_option maxRecDepth 100000
section
theorem M5 {xs:List UInt8} {c:Nat} (h:xs.length=c):List.take c (List.drop 0 xs)=xs:=by rw [List.drop_zero,<- h,List.take_length]
theorem nL {α:Type} {f:α->List UInt8} {k:Nat} (h : ∀ x,(f x).length=k) : ∀ l:List α,(l.flatMap f).length=l.length*k
 | []=>by rw [List.flatMap_nil,List.length_nil,List.length_nil,Nat.zero_mul]
 | x :: l=>by rw [List.flatMap_cons,List.length_append,h x,nL h l,List.length_cons,Nat.add_mul,Nat.one_mul,Nat.add_comm]
theorem I0 {α:Type} (l:List α) (d:α) {i:Nat} (h:i<l.length):l.take (i+1)=l.take i ++ [l.getD i d]:=by
 rw [List.take_succ_eq_append_getElem h,List.getD_eq_getElem?_getD,List.getElem?_eq_getElem h]
 rfl
def ac7 (p:List Pg1 × Pg2):List UInt8 := [UInt8.ofNat (sm IntKind.i64 (p.1.length:Int) 8 % 256).toNat,UInt8.ofNat ((p.1.length:Int) % 256).toNat]
def BH (p:List Pg1 × Pg2):List UInt8 := [UInt8.ofNat (IntKind.i64.wrap ((p.1.length:Int).tdiv 256) % 256).toNat,UInt8.ofNat ((p.1.length:Int) % 256).toNat]
def akj (f1:Pg1->List UInt8) (f2:Pg2->List UInt8) (p:List Pg1 × Pg2):List UInt8:=ac7 p++p.1.flatMap f1++f2 p.2
def akb (f1:Pg1->List UInt8) (f2:Pg2->List UInt8) (p:List Pg1 × Pg2):List UInt8:=BH p++p.1.flatMap f1++f2 p.2
section
variable {f1 : Pg1 -> List UInt8} {f2 : Pg2 -> List UInt8} (h1 : ∀ x, (f1 x).length = 48) (h2 : ∀ x, (f2 x).length = 96)
include h1 h2
theorem aeT (hE:EnvOk (byE f1 f2)) (p:List Pg1 × Pg2) (hl:few p.1):DoesL (byE f1 f2) (flat (af Tryz.f19)) (ah Tryz.f19 [pwV 0 p] [k9 .g1 p.1])
  (EndsAs (byE f1 f2) Tryz.f19 (bI oBl (akb f1 f2 p))):=by
 have hl:p.1.length<4294967296:=hl
 refine DoesL.stageG hE 100 3 _ _ _ _ _ (Zl f1 f2 p) ⟨eO _,fun _=>⟨eO _,fun _ => ?_⟩⟩
 refine (?_:DoesL _ _ (byS p ((0:Nat):Int) (2+0*48) (BH p++(p.1.take 0).flatMap f1)) _)
 refine DoesL.blockLoop (B:=bk Tryz.f19 0) (rest:=byC.drop 4) (id:=0) (by kernel_rfl) (fun i : { i:Nat // i<=p.1.length }=>byS p (i.1:Int) (2+i.1*48) (BH p++(p.1.take i.1).flatMap f1)) (fun i=>p.1.length-i.1) ⟨0,Nat.zero_le _⟩ fun i => ?_
 obtain ⟨i,hi⟩:=i
 refine (?_:Does _ _ (byS p (i:Int) (2+i*48) (BH p++(p.1.take i).flatMap f1)) _)
 have hc:(BH p++(p.1.take i).flatMap f1).length=2+i*48:=by
  rw [List.length_append,nL h1,List.length_take,Nat.min_eq_left hi]
  rfl
 refine Does.roundP hE 300 _ (Zm f1 f2 p (i:Int) (2+i*48) (BH p++(p.1.take i).flatMap f1)) ⟨eO _,fun _=>⟨fun h => ?_,fun h => ?_⟩⟩
 ·simp only [decide_eq_true_eq] at h
  have hi':i<p.1.length:=by omega
  have hx:=h1 (p.1.getD i cS)
  rw [up,Uw i (by omega),lk,M5 hc,hx]
  refine ⟨mn hi',fun _=>⟨hi',fun _=>⟨⟨⟨by omega,by omega⟩,by omega,by omega⟩,fun _ => ?_⟩⟩⟩
  refine ⟨⟨i+1,hi'⟩,by show p.1.length-(i+1)<p.1.length-i;omega,?_⟩
  show _=byS p ((i+1:Nat):Int) (2+(i+1)*48) (BH p++(p.1.take (i+1)).flatMap f1)
  rw [I0 p.1 cS hi',List.flatMap_append,List.flatMap_cons,List.flatMap_nil,List.append_nil,<- List.append_assoc,show 2+(i+1)*48=2+i*48+48 by omega]
  rfl
 ·simp only [decide_eq_false_iff_not] at h
  obtain rfl:i=p.1.length:=by omega
  rw [List.take_length] at hc ⊢
  refine ⟨rfl,DoesL.ends hE 100 (aii f1 f2 p _ _ _) ?_⟩
  have hx:=h2 p.2
  rw [lk,M5 hc,hx]
  refine ⟨⟨⟨by omega,by omega⟩,by omega,by omega⟩,fun _ => ?_⟩
  have hz:(BH p++List.flatMap f1 p.1++f2 p.2).length=2+p.1.length*48+96:=by rw [List.length_append,hc,hx]
  exact fR (by rw [<- hz,List.take_length];rfl) (Nat.le_of_eq hz.symm)
end
theorem lE (l:List UInt8) (c:UInt8):(hdB l c).length=l.length:=by
 unfold hdB
 rw [List.length_set]
theorem wi (a:Pg1):(kA a).length=48:=by
 rw [pV]
 cases a.inf
 ·cases cf a.y
  ·exact (lE _ _).trans (bi _)
  ·exact (lE _ _).trans ((lE _ _).trans (bi _))
 ·rfl
theorem wh (a:Pg2):(kv a).length=96:=by
 rw [pU]
 have h:(aX a.x.c1++aX a.x.c0).length=96:=by rw [List.length_append,bi,bi]
 cases a.inf
 ·cases ee a.y
  ·exact (lE _ _).trans h
  ·exact (lE _ _).trans ((lE _ _).trans h)
 ·rfl
def NN (p:List Pg1 × Pg2):List UInt8:=akj iH jB p
def Ii (p:List Pg1 × Pg2):List UInt8:=akb kA kv p
theorem aeQ:CallOk Tryz.prog 19 (K1 zR rB Ii) :=
 G1 (E:=byE kA kv) Tryz.func19 (c:=af Tryz.f19) (by kernel_rfl) (ac Tryz.func19 (by kernel_rfl) (by kernel_rfl)) aeu oBl Ii fun p hp =>
  aeT wi wh (cm (.cons Wr (.cons Wp .nil))) p hp.2
def tkN (b:List UInt8):Int:=bits BinOp.or IntKind.i64 (qD IntKind.i64 ((b.getD 0 0).toNat:Int) 8) ((b.getD 1 0).toNat:Int)
def tkA (b:List UInt8):Int:=IntKind.i64.wrap (IntKind.i64.wrap (2+IntKind.i64.wrap (tkN b*48))+96)
def tkL (t1:List UInt8->Pg1 × Int) (b:List UInt8):Nat->Nat->List Pg1->Int × List Pg1
 | _,0,l=>(0,l)
 | off,n+1,l=>match (t1 (List.take 48 (List.drop off b))).2 != 0 with
  | true=>((t1 (List.take 48 (List.drop off b))).2,l)
  | false=>tkL t1 b (off+48) n (l ++ [(t1 (List.take 48 (List.drop off b))).1])
theorem Vy (t1:List UInt8->Pg1 × Int) (b:List UInt8) (off:Nat) (l:List Pg1):tkL t1 b off 0 l=(0,l):=rfl
theorem xO (t1:List UInt8->Pg1 × Int) (b:List UInt8) (off n:Nat) (l:List Pg1):tkL t1 b off (n+1) l=match (t1 (List.take 48 (List.drop off b))).2 != 0 with
  | true=>((t1 (List.take 48 (List.drop off b))).2,l)
  | false=>tkL t1 b (off+48) n (l ++ [(t1 (List.take 48 (List.drop off b))).1]):=rfl
def tkT (t2:List UInt8->Pg2 × Int) (cF:List Pg1 × Pg2->Int) (r:List UInt8) (l:List Pg1):(List Pg1 × Pg2) × Int :=
 match (t2 r).2 != 0 with
 | true=>(([],gn),(t2 r).2)
 | false=>match cF (l,(t2 r).1) != 0 with
  | true=>(([],gn),cF (l,(t2 r).1))
  | false=>((l,(t2 r).1),0)
def tkG (t1:List UInt8->Pg1 × Int) (t2:List UInt8->Pg2 × Int) (cF:List Pg1 × Pg2->Int) (b:List UInt8):(List Pg1 × Pg2) × Int :=
 match decide ((b.length:Int)<2) with
 | true=>(([],gn),2)
 | false=>match decide (tkN b<2) with
  | true=>(([],gn),1)
  | false=>match decide (tkN b > 80) with
   | true=>(([],gn),1)
   | false=>match decide ((b.length:Int)<tkA b) with
    | true=>(([],gn),2)
    | false=>match decide ((b.length:Int) > tkA b) with
     | true=>(([],gn),8)
     | false=>match (tkL t1 b 2 (tkN b).toNat []).1 != 0 with
      | true=>(([],gn),(tkL t1 b 2 (tkN b).toNat []).1)
      | false=>tkT t2 cF (List.drop (2+(tkN b).toNat*48) b) (tkL t1 b 2 (tkN b).toNat []).2
theorem afp {xs:List UInt8} {n:Nat} (h:n<xs.length):n<xs.length/\0+xs.length*1<=(List.map EK.u8.cell xs).length/\0<1:=⟨h,(jo xs).1,by decide⟩
theorem CL (b:List UInt8):tkN b=(((b.getD 0 0).toNat*256+(b.getD 1 0).toNat:Nat):Int):=by
 have h : ∀ x y:UInt8,bits BinOp.or IntKind.i64 (qD IntKind.i64 (x.toNat:Int) 8) (y.toNat:Int)=((x.toNat*256+y.toNat:Nat):Int):=by
  intro x y
  have hx:=x.toNat_lt
  have hy:=y.toNat_lt
  have e1:qD IntKind.i64 (x.toNat:Int) 8=((x.toNat*256:Nat):Int):=by
   unfold qD
   rw [show (2:Int) ^ (min (8:Int).toNat IntKind.i64.bits)=256 by decide,IntWalk.i64_in _ (by omega)]
   omega
  rw [e1]
  show IntKind.i64.wrap ((BitVec.ofInt 64 ((x.toNat*256:Nat):Int) ||| BitVec.ofInt 64 (y.toNat:Int)).toNat:Int)=_
  rw [aZ,aZ]
  have e2:(BitVec.ofNat 64 (x.toNat*256) ||| BitVec.ofNat 64 y.toNat).toNat=x.toNat*256+y.toNat:=by
   rw [BitVec.toNat_or,BitVec.toNat_ofNat,BitVec.toNat_ofNat,Nat.mod_eq_of_lt (by omega),Nat.mod_eq_of_lt (by omega)]
   rw [Nat.mul_comm,show 256=2 ^ 8 from rfl,Nat.two_pow_add_eq_or_of_lt (by omega)]
  rw [e2,IntWalk.i64_in _ (by omega)]
 exact h _ _
theorem Np (b:List UInt8):0<=tkN b:=by rw [CL];omega
section
variable {t1 : List UInt8 -> Pg1 × Int} {t2 : List UInt8 -> Pg2 × Int} {cF : List Pg1 × Pg2 -> Int}
abbrev TkQ (t1:List UInt8->Pg1 × Int) (b:List UInt8) (n:Nat):Type := { q:Nat × List Pg1 // q.1<=n/\q.2.length=q.1/\tkL t1 b (2+q.1*48) (n-q.1) q.2=tkL t1 b 2 n [] }
theorem acp (hE:EnvOk (tkE t1 t2 cF)) (b:List UInt8) (n:Nat) (hn:n<=80) (hb:b.length=2+n*48+96) {x:(List Pg1 × Pg2) × Int} (hx:x=match (tkL t1 b 2 n []).1 != 0 with
   | true=>(([],gn),(tkL t1 b 2 n []).1)
   | false=>tkT t2 cF (List.drop (2+n*48) b) (tkL t1 b 2 n []).2) :
  DoesL (tkE t1 t2 cF) (tkC.drop 9) (tkS b (n:Int) ((0:Nat):Int) (2+0*48) (b.length-2) 0 []) (EndsAs (tkE t1 t2 cF) Tryz.f18 (bI oMk x)):=by
 refine (?_:DoesL _ _ (tkS b (n:Int) ((0:Nat):Int) (2+0*48) (b.length-(2+0*48)) 0 []) _)
 refine DoesL.blockLoopR (B:=bk Tryz.f18 0) (rest:=tkC.drop 10) (id:=1) (by kernel_rfl) (fun q:TkQ t1 b n=>tkS b (n:Int) (q.1.1:Int) (2+q.1.1*48) (b.length-(2+q.1.1*48)) q.1.1 q.1.2) (fun q=>n-q.1.1) ⟨(0,[]),Nat.zero_le _,rfl,rfl⟩ fun q => ?_
 obtain ⟨⟨i,l⟩,h0,h1,h2⟩:=q
 have h0:i<=n:=h0
 have h1:l.length=i:=h1
 have h2:tkL t1 b (2+i*48) (n-i) l=tkL t1 b 2 n []:=h2
 refine (?_:DoesL _ _ (tkS b (n:Int) (i:Int) (2+i*48) (b.length-(2+i*48)) i l) _)
 have rd:=Vv t1 t2 cF b (n:Int) (i:Int) (2+i*48) (b.length-(2+i*48)) i l
 simp only [Nat.add_zero] at rd
 refine DoesL.iterP hE 300 _ rd ⟨fun h => ?_,fun h => ?_⟩
 ·simp only [decide_eq_true_eq] at h
  have hi:i<n:=by omega
  have hlen:(List.map EK.u8.cell b).length=b.length:=List.length_map _
  rw [Uw i (by omega)]
  obtain ⟨m,hm⟩ : ∃ m,n-i=m+1:=⟨n-i-1,by omega⟩
  rw [hm,xO] at h2
  refine ⟨⟨by omega,by omega,by omega,by decide,.inl trivial,by omega,trivial⟩,fun _=>⟨⟨⟨by omega,by decide,by omega,trivial⟩,?_⟩,fun _=>⟨fun h3 => ?_,fun h3 => ?_⟩⟩⟩
  ·show (List.take 48 _).length<16777216
   rw [List.length_take]
   omega
  ·rw [h3] at h2
   have h2:((t1 (List.take 48 (List.drop (2+i*48) b))).2,l)=tkL t1 b 2 n []:=h2
   rw [<- h2] at hx
   refine ⟨.t,?_,trivial⟩
   rw [hx]
   show _=some ((match (t1 (List.take 48 (List.drop (2+i*48) b))).2 != 0 with | true=>(([],gn),(t1 (List.take 48 (List.drop (2+i*48) b))).2) | false=>tkT t2 cF (List.drop (2+n*48) b) l),Pr.t)
   rw [h3]
   rfl
  ·rw [h3] at h2
   have h2:tkL t1 b (2+i*48+48) m (l ++ [(t1 (List.take 48 (List.drop (2+i*48) b))).1])=tkL t1 b 2 n []:=h2
   refine ⟨⟨⟨by rw [jR,h1];omega,trivial⟩,by omega,by omega⟩,fun _=>⟨⟨by omega,by omega,by omega,by decide,.inr (by omega),by omega,trivial⟩,fun _ => ?_⟩⟩
   refine ⟨⟨(i+1,l ++ [(t1 (List.take 48 (List.drop (2+i*48) b))).1]),hi,?_,?_⟩,by show n-(i+1)<n-i;omega,?_⟩
   ·show (l ++ [_]).length=i+1
    rw [List.length_append,h1]
    rfl
   ·show tkL t1 b (2+(i+1)*48) (n-(i+1)) _=_
    rw [show 2+(i+1)*48=2+i*48+48 by omega,show n-(i+1)=m by omega]
    exact h2
   ·rw [pI h1]
    show _=tkS b (n:Int) ((i+1:Nat):Int) (2+(i+1)*48) (b.length-(2+(i+1)*48)) (i+1) (l ++ [(t1 (List.take 48 (List.drop (2+i*48) b))).1])
    rw [show 2+(i+1)*48=2+i*48+48 by omega,show b.length-(2+i*48+48)=b.length-(2+i*48)-48 by omega]
    rfl
 ·simp only [decide_eq_false_iff_not] at h
  obtain rfl:i=n:=by omega
  rw [Nat.sub_self,Vy] at h2
  rw [<- h2] at hx
  have hx:x=tkT t2 cF (List.drop (2+i*48) b) l:=hx
  refine ⟨rfl,DoesL.ends hE 300 (agI t1 t2 cF b (i:Int) (i:Int) (2+i*48) (b.length-(2+i*48)) i l) ?_⟩
  have hr:List.take (b.length-(2+i*48)) (List.drop (2+i*48) b)=List.drop (2+i*48) b:=List.take_of_length_le (by rw [List.length_drop];exact Nat.le_refl _)
  have hl:List.take i (List.drop 0 l)=l:=by rw [List.drop_zero,<- h1,List.take_length]
  rw [hr,hl,hx]
  refine ⟨⟨⟨by omega,by omega,by omega,rfl⟩,by show (List.drop _ b).length<16777216;rw [List.length_drop];omega⟩,fun _=>⟨fun h3 => ?_,fun h3=>⟨⟨⟨by rw [jR,h1];omega,rfl,by omega,rfl,rfl⟩,by show l.length<4294967296;omega⟩,fun _=>⟨fun h4 => ?_,fun h4 => ?_⟩⟩⟩⟩
  ·exact ⟨.t,by unfold tkT;rw [h3];rfl,trivial⟩
  ·exact ⟨.t,by unfold tkT;rw [h3,h4];rfl,trivial⟩
  ·exact fR (by unfold tkT;rw [h3,h4,<- h1,List.take_length]) (by omega)
end
theorem acq {t1:List UInt8->Pg1 × Int} {t2:List UInt8->Pg2 × Int} {cF:List Pg1 × Pg2->Int} (hE:EnvOk (tkE t1 t2 cF)) (b:List UInt8):DoesL (tkE t1 t2 cF) (flat (af Tryz.f18)) (ah Tryz.f18 [iBs.av 0 b] [bN eU8 b])
  (EndsAs (tkE t1 t2 cF) Tryz.f18 (bI oMk (tkG t1 t2 cF b))):=by
 have st:=Vu t1 t2 cF b
 rw [show bits BinOp.or IntKind.i64 (qD IntKind.i64 ((b.getD 0 0).toNat:Int) 8) ((b.getD 1 0).toNat:Int)=tkN b from rfl] at st
 refine DoesL.segN hE 300 9 _ _ _ _ _ _ st ⟨jo b,fun _=>⟨fun h => ?_,fun h => ?_⟩⟩
 ·exact ⟨.t,by unfold tkG;rw [h];rfl,trivial⟩
 ·have h':=h
  simp only [decide_eq_false_iff_not] at h'
  refine ⟨afp (by omega),fun _=>⟨by omega,fun _=>⟨afp (by omega),fun _=>⟨by omega,fun _=>⟨fun h1 => ?_,fun h1=>⟨fun h2 => ?_,fun h2=>⟨jo b,fun _=>⟨fun h3 => ?_,fun h3=>⟨jo b,fun _=>⟨fun h4 => ?_,fun h4 => ?_⟩⟩⟩⟩⟩⟩⟩⟩⟩⟩
  ·exact ⟨.t,by unfold tkG;rw [h,h1];rfl,trivial⟩
  ·exact ⟨.t,by unfold tkG;rw [h,h1,h2];rfl,trivial⟩
  ·have h3:decide ((b.length:Int)<tkA b)=true:=h3
   exact ⟨.t,by unfold tkG;rw [h,h1,h2,h3];rfl,trivial⟩
  ·have h3:decide ((b.length:Int)<tkA b)=false:=h3
   have h4:decide ((b.length:Int) > tkA b)=true:=h4
   exact ⟨.t,by unfold tkG;rw [h,h1,h2,h3,h4];rfl,trivial⟩
  ·have h3:decide ((b.length:Int)<tkA b)=false:=h3
   have h4:decide ((b.length:Int) > tkA b)=false:=h4
   have hx:tkG t1 t2 cF b=match (tkL t1 b 2 (tkN b).toNat []).1 != 0 with
      | true=>(([],gn),(tkL t1 b 2 (tkN b).toNat []).1)
      | false=>tkT t2 cF (List.drop (2+(tkN b).toNat*48) b) (tkL t1 b 2 (tkN b).toNat []).2:=by
    unfold tkG
    rw [h,h1,h2,h3,h4]
   simp only [decide_eq_false_iff_not] at h1 h2 h3 h4
   have hp:=Np b
   clear st
   obtain ⟨n,hN⟩ : ∃ n:Nat,tkN b=(n:Int):=⟨(tkN b).toNat,by omega⟩
   rw [hN] at h1 h2 hx ⊢
   rw [Int.toNat_natCast] at hx
   have hA:tkA b=((2+n*48+96:Nat):Int):=by
    unfold tkA
    rw [hN,IntWalk.i64_in ((n:Int)*48) (by omega),IntWalk.i64_in (2+(n:Int)*48) (by omega),IntWalk.i64_in _ (by omega)]
    omega
   rw [hA] at h3 h4
   have hlen:(List.map EK.u8.cell b).length=b.length:=List.length_map _
   refine ⟨⟨by omega,by omega,by omega,by decide,.inr (by omega),rfl,rfl⟩,fun _ => ?_⟩
   exact acp hE b n (by omega) (by omega) hx
def iG (b:List UInt8):(List Pg1 × Pg2) × Int:=tkG dJ ki bU b
theorem VB:CallOk Tryz.prog 18 (K1 aBs oMk.res iG) :=
 G1 (E:=tkE dJ ki bU) Tryz.func18 (c:=af Tryz.f18) (by kernel_rfl) (ac Tryz.func18 (by kernel_rfl) (by kernel_rfl)) iBs oMk iG fun b _ =>
  acq (ag (.cons P6 (.cons PZ (.cons tH .nil)))) b
end
set_option maxRecDepth 100000
section
def ir (f0:Fr->Int->(List Pg1 × Pg2) × Int) (f1:Pg1) (f2:Pg2) (f3:List Pg1 × Pg2->Int):Tree (Option ((Bool) × Pr)):=letI za':=(f0 { l0:=UInt64.ofNat 1,l1:=UInt64.ofNat 0,l2:=UInt64.ofNat 0,l3:=UInt64.ofNat 0 } 2);letI zb':=ao RK.g1 za'.fst.fst;letI zc':=List.drop 0 za'.fst.fst;
 (.br (za'.snd==0) (.vc (0+za'.fst.fst.length*13<=zb'.length/\0<13) (.br ((↑za'.fst.fst.length:Int)==2) (.vc (1<za'.fst.fst.length/\0+za'.fst.fst.length*13<=zb'.length/\0<13/\0=0) (.vc (1<za'.fst.fst.length) (.br (mL (za'.fst.fst.getD 1 cS) (f1)) (.br (uw (za'.fst.snd) (f2)) (.vc ((0+za'.fst.fst.length*13<=zb'.length/\0=0/\za'.fst.fst.length<1125899906842624/\0=0/\13=13)/\Lp (List.take za'.fst.fst.length zc',za'.fst.snd)) (.leaf (some ((f3 (List.take za'.fst.fst.length zc',za'.fst.snd)==0,.t))))) (.leaf (some ((false,.t))))) (.leaf (some ((false,.t))))))) (.leaf (some ((false,.t)))))) (.leaf (some ((false,.t)))))
theorem F7 (f0:Fr->Int->(List Pg1 × Pg2) × Int) (f1:Pg1) (f2:Pg2) (f3:List Pg1 × Pg2->Int):dx (Ens [(9,K2 (aa Fr).arg kInt.arg oMk.res f0),(22,K0 (aa Pg1).rs.res f1),(23,K0 (aa Pg2).rs.res f2),(11,K1 zR kInt.rs.res f3)] [9]) kBool.rs.out 300 Tryz.f7 (flat (af Tryz.f7)) (ah Tryz.f7 [] [])=ir f0 f1 f2 f3:=by kernel_rfl
def mA  : Bool:=(ir qh om oj bU ).outD false
theorem F8 (h:(ir qh om oj bU).full=true/\(ir qh om oj bU).okAll):CallOk Tryz.prog 7 (K0  kBool.rs.out.res mA) :=
 Go.Proofs.YtcbplfkeeaecgaaGreat.G0 (E:=Ens [(9,K2 (aa Fr).arg kInt.arg oMk.res qh),(22,K0 (aa Pg1).rs.res om),(23,K0 (aa Pg2).rs.res oj),(11,K1 zR kInt.rs.res bU)] [9]) Tryz.func7 (c:=af Tryz.f7) (by kernel_rfl) (ac Tryz.func7 (by kernel_rfl) (by kernel_rfl)) kBool.rs.out mA (DoesL.outs (cm (.cons Yd (.cons HX (.cons HV (.cons tH .nil))))) 300 false (F7 qh om oj bU ) h.1 h.2)
theorem Ua {P:Fr->Int->(List Pg1 × Pg2) × Int} {o1:Pg1} {o2:Pg2} {K:List Pg1 × Pg2->Int} (h:(P ⟨UInt64.ofNat 1,UInt64.ofNat 0,UInt64.ofNat 0,UInt64.ofNat 0⟩ 2).1.1.length=2):(ir P o1 o2 K).okAll:=by
 have hf:few (P ⟨UInt64.ofNat 1,UInt64.ofNat 0,UInt64.ofNat 0,UInt64.ofNat 0⟩ 2).1.1:=by
  show List.length _<4294967296
  rw [h]
  decide
 exact ⟨fun _=>⟨eO _,fun _=>⟨⟨by rw [h];decide,(eO _).1,by decide,rfl⟩,by rw [h];decide,fun _=>⟨fun _=>⟨DI hf,trivial⟩,fun _=>trivial⟩,fun _=>trivial⟩,fun _=>trivial⟩,fun _=>trivial⟩
theorem SG:(qh ⟨UInt64.ofNat 1,UInt64.ofNat 0,UInt64.ofNat 0,UInt64.ofNat 0⟩ 2).1.1.length=2:=by
 unfold qh mkG
 rw [decide_eq_false (show ¬ ((2:Int)<2) by omega),decide_eq_false (show ¬ ((2:Int) > 80) by omega),show eE ⟨UInt64.ofNat 1,UInt64.ofNat 0,UInt64.ofNat 0,UInt64.ofNat 0⟩ frZ=false from by decide]
 exact yc _ _ _ _ _
theorem LU:CallOk Tryz.prog 7 (K0 kBool.rs.res mA):=F8 ⟨rfl,Ua SG⟩
end
set_option maxRecDepth 100000
section
def roundPG (E:Env) (n:Nat) (B:Code) (st:St) (f:X × St->Option (List Nat × List Nat)) (gs:List (Nat × G)) (bs:List GB):Tree (X × St):=(roundP E n B st f).bind fun r=>match rY gs bs [] r.2 with
 | some s' => .leaf (r.1,s')
 | none => .fail
theorem Does.roundPG {E:Env} (hE:EnvOk E) (n:Nat) {B:Code} {st:St} {R:X × St->Prop} (f:X × St->Option (List Nat × List Nat)) (gs:List (Nat × G)) (bs:List GB) {T:Tree (X × St)} (e:Go.Proofs.YtcbplfkeeaecgaaGreat.roundPG E n B st f gs bs=T) (h:T.sat R):Does E B st R:=by
 subst e
 have h1:(Go.Proofs.YtcbplfkeeaecgaaGreat.roundP E n B st f).sat (Wn R):=by
  unfold Go.Proofs.YtcbplfkeeaecgaaGreat.roundPG at h
  rw [Tree.sat_bind] at h
  refine Tree.sat_mono (fun r hr => ?_) h
  split at hr
  ·rename_i s' hs'
   exact ⟨s',Wk.gen hs',hr⟩
  ·exact hr.elim
 exact Does.wn (Does.roundP hE n f rfl h1)
abbrev eBo:El Bool:=aiQ .bool
def boV (b:Bool):AV := .one (.c (.bool b))
def uV (x:UInt64):AV := .one (.c (.u64 x))
noncomputable abbrev scC:List Code:=flat (af Tryz.f4)
noncomputable abbrev scE (bF:Bool) (may:Fr->Bool) (oF:UInt64->Fr) (gF:Fr->Pg1) (mF:Fr->Fr->Fr) (hF:Fr->Pg2) (uF:UInt64->Pg1 × Bool) (nF:Pg1->Bool) (cF:List Pg1 × Pg2->Int) (yF:List Pg1 × Pg2->List UInt8) (tF:List UInt8->(List Pg1 × Pg2) × Int) (sF:List Pg1 × Pg2->List Pg1 × Pg2->Bool):Env:=Ens [(7,K0 kBool.rs.res bF),(8,Krb may),(12,K1 kU64.arg r4.res oF),(13,K1 (aa Fr).arg kg1.rs.res gF),(14,Kr2 mF),(15,K1 (aa Fr).arg kg2.rs.res hF),(16,K1 kU64.arg ((aa Pg1).rs2 kBool).res uF),(17,K1 kg1.arg kBool.rs.res nF),(11,K1 zR kInt.rs.res cF),(19,K1 zR rB yF),(18,K1 aBs oMk.res tF),(10,K2 zR zR kBool.rs.res sF)] [19,18]
def scS (tau:Fr) (l:List Fr) (odd:List Bool) (other:Bool) (n:UInt64) (k:Fr) (pw iz:Bool) (z:Int) (c:Nat) (g:List Pg1):St:=aw 163 [(1,rwV .fr 0 l),(2,(Em eBo).av 1 odd),(3,boV other),(4,uV n),(5,bv 2),(11,bv 3),(12,bv 4),(13,boV pw),(14,boV iz),(15,vI z)] [k9 .fr l,bN eBo odd,own 24 (Row.cs tau),own 35 (.slc 5 0 c 13 (.of 0) false :: (bO 24 ++ [.ff])),own 24 (Row.cs k),.live ⟨true,46,13,.rows .g1 g,false⟩]
def scM (l:List Fr) (other:Bool) (n:UInt64) (want:Int) (c:Nat) (t:Pg2) (g:List Pg1):St:=aw 163 [(1,rwV .fr 0 l),(3,boV other),(4,uV n),(11,bv 1),(17,vI want)] [k9 .fr l,own 35 (.slc 2 0 c 13 (.of 0) false :: Row.cs t),.live ⟨true,46,13,.rows .g1 g,false⟩]
theorem VX (bF:Bool) (may:Fr->Bool) (oF:UInt64->Fr) (gF:Fr->Pg1) (mF:Fr->Fr->Fr) (hF:Fr->Pg2) (uF:UInt64->Pg1 × Bool) (nF:Pg1->Bool) (cF:List Pg1 × Pg2->Int) (yF:List Pg1 × Pg2->List UInt8) (tF:List UInt8->(List Pg1 × Pg2) × Int) (sF:List Pg1 × Pg2->List Pg1 × Pg2->Bool) (tau:Fr) (l:List Fr) (odd:List Bool) (other:Bool) (n:UInt64):segN (scE bF may oF gF mF hF uF nF cF yF tF sF) oB 300 Tryz.f4 (scC.take 8) (ah Tryz.f4 [v4 tau,rwV .fr 0 l,(Em eBo).av 1 odd,boV other,uV n] [k9 .fr l,bN eBo odd]) [1,2,3,4,5,11,12,13,14,15] [0,1,2,3,4] [(1,.as),(2,.as),(3,.as),(4,.as),(5,.as),(11,.as),(12,.as),(13,.bool),(14,.bool),(15,.int)] [] [] [(3,0,46,.rows .g1)]=(.br (!(bF)) (.leaf (.inr (some ((false,.t))))) (.br (!(may tau)) (.leaf (.inr (some ((true,.t))))) (.vc (0+l.length*4<=(ao RK.fr l).length/\0<4) (.br (decide ((↑l.length:Int) > 5)) (.leaf (.inr (some ((true,.t))))) (.leaf (.inl (aw 163 [(1,.one (.c (.slc 0 0 (l.length) 4 (.of 0) false))),(2,.one (.c (.slc 1 0 (odd.length) 1 (.of 0) false))),(3,.one (.c (.bool (other)))),(4,.one (.c (.u64 (n)))),(5,.one (.c (.ptr 2 0))),(11,.one (.c (.ptr 3 0))),(12,.one (.c (.ptr 4 0))),(13,.one (.c (.bool (true)))),(14,.one (.c (.bool (false)))),(15,.one (.c (.int .i64 0)))] [.live ⟨false,0,4,(.rows .fr (l:List Fr)),false⟩,.live ⟨false,0,1,(.elts .bool (odd:List Bool)),false⟩,.live ⟨true,24,0,(.row (Row.cs (tau:Fr))),false⟩,.live ⟨true,35,0,(.row [(.slc 5 0 0 13 (.of 0) false),(.lit .u64 0),(.lit .u64 0),(.lit .u64 0),(.lit .u64 0),(.lit .u64 0),(.lit .u64 0),(.lit .u64 0),(.lit .u64 0),(.lit .u64 0),(.lit .u64 0),(.lit .u64 0),(.lit .u64 0),(.lit .u64 0),(.lit .u64 0),(.lit .u64 0),(.lit .u64 0),(.lit .u64 0),(.lit .u64 0),(.lit .u64 0),(.lit .u64 0),(.lit .u64 0),(.lit .u64 0),(.lit .u64 0),(.lit .u64 0),.ff]),false⟩,.live ⟨true,24,0,(.row (Row.cs (oF (UInt64.ofNat 1):Fr))),false⟩,.live ⟨true,46,13,(.rows .g1 ([]:List Pg1)),false⟩]))))))):=by kernel_rfl
theorem VY (bF:Bool) (may:Fr->Bool) (oF:UInt64->Fr) (gF:Fr->Pg1) (mF:Fr->Fr->Fr) (hF:Fr->Pg2) (uF:UInt64->Pg1 × Bool) (nF:Pg1->Bool) (cF:List Pg1 × Pg2->Int) (yF:List Pg1 × Pg2->List UInt8) (tF:List UInt8->(List Pg1 × Pg2) × Int) (sF:List Pg1 × Pg2->List Pg1 × Pg2->Bool) (tau:Fr) (l:List Fr) (odd:List Bool) (other:Bool) (n:UInt64) (k:Fr) (pw iz:Bool) (z:Int) (c:Nat) (g:List Pg1):letI za':=(l.getD (0+z.toNat) { l0:=0,l1:=0,l2:=0,l3:=0 });letI zb':=k.l0==UInt64.ofNat 0 && (k.l1==UInt64.ofNat 0 && (k.l2==UInt64.ofNat 0 && (k.l3==UInt64.ofNat 0 && true)));letI zc':=k.l0==k.l0 && (k.l1==k.l1 && (k.l2==k.l2 && (k.l3==k.l3 && true)));letI zd':=(0+c*13<=(ao RK.g1 g).length/\0=0)/\c+1<=9223372036854775807/\(c+1)*104<=140737488355328;letI ze':=IntKind.i64.wrap (z+1);letI zf':=(Row.cs (mF k tau:Fr));letI zg':=(Row.cs (tau:Fr));letI zh':=rJ c (13 / 13);letI zi':=List.drop 0 g;letI zj':=za'.l0==UInt64.ofNat 0 && (za'.l1==UInt64.ofNat 0 && (za'.l2==UInt64.ofNat 0 && (za'.l3==UInt64.ofNat 0 && true)));letI zk':=((0<=z/\z<(↑l.length:Int))/\0+l.length*4<=(ao RK.fr l).length/\0<4/\0=0);letI zl':=za'.l0==k.l0 && (za'.l1==k.l1 && (za'.l2==k.l2 && (za'.l3==k.l3 && true)));letI zm':=List.map EK.bool.cell odd;letI zn':=0+z.toNat<l.length;letI zo':=(↑odd.length:Int);roundPG (scE bF may oF gF mF hF uF nF cF yF tF sF) 300 (bk Tryz.f4 0) (scS tau l odd other n k pw iz z c g) (qo [1,2,3,4,5,11,12,13,14,15] [0,1,2,3,4] [] [3]) [(1,.as),(2,.as),(3,.as),(4,.as),(5,.as),(11,.as),(12,.as),(13,.bool),(14,.bool),(15,.as)] []=(.vc (0+l.length*4<=(ao RK.fr l).length/\0<4) (.br (decide (z<(↑l.length:Int))) (.vc (0+odd.length*1<=zm'.length/\0<1) (.br (decide (z<zo')) (.vc ((0<=z/\z<zo')/\0+odd.length*1<=zm'.length/\0<1) (.vc (0+z.toNat*1<odd.length) (.br (odd.getD (0+z.toNat*1) false) (.vc zk' (.vc zn' (.br (may za') (.vc zk' (.vc zn' (.vc zd' (.br (pw) (.br (iz) (.leaf ((.normal,aw 163 [(1,.one (.c (.slc 0 0 (l.length) 4 (.of 0) false))),(2,.one (.c (.slc 1 0 (odd.length) 1 (.of 0) false))),(3,.one (.c (.bool (other)))),(4,.one (.c (.u64 (n)))),(5,.one (.c (.ptr 2 0))),(11,.one (.c (.ptr 3 0))),(12,.one (.c (.ptr 4 0))),(13,.one (.c (.bool zl'))),(14,.one (.c (.bool (true)))),(15,.one (.c (.int .i64 ze')))] [.live ⟨false,0,4,(.rows .fr (l:List Fr)),false⟩,.live ⟨false,0,1,(.elts .bool (odd:List Bool)),false⟩,.live ⟨true,24,0,(.row zg'),false⟩,.live ⟨true,35,0,(.row [(.slc 5 0 (c+1) 13 (.of 0) false),(.lit .u64 0),(.lit .u64 0),(.lit .u64 0),(.lit .u64 0),(.lit .u64 0),(.lit .u64 0),(.lit .u64 0),(.lit .u64 0),(.lit .u64 0),(.lit .u64 0),(.lit .u64 0),(.lit .u64 0),(.lit .u64 0),(.lit .u64 0),(.lit .u64 0),(.lit .u64 0),(.lit .u64 0),(.lit .u64 0),(.lit .u64 0),(.lit .u64 0),(.lit .u64 0),(.lit .u64 0),(.lit .u64 0),(.lit .u64 0),.ff]),false⟩,.live ⟨true,24,0,(.row zf'),false⟩,.live ⟨true,46,13,(.rows .g1 (List.take zh' zi' ++ [gF za']:List Pg1)),false⟩]))) (.leaf ((.normal,aw 163 [(1,.one (.c (.slc 0 0 (l.length) 4 (.of 0) false))),(2,.one (.c (.slc 1 0 (odd.length) 1 (.of 0) false))),(3,.one (.c (.bool (other)))),(4,.one (.c (.u64 (n)))),(5,.one (.c (.ptr 2 0))),(11,.one (.c (.ptr 3 0))),(12,.one (.c (.ptr 4 0))),(13,.one (.c (.bool zl'))),(14,.one (.c (.bool zj'))),(15,.one (.c (.int .i64 ze')))] [.live ⟨false,0,4,(.rows .fr (l:List Fr)),false⟩,.live ⟨false,0,1,(.elts .bool (odd:List Bool)),false⟩,.live ⟨true,24,0,(.row zg'),false⟩,.live ⟨true,35,0,(.row [(.slc 5 0 (c+1) 13 (.of 0) false),(.lit .u64 0),(.lit .u64 0),(.lit .u64 0),(.lit .u64 0),(.lit .u64 0),(.lit .u64 0),(.lit .u64 0),(.lit .u64 0),(.lit .u64 0),(.lit .u64 0),(.lit .u64 0),(.lit .u64 0),(.lit .u64 0),(.lit .u64 0),(.lit .u64 0),(.lit .u64 0),(.lit .u64 0),(.lit .u64 0),(.lit .u64 0),(.lit .u64 0),(.lit .u64 0),(.lit .u64 0),(.lit .u64 0),(.lit .u64 0),.ff]),false⟩,.live ⟨true,24,0,(.row zf'),false⟩,.live ⟨true,46,13,(.rows .g1 (List.take zh' zi' ++ [gF za']:List Pg1)),false⟩])))) (.br (iz) (.leaf ((.normal,aw 163 [(1,.one (.c (.slc 0 0 (l.length) 4 (.of 0) false))),(2,.one (.c (.slc 1 0 (odd.length) 1 (.of 0) false))),(3,.one (.c (.bool (other)))),(4,.one (.c (.u64 (n)))),(5,.one (.c (.ptr 2 0))),(11,.one (.c (.ptr 3 0))),(12,.one (.c (.ptr 4 0))),(13,.one (.c (.bool (false)))),(14,.one (.c (.bool (true)))),(15,.one (.c (.int .i64 ze')))] [.live ⟨false,0,4,(.rows .fr (l:List Fr)),false⟩,.live ⟨false,0,1,(.elts .bool (odd:List Bool)),false⟩,.live ⟨true,24,0,(.row zg'),false⟩,.live ⟨true,35,0,(.row [(.slc 5 0 (c+1) 13 (.of 0) false),(.lit .u64 0),(.lit .u64 0),(.lit .u64 0),(.lit .u64 0),(.lit .u64 0),(.lit .u64 0),(.lit .u64 0),(.lit .u64 0),(.lit .u64 0),(.lit .u64 0),(.lit .u64 0),(.lit .u64 0),(.lit .u64 0),(.lit .u64 0),(.lit .u64 0),(.lit .u64 0),(.lit .u64 0),(.lit .u64 0),(.lit .u64 0),(.lit .u64 0),(.lit .u64 0),(.lit .u64 0),(.lit .u64 0),(.lit .u64 0),.ff]),false⟩,.live ⟨true,24,0,(.row zf'),false⟩,.live ⟨true,46,13,(.rows .g1 (List.take zh' zi' ++ [gF za']:List Pg1)),false⟩]))) (.leaf ((.normal,aw 163 [(1,.one (.c (.slc 0 0 (l.length) 4 (.of 0) false))),(2,.one (.c (.slc 1 0 (odd.length) 1 (.of 0) false))),(3,.one (.c (.bool (other)))),(4,.one (.c (.u64 (n)))),(5,.one (.c (.ptr 2 0))),(11,.one (.c (.ptr 3 0))),(12,.one (.c (.ptr 4 0))),(13,.one (.c (.bool (false)))),(14,.one (.c (.bool zj'))),(15,.one (.c (.int .i64 ze')))] [.live ⟨false,0,4,(.rows .fr (l:List Fr)),false⟩,.live ⟨false,0,1,(.elts .bool (odd:List Bool)),false⟩,.live ⟨true,24,0,(.row zg'),false⟩,.live ⟨true,35,0,(.row [(.slc 5 0 (c+1) 13 (.of 0) false),(.lit .u64 0),(.lit .u64 0),(.lit .u64 0),(.lit .u64 0),(.lit .u64 0),(.lit .u64 0),(.lit .u64 0),(.lit .u64 0),(.lit .u64 0),(.lit .u64 0),(.lit .u64 0),(.lit .u64 0),(.lit .u64 0),(.lit .u64 0),(.lit .u64 0),(.lit .u64 0),(.lit .u64 0),(.lit .u64 0),(.lit .u64 0),(.lit .u64 0),(.lit .u64 0),(.lit .u64 0),(.lit .u64 0),(.lit .u64 0),.ff]),false⟩,.live ⟨true,24,0,(.row zf'),false⟩,.live ⟨true,46,13,(.rows .g1 (List.take zh' zi' ++ [gF za']:List Pg1)),false⟩])))))))) (.vc zd' (.br (pw) (.br (iz) (.leaf ((.normal,aw 163 [(1,.one (.c (.slc 0 0 (l.length) 4 (.of 0) false))),(2,.one (.c (.slc 1 0 (odd.length) 1 (.of 0) false))),(3,.one (.c (.bool (other)))),(4,.one (.c (.u64 (n)))),(5,.one (.c (.ptr 2 0))),(11,.one (.c (.ptr 3 0))),(12,.one (.c (.ptr 4 0))),(13,.one (.c (.bool zc'))),(14,.one (.c (.bool (true)))),(15,.one (.c (.int .i64 ze')))] [.live ⟨false,0,4,(.rows .fr (l:List Fr)),false⟩,.live ⟨false,0,1,(.elts .bool (odd:List Bool)),false⟩,.live ⟨true,24,0,(.row zg'),false⟩,.live ⟨true,35,0,(.row [(.slc 5 0 (c+1) 13 (.of 0) false),(.lit .u64 0),(.lit .u64 0),(.lit .u64 0),(.lit .u64 0),(.lit .u64 0),(.lit .u64 0),(.lit .u64 0),(.lit .u64 0),(.lit .u64 0),(.lit .u64 0),(.lit .u64 0),(.lit .u64 0),(.lit .u64 0),(.lit .u64 0),(.lit .u64 0),(.lit .u64 0),(.lit .u64 0),(.lit .u64 0),(.lit .u64 0),(.lit .u64 0),(.lit .u64 0),(.lit .u64 0),(.lit .u64 0),(.lit .u64 0),.ff]),false⟩,.live ⟨true,24,0,(.row zf'),false⟩,.live ⟨true,46,13,(.rows .g1 (List.take zh' zi' ++ [gF k]:List Pg1)),false⟩]))) (.leaf ((.normal,aw 163 [(1,.one (.c (.slc 0 0 (l.length) 4 (.of 0) false))),(2,.one (.c (.slc 1 0 (odd.length) 1 (.of 0) false))),(3,.one (.c (.bool (other)))),(4,.one (.c (.u64 (n)))),(5,.one (.c (.ptr 2 0))),(11,.one (.c (.ptr 3 0))),(12,.one (.c (.ptr 4 0))),(13,.one (.c (.bool zc'))),(14,.one (.c (.bool zb'))),(15,.one (.c (.int .i64 ze')))] [.live ⟨false,0,4,(.rows .fr (l:List Fr)),false⟩,.live ⟨false,0,1,(.elts .bool (odd:List Bool)),false⟩,.live ⟨true,24,0,(.row zg'),false⟩,.live ⟨true,35,0,(.row [(.slc 5 0 (c+1) 13 (.of 0) false),(.lit .u64 0),(.lit .u64 0),(.lit .u64 0),(.lit .u64 0),(.lit .u64 0),(.lit .u64 0),(.lit .u64 0),(.lit .u64 0),(.lit .u64 0),(.lit .u64 0),(.lit .u64 0),(.lit .u64 0),(.lit .u64 0),(.lit .u64 0),(.lit .u64 0),(.lit .u64 0),(.lit .u64 0),(.lit .u64 0),(.lit .u64 0),(.lit .u64 0),(.lit .u64 0),(.lit .u64 0),(.lit .u64 0),(.lit .u64 0),.ff]),false⟩,.live ⟨true,24,0,(.row zf'),false⟩,.live ⟨true,46,13,(.rows .g1 (List.take zh' zi' ++ [gF k]:List Pg1)),false⟩])))) (.br (iz) (.leaf ((.normal,aw 163 [(1,.one (.c (.slc 0 0 (l.length) 4 (.of 0) false))),(2,.one (.c (.slc 1 0 (odd.length) 1 (.of 0) false))),(3,.one (.c (.bool (other)))),(4,.one (.c (.u64 (n)))),(5,.one (.c (.ptr 2 0))),(11,.one (.c (.ptr 3 0))),(12,.one (.c (.ptr 4 0))),(13,.one (.c (.bool (false)))),(14,.one (.c (.bool (true)))),(15,.one (.c (.int .i64 ze')))] [.live ⟨false,0,4,(.rows .fr (l:List Fr)),false⟩,.live ⟨false,0,1,(.elts .bool (odd:List Bool)),false⟩,.live ⟨true,24,0,(.row zg'),false⟩,.live ⟨true,35,0,(.row [(.slc 5 0 (c+1) 13 (.of 0) false),(.lit .u64 0),(.lit .u64 0),(.lit .u64 0),(.lit .u64 0),(.lit .u64 0),(.lit .u64 0),(.lit .u64 0),(.lit .u64 0),(.lit .u64 0),(.lit .u64 0),(.lit .u64 0),(.lit .u64 0),(.lit .u64 0),(.lit .u64 0),(.lit .u64 0),(.lit .u64 0),(.lit .u64 0),(.lit .u64 0),(.lit .u64 0),(.lit .u64 0),(.lit .u64 0),(.lit .u64 0),(.lit .u64 0),(.lit .u64 0),.ff]),false⟩,.live ⟨true,24,0,(.row zf'),false⟩,.live ⟨true,46,13,(.rows .g1 (List.take zh' zi' ++ [gF k]:List Pg1)),false⟩]))) (.leaf ((.normal,aw 163 [(1,.one (.c (.slc 0 0 (l.length) 4 (.of 0) false))),(2,.one (.c (.slc 1 0 (odd.length) 1 (.of 0) false))),(3,.one (.c (.bool (other)))),(4,.one (.c (.u64 (n)))),(5,.one (.c (.ptr 2 0))),(11,.one (.c (.ptr 3 0))),(12,.one (.c (.ptr 4 0))),(13,.one (.c (.bool (false)))),(14,.one (.c (.bool zb'))),(15,.one (.c (.int .i64 ze')))] [.live ⟨false,0,4,(.rows .fr (l:List Fr)),false⟩,.live ⟨false,0,1,(.elts .bool (odd:List Bool)),false⟩,.live ⟨true,24,0,(.row zg'),false⟩,.live ⟨true,35,0,(.row [(.slc 5 0 (c+1) 13 (.of 0) false),(.lit .u64 0),(.lit .u64 0),(.lit .u64 0),(.lit .u64 0),(.lit .u64 0),(.lit .u64 0),(.lit .u64 0),(.lit .u64 0),(.lit .u64 0),(.lit .u64 0),(.lit .u64 0),(.lit .u64 0),(.lit .u64 0),(.lit .u64 0),(.lit .u64 0),(.lit .u64 0),(.lit .u64 0),(.lit .u64 0),(.lit .u64 0),(.lit .u64 0),(.lit .u64 0),(.lit .u64 0),(.lit .u64 0),(.lit .u64 0),.ff]),false⟩,.live ⟨true,24,0,(.row zf'),false⟩,.live ⟨true,46,13,(.rows .g1 (List.take zh' zi' ++ [gF k]:List Pg1)),false⟩]))))))))) (.vc zd' (.br (pw) (.br (iz) (.leaf ((.normal,aw 163 [(1,.one (.c (.slc 0 0 (l.length) 4 (.of 0) false))),(2,.one (.c (.slc 1 0 (odd.length) 1 (.of 0) false))),(3,.one (.c (.bool (other)))),(4,.one (.c (.u64 (n)))),(5,.one (.c (.ptr 2 0))),(11,.one (.c (.ptr 3 0))),(12,.one (.c (.ptr 4 0))),(13,.one (.c (.bool zc'))),(14,.one (.c (.bool (true)))),(15,.one (.c (.int .i64 ze')))] [.live ⟨false,0,4,(.rows .fr (l:List Fr)),false⟩,.live ⟨false,0,1,(.elts .bool (odd:List Bool)),false⟩,.live ⟨true,24,0,(.row zg'),false⟩,.live ⟨true,35,0,(.row [(.slc 5 0 (c+1) 13 (.of 0) false),(.lit .u64 0),(.lit .u64 0),(.lit .u64 0),(.lit .u64 0),(.lit .u64 0),(.lit .u64 0),(.lit .u64 0),(.lit .u64 0),(.lit .u64 0),(.lit .u64 0),(.lit .u64 0),(.lit .u64 0),(.lit .u64 0),(.lit .u64 0),(.lit .u64 0),(.lit .u64 0),(.lit .u64 0),(.lit .u64 0),(.lit .u64 0),(.lit .u64 0),(.lit .u64 0),(.lit .u64 0),(.lit .u64 0),(.lit .u64 0),.ff]),false⟩,.live ⟨true,24,0,(.row zf'),false⟩,.live ⟨true,46,13,(.rows .g1 (List.take zh' zi' ++ [gF k]:List Pg1)),false⟩]))) (.leaf ((.normal,aw 163 [(1,.one (.c (.slc 0 0 (l.length) 4 (.of 0) false))),(2,.one (.c (.slc 1 0 (odd.length) 1 (.of 0) false))),(3,.one (.c (.bool (other)))),(4,.one (.c (.u64 (n)))),(5,.one (.c (.ptr 2 0))),(11,.one (.c (.ptr 3 0))),(12,.one (.c (.ptr 4 0))),(13,.one (.c (.bool zc'))),(14,.one (.c (.bool zb'))),(15,.one (.c (.int .i64 ze')))] [.live ⟨false,0,4,(.rows .fr (l:List Fr)),false⟩,.live ⟨false,0,1,(.elts .bool (odd:List Bool)),false⟩,.live ⟨true,24,0,(.row zg'),false⟩,.live ⟨true,35,0,(.row [(.slc 5 0 (c+1) 13 (.of 0) false),(.lit .u64 0),(.lit .u64 0),(.lit .u64 0),(.lit .u64 0),(.lit .u64 0),(.lit .u64 0),(.lit .u64 0),(.lit .u64 0),(.lit .u64 0),(.lit .u64 0),(.lit .u64 0),(.lit .u64 0),(.lit .u64 0),(.lit .u64 0),(.lit .u64 0),(.lit .u64 0),(.lit .u64 0),(.lit .u64 0),(.lit .u64 0),(.lit .u64 0),(.lit .u64 0),(.lit .u64 0),(.lit .u64 0),(.lit .u64 0),.ff]),false⟩,.live ⟨true,24,0,(.row zf'),false⟩,.live ⟨true,46,13,(.rows .g1 (List.take zh' zi' ++ [gF k]:List Pg1)),false⟩])))) (.br (iz) (.leaf ((.normal,aw 163 [(1,.one (.c (.slc 0 0 (l.length) 4 (.of 0) false))),(2,.one (.c (.slc 1 0 (odd.length) 1 (.of 0) false))),(3,.one (.c (.bool (other)))),(4,.one (.c (.u64 (n)))),(5,.one (.c (.ptr 2 0))),(11,.one (.c (.ptr 3 0))),(12,.one (.c (.ptr 4 0))),(13,.one (.c (.bool (false)))),(14,.one (.c (.bool (true)))),(15,.one (.c (.int .i64 ze')))] [.live ⟨false,0,4,(.rows .fr (l:List Fr)),false⟩,.live ⟨false,0,1,(.elts .bool (odd:List Bool)),false⟩,.live ⟨true,24,0,(.row zg'),false⟩,.live ⟨true,35,0,(.row [(.slc 5 0 (c+1) 13 (.of 0) false),(.lit .u64 0),(.lit .u64 0),(.lit .u64 0),(.lit .u64 0),(.lit .u64 0),(.lit .u64 0),(.lit .u64 0),(.lit .u64 0),(.lit .u64 0),(.lit .u64 0),(.lit .u64 0),(.lit .u64 0),(.lit .u64 0),(.lit .u64 0),(.lit .u64 0),(.lit .u64 0),(.lit .u64 0),(.lit .u64 0),(.lit .u64 0),(.lit .u64 0),(.lit .u64 0),(.lit .u64 0),(.lit .u64 0),(.lit .u64 0),.ff]),false⟩,.live ⟨true,24,0,(.row zf'),false⟩,.live ⟨true,46,13,(.rows .g1 (List.take zh' zi' ++ [gF k]:List Pg1)),false⟩]))) (.leaf ((.normal,aw 163 [(1,.one (.c (.slc 0 0 (l.length) 4 (.of 0) false))),(2,.one (.c (.slc 1 0 (odd.length) 1 (.of 0) false))),(3,.one (.c (.bool (other)))),(4,.one (.c (.u64 (n)))),(5,.one (.c (.ptr 2 0))),(11,.one (.c (.ptr 3 0))),(12,.one (.c (.ptr 4 0))),(13,.one (.c (.bool (false)))),(14,.one (.c (.bool zb'))),(15,.one (.c (.int .i64 ze')))] [.live ⟨false,0,4,(.rows .fr (l:List Fr)),false⟩,.live ⟨false,0,1,(.elts .bool (odd:List Bool)),false⟩,.live ⟨true,24,0,(.row zg'),false⟩,.live ⟨true,35,0,(.row [(.slc 5 0 (c+1) 13 (.of 0) false),(.lit .u64 0),(.lit .u64 0),(.lit .u64 0),(.lit .u64 0),(.lit .u64 0),(.lit .u64 0),(.lit .u64 0),(.lit .u64 0),(.lit .u64 0),(.lit .u64 0),(.lit .u64 0),(.lit .u64 0),(.lit .u64 0),(.lit .u64 0),(.lit .u64 0),(.lit .u64 0),(.lit .u64 0),(.lit .u64 0),(.lit .u64 0),(.lit .u64 0),(.lit .u64 0),(.lit .u64 0),(.lit .u64 0),(.lit .u64 0),.ff]),false⟩,.live ⟨true,24,0,(.row zf'),false⟩,.live ⟨true,46,13,(.rows .g1 (List.take zh' zi' ++ [gF k]:List Pg1)),false⟩]))))))))) (.vc zd' (.br (pw) (.br (iz) (.leaf ((.normal,aw 163 [(1,.one (.c (.slc 0 0 (l.length) 4 (.of 0) false))),(2,.one (.c (.slc 1 0 (odd.length) 1 (.of 0) false))),(3,.one (.c (.bool (other)))),(4,.one (.c (.u64 (n)))),(5,.one (.c (.ptr 2 0))),(11,.one (.c (.ptr 3 0))),(12,.one (.c (.ptr 4 0))),(13,.one (.c (.bool zc'))),(14,.one (.c (.bool (true)))),(15,.one (.c (.int .i64 ze')))] [.live ⟨false,0,4,(.rows .fr (l:List Fr)),false⟩,.live ⟨false,0,1,(.elts .bool (odd:List Bool)),false⟩,.live ⟨true,24,0,(.row zg'),false⟩,.live ⟨true,35,0,(.row [(.slc 5 0 (c+1) 13 (.of 0) false),(.lit .u64 0),(.lit .u64 0),(.lit .u64 0),(.lit .u64 0),(.lit .u64 0),(.lit .u64 0),(.lit .u64 0),(.lit .u64 0),(.lit .u64 0),(.lit .u64 0),(.lit .u64 0),(.lit .u64 0),(.lit .u64 0),(.lit .u64 0),(.lit .u64 0),(.lit .u64 0),(.lit .u64 0),(.lit .u64 0),(.lit .u64 0),(.lit .u64 0),(.lit .u64 0),(.lit .u64 0),(.lit .u64 0),(.lit .u64 0),.ff]),false⟩,.live ⟨true,24,0,(.row zf'),false⟩,.live ⟨true,46,13,(.rows .g1 (List.take zh' zi' ++ [gF k]:List Pg1)),false⟩]))) (.leaf ((.normal,aw 163 [(1,.one (.c (.slc 0 0 (l.length) 4 (.of 0) false))),(2,.one (.c (.slc 1 0 (odd.length) 1 (.of 0) false))),(3,.one (.c (.bool (other)))),(4,.one (.c (.u64 (n)))),(5,.one (.c (.ptr 2 0))),(11,.one (.c (.ptr 3 0))),(12,.one (.c (.ptr 4 0))),(13,.one (.c (.bool zc'))),(14,.one (.c (.bool zb'))),(15,.one (.c (.int .i64 ze')))] [.live ⟨false,0,4,(.rows .fr (l:List Fr)),false⟩,.live ⟨false,0,1,(.elts .bool (odd:List Bool)),false⟩,.live ⟨true,24,0,(.row zg'),false⟩,.live ⟨true,35,0,(.row [(.slc 5 0 (c+1) 13 (.of 0) false),(.lit .u64 0),(.lit .u64 0),(.lit .u64 0),(.lit .u64 0),(.lit .u64 0),(.lit .u64 0),(.lit .u64 0),(.lit .u64 0),(.lit .u64 0),(.lit .u64 0),(.lit .u64 0),(.lit .u64 0),(.lit .u64 0),(.lit .u64 0),(.lit .u64 0),(.lit .u64 0),(.lit .u64 0),(.lit .u64 0),(.lit .u64 0),(.lit .u64 0),(.lit .u64 0),(.lit .u64 0),(.lit .u64 0),(.lit .u64 0),.ff]),false⟩,.live ⟨true,24,0,(.row zf'),false⟩,.live ⟨true,46,13,(.rows .g1 (List.take zh' zi' ++ [gF k]:List Pg1)),false⟩])))) (.br (iz) (.leaf ((.normal,aw 163 [(1,.one (.c (.slc 0 0 (l.length) 4 (.of 0) false))),(2,.one (.c (.slc 1 0 (odd.length) 1 (.of 0) false))),(3,.one (.c (.bool (other)))),(4,.one (.c (.u64 (n)))),(5,.one (.c (.ptr 2 0))),(11,.one (.c (.ptr 3 0))),(12,.one (.c (.ptr 4 0))),(13,.one (.c (.bool (false)))),(14,.one (.c (.bool (true)))),(15,.one (.c (.int .i64 ze')))] [.live ⟨false,0,4,(.rows .fr (l:List Fr)),false⟩,.live ⟨false,0,1,(.elts .bool (odd:List Bool)),false⟩,.live ⟨true,24,0,(.row zg'),false⟩,.live ⟨true,35,0,(.row [(.slc 5 0 (c+1) 13 (.of 0) false),(.lit .u64 0),(.lit .u64 0),(.lit .u64 0),(.lit .u64 0),(.lit .u64 0),(.lit .u64 0),(.lit .u64 0),(.lit .u64 0),(.lit .u64 0),(.lit .u64 0),(.lit .u64 0),(.lit .u64 0),(.lit .u64 0),(.lit .u64 0),(.lit .u64 0),(.lit .u64 0),(.lit .u64 0),(.lit .u64 0),(.lit .u64 0),(.lit .u64 0),(.lit .u64 0),(.lit .u64 0),(.lit .u64 0),(.lit .u64 0),.ff]),false⟩,.live ⟨true,24,0,(.row zf'),false⟩,.live ⟨true,46,13,(.rows .g1 (List.take zh' zi' ++ [gF k]:List Pg1)),false⟩]))) (.leaf ((.normal,aw 163 [(1,.one (.c (.slc 0 0 (l.length) 4 (.of 0) false))),(2,.one (.c (.slc 1 0 (odd.length) 1 (.of 0) false))),(3,.one (.c (.bool (other)))),(4,.one (.c (.u64 (n)))),(5,.one (.c (.ptr 2 0))),(11,.one (.c (.ptr 3 0))),(12,.one (.c (.ptr 4 0))),(13,.one (.c (.bool (false)))),(14,.one (.c (.bool zb'))),(15,.one (.c (.int .i64 ze')))] [.live ⟨false,0,4,(.rows .fr (l:List Fr)),false⟩,.live ⟨false,0,1,(.elts .bool (odd:List Bool)),false⟩,.live ⟨true,24,0,(.row zg'),false⟩,.live ⟨true,35,0,(.row [(.slc 5 0 (c+1) 13 (.of 0) false),(.lit .u64 0),(.lit .u64 0),(.lit .u64 0),(.lit .u64 0),(.lit .u64 0),(.lit .u64 0),(.lit .u64 0),(.lit .u64 0),(.lit .u64 0),(.lit .u64 0),(.lit .u64 0),(.lit .u64 0),(.lit .u64 0),(.lit .u64 0),(.lit .u64 0),(.lit .u64 0),(.lit .u64 0),(.lit .u64 0),(.lit .u64 0),(.lit .u64 0),(.lit .u64 0),(.lit .u64 0),(.lit .u64 0),(.lit .u64 0),.ff]),false⟩,.live ⟨true,24,0,(.row zf'),false⟩,.live ⟨true,46,13,(.rows .g1 (List.take zh' zi' ++ [gF k]:List Pg1)),false⟩])))))))) (.leaf ((.exit 0,aw 163 [(1,.one (.c (.slc 0 0 (l.length) 4 (.of 0) false))),(2,.one (.c (.slc 1 0 (odd.length) 1 (.of 0) false))),(3,.one (.c (.bool (other)))),(4,.one (.c (.u64 (n)))),(5,.one (.c (.ptr 2 0))),(11,.one (.c (.ptr 3 0))),(12,.one (.c (.ptr 4 0))),(13,.one (.c (.bool (pw)))),(14,.one (.c (.bool (iz)))),(15,.one (.c (.int .i64 (z))))] [.live ⟨false,0,4,(.rows .fr (l:List Fr)),false⟩,.live ⟨false,0,1,(.elts .bool (odd:List Bool)),false⟩,.live ⟨true,24,0,(.row zg'),false⟩,.live ⟨true,35,0,(.row [(.slc 5 0 (c) 13 (.of 0) false),(.lit .u64 0),(.lit .u64 0),(.lit .u64 0),(.lit .u64 0),(.lit .u64 0),(.lit .u64 0),(.lit .u64 0),(.lit .u64 0),(.lit .u64 0),(.lit .u64 0),(.lit .u64 0),(.lit .u64 0),(.lit .u64 0),(.lit .u64 0),(.lit .u64 0),(.lit .u64 0),(.lit .u64 0),(.lit .u64 0),(.lit .u64 0),(.lit .u64 0),(.lit .u64 0),(.lit .u64 0),(.lit .u64 0),(.lit .u64 0),.ff]),false⟩,.live ⟨true,24,0,(.row (Row.cs (k:Fr))),false⟩,.live ⟨true,46,13,(.rows .g1 (g:List Pg1)),false⟩]))))):=by kernel_rfl
theorem agU (bF:Bool) (may:Fr->Bool) (oF:UInt64->Fr) (gF:Fr->Pg1) (mF:Fr->Fr->Fr) (hF:Fr->Pg2) (uF:UInt64->Pg1 × Bool) (nF:Pg1->Bool) (cF:List Pg1 × Pg2->Int) (yF:List Pg1 × Pg2->List UInt8) (tF:List UInt8->(List Pg1 × Pg2) × Int) (sF:List Pg1 × Pg2->List Pg1 × Pg2->Bool) (tau:Fr) (l:List Fr) (odd:List Bool) (other:Bool) (n:UInt64) (k:Fr) (pw iz:Bool) (z:Int) (c:Nat) (g:List Pg1):letI za':=(hF tau).x.c0.l0;letI zb':=(hF tau).x.c0.l1;letI zc':=(hF tau).x.c0.l2;letI zd':=(hF tau).x.c0.l3;letI ze':=(hF tau).x.c0.l4;letI zf':=(hF tau).x.c0.l5;letI zg':=(hF tau).x.c1.l0;letI zh':=(hF tau).x.c1.l1;letI zi':=(hF tau).x.c1.l2;letI zj':=(hF tau).x.c1.l3;letI zk':=(hF tau).x.c1.l4;letI zl':=(hF tau).x.c1.l5;letI zm':=(hF tau).y.c0.l0;letI zn':=(hF tau).y.c0.l1;letI zo':=(hF tau).y.c0.l2;letI zp':=(hF tau).y.c0.l3;letI zq':=(hF tau).y.c0.l4;letI zr':=(hF tau).y.c0.l5;letI zs':=(hF tau).y.c1.l0;letI zt':=(hF tau).y.c1.l1;letI zu':=(hF tau).y.c1.l2;letI zv':=(hF tau).y.c1.l3;letI zw':=(hF tau).y.c1.l4;letI zx':=(hF tau).y.c1.l5;letI zy':=(hF tau).inf;letI zz':=0+l.length*4<=(ao RK.fr l).length/\0<4;letI z0':=(decide ((↑l.length:Int)<2));stageG (scE bF may oF gF mF hF uF nF cF yF tF sF) 300 ((scC.drop 9).take 4) (scS tau l odd other n k pw iz z c g) [1,3,4,11,17] [0,3,5] [(1,.as),(3,.as),(4,.as),(11,.as),(17,.int)] [] []=(.br (iz) (.vc zz' (.br z0' (.leaf (aw 163 [(1,.one (.c (.slc 0 0 (l.length) 4 (.of 0) false))),(3,.one (.c (.bool (other)))),(4,.one (.c (.u64 (n)))),(11,.one (.c (.ptr 1 0))),(17,.one (.c (.int .i64 1)))] [.live ⟨false,0,4,(.rows .fr (l:List Fr)),false⟩,.live ⟨true,35,0,(.row [(.slc 2 0 (c) 13 (.of 0) false),(.u64 za'),(.u64 zb'),(.u64 zc'),(.u64 zd'),(.u64 ze'),(.u64 zf'),(.u64 zg'),(.u64 zh'),(.u64 zi'),(.u64 zj'),(.u64 zk'),(.u64 zl'),(.u64 zm'),(.u64 zn'),(.u64 zo'),(.u64 zp'),(.u64 zq'),(.u64 zr'),(.u64 zs'),(.u64 zt'),(.u64 zu'),(.u64 zv'),(.u64 zw'),(.u64 zx'),(.bool zy')]),false⟩,.live ⟨true,46,13,(.rows .g1 (g:List Pg1)),false⟩])) (.leaf (aw 163 [(1,.one (.c (.slc 0 0 (l.length) 4 (.of 0) false))),(3,.one (.c (.bool (other)))),(4,.one (.c (.u64 (n)))),(11,.one (.c (.ptr 1 0))),(17,.one (.c (.int .i64 7)))] [.live ⟨false,0,4,(.rows .fr (l:List Fr)),false⟩,.live ⟨true,35,0,(.row [(.slc 2 0 (c) 13 (.of 0) false),(.u64 za'),(.u64 zb'),(.u64 zc'),(.u64 zd'),(.u64 ze'),(.u64 zf'),(.u64 zg'),(.u64 zh'),(.u64 zi'),(.u64 zj'),(.u64 zk'),(.u64 zl'),(.u64 zm'),(.u64 zn'),(.u64 zo'),(.u64 zp'),(.u64 zq'),(.u64 zr'),(.u64 zs'),(.u64 zt'),(.u64 zu'),(.u64 zv'),(.u64 zw'),(.u64 zx'),(.bool zy')]),false⟩,.live ⟨true,46,13,(.rows .g1 (g:List Pg1)),false⟩])))) (.vc zz' (.br z0' (.leaf (aw 163 [(1,.one (.c (.slc 0 0 (l.length) 4 (.of 0) false))),(3,.one (.c (.bool (other)))),(4,.one (.c (.u64 (n)))),(11,.one (.c (.ptr 1 0))),(17,.one (.c (.int .i64 1)))] [.live ⟨false,0,4,(.rows .fr (l:List Fr)),false⟩,.live ⟨true,35,0,(.row [(.slc 2 0 (c) 13 (.of 0) false),(.u64 za'),(.u64 zb'),(.u64 zc'),(.u64 zd'),(.u64 ze'),(.u64 zf'),(.u64 zg'),(.u64 zh'),(.u64 zi'),(.u64 zj'),(.u64 zk'),(.u64 zl'),(.u64 zm'),(.u64 zn'),(.u64 zo'),(.u64 zp'),(.u64 zq'),(.u64 zr'),(.u64 zs'),(.u64 zt'),(.u64 zu'),(.u64 zv'),(.u64 zw'),(.u64 zx'),(.bool zy')]),false⟩,.live ⟨true,46,13,(.rows .g1 (g:List Pg1)),false⟩])) (.br (eE (tau) ({ l0:=UInt64.ofNat 0,l1:=UInt64.ofNat 0,l2:=UInt64.ofNat 0,l3:=UInt64.ofNat 0 })) (.leaf (aw 163 [(1,.one (.c (.slc 0 0 (l.length) 4 (.of 0) false))),(3,.one (.c (.bool (other)))),(4,.one (.c (.u64 (n)))),(11,.one (.c (.ptr 1 0))),(17,.one (.c (.int .i64 7)))] [.live ⟨false,0,4,(.rows .fr (l:List Fr)),false⟩,.live ⟨true,35,0,(.row [(.slc 2 0 (c) 13 (.of 0) false),(.u64 za'),(.u64 zb'),(.u64 zc'),(.u64 zd'),(.u64 ze'),(.u64 zf'),(.u64 zg'),(.u64 zh'),(.u64 zi'),(.u64 zj'),(.u64 zk'),(.u64 zl'),(.u64 zm'),(.u64 zn'),(.u64 zo'),(.u64 zp'),(.u64 zq'),(.u64 zr'),(.u64 zs'),(.u64 zt'),(.u64 zu'),(.u64 zv'),(.u64 zw'),(.u64 zx'),(.bool zy')]),false⟩,.live ⟨true,46,13,(.rows .g1 (g:List Pg1)),false⟩])) (.br (!(pw)) (.leaf (aw 163 [(1,.one (.c (.slc 0 0 (l.length) 4 (.of 0) false))),(3,.one (.c (.bool (other)))),(4,.one (.c (.u64 (n)))),(11,.one (.c (.ptr 1 0))),(17,.one (.c (.int .i64 9)))] [.live ⟨false,0,4,(.rows .fr (l:List Fr)),false⟩,.live ⟨true,35,0,(.row [(.slc 2 0 (c) 13 (.of 0) false),(.u64 za'),(.u64 zb'),(.u64 zc'),(.u64 zd'),(.u64 ze'),(.u64 zf'),(.u64 zg'),(.u64 zh'),(.u64 zi'),(.u64 zj'),(.u64 zk'),(.u64 zl'),(.u64 zm'),(.u64 zn'),(.u64 zo'),(.u64 zp'),(.u64 zq'),(.u64 zr'),(.u64 zs'),(.u64 zt'),(.u64 zu'),(.u64 zv'),(.u64 zw'),(.u64 zx'),(.bool zy')]),false⟩,.live ⟨true,46,13,(.rows .g1 (g:List Pg1)),false⟩])) (.leaf (aw 163 [(1,.one (.c (.slc 0 0 (l.length) 4 (.of 0) false))),(3,.one (.c (.bool (other)))),(4,.one (.c (.u64 (n)))),(11,.one (.c (.ptr 1 0))),(17,.one (.c (.int .i64 0)))] [.live ⟨false,0,4,(.rows .fr (l:List Fr)),false⟩,.live ⟨true,35,0,(.row [(.slc 2 0 (c) 13 (.of 0) false),(.u64 za'),(.u64 zb'),(.u64 zc'),(.u64 zd'),(.u64 ze'),(.u64 zf'),(.u64 zg'),(.u64 zh'),(.u64 zi'),(.u64 zj'),(.u64 zk'),(.u64 zl'),(.u64 zm'),(.u64 zn'),(.u64 zo'),(.u64 zp'),(.u64 zq'),(.u64 zr'),(.u64 zs'),(.u64 zt'),(.u64 zu'),(.u64 zv'),(.u64 zw'),(.u64 zx'),(.bool zy')]),false⟩,.live ⟨true,46,13,(.rows .g1 (g:List Pg1)),false⟩]))))))):=by kernel_rfl
theorem agS (bF:Bool) (may:Fr->Bool) (oF:UInt64->Fr) (gF:Fr->Pg1) (mF:Fr->Fr->Fr) (hF:Fr->Pg2) (uF:UInt64->Pg1 × Bool) (nF:Pg1->Bool) (cF:List Pg1 × Pg2->Int) (yF:List Pg1 × Pg2->List UInt8) (tF:List UInt8->(List Pg1 × Pg2) × Int) (sF:List Pg1 × Pg2->List Pg1 × Pg2->Bool) (l:List Fr) (other:Bool) (n:UInt64) (want:Int) (c:Nat) (t:Pg2) (g:List Pg1):letI za':=(↑(UInt64.ofNat ((↑l.length:Int) % 18446744073709551616).toNat).toNat:Int);letI zb':=((↑n.toNat:Int).tmod za');letI zc':=0+l.length*4<=(ao RK.fr l).length/\0<4;letI zd':=IntKind.i64.wrap zb';stageG (scE bF may oF gF mF hF uF nF cF yF tF sF) 300 ((scC.drop 13).take 2) (scM l other n want c t g) [1,3,4,11,17] [0,1,2] [(1,.as),(3,.as),(4,.as),(11,.as),(17,.int)] [] []=(.br (other) (.vc zc' (.br (decide ((↑l.length:Int) >= 2)) (.br ((uF n).snd) (.br (!(nF (uF n).fst)) (.vc zc' (.vc (za' ≠ 0) (.vc ((0<=IntKind.i64.wrap zb'/\IntKind.i64.wrap zb'<(↑c:Int))/\0+c*13<=(ao RK.g1 g).length/\0<13/\0=0) (.vc (0+zd'.toNat<g.length) (.leaf (aw 163 [(1,.one (.c (.slc 0 0 (l.length) 4 (.of 0) false))),(3,.one (.c (.bool (other)))),(4,.one (.c (.u64 (n)))),(11,.one (.c (.ptr 1 0))),(17,.one (.c (.int .i64 6)))] [.live ⟨false,0,4,(.rows .fr (l:List Fr)),false⟩,.live ⟨true,35,0,(.row [(.slc 2 0 (c) 13 (.of 0) false),(.u64 (t.x.c0.l0)),(.u64 (t.x.c0.l1)),(.u64 (t.x.c0.l2)),(.u64 (t.x.c0.l3)),(.u64 (t.x.c0.l4)),(.u64 (t.x.c0.l5)),(.u64 (t.x.c1.l0)),(.u64 (t.x.c1.l1)),(.u64 (t.x.c1.l2)),(.u64 (t.x.c1.l3)),(.u64 (t.x.c1.l4)),(.u64 (t.x.c1.l5)),(.u64 (t.y.c0.l0)),(.u64 (t.y.c0.l1)),(.u64 (t.y.c0.l2)),(.u64 (t.y.c0.l3)),(.u64 (t.y.c0.l4)),(.u64 (t.y.c0.l5)),(.u64 (t.y.c1.l0)),(.u64 (t.y.c1.l1)),(.u64 (t.y.c1.l2)),(.u64 (t.y.c1.l3)),(.u64 (t.y.c1.l4)),(.u64 (t.y.c1.l5)),(.bool (t.inf))]),false⟩,.live ⟨true,46,13,(.rows .g1 (g.set (0+zd'.toNat) (uF n).fst:List Pg1)),false⟩])))))) (.leaf (aw 163 [(1,.one (.c (.slc 0 0 (l.length) 4 (.of 0) false))),(3,.one (.c (.bool (other)))),(4,.one (.c (.u64 (n)))),(11,.one (.c (.ptr 1 0))),(17,.one (.c (.int .i64 (want))))] [.live ⟨false,0,4,(.rows .fr (l:List Fr)),false⟩,.live ⟨true,35,0,(.row [(.slc 2 0 (c) 13 (.of 0) false),(.u64 (t.x.c0.l0)),(.u64 (t.x.c0.l1)),(.u64 (t.x.c0.l2)),(.u64 (t.x.c0.l3)),(.u64 (t.x.c0.l4)),(.u64 (t.x.c0.l5)),(.u64 (t.x.c1.l0)),(.u64 (t.x.c1.l1)),(.u64 (t.x.c1.l2)),(.u64 (t.x.c1.l3)),(.u64 (t.x.c1.l4)),(.u64 (t.x.c1.l5)),(.u64 (t.y.c0.l0)),(.u64 (t.y.c0.l1)),(.u64 (t.y.c0.l2)),(.u64 (t.y.c0.l3)),(.u64 (t.y.c0.l4)),(.u64 (t.y.c0.l5)),(.u64 (t.y.c1.l0)),(.u64 (t.y.c1.l1)),(.u64 (t.y.c1.l2)),(.u64 (t.y.c1.l3)),(.u64 (t.y.c1.l4)),(.u64 (t.y.c1.l5)),(.bool (t.inf))]),false⟩,.live ⟨true,46,13,(.rows .g1 (g:List Pg1)),false⟩]))) (.leaf (aw 163 [(1,.one (.c (.slc 0 0 (l.length) 4 (.of 0) false))),(3,.one (.c (.bool (other)))),(4,.one (.c (.u64 (n)))),(11,.one (.c (.ptr 1 0))),(17,.one (.c (.int .i64 (want))))] [.live ⟨false,0,4,(.rows .fr (l:List Fr)),false⟩,.live ⟨true,35,0,(.row [(.slc 2 0 (c) 13 (.of 0) false),(.u64 (t.x.c0.l0)),(.u64 (t.x.c0.l1)),(.u64 (t.x.c0.l2)),(.u64 (t.x.c0.l3)),(.u64 (t.x.c0.l4)),(.u64 (t.x.c0.l5)),(.u64 (t.x.c1.l0)),(.u64 (t.x.c1.l1)),(.u64 (t.x.c1.l2)),(.u64 (t.x.c1.l3)),(.u64 (t.x.c1.l4)),(.u64 (t.x.c1.l5)),(.u64 (t.y.c0.l0)),(.u64 (t.y.c0.l1)),(.u64 (t.y.c0.l2)),(.u64 (t.y.c0.l3)),(.u64 (t.y.c0.l4)),(.u64 (t.y.c0.l5)),(.u64 (t.y.c1.l0)),(.u64 (t.y.c1.l1)),(.u64 (t.y.c1.l2)),(.u64 (t.y.c1.l3)),(.u64 (t.y.c1.l4)),(.u64 (t.y.c1.l5)),(.bool (t.inf))]),false⟩,.live ⟨true,46,13,(.rows .g1 (g:List Pg1)),false⟩]))) (.leaf (aw 163 [(1,.one (.c (.slc 0 0 (l.length) 4 (.of 0) false))),(3,.one (.c (.bool (other)))),(4,.one (.c (.u64 (n)))),(11,.one (.c (.ptr 1 0))),(17,.one (.c (.int .i64 (want))))] [.live ⟨false,0,4,(.rows .fr (l:List Fr)),false⟩,.live ⟨true,35,0,(.row [(.slc 2 0 (c) 13 (.of 0) false),(.u64 (t.x.c0.l0)),(.u64 (t.x.c0.l1)),(.u64 (t.x.c0.l2)),(.u64 (t.x.c0.l3)),(.u64 (t.x.c0.l4)),(.u64 (t.x.c0.l5)),(.u64 (t.x.c1.l0)),(.u64 (t.x.c1.l1)),(.u64 (t.x.c1.l2)),(.u64 (t.x.c1.l3)),(.u64 (t.x.c1.l4)),(.u64 (t.x.c1.l5)),(.u64 (t.y.c0.l0)),(.u64 (t.y.c0.l1)),(.u64 (t.y.c0.l2)),(.u64 (t.y.c0.l3)),(.u64 (t.y.c0.l4)),(.u64 (t.y.c0.l5)),(.u64 (t.y.c1.l0)),(.u64 (t.y.c1.l1)),(.u64 (t.y.c1.l2)),(.u64 (t.y.c1.l3)),(.u64 (t.y.c1.l4)),(.u64 (t.y.c1.l5)),(.bool (t.inf))]),false⟩,.live ⟨true,46,13,(.rows .g1 (g:List Pg1)),false⟩])))) (.leaf (aw 163 [(1,.one (.c (.slc 0 0 (l.length) 4 (.of 0) false))),(3,.one (.c (.bool (other)))),(4,.one (.c (.u64 (n)))),(11,.one (.c (.ptr 1 0))),(17,.one (.c (.int .i64 (want))))] [.live ⟨false,0,4,(.rows .fr (l:List Fr)),false⟩,.live ⟨true,35,0,(.row [(.slc 2 0 (c) 13 (.of 0) false),(.u64 (t.x.c0.l0)),(.u64 (t.x.c0.l1)),(.u64 (t.x.c0.l2)),(.u64 (t.x.c0.l3)),(.u64 (t.x.c0.l4)),(.u64 (t.x.c0.l5)),(.u64 (t.x.c1.l0)),(.u64 (t.x.c1.l1)),(.u64 (t.x.c1.l2)),(.u64 (t.x.c1.l3)),(.u64 (t.x.c1.l4)),(.u64 (t.x.c1.l5)),(.u64 (t.y.c0.l0)),(.u64 (t.y.c0.l1)),(.u64 (t.y.c0.l2)),(.u64 (t.y.c0.l3)),(.u64 (t.y.c0.l4)),(.u64 (t.y.c0.l5)),(.u64 (t.y.c1.l0)),(.u64 (t.y.c1.l1)),(.u64 (t.y.c1.l2)),(.u64 (t.y.c1.l3)),(.u64 (t.y.c1.l4)),(.u64 (t.y.c1.l5)),(.bool (t.inf))]),false⟩,.live ⟨true,46,13,(.rows .g1 (g:List Pg1)),false⟩]))):=by kernel_rfl
theorem agW (bF:Bool) (may:Fr->Bool) (oF:UInt64->Fr) (gF:Fr->Pg1) (mF:Fr->Fr->Fr) (hF:Fr->Pg2) (uF:UInt64->Pg1 × Bool) (nF:Pg1->Bool) (cF:List Pg1 × Pg2->Int) (yF:List Pg1 × Pg2->List UInt8) (tF:List UInt8->(List Pg1 × Pg2) × Int) (sF:List Pg1 × Pg2->List Pg1 × Pg2->Bool) (l:List Fr) (other:Bool) (n:UInt64) (want:Int) (c:Nat) (t:Pg2) (g:List Pg1):letI za':=List.take (yF (List.take c (List.drop 0 g),t)).length (List.drop 0 (yF (List.take c (List.drop 0 g),t)));letI zb':=(0+c*13<=(ao RK.g1 g).length/\0=0/\c<1125899906842624/\0=0/\13=13)/\Lp (List.take c (List.drop 0 g),t);letI zc':=List.drop 0 g;letI zd':=yF (List.take c zc',t);letI ze':=List.drop 0 (tF za').fst.fst;dx (scE bF may oF gF mF hF uF nF cF yF tF sF) oB 300 Tryz.f4 (scC.drop 15) (scM l other n want c t g)=(.vc zb' (.br (want==1) (.leaf (some ((cF (List.take c zc',t)==want,.t)))) (.br (want==6) (.leaf (some ((cF (List.take c zc',t)==want,.t)))) (.vc zb' (.vc ((0+zd'.length<=zd'.length/\zd'.length<1125899906842624/\0=0/\1=1)/\e8 za') (.br (cF (List.take c zc',t)==want) (.br ((tF za').snd==want) (.br ((tF za').snd != 0) (.leaf (some ((true,.t)))) (.vc (zb'/\(0+(tF za').fst.fst.length*13<=(ao RK.g1 (tF za').fst.fst).length/\0=0/\(tF za').fst.fst.length<1125899906842624/\0=0/\13=13)/\Lp (List.take (tF za').fst.fst.length ze',(tF za').fst.snd)) (.leaf (some ((sF (List.take c zc',t) (List.take (tF za').fst.fst.length ze',(tF za').fst.snd),.t)))))) (.leaf (some ((false,.t))))) (.leaf (some ((false,.t)))))))))):=by kernel_rfl
end
end Go.Proofs.YtcbplfkeeaecgaaGreat
namespace Go.Proofs.YtcbplfkeeaecgaaGreat
def qN:Nat:=0x73eda753299d7d483339d80809a1d80553bda402fffe5bfeffffffff00000001
def r4N:Nat:=0x10000000000000000000000000000000000000000000000000000000000000000
def Fr.nat (a:Fr):Nat:=a.l0.toNat+W64*(a.l1.toNat+W64*(a.l2.toNat+W64*(a.l3.toNat)))
theorem Fr.nat_lt (a:Fr):a.nat<r4N:=by
 have h0:=a.l0.toNat_lt
 have h1:=a.l1.toNat_lt
 have h2:=a.l2.toNat_lt
 have h3:=a.l3.toNat_lt
 unfold Fr.nat r4N W64
 omega
theorem Fr.nat_inj {a b:Fr} (h:a.nat=b.nat):a=b:=by
 have h0:=a.l0.toNat_lt
 have h1:=a.l1.toNat_lt
 have h2:=a.l2.toNat_lt
 have h3:=a.l3.toNat_lt
 have k0:=b.l0.toNat_lt
 have k1:=b.l1.toNat_lt
 have k2:=b.l2.toNat_lt
 have k3:=b.l3.toNat_lt
 unfold Fr.nat W64 at h
 have e0:a.l0=b.l0:=UInt64.toNat.inj (by omega)
 have e1:a.l1=b.l1:=UInt64.toNat.inj (by omega)
 have e2:a.l2=b.l2:=UInt64.toNat.inj (by omega)
 have e3:a.l3=b.l3:=UInt64.toNat.inj (by omega)
 cases a;cases b
 simp only [] at e0 e1 e2 e3
 subst e0 e1 e2 e3
 rfl
theorem jA:rLimbs.nat=qN:=by decide +kernel
theorem AH (a b:Fr):(lP a b).1.nat+b.nat=a.nat+r4N*(lP a b).2.toNat:=by
 unfold lP
 simp only []
 have s0:=fj a.l0 b.l0 false
 generalize du a.l0 b.l0 false=c0 at *
 have s1:=fj a.l1 b.l1 c0
 generalize du a.l1 b.l1 c0=c1 at *
 have s2:=fj a.l2 b.l2 c1
 generalize du a.l2 b.l2 c1=c2 at *
 have s3:=fj a.l3 b.l3 c2
 generalize du a.l3 b.l3 c2=c3 at *
 unfold Fr.nat r4N W64 at *
 simp only [Bool.toNat_false] at *
 omega
theorem uo (a m:Fr):ct a m=decide (a.nat<m.nat):=by
 have h0:=a.l0.toNat_lt
 have k0:=m.l0.toNat_lt
 have h1:=a.l1.toNat_lt
 have k1:=m.l1.toNat_lt
 have h2:=a.l2.toNat_lt
 have k2:=m.l2.toNat_lt
 have same : ∀ {x y:UInt64},(x != y)=false->x.toNat=y.toNat:=fun h=>by
  simp only [bne_eq_false_iff_eq] at h
  rw [h]
 unfold ct
 cases e3:a.l3 != m.l3 with
 | true =>
  have:=u64_ne.1 e3
  refine decide_eq_decide.2 ?_
  rw [UInt64.lt_iff_toNat_lt]
  unfold Fr.nat W64
  omega
 | false =>
  have e3:=same e3
  simp only []
  cases e2:a.l2 != m.l2 with
  | true =>
   have:=u64_ne.1 e2
   refine decide_eq_decide.2 ?_
   rw [UInt64.lt_iff_toNat_lt]
   unfold Fr.nat W64
   omega
  | false =>
   have e2:=same e2
   simp only []
   cases e1:a.l1 != m.l1 with
   | true =>
    have:=u64_ne.1 e1
    refine decide_eq_decide.2 ?_
    rw [UInt64.lt_iff_toNat_lt]
    unfold Fr.nat W64
    omega
   | false =>
    have e1:=same e1
    simp only []
    cases e0:a.l0 != m.l0 with
    | true =>
     have:=u64_ne.1 e0
     refine decide_eq_decide.2 ?_
     rw [UInt64.lt_iff_toNat_lt]
     unfold Fr.nat W64
     omega
    | false =>
     have e0:=same e0
     refine (decide_eq_false ?_).symm
     unfold Fr.nat W64
     omega
theorem SC (a:Fr):jI a=decide (a.nat<qN):=by
 rw [show jI a=ct a rLimbs from rfl,uo,jA]
theorem um (a b:Fr):(lP a b).2=decide (a.nat<b.nat):=by
 have h:=AH a b
 have h1:=(lP a b).1.nat_lt
 have hb:=b.nat_lt
 cases e:(lP a b).2 with
 | true =>
  rw [e,Bool.toNat_true,Nat.mul_one] at h
  exact (decide_eq_true (by omega)).symm
 | false =>
  rw [e,Bool.toNat_false,Nat.mul_zero] at h
  exact (decide_eq_false (by omega)).symm
theorem qQ:0<qN:=by decide +kernel
theorem NL (t:Fr) (c:Nat) (hc:c<=1) (h:t.nat+r4N*c<2*qN):((c=1 \/ ¬ t.nat<qN)->(lP t rLimbs).1.nat=(t.nat+r4N*c) % qN)/\((c=0/\t.nat<qN)->t.nat=(t.nat+r4N*c) % qN):=by
 have h1:=AH t rLimbs
 have h2:=um t rLimbs
 rw [jA] at h1 h2
 have h3:=t.nat_lt
 have h4:=(lP t rLimbs).1.nat_lt
 have hq:qN<r4N:=by decide +kernel
 have hq2:r4N<3*qN:=by decide +kernel
 constructor
 ·intro hh
  rcases Nat.lt_or_ge t.nat qN with hl | hl
  ·have hc1:c=1:=hh.resolve_right (fun e=>e hl)
   subst hc1
   rw [h2,decide_eq_true hl,Bool.toNat_true,Nat.mul_one] at h1
   rw [Nat.mul_one,Nat.mod_eq_sub_mod (by omega),Nat.mod_eq_of_lt (by omega)]
   omega
  ·rw [h2,decide_eq_false (by omega),Bool.toNat_false,Nat.mul_zero] at h1
   have hc0:c=0:=by
    rcases Nat.eq_zero_or_pos c with e | e
    ·exact e
    ·have:c=1:=by omega
     subst this
     omega
   subst hc0
   rw [Nat.mul_zero,Nat.add_zero] at h ⊢
   rw [Nat.mod_eq_sub_mod hl,Nat.mod_eq_of_lt (by omega)]
   omega
 ·rintro ⟨rfl,hl⟩
  rw [Nat.mul_zero,Nat.add_zero,Nat.mod_eq_of_lt hl]
def L5.nat (t:L5):Nat:=t.t0.toNat+W64*(t.t1.toNat+W64*(t.t2.toNat+W64*(t.t3.toNat+W64*(t.t4.toNat))))
theorem L5.nat_low (t:L5):t.nat=t.low.nat+r4N*t.t4.toNat:=by
 unfold L5.nat L5.low Fr.nat r4N W64
 simp only []
 omega
def gE:UInt64:=0xfffffffeffffffff
theorem eJ:bG rLimbs.l0=gE:=by decide +kernel
theorem SP (t:UInt64):(fD (t*gE) rLimbs.l0+b2u (ci t (t*gE*rLimbs.l0) false)).toNat*W64=(t*gE).toNat*rLimbs.l0.toNat+t.toNat:=by
 generalize hx:t*gE=x
 have hx':x.toNat=t.toNat*18446744069414584319 % 18446744073709551616:=by rw [<- hx,UInt64.toNat_mul];rfl
 have hp:rLimbs.l0.toNat=18446744069414584321:=rfl
 have ht:=t.toNat_lt
 have hlt:=x.toNat_lt
 rw [UInt64.toNat_add,cG,j0,il,UInt64.toNat_mul,hp]
 rw [Bool.toNat_false,Nat.add_zero]
 unfold W64
 have key:(x.toNat*18446744069414584321 % 18446744073709551616+t.toNat) % 18446744073709551616=0:=by
  rw [hx']
  omega
 omega
theorem rmw (x y t c:UInt64):(rmH x y t c).toNat*W64+(rmL x y t c).toNat=x.toNat*y.toNat+t.toNat+c.toNat:=by rw [zj,zi];exact n7 x y t c
theorem Ky (t0 t1 t2 t3 top:UInt64) (more:Bool) :
  (zy rLimbs gE t0 t1 t2 t3 top more).nat*W64=(t0.toNat+W64*(t1.toNat+W64*(t2.toNat+W64*(t3.toNat+W64*(top.toNat+W64*(more.toNat))))))+(t0*gE).toNat*qN:=by
 have q0:=SP t0
 unfold zy
 simp only [L5.nat]
 generalize fD (t0*gE) rLimbs.l0+b2u (ci t0 (t0*gE*rLimbs.l0) false)=d0 at *
 generalize t0*gE=x at *
 have q1:=rmw x rLimbs.l1 t1 d0
 generalize rmH x rLimbs.l1 t1 d0=d1 at *
 have q2:=rmw x rLimbs.l2 t2 d1
 generalize rmH x rLimbs.l2 t2 d1=d2 at *
 have q3:=rmw x rLimbs.l3 t3 d2
 generalize rmH x rLimbs.l3 t3 d2=d3 at *
 have q6:=ft top d3 false
 have q7:(b2u more+b2u (ci top d3 false)).toNat=more.toNat+(ci top d3 false).toNat:=by
  rw [UInt64.toNat_add,cG,cG]
  cases more <;> cases ci top d3 false <;> rfl
 rw [q7]
 have ep:qN=rLimbs.l0.toNat+W64*(rLimbs.l1.toNat+W64*(rLimbs.l2.toNat+W64*(rLimbs.l3.toNat))):=by decide +kernel
 have exp:x.toNat*qN=x.toNat*rLimbs.l0.toNat+W64*(x.toNat*rLimbs.l1.toNat+W64*(x.toNat*rLimbs.l2.toNat+W64*(x.toNat*rLimbs.l3.toNat))):=by
  rw [ep]
  simp only [Nat.mul_add,Nat.mul_left_comm x.toNat W64]
 rw [exp]
 have s4:(eg top d3 false).toNat+W64*(more.toNat+(ci top d3 false).toNat)=(top.toNat+W64*more.toNat)+d3.toNat:=by
  simp only [Bool.toNat_false] at q6
  unfold W64 at *
  omega
 have s3:=bC q3 s4
 have s2:=bC q2 s3
 have s1:=bC q1 s2
 rw [s1]
 generalize x.toNat*rLimbs.l0.toNat=y0 at *
 generalize x.toNat*rLimbs.l1.toNat=y1 at *
 generalize x.toNat*rLimbs.l2.toNat=y2 at *
 generalize x.toNat*rLimbs.l3.toNat=y3 at *
 exact ajT (vp (vp (afh _ _ _))) q0
theorem jG (b:Fr) (ai:UInt64) (t:L5) : ∃ m:Nat,m<W64/\(et rLimbs gE ai b t).nat*W64=t.nat+ai.toNat*b.nat+m*qN:=by
 unfold et
 simp only []
 have q0:=rmw ai b.l0 t.t0 0
 generalize rmH ai b.l0 t.t0 0=c0 at *
 have q1:=rmw ai b.l1 t.t1 c0
 generalize rmH ai b.l1 t.t1 c0=c1 at *
 have q2:=rmw ai b.l2 t.t2 c1
 generalize rmH ai b.l2 t.t2 c1=c2 at *
 have q3:=rmw ai b.l3 t.t3 c2
 generalize rmH ai b.l3 t.t3 c2=c3 at *
 have q6:=ft t.t4 c3 false
 refine ⟨(rmL ai b.l0 t.t0 0*gE).toNat,UInt64.toNat_lt _,?_⟩
 rw [Ky]
 refine congrArg (fun z=>z+(rmL ai b.l0 t.t0 0*gE).toNat*qN) ?_
 have e:ai.toNat*b.nat=ai.toNat*b.l0.toNat+W64*(ai.toNat*b.l1.toNat+W64*(ai.toNat*b.l2.toNat+W64*(ai.toNat*b.l3.toNat))):=by
  unfold Fr.nat
  simp only [Nat.mul_add,Nat.mul_left_comm ai.toNat W64]
 rw [e]
 have s4:(eg t.t4 c3 false).toNat+W64*(ci t.t4 c3 false).toNat=t.t4.toNat+c3.toNat:=by simpa using q6
 have s3:=bC q3 s4
 have s2:=bC q2 s3
 have s1:=bC q1 s2
 have s0:=bC q0 s1
 rw [s0]
 have z:(0:UInt64).toNat=0:=rfl
 rw [z,L5.nat]
 generalize ai.toNat*b.l0.toNat=x0 at *
 generalize ai.toNat*b.l1.toNat=x1 at *
 generalize ai.toNat*b.l2.toNat=x2 at *
 generalize ai.toNat*b.l3.toNat=x3 at *
 rw [Nat.add_zero]
 exact vp (vp (vp (afh _ _ _)))
theorem jf {b:Fr} {ai:UInt64} {t:L5} (h:t.nat<b.nat+qN):(et rLimbs gE ai b t).nat<b.nat+qN:=by
 obtain ⟨m,hm,e⟩:=jG b ai t
 have hb:=ai.toNat_lt
 have h1:ai.toNat*b.nat<=(W64-1)*b.nat:=Nat.mul_le_mul_right _ (by unfold W64;omega)
 have h2:m*qN<=(W64-1)*qN:=Nat.mul_le_mul_right _ (by omega)
 have h3:(et rLimbs gE ai b t).nat*W64<(b.nat+qN)*W64:=by
  rw [e]
  unfold W64 at *
  omega
 exact Nat.lt_of_mul_lt_mul_right h3
set_option maxRecDepth 100000 in
theorem wQ (a b:Fr) : ∃ k:Nat,(dN a b rLimbs).nat*r4N=a.nat*b.nat+k*qN/\(dN a b rLimbs).nat<b.nat+qN:=by
 have hp0:0<qN:=qQ
 obtain ⟨m0,_,e0⟩:=jG b a.l0 ⟨0,0,0,0,0⟩
 obtain ⟨m1,_,e1⟩:=jG b a.l1 (eV a b rLimbs)
 obtain ⟨m2,_,e2⟩:=jG b a.l2 (eU a b rLimbs)
 obtain ⟨m3,_,e3⟩:=jG b a.l3 (eT a b rLimbs)
 have z:(L5.mk 0 0 0 0 0).nat=0:=by decide +kernel
 have b0:(eV a b rLimbs).nat<b.nat+qN:=by unfold eV;rw [eJ];exact jf (by rw [z];omega)
 have b1:(eU a b rLimbs).nat<b.nat+qN:=by unfold eU;rw [eJ];exact jf b0
 have b2:(eT a b rLimbs).nat<b.nat+qN:=by unfold eT;rw [eJ];exact jf b1
 have b3:(dN a b rLimbs).nat<b.nat+qN:=by unfold dN;rw [eJ];exact jf b2
 refine ⟨m0+W64*(m1+W64*(m2+W64*(m3))),?_,b3⟩
 rw [z] at e0
 rw [show et rLimbs gE a.l0 b ⟨0,0,0,0,0⟩=eV a b rLimbs by unfold eV;rw [eJ]] at e0
 rw [show et rLimbs gE a.l1 b (eV a b rLimbs)=eU a b rLimbs by unfold eU;rw [eJ]] at e1
 rw [show et rLimbs gE a.l2 b (eU a b rLimbs)=eT a b rLimbs by unfold eT;rw [eJ]] at e2
 rw [show et rLimbs gE a.l3 b (eT a b rLimbs)=dN a b rLimbs by unfold dN;rw [eJ]] at e3
 have er:r4N=W64*(W64*(W64*W64)):=by decide +kernel
 have eb:a.nat*b.nat=a.l0.toNat*b.nat+W64*(a.l1.toNat*b.nat+W64*(a.l2.toNat*b.nat+W64*(a.l3.toNat*b.nat))):=by
  rw [show a.nat=a.l0.toNat+W64*(a.l1.toNat+W64*(a.l2.toNat+W64*(a.l3.toNat))) from rfl]
  simp only [Nat.add_mul,Nat.mul_assoc]
 have ek:(m0+W64*(m1+W64*(m2+W64*(m3))))*qN=m0*qN+W64*(m1*qN+W64*(m2*qN+W64*(m3*qN))):=by
  simp only [Nat.add_mul,Nat.mul_assoc]
 rw [er,eb,ek]
 have st : ∀ {t' t z R:Nat},t'*W64=t+z -> ∀ s:Nat,t'*(W64*s)=(t+z)*s:=fun h s=>by rw [<- Nat.mul_assoc,h]
 rw [st (R:=0) (t:=(eT a b rLimbs).nat) (z:=a.l3.toNat*b.nat+m3*qN) (by rw [e3,Nat.add_assoc])]
 rw [Nat.add_mul,st (R:=0) (t:=(eU a b rLimbs).nat) (z:=a.l2.toNat*b.nat+m2*qN) (by rw [e2,Nat.add_assoc])]
 rw [Nat.add_mul _ _ (W64*W64),st (R:=0) (t:=(eV a b rLimbs).nat) (z:=a.l1.toNat*b.nat+m1*qN) (by rw [e1,Nat.add_assoc])]
 rw [Nat.add_mul _ _ W64,e0]
 generalize a.l0.toNat*b.nat=x0
 generalize a.l1.toNat*b.nat=x1
 generalize a.l2.toNat*b.nat=x2
 generalize a.l3.toNat*b.nat=x3
 generalize m0*qN=y0
 generalize m1*qN=y1
 generalize m2*qN=y2
 generalize m3*qN=y3
 clear e0 e1 e2 e3 eb ek st
 unfold W64
 omega
theorem Kw (t:L5) (h6:t.t4.toNat<=1) (h:t.low.nat+r4N*t.t4.toNat<2*qN):(qS rLimbs t).nat=(t.low.nat+r4N*t.t4.toNat) % qN:=by
 obtain ⟨r1,r2⟩:=NL t.low t.t4.toNat h6 h
 unfold qS
 cases e:t.t4 != 0 with
 | true =>
  have:=u64_ne.1 e
  rw [show (0:UInt64).toNat=0 from rfl] at this
  exact r1 (.inl (by omega))
 | false =>
  rw [bne_eq_false_iff_eq] at e
  have e0:t.t4.toNat=0:=by rw [e];rfl
  rw [uo,jA]
  by_cases hl:t.low.nat<qN
  ·rw [decide_eq_true hl]
   exact r2 ⟨e0,hl⟩
  ·rw [decide_eq_false hl]
   exact r1 (.inr hl)
theorem ajb:qN<r4N:=by decide +kernel
theorem wR {a b:Fr} (hb:b.nat<qN):(kC a b rLimbs).nat<qN/\((kC a b rLimbs).nat*r4N) % qN=(a.nat*b.nat) % qN:=by
 obtain ⟨k,h1,h2⟩:=wQ a b
 unfold kC
 generalize dN a b rLimbs=t at *
 rw [L5.nat_low] at h1 h2
 have hlt:=t.low.nat_lt
 have hq3:=ajb
 have h6:t.t4.toNat<=1:=by
  rcases Nat.lt_or_ge t.t4.toNat 2 with h | h
  ·omega
  ·have:r4N*2<=r4N*t.t4.toNat:=Nat.mul_le_mul_left _ h
   omega
 rw [Kw t h6 (by omega)]
 refine ⟨Nat.mod_lt _ qQ,?_⟩
 rw [Nat.mod_mul_mod,h1,Nat.add_mul_mod_self_right]
def afF:Nat:=0x1bbe869330009d577204078a4f77266aab6fca8f09dc705f13f75b69fe75c040
theorem ag8:r4N*afF % qN=1:=by decide +kernel
theorem AS {x y:Nat} (h:x*r4N % qN=y*r4N % qN):x % qN=y % qN:=by
 have e : ∀ z,z % qN=z*r4N % qN*afF % qN:=fun z=>by
  rw [Nat.mod_mul_mod,Nat.mul_assoc,<- Nat.mul_mod_mod,ag8,Nat.mul_one]
 rw [e x,e y,h]
theorem CV:sq4Limbs.nat=r4N*r4N % qN:=by decide +kernel
theorem tk {a b:Fr} (hb:b.nat<qN):(d6 a b).nat=a.nat*b.nat % qN:=by
 have hs:sq4Limbs.nat<qN:=by rw [CV];exact Nat.mod_lt _ qQ
 obtain ⟨h1,h2⟩:=wR (a:=a) hb
 obtain ⟨h3,h4⟩:=wR (a:=kC a b rLimbs) hs
 have e:(d6 a b).nat % qN=a.nat*b.nat % qN:=by
  refine AS ?_
  show (kC (kC a b rLimbs) sq4Limbs rLimbs).nat*r4N % qN=_
  rw [h4,CV,Nat.mul_mod_mod,<- Nat.mul_assoc,<- Nat.mod_mul_mod,h2,Nat.mod_mul_mod]
 rw [<- e]
 exact (Nat.mod_eq_of_lt h3).symm
theorem XK {a b:Fr} (hb:b.nat<qN):(d6 a b).nat<qN:=by rw [tk hb];exact Nat.mod_lt _ qQ
end Go.Proofs.YtcbplfkeeaecgaaGreat
namespace Go.Proofs.YtcbplfkeeaecgaaGreat
theorem B9 {n F:Nat} (hn1:1<n) (key : ∀ d,IsPrime d->d ∣ n->F ∣ d-1) (hF:n<(F+1)*(F+1)):IsPrime n:=by
 have key : ∀ d,IsPrime d->d ∣ n->F+1<=d:=fun d hd hdn=>by
  have:=Nat.le_of_dvd (by have:=hd.1;omega) (key d hd hdn)
  have:=hd.1
  omega
 refine ⟨hn1,fun x hx => ?_⟩
 by_cases hx1:x=1
 ·exact .inl hx1
 ·right
  obtain ⟨y,hy⟩:=hx
  have hx0:x ≠ 0:=by rintro rfl;omega
  by_cases hy1:y=1
  ·subst hy1;omega
  ·have hy0:y ≠ 0:=by rintro rfl;omega
   obtain ⟨d,hd,hdx⟩:=ef x (by omega)
   obtain ⟨e,he,hey⟩:=ef y (by omega)
   have h1:=key d hd (Nat.dvd_trans hdx ⟨y,hy⟩)
   have h2:=key e he (Nat.dvd_trans hey ⟨x,by rw [hy,Nat.mul_comm]⟩)
   have h3:=Nat.le_of_dvd (by omega) hdx
   have h4:=Nat.le_of_dvd (by omega) hey
   have:=Nat.mul_le_mul (Nat.le_trans h1 h3) (Nat.le_trans h2 h4)
   omega
theorem jS {n q r a k:Nat} (hn:n=q*r+1) (hq:IsPrime q) (hr:0<r) (hk:q*r<2 ^ k) (h1:A6 k a (q*r) n=1) (h2:Nat.gcd (A6 k a r n+(n-1)) n=1) {d:Nat} (hd:IsPrime d) (hdn:d ∣ n):q ∣ d-1:=by
 have hrq:r<2 ^ k:=Nat.lt_of_le_of_lt (Nat.le_mul_of_pos_left r (by have:=hq.1;omega)) hk
 rw [gN n k a _ hk] at h1
 rw [gN n k a _ hrq] at h2
 exact Hc hn hq hr h1 h2 hd hdn
theorem pu {a b m:Nat} (h:Nat.gcd a b=1) (ha:a ∣ m) (hb:b ∣ m):a*b ∣ m:=Nat.Coprime.mul_dvd_of_dvd_of_dvd h ha hb
theorem Fh:IsPrime 10177:=bW (k:=100) (by decide) (by decide +kernel) (by decide)
theorem Ce:IsPrime 125527:=bW (k:=354) (by decide) (by decide +kernel) (by decide)
theorem Ff:IsPrime 47737:=bW (k:=217) (by decide) (by decide +kernel) (by decide)
theorem Cc:IsPrime 859267:=J0 0 (q:=47737) (r:=18) (a:=2) (k:=30) (by decide) Ff (by decide) (fun k h=>absurd h (by omega)) (by decide) (by decide) (by decide +kernel) (by decide +kernel)
theorem JO:IsPrime 1607:=bW (k:=40) (by decide) (by decide +kernel) (by decide)
theorem Ca:IsPrime 906349:=J0 0 (q:=1607) (r:=564) (a:=2) (k:=30) (by decide) JO (by decide) (fun k h=>absurd h (by omega)) (by decide) (by decide) (by decide +kernel) (by decide +kernel)
theorem zp:IsPrime 2508409:=bW (k:=1583) (by decide) (by decide +kernel) (by decide)
theorem Fg:IsPrime 18329:=bW (k:=135) (by decide) (by decide +kernel) (by decide)
theorem zo:IsPrime 2529403:=J0 0 (q:=18329) (r:=138) (a:=2) (k:=30) (by decide) Fg (by decide) (fun k h=>absurd h (by omega)) (by decide) (by decide) (by decide +kernel) (by decide +kernel)
theorem Cd:IsPrime 609743:=bW (k:=781) (by decide) (by decide +kernel) (by decide)
theorem vd:IsPrime 52437899:=J0 0 (q:=609743) (r:=86) (a:=2) (k:=30) (by decide) Cd (by decide) (fun k h=>absurd h (by omega)) (by decide) (by decide) (by decide +kernel) (by decide +kernel)
theorem ah4 {d:Nat} (hd:IsPrime d) (hdn:d ∣ qN):331010811950628058101279066386724501604961 ∣ d-1:=(pu (a:=6312434675360049381484164084963139) (b:=52437899) (by decide +kernel) (pu (a:=2495622356484929203248420313) (b:=2529403) (by decide +kernel) (pu (a:=994902488583372649057) (b:=2508409) (by decide +kernel) (pu (a:=1097703521031493) (b:=906349) (by decide +kernel) (pu (a:=1277488279) (b:=859267) (by decide +kernel) (pu (a:=10177) (b:=125527) (by decide +kernel) (jS (n:=qN) (q:=10177) (r:=5152390210781781515127025695999407078479959958782316775336902692339449856) (a:=2) (k:=255) (by decide +kernel) Fh (by decide +kernel) (by decide +kernel) (by decide +kernel) (by decide +kernel) hd hdn) (jS (n:=qN) (q:=125527) (r:=417725869136729074059347714102830194601086240414633009811464136798765056) (a:=2) (k:=255) (by decide +kernel) Ce (by decide +kernel) (by decide +kernel) (by decide +kernel) (by decide +kernel) hd hdn)) (jS (n:=qN) (q:=859267) (r:=61023960160376449321861238134579782346686830170980193377150127608692736) (a:=2) (k:=255) (by decide +kernel) Cc (by decide +kernel) (by decide +kernel) (by decide +kernel) (by decide +kernel) hd hdn)) (jS (n:=qN) (q:=906349) (r:=57853956009358636109763171259841369977448590444219211167666824479244288) (a:=2) (k:=255) (by decide +kernel) Ca (by decide +kernel) (by decide +kernel) (by decide +kernel) (by decide +kernel) hd hdn)) (jS (n:=qN) (q:=2508409) (r:=20904037250355181503274681484632675866531555460264908084209416686010368) (a:=2) (k:=255) (by decide +kernel) zp (by decide +kernel) (by decide +kernel) (by decide +kernel) (by decide +kernel) hd hdn)) (jS (n:=qN) (q:=2529403) (r:=20730534112249487519168649878325425342537568153642435714120548880482304) (a:=2) (k:=255) (by decide +kernel) zo (by decide +kernel) (by decide +kernel) (by decide +kernel) (by decide +kernel) hd hdn)) (jS (n:=qN) (q:=52437899) (r:=999961405302035279473110478895921551656570994587857873989262207090688) (a:=2) (k:=255) (by decide +kernel) vd (by decide +kernel) (by decide +kernel) (by decide +kernel) (by decide +kernel) hd hdn))
theorem prime_qN:IsPrime qN:=B9 (F:=331010811950628058101279066386724501604961) (by decide +kernel) (fun d hd hdn=>ah4 hd hdn) (by decide +kernel)
end Go.Proofs.YtcbplfkeeaecgaaGreat
namespace Go.Proofs.YtcbplfkeeaecgaaGreat
theorem rD {K:Type} [Fld K] {p:Nat} (h:IsPrime p) (h0:(CR.nat p:K)=0) (a b:K) : ∀ n,(a+b) ^ (p ^ n)=a ^ (p ^ n)+b ^ (p ^ n)
 | 0=>by rw [Nat.pow_zero,dl,dl,dl]
 | n+1=>by rw [Nat.pow_succ,aD,aD,aD,rD h h0 a b n,abN h h0]
def e6 (x:V6):V12:=⟨x,0⟩
def e2 (c:V2):V12:=e6 ⟨c,0,0⟩
def ww:V12:=⟨0,1⟩
theorem zI (x y:V6):e6 (x+y)=e6 x+e6 y:=Qd.ext' rfl (show (0:V6)=0+0 by grind)
theorem aaY (x y:V6):e6 (x-y)=e6 x-e6 y:=Qd.ext' rfl (show (0:V6)=0-0 by grind)
theorem MQ (x:V6):e6 (-x) = -e6 x:=Qd.ext' rfl (show (0:V6) = -0 by grind)
theorem lG (x y:V6):e6 (x*y)=e6 x*e6 y:=Qd.of_mul x y
theorem ah2:e6 1=1:=rfl
theorem e6_zero:e6 0=0:=rfl
theorem ah3 {x y:V6} (h:e6 x=e6 y):x=y:=congrArg Qd.a h
theorem jb (x y:V2):e2 (x+y)=e2 x+e2 y:=by
 show e6 ⟨x+y,0,0⟩=e6 ⟨x,0,0⟩+e6 ⟨y,0,0⟩
 rw [<- zI]
 exact congrArg e6 (Cb.ext' rfl (show (0:V2)=0+0 by grind) (show (0:V2)=0+0 by grind))
theorem aaZ (x y:V2):e2 (x-y)=e2 x-e2 y:=by
 show e6 ⟨x-y,0,0⟩=e6 ⟨x,0,0⟩-e6 ⟨y,0,0⟩
 rw [<- aaY]
 exact congrArg e6 (Cb.ext' rfl (show (0:V2)=0-0 by grind) (show (0:V2)=0-0 by grind))
theorem mX (x:V2):e2 (-x) = -e2 x:=by
 show e6 ⟨-x,0,0⟩ = -e6 ⟨x,0,0⟩
 rw [<- MQ]
 exact congrArg e6 (Cb.ext' rfl (show (0:V2) = -0 by grind) (show (0:V2) = -0 by grind))
theorem bl (x y:V2):e2 (x*y)=e2 x*e2 y:=by
 show e6 ⟨x*y,0,0⟩=e6 ⟨x,0,0⟩*e6 ⟨y,0,0⟩
 rw [<- lG]
 exact congrArg e6 (Cb.ext' (by rw [Cb.mul_a];show x*y=x*y+CP.cr*(0*0+0*0);grind) (by rw [Cb.mul_b];show 0=x*0+0*y+CP.cr*(0*0);grind) (by rw [Cb.mul_c];show 0=x*0+0*0+0*y;grind))
theorem MR:e2 1=1:=rfl
theorem aeI:e2 0=0:=rfl
theorem zJ (x:V2) : ∀ n:Nat,e2 x ^ n=e2 (x ^ n)
 | 0=>rfl
 | n+1=>by rw [aq,zJ x n,aq,bl]
theorem Uv:ww*ww=e6 vv:=Qd.ext' (by rw [Qd.mul_a];show (0:V6)*0+vv*(1*1)=vv;generalize vv=v;grind) (by rw [Qd.mul_b];show (0:V6)*1+1*0=0;grind)
theorem ab1:vv*vv*vv=⟨xi,0,0⟩:=by
 have h:vv*vv=⟨0,0,1⟩:=Cb.ext' (by rw [Cb.mul_a];show (0:V2)*0+CP.cr*(1*0+0*1)=0;grind) (by rw [Cb.mul_b];show (0:V2)*1+1*0+CP.cr*(0*0)=0;grind) (by rw [Cb.mul_c];show (0:V2)*0+1*1+0*0=1;grind)
 rw [h]
 exact Cb.ext' (by rw [Cb.mul_a];show (0:V2)*0+xi*(0*0+1*1)=xi;generalize xi=x;grind) (by rw [Cb.mul_b];show (0:V2)*1+0*0+CP.cr*(1*0)=0;grind) (by rw [Cb.mul_c];show (0:V2)*0+0*1+1*0=0;grind)
theorem uG:ww ^ 6=e2 xi:=by
 have h:ww ^ 6=(ww*ww)*(ww*ww)*(ww*ww):=by generalize ww=w;grind
 rw [h,Uv,<- lG,<- lG,ab1]
 rfl
theorem jV (x:V6):e6 x=e2 x.a+e2 x.b*(ww*ww)+e2 x.c*(ww*ww*(ww*ww)):=by
 have hs:vv*vv=⟨0,0,1⟩:=Cb.ext' (by rw [Cb.mul_a];show (0:V2)*0+CP.cr*(1*0+0*1)=0;grind) (by rw [Cb.mul_b];show (0:V2)*1+1*0+CP.cr*(0*0)=0;grind) (by rw [Cb.mul_c];show (0:V2)*0+1*1+0*0=1;grind)
 rw [Uv,<- lG,hs]
 unfold e2
 rw [<- lG,<- lG,<- zI,<- zI]
 refine congrArg e6 (Cb.ext' ?_ ?_ ?_)
 ·show x.a=x.a+(x.b*0+CP.cr*(0*0+0*1))+(x.c*0+CP.cr*(0*1+0*0));grind
 ·show x.b=0+(x.b*1+0*0+CP.cr*(0*0))+(x.c*0+0*0+CP.cr*(0*1));grind
 ·show x.c=0+(x.b*0+0*1+0*0)+(x.c*1+0*0+0*0);grind
theorem vZ (z:V12):z=e6 z.a+e6 z.b*ww:=Qd.ext' (by rw [Qd.add_a,Qd.mul_a];show z.a=z.a+(z.b*0+QP.nr*(0*1));grind) (by rw [Qd.add_b,Qd.mul_b];show z.b=0+(z.b*1+0*0);grind)
theorem ZC (k:Nat):ww ^ (6*k+1)=e2 (xi ^ k)*ww:=by rw [aq,aD,uG,zJ]
def gg:V2:=xi ^ ((pN-1) / 6)
theorem Hg:pN=6*((pN-1) / 6)+1:=by decide +kernel
theorem afm:ww ^ pN=e2 gg*ww:=by
 conv=>lhs;rw [Hg]
 exact ZC _
theorem Lr (c:V2):e2 c ^ pN=e2 c.conj:=by rw [zJ,V2.frob]
theorem conj_conj (c:V2):c.conj.conj=c:=Qd.ext' rfl (CR.neg_neg _)
theorem V2.pow_pp (c:V2):c ^ (pN*pN)=c:=by rw [aD,V2.frob,V2.frob,conj_conj]
theorem V2.pow_ev (c:V2) : ∀ n:Nat,c ^ (pN ^ (2*n))=c
 | 0=>by rw [Nat.mul_zero,Nat.pow_zero,dl]
 | n+1=>by rw [show 2*(n+1)=2*n+1+1 from rfl,Nat.pow_succ,Nat.pow_succ,Nat.mul_assoc,aD,V2.pow_ev c n,V2.pow_pp]
theorem afi:xi ≠ 0:=fun h=>by
 have h1:xi.norm=0:=by rw [h];show (0:V1)*0-QP.nr*(0*0)=0;grind
 rw [vq] at h1
 exact Go.Proofs.YtcbplfkeeaecgaaGreat.two_ne h1
theorem aiU:xi ^ (pN+1)=Qd.of 2:=by rw [aq,V2.frob,CR.mul_comm,Qd.mul_conj,vq]
theorem acf:(2:V1) ^ ((pN-1) / 2) = -1:=(BF Go.Proofs.YtcbplfkeeaecgaaGreat.two_ne).resolve_left Gp
theorem abX:xi ^ ((pN+1)*((pN-1) / 2)) = -1:=by
 rw [aD,aiU,Qd.of_pow,acf]
 exact Qd.ext' rfl (show (0:V1) = -0 by grind)
theorem Fm {R:Type} [CR R] (k:Nat):(-1:R) ^ (2*k+1) = -1:=nj k
theorem acE:pN ^ 6=6*(((pN+1)*((pN-1) / 2))*(2*(((pN ^ 4+pN ^ 2+1) / 3-1) / 2)+1))+1:=by decide +kernel
theorem afl:ww ^ (pN ^ 6) = -ww:=by
 rw [acE,ZC,aD,abX,Fm,mX,MR]
 generalize ww=w
 grind
theorem abM (c:V2):e2 c ^ (pN ^ 6)=e2 c:=by
 rw [zJ]
 exact congrArg e2 (V2.pow_ev c 3)
theorem abL (x:V6):e6 x ^ (pN ^ 6)=e6 x:=by
 rw [jV,rD mo V12.char,rD mo V12.char,aO,aO,aO,aO,aO,abM,abM,abM,afl]
 generalize ww=w
 grind
theorem V12.p6 (z:V12):z ^ (pN ^ 6)=z.conj:=by
 conv=>lhs;rw [vZ z]
 rw [rD mo V12.char,aO,abL,abL,afl]
 refine Eq.trans ?_ (Qd.ext' (y:=z.conj) (x:=e6 z.a+e6 (-z.b)*ww) ?_ ?_)
 ·rw [MQ];generalize ww=w;grind
 ·rw [Qd.add_a,Qd.mul_a];show z.a+(-z.b*0+QP.nr*(0*1))=z.a;grind
 ·rw [Qd.add_b,Qd.mul_b];show 0+(-z.b*1+0*0) = -z.b;grind
theorem V12.conj_conj (z:V12):z.conj.conj=z:=Qd.ext' rfl (CR.neg_neg _)
theorem V12.p12 (z:V12):z ^ (pN ^ 6*pN ^ 6)=z:=by rw [aD,V12.p6,V12.p6,V12.conj_conj]
def kN:Nat:=(pN ^ 6+1) / qN
def eN:Nat:=(pN ^ 6-1)*kN
theorem akt:eN*qN=pN ^ 6*pN ^ 6-1:=by decide +kernel
theorem ah1:eN=2*((pN*pN-1)*(eN / (2*(pN*pN-1)))):=by decide +kernel
theorem Hh:pN ^ 6*pN ^ 6=(pN ^ 6*pN ^ 6-1)+1:=by decide +kernel
theorem Db:pN ^ 6=(pN ^ 6-1)+1:=by decide +kernel
theorem adl:pN*pN=(pN*pN-1)+1:=by decide +kernel
theorem oq {K:Type} [Fld K] {a:K} (h:a ≠ 0) {m n:Nat} (hm:m=n+1) (hp:a ^ m=a):a ^ n=1:=by
 rw [hm,aq] at hp
 exact fL h (hp.trans (by rw [CR.mul_comm];exact (iA a).symm))
def bS (z:V12):V12:=z ^ eN
theorem jc (a b:V12):bS (a*b)=bS a*bS b:=aO a b _
theorem MS:bS 1=1:=bh _
theorem aj8 {a:V12} (h:a ≠ 0):bS a ^ qN=1:=by
 unfold bS
 rw [<- aD,akt]
 exact oq h Hh (V12.p12 a)
theorem ajz {x:V6} (h:x ≠ 0):e6 x ≠ 0:=fun e=>h (ah3 (e.trans e6_zero.symm))
theorem UN {x:V6} (h:x ≠ 0):bS (e6 x)=1:=by
 unfold bS eN
 rw [aD,oq (ajz h) Db (abL x),bh]
theorem af3 {c:V2} (h:c ≠ 0):bS (e2 c)=1:=UN fun e=>h (congrArg Cb.a e)
theorem MT (a:V12):bS (-a)=bS a:=by
 have e : -a=e6 (-1)*a:=by rw [MQ,ah2];grind
 rw [e,jc,UN (x := -1) (fun h=>cd (K:=V6) (by grind))]
 grind
theorem OV {z:V12} (h:z ≠ 0):bS z*bS z.conj=1:=by
 rw [<- jc,Qd.mul_conj]
 exact UN (Qd.norm_ne h)
theorem ah6:bS (ww*ww*ww)=1:=by
 unfold bS
 rw [ah1,aD]
 have h:(ww*ww*ww) ^ 2=e2 xi:=by rw [<- uG];generalize ww=w;grind
 rw [h,zJ,aD,oq afi adl (V2.pow_pp xi),bh,MR]
theorem aj9 (a:V12):bS a ^ pN=bS (a ^ pN):=by
 unfold bS
 rw [<- aD,<- aD,Nat.mul_comm]
end Go.Proofs.YtcbplfkeeaecgaaGreat
namespace Go.Proofs.YtcbplfkeeaecgaaGreat
open Go.RowKit
section
def bFp1:Fp:=⟨4,0,0,0,0,0⟩
theorem bFp1_v:bFp1.ok/\bFp1.v=Crv.b:=⟨D6 4,by
 show (ofF 4).v=4
 rw [ajV]
 exact V1.ext (by decide +kernel)⟩
theorem Xl {f0:Fp->Bool} {f1:Fp->Fp->Fp} {f2:Fp->Fp} {p:Pg1} (h:p.inf=true):lz f0 f1 f2 p=mL p infG1:=by unfold lz;rw [h]
theorem Xm {f0:Fp->Bool} {f1:Fp->Fp->Fp} {f2:Fp->Fp} {p:Pg1} (h:p.inf=false):lz f0 f1 f2 p=(f0 p.x && f0 p.y && cH (f1 p.y p.y) (f2 p.x)):=by
 unfold lz
 rw [h]
 cases f0 p.x <;> cases f0 p.y <;> rfl
theorem KK {f0:Fp->Fp} {p:Pg1} (h:p.inf=true):iU f0 p=fF:=by unfold iU;rw [h]
theorem KL {f0:Fp->Fp} {p:Pg1} (h:p.inf=false):iU f0 p=⟨f0 p.x,f0 p.y,f0 oneFp⟩:=by unfold iU;rw [h]
theorem SZ {f0:Fp->Fp × Int} {f1:Fp->Fp} {f2:Fp->Fp->Fp} {s:Sp1} (h:(f0 (f1 s.z)).2=7):iW f0 f1 f2 s=infG1:=by
 unfold iW
 rw [h]
 rfl
theorem KR {f0:Fp->Fp × Int} {f1:Fp->Fp} {f2:Fp->Fp->Fp} {s:Sp1} (h:(f0 (f1 s.z)).2=0):iW f0 f1 f2 s=⟨f2 (f1 s.x) (f2 (f0 (f1 s.z)).1 (f0 (f1 s.z)).1),f2 (f1 s.y) (f2 (f2 (f0 (f1 s.z)).1 (f0 (f1 s.z)).1) (f0 (f1 s.z)).1),false⟩:=by
 unfold iW
 rw [h]
 rfl
theorem R2 {f0:Fp->Fp} {p:Pg1} (h:p.inf=true):kO f0 p=p:=by unfold kO;rw [h]
theorem A5 {f0:Fp->Fp} {p:Pg1} (h:p.inf=false):kO f0 p=⟨p.x,f0 p.y,false⟩:=by unfold kO;rw [h]
theorem Ps (a:Fp):gQ a=cH a zeroFp:=by unfold gQ xE;rfl
theorem OS (a b:Pg1):OT a b=mL a b:=by unfold OT MP;rfl
def Pg1.pt (p:Pg1):Pt V1:=match p.inf with
 | true => .inf
 | false => .aff p.x.v p.y.v
def Pg1.ok (p:Pg1):Prop:=p=infG1 \/ (p.inf=false/\p.x.ok/\p.y.ok)
def Pg1.good (p:Pg1):Prop:=p.ok/\p.pt.on
theorem kL {p:Pg1} (h:p.inf=true):p.pt = .inf:=by unfold Pg1.pt;rw [h]
theorem fS {p:Pg1} (h:p.inf=false):p.pt = .aff p.x.v p.y.v:=by unfold Pg1.pt;rw [h]
theorem tp:infG1.good:=⟨.inl rfl,trivial⟩
theorem wL {p:Pg1} (h:p.ok) (hi:p.inf=true):p=infG1:=by
 rcases h with h | ⟨h,_⟩
 ·exact h
 ·rw [hi] at h;cases h
theorem pa {p:Pg1} (h:p.ok) (hi:p.inf=false):p.x.ok/\p.y.ok:=by
 rcases h with h | ⟨_,h⟩
 ·rw [h] at hi;cases hi
 ·exact h
theorem ahe {a b:Pg1} (h1:a.x=b.x) (h2:a.y=b.y) (h3:a.inf=b.inf):a=b:=by
 cases a;cases b
 simp_all
theorem nJ {x y:Fp} {u v:V1} (hx:x.ok) (hy:y.ok) (ex:x.v=u) (ey:y.v=v) (h:(Pt.aff u v).on):(⟨x,y,false⟩:Pg1).good/\(⟨x,y,false⟩:Pg1).pt = .aff u v:=by
 subst ex ey
 exact ⟨⟨.inr ⟨rfl,hx,hy⟩,h⟩,rfl⟩
theorem adb {a b:Pg1} (ha:a.ok) (hb:b.ok) (h:a.pt=b.pt):a=b:=by
 cases ea:a.inf with
 | true =>
  cases eb:b.inf with
  | true=>rw [wL ha ea,wL hb eb]
  | false=>rw [kL ea,fS eb] at h;cases h
 | false =>
  cases eb:b.inf with
  | true=>rw [fS ea,kL eb] at h;cases h
  | false =>
   rw [fS ea,fS eb] at h
   obtain ⟨a1,a2⟩:=pa ha ea
   obtain ⟨b1,b2⟩:=pa hb eb
   injection h with h1 h2
   exact ahe (Fp.v_inj a1 b1 h1) (Fp.v_inj a2 b2 h2) (ea.trans eb.symm)
def m1 (a:Fp):V1:=ri*a.v
theorem g9 {a b:Fp} (ha:a.ok) (hb:b.ok):m1 (cP a b)=m1 a+m1 b:=by unfold m1;rw [ZG ha hb];exact CR.dist _ _ _
theorem mU {a b:Fp} (ha:a.ok) (hb:b.ok):m1 (dM a b)=m1 a-m1 b:=by unfold m1;rw [agt ha hb];grind
theorem aJ {a b:Fp} (ha:a.ok) (hb:b.ok):m1 (aP a b)=m1 a*m1 b:=by unfold m1;rw [ab6 ha hb];grind
theorem yx {a:Fp} (ha:a.ok):m1 (bf a)=a.v:=by
 unfold m1
 rw [U9 ha]
 have:=DR
 grind
theorem xM {a:Fp} (ha:a.ok):(iR a).v=m1 a:=agz ha
theorem ag4:ri ≠ 0:=fun e=>cd (K:=V1) (by rw [<- DR,e];exact CR.mul_zero _)
theorem pk {a:Fp} (ha:a.ok):gQ a=true <-> m1 a=0:=by
 rw [Ps,abI ha qY,M9]
 unfold m1
 constructor
 ·intro h;rw [h];exact CR.mul_zero _
 ·intro h;exact (au h).resolve_left ag4
theorem jK {a:Fp} (ha:a.ok):gQ a=false <-> m1 a ≠ 0:=by rw [<- Bool.not_eq_true,pk ha]
def zn (s:Sp1) (p:Pt V1):Prop:=(s.x.ok/\s.y.ok/\s.z.ok)/\Jc (m1 s.x) (m1 s.y) (m1 s.z) p
theorem C5 {x y z:Fp} {p:Pt V1} (hx:x.ok) (hy:y.ok) (hz:z.ok) (h:Jc (m1 x) (m1 y) (m1 z) p):zn ⟨x,y,z⟩ p:=⟨⟨hx,hy,hz⟩,h⟩
theorem xZ:zn fF .inf:=⟨⟨qY,qY,qY⟩,by
 show m1 zeroFp=0
 unfold m1
 rw [M9]
 exact CR.mul_zero _⟩
theorem Bc {p:Pg1} (h:p.good):zn (kE p) p.pt:=by
 unfold kE
 cases hi:p.inf with
 | true=>rw [KK hi,kL hi];exact xZ
 | false =>
  obtain ⟨hx,hy⟩:=pa h.1 hi
  rw [KL hi,fS hi]
  refine C5 (sM hx) (sM hy) (sM N1) ?_
  rw [yx hx,yx hy,yx N1,agw]
  exact ⟨cd,by grind,by grind⟩
theorem aaC {K:Type} [Fld K] {x z:K} (hz:z ≠ 0):x*(z*z)*(Fld.inv z*Fld.inv z)=x:=by
 have:=aQ hz
 grind
theorem OB {K:Type} [Fld K] {y z:K} (hz:z ≠ 0):y*(z*z*z)*(Fld.inv z*Fld.inv z*Fld.inv z)=y:=by
 have:=aQ hz
 grind
theorem S1 {s:Sp1} {p:Pt V1} (hp:p.on) (h:zn s p):(po s).good/\(po s).pt=p:=by
 obtain ⟨⟨hx,hy,hz⟩,hj⟩:=h
 obtain ⟨i1,i2⟩:=ahE (Dm hz)
 rw [xM hz] at i1 i2
 unfold po
 by_cases h0:m1 s.z=0
 ·rw [SZ (i1 h0),hj.inf_of h0]
  exact ⟨tp,rfl⟩
 ·obtain ⟨j1,j2,j3⟩:=i2 h0
  obtain ⟨x,y,rfl,e1,e2⟩:=hj.aff_of h0
  rw [KR j1]
  have kk:=kP j2 j2
  have kkk:=kP kk j2
  have lx:=Dm hx
  have ly:=Dm hy
  have ex:(bT (iR s.x) (bT (dc (iR s.z)).1 (dc (iR s.z)).1)).v=x:=by
   rw [mE lx kk,mE j2 j2,xM hx,j3,e1]
   exact aaC h0
  have ey:(bT (iR s.y) (bT (bT (dc (iR s.z)).1 (dc (iR s.z)).1) (dc (iR s.z)).1)).v=y:=by
   rw [mE ly kkk,mE kk j2,mE j2 j2,xM hy,j3,e2]
   exact OB h0
  exact nJ (kP lx kk) (kP ly kkk) ex ey hp
theorem ajp (x y:V1):((x*x+x*x)+x*x)*((x*x+x*x)+x*x)-((x*(y*y)+x*(y*y)+(x*(y*y)+x*(y*y)))+(x*(y*y)+x*(y*y)+(x*(y*y)+x*(y*y))))=jx x y:=by unfold jx;grind
theorem ajo (x y:V1):((x*x+x*x)+x*x)*((x*(y*y)+x*(y*y)+(x*(y*y)+x*(y*y)))-jx x y)-((y*y*(y*y)+y*y*(y*y)+(y*y*(y*y)+y*y*(y*y)))+(y*y*(y*y)+y*y*(y*y)+(y*y*(y*y)+y*y*(y*y))))=jy x y:=by unfold jy;generalize jx x y=k;grind
theorem ajn (y z:V1):y*z+y*z=jz y z:=by unfold jz;grind
theorem vM {s:Sp1} {p:Pt V1} (hp:p.on) (h:zn s p):zn (cB s) (p.add p):=by
 obtain ⟨⟨hx,hy,hz⟩,hj⟩:=h
 have ha:=bn hx hx
 have hb:=bn hy hy
 have hc:=bn hb hb
 have hd:=bn hx hb
 have hd2:=fb hd hd
 have hd4:=fb hd2 hd2
 have he:=fb (fb ha ha) ha
 have hee:=bn he he
 have hd8:=fb hd4 hd4
 have hX:=jw hee hd8
 have hc2:=fb hc hc
 have hc4:=fb hc2 hc2
 have hc8:=fb hc4 hc4
 have hyz:=bn hy hz
 have hs:=jw hd4 hX
 have hes:=bn he hs
 have hj':=Aw hp hj
 have e1:=mU hee hd8
 rw [aJ he he,g9 hd4 hd4,g9 hd2 hd2,g9 hd hd,aJ hx hb,aJ hy hy,g9 (fb ha ha) ha,g9 ha ha,aJ hx hx,ajp] at e1
 have e2:=mU hes hc8
 rw [aJ he hs,mU hd4 hX,e1,g9 hc4 hc4,g9 hc2 hc2,g9 hc hc,aJ hb hb,g9 hd2 hd2,g9 hd hd,aJ hx hb,aJ hy hy,g9 (fb ha ha) ha,g9 ha ha,aJ hx hx,ajo] at e2
 have e3:=g9 hyz hyz
 rw [aJ hy hz,ajn] at e3
 unfold cB sS
 refine C5 hX (jw hes hc8) (fb hyz hyz) ?_
 rw [e1,e2,e3]
 exact hj'
section
variable {f0 : Fp -> Bool} {f1 f2 f4 : Fp -> Fp -> Fp} {f3 : Sp1 -> Sp1} {s t : Sp1}
theorem W6 (h:f0 s.z=true):cb f0 f1 f2 f3 f4 s t=t:=by unfold cb;rw [h]
theorem W5 (h:f0 s.z=false) (h2:f0 t.z=true):cb f0 f1 f2 f3 f4 s t=s:=by unfold cb;rw [h,h2]
theorem RF (h:f0 s.z=false) (h2:f0 t.z=false) (h3:f0 (f2 (f1 t.x (f1 s.z s.z)) (f1 s.x (f1 t.z t.z)))=true) (h4:f0 (f2 (f1 t.y (f1 (f1 s.z s.z) s.z)) (f1 s.y (f1 (f1 t.z t.z) t.z)))=true):cb f0 f1 f2 f3 f4 s t=f3 s:=by
 unfold cb
 rw [h,h2,h3,h4]
theorem RH (h:f0 s.z=false) (h2:f0 t.z=false) (h3:f0 (f2 (f1 t.x (f1 s.z s.z)) (f1 s.x (f1 t.z t.z)))=true) (h4:f0 (f2 (f1 t.y (f1 (f1 s.z s.z) s.z)) (f1 s.y (f1 (f1 t.z t.z) t.z)))=false):cb f0 f1 f2 f3 f4 s t=fF:=by
 unfold cb
 rw [h,h2,h3,h4]
theorem J6 (h:f0 s.z=false) (h2:f0 t.z=false) (h3:f0 (f2 (f1 t.x (f1 s.z s.z)) (f1 s.x (f1 t.z t.z)))=false):cb f0 f1 f2 f3 f4 s t=⟨(f2 (f2 (f1 (f2 (f1 t.y (f1 (f1 s.z s.z) s.z)) (f1 s.y (f1 (f1 t.z t.z) t.z))) (f2 (f1 t.y (f1 (f1 s.z s.z) s.z)) (f1 s.y (f1 (f1 t.z t.z) t.z)))) (f1 (f1 (f2 (f1 t.x (f1 s.z s.z)) (f1 s.x (f1 t.z t.z))) (f2 (f1 t.x (f1 s.z s.z)) (f1 s.x (f1 t.z t.z)))) (f2 (f1 t.x (f1 s.z s.z)) (f1 s.x (f1 t.z t.z))))) (f4 (f1 (f1 s.x (f1 t.z t.z)) (f1 (f2 (f1 t.x (f1 s.z s.z)) (f1 s.x (f1 t.z t.z))) (f2 (f1 t.x (f1 s.z s.z)) (f1 s.x (f1 t.z t.z))))) (f1 (f1 s.x (f1 t.z t.z)) (f1 (f2 (f1 t.x (f1 s.z s.z)) (f1 s.x (f1 t.z t.z))) (f2 (f1 t.x (f1 s.z s.z)) (f1 s.x (f1 t.z t.z))))))),(f2 (f1 (f2 (f1 t.y (f1 (f1 s.z s.z) s.z)) (f1 s.y (f1 (f1 t.z t.z) t.z))) (f2 (f1 (f1 s.x (f1 t.z t.z)) (f1 (f2 (f1 t.x (f1 s.z s.z)) (f1 s.x (f1 t.z t.z))) (f2 (f1 t.x (f1 s.z s.z)) (f1 s.x (f1 t.z t.z))))) (f2 (f2 (f1 (f2 (f1 t.y (f1 (f1 s.z s.z) s.z)) (f1 s.y (f1 (f1 t.z t.z) t.z))) (f2 (f1 t.y (f1 (f1 s.z s.z) s.z)) (f1 s.y (f1 (f1 t.z t.z) t.z)))) (f1 (f1 (f2 (f1 t.x (f1 s.z s.z)) (f1 s.x (f1 t.z t.z))) (f2 (f1 t.x (f1 s.z s.z)) (f1 s.x (f1 t.z t.z)))) (f2 (f1 t.x (f1 s.z s.z)) (f1 s.x (f1 t.z t.z))))) (f4 (f1 (f1 s.x (f1 t.z t.z)) (f1 (f2 (f1 t.x (f1 s.z s.z)) (f1 s.x (f1 t.z t.z))) (f2 (f1 t.x (f1 s.z s.z)) (f1 s.x (f1 t.z t.z))))) (f1 (f1 s.x (f1 t.z t.z)) (f1 (f2 (f1 t.x (f1 s.z s.z)) (f1 s.x (f1 t.z t.z))) (f2 (f1 t.x (f1 s.z s.z)) (f1 s.x (f1 t.z t.z))))))))) (f1 (f1 s.y (f1 (f1 t.z t.z) t.z)) (f1 (f1 (f2 (f1 t.x (f1 s.z s.z)) (f1 s.x (f1 t.z t.z))) (f2 (f1 t.x (f1 s.z s.z)) (f1 s.x (f1 t.z t.z)))) (f2 (f1 t.x (f1 s.z s.z)) (f1 s.x (f1 t.z t.z)))))),(f1 (f1 s.z t.z) (f2 (f1 t.x (f1 s.z s.z)) (f1 s.x (f1 t.z t.z))))⟩:=by
 unfold cb
 rw [h,h2,h3]
end
theorem ajc (u h r:V1):r*r-h*h*h-(u*(h*h)+u*(h*h))=r*r-h*h*h-2*(u*(h*h)):=by grind
theorem RJ {s t:Sp1} {p q:Pt V1} (hp:p.on) (hq:q.on) (hs:zn s p) (ht:zn t q):zn (gX s t) (p.add q):=by
 have hs0:=hs
 have ht0:=ht
 obtain ⟨⟨hx,hy,hz⟩,hj⟩:=hs
 obtain ⟨⟨kx,ky,kz⟩,kj⟩:=ht
 unfold gX
 by_cases z1:m1 s.z=0
 ·rw [W6 ((pk hz).2 z1),hj.inf_of z1,bR]
  exact ht0
 by_cases z2:m1 t.z=0
 ·rw [W5 ((jK hz).2 z1) ((pk kz).2 z2),kj.inf_of z2,bZ]
  exact hs0
 have n1:=(jK hz).2 z1
 have n2:=(jK kz).2 z2
 have zz:=bn hz hz
 have ww:=bn kz kz
 have zzz:=bn zz hz
 have www:=bn ww kz
 have hu:=bn hx ww
 have hv:=bn kx zz
 have ha:=bn hy www
 have hb:=bn ky zzz
 have hh:=jw hv hu
 have hr:=jw hb ha
 have eh:m1 (dM (aP t.x (aP s.z s.z)) (aP s.x (aP t.z t.z)))=m1 t.x*(m1 s.z*m1 s.z)-m1 s.x*(m1 t.z*m1 t.z):=by
  rw [mU hv hu,aJ kx zz,aJ hx ww,aJ hz hz,aJ kz kz]
 have er:m1 (dM (aP t.y (aP (aP s.z s.z) s.z)) (aP s.y (aP (aP t.z t.z) t.z)))=m1 t.y*(m1 s.z*m1 s.z*m1 s.z)-m1 s.y*(m1 t.z*m1 t.z*m1 t.z):=by
  rw [mU hb ha,aJ ky zzz,aJ hy www,aJ zz hz,aJ ww kz,aJ hz hz,aJ kz kz]
 by_cases h0:m1 t.x*(m1 s.z*m1 s.z)-m1 s.x*(m1 t.z*m1 t.z)=0
 ·obtain ⟨c1,c2⟩:=AW hp hq hj kj z1 z2 h0
  have n3:=(pk hh).2 (by rw [eh];exact h0)
  by_cases r0:m1 t.y*(m1 s.z*m1 s.z*m1 s.z)-m1 s.y*(m1 t.z*m1 t.z*m1 t.z)=0
  ·rw [RF n1 n2 n3 ((pk hr).2 (by rw [er];exact r0)),c1 r0]
   exact vM hp hs0
  ·rw [RH n1 n2 n3 ((jK hr).2 (by rw [er];exact r0)),c2 r0]
   exact xZ
 ·rw [J6 n1 n2 ((jK hh).2 (by rw [eh];exact h0))]
  have key:=Hd hp hq hj kj z1 z2 h0
  have h2:=bn hh hh
  have h3:=bn h2 hh
  have hw:=bn hu h2
  have hrr:=bn hr hr
  have hw2:=fb hw hw
  have hrh:=jw hrr h3
  have hX:=jw hrh hw2
  have hwx:=jw hw hX
  have hrw:=bn hr hwx
  have hah:=bn ha h3
  have hst:=bn hz kz
  have eu:m1 (aP s.x (aP t.z t.z))=m1 s.x*(m1 t.z*m1 t.z):=by rw [aJ hx ww,aJ kz kz]
  have ea:m1 (aP s.y (aP (aP t.z t.z) t.z))=m1 s.y*(m1 t.z*m1 t.z*m1 t.z):=by rw [aJ hy www,aJ ww kz,aJ kz kz]
  have e1:=mU hrh hw2
  rw [mU hrr h3,aJ hr hr,er,aJ h2 hh,aJ hh hh,eh,g9 hw hw,aJ hu h2,eu,aJ hh hh,eh,ajc] at e1
  have e1':_=px (m1 s.x) (m1 s.y) (m1 s.z) (m1 t.x) (m1 t.y) (m1 t.z):=e1
  have e2:=mU hrw hah
  rw [aJ hr hwx,mU hw hX,e1',aJ hu h2,eu,aJ hh hh,eh,aJ ha h3,ea,aJ h2 hh,aJ hh hh,eh,er] at e2
  have e3:=aJ hst hh
  rw [aJ hz kz,eh] at e3
  refine C5 hX (jw hrw hah) (bn hst hh) ?_
  rw [e1',e2,e3]
  exact key
theorem Ok {a:Pg1} (ha:a.good):(fB a).good/\(fB a).pt=a.pt.neg:=by
 unfold fB
 cases hi:a.inf with
 | true =>
  rw [R2 hi,kL hi]
  exact ⟨ha,rfl⟩
 | false =>
  obtain ⟨hx,hy⟩:=pa ha.1 hi
  have ho:=bM ha.2
  rw [fS hi] at ho ⊢
  rw [A5 hi]
  exact nJ hx (adV hy) rfl (agx hy) ho
theorem Q5 (f0 f1:Fp->Fp->Fp) (x:Fp):C2 f0 f1 x=f0 (f1 (f1 x x) x) bFp1:=rfl
theorem ZX {x:Fp} (hx:x.ok):(wo x).ok/\(wo x).v=x.v*x.v*x.v+Crv.b:=by
 have hb:bFp1.ok/\bFp1.v=Crv.b:=bFp1_v
 have h2:=kP hx hx
 have h3:=kP h2 hx
 unfold wo
 rw [Q5]
 refine ⟨fb h3 hb.1,?_⟩
 rw [ZG h3 hb.1,mE h2 hx,mE hx hx,hb.2]
theorem adB (p:Pg1):UW p=true <-> p.good:=by
 unfold UW
 cases hi:p.inf with
 | true =>
  rw [Xl hi,lc]
  constructor
  ·intro h;rw [h];exact tp
  ·intro h;exact wL h.1 hi
 | false =>
  rw [Xm hi,Bool.and_eq_true,Bool.and_eq_true,Hz,Hz]
  constructor
  ·rintro ⟨⟨hx,hy⟩,h⟩
   obtain ⟨r1,r2⟩:=ZX hx
   rw [abI (kP hy hy) r1,mE hy hy,r2] at h
   exact ⟨.inr ⟨hi,hx,hy⟩,by rw [fS hi];exact h⟩
  ·intro h
   obtain ⟨hx,hy⟩:=pa h.1 hi
   obtain ⟨r1,r2⟩:=ZX hx
   refine ⟨⟨hx,hy⟩,?_⟩
   rw [abI (kP hy hy) r1,mE hy hy,r2]
   have:=h.2
   rw [fS hi] at this
   exact this
end
section
def bFp2:Fp2:=⟨bFp1,bFp1⟩
theorem aa9:bFp2.ok/\bFp2.v=Crv.b:=⟨Fp2.mk_ok bFp1_v.1 bFp1_v.1,Qd.ext' bFp1_v.2 bFp1_v.2⟩
theorem Xh {f0:Fp2->Bool} {f1:Fp2->Fp2->Fp2} {f2:Fp2->Fp2} {p:Pg2} (h:p.inf=true):lw f0 f1 f2 p=uw p infG2:=by unfold lw;rw [h]
theorem Xi {f0:Fp2->Bool} {f1:Fp2->Fp2->Fp2} {f2:Fp2->Fp2} {p:Pg2} (h:p.inf=false):lw f0 f1 f2 p=(f0 p.x && f0 p.y && dj (f1 p.y p.y) (f2 p.x)):=by
 unfold lw
 rw [h]
 cases f0 p.x <;> cases f0 p.y <;> rfl
theorem KG {f0:Fp2->Fp2} {p:Pg2} (h:p.inf=true):iT f0 p=zeroFp6:=by unfold iT;rw [h]
theorem KH {f0:Fp2->Fp2} {p:Pg2} (h:p.inf=false):iT f0 p=⟨f0 p.x,f0 p.y,f0 oneFp2⟩:=by unfold iT;rw [h]
theorem SX {f0:Fp2->Fp2 × Int} {f1:Fp2->Fp2} {f2:Fp2->Fp2->Fp2} {s:Fp6} (h:(f0 (f1 s.c2)).2=7):iV f0 f1 f2 s=infG2:=by
 unfold iV
 rw [h]
 rfl
theorem KO {f0:Fp2->Fp2 × Int} {f1:Fp2->Fp2} {f2:Fp2->Fp2->Fp2} {s:Fp6} (h:(f0 (f1 s.c2)).2=0):iV f0 f1 f2 s=⟨f2 (f1 s.c0) (f2 (f0 (f1 s.c2)).1 (f0 (f1 s.c2)).1),f2 (f1 s.c1) (f2 (f2 (f0 (f1 s.c2)).1 (f0 (f1 s.c2)).1) (f0 (f1 s.c2)).1),false⟩:=by
 unfold iV
 rw [h]
 rfl
theorem RZ {f0:Fp2->Fp2} {p:Pg2} (h:p.inf=true):kM f0 p=p:=by unfold kM;rw [h]
theorem A4 {f0:Fp2->Fp2} {p:Pg2} (h:p.inf=false):kM f0 p=⟨p.x,f0 p.y,false⟩:=by unfold kM;rw [h]
theorem Pq (a:Fp2):gP a=dj a zeroFp2:=by unfold gP xD;rfl
def Pg2.pt (p:Pg2):Pt V2:=match p.inf with
 | true => .inf
 | false => .aff p.x.v p.y.v
def Pg2.ok (p:Pg2):Prop:=p=infG2 \/ (p.inf=false/\p.x.ok/\p.y.ok)
def Pg2.good (p:Pg2):Prop:=p.ok/\p.pt.on
theorem oZ {p:Pg2} (h:p.inf=true):p.pt = .inf:=by unfold Pg2.pt;rw [h]
theorem gL {p:Pg2} (h:p.inf=false):p.pt = .aff p.x.v p.y.v:=by unfold Pg2.pt;rw [h]
theorem tn:infG2.good:=⟨.inl rfl,trivial⟩
theorem wK {p:Pg2} (h:p.ok) (hi:p.inf=true):p=infG2:=by
 rcases h with h | ⟨h,_⟩
 ·exact h
 ·rw [hi] at h;cases h
theorem o9 {p:Pg2} (h:p.ok) (hi:p.inf=false):p.x.ok/\p.y.ok:=by
 rcases h with h | ⟨_,h⟩
 ·rw [h] at hi;cases hi
 ·exact h
theorem ahd {a b:Pg2} (h1:a.x=b.x) (h2:a.y=b.y) (h3:a.inf=b.inf):a=b:=by
 cases a;cases b
 simp_all
theorem rW {x y:Fp2} {u v:V2} (hx:x.ok) (hy:y.ok) (ex:x.v=u) (ey:y.v=v) (h:(Pt.aff u v).on):(⟨x,y,false⟩:Pg2).good/\(⟨x,y,false⟩:Pg2).pt = .aff u v:=by
 subst ex ey
 exact ⟨⟨.inr ⟨rfl,hx,hy⟩,h⟩,rfl⟩
theorem ada {a b:Pg2} (ha:a.ok) (hb:b.ok) (h:a.pt=b.pt):a=b:=by
 cases ea:a.inf with
 | true =>
  cases eb:b.inf with
  | true=>rw [wK ha ea,wK hb eb]
  | false=>rw [oZ ea,gL eb] at h;cases h
 | false =>
  cases eb:b.inf with
  | true=>rw [gL ea,oZ eb] at h;cases h
  | false =>
   rw [gL ea,gL eb] at h
   obtain ⟨a1,a2⟩:=o9 ha ea
   obtain ⟨b1,b2⟩:=o9 hb eb
   injection h with h1 h2
   exact ahd (Fp2.v_inj a1 b1 h1) (Fp2.v_inj a2 b2 h2) (ea.trans eb.symm)
def m2 (a:Fp2):V2:=ri2*a.v
theorem g8 {a b:Fp2} (ha:a.ok) (hb:b.ok):m2 (az a b)=m2 a+m2 b:=by unfold m2;rw [fG ha hb];exact CR.dist _ _ _
theorem mT {a b:Fp2} (ha:a.ok) (hb:b.ok):m2 (aG a b)=m2 a-m2 b:=by unfold m2;rw [lm ha hb];grind
theorem aI {a b:Fp2} (ha:a.ok) (hb:b.ok):m2 (ad a b)=m2 a*m2 b:=by unfold m2;rw [iK ha hb];grind
theorem yw {a:Fp2} (ha:a.ok):m2 (ax a)=a.v:=by
 unfold m2
 rw [iJ ha]
 have:=uN
 grind
theorem xL {a:Fp2} (ha:a.ok):(cM a).v=m2 a:=uK ha
theorem ag3:ri2 ≠ 0:=fun e=>cd (K:=V2) (by rw [<- uN,e];exact CR.mul_zero _)
theorem pj {a:Fp2} (ha:a.ok):gP a=true <-> m2 a=0:=by
 rw [Pq,sE ha cI,gK]
 unfold m2
 constructor
 ·intro h;rw [h];exact CR.mul_zero _
 ·intro h;exact (au h).resolve_left ag3
theorem jJ {a:Fp2} (ha:a.ok):gP a=false <-> m2 a ≠ 0:=by rw [<- Bool.not_eq_true,pj ha]
def zm (s:Fp6) (p:Pt V2):Prop:=(s.c0.ok/\s.c1.ok/\s.c2.ok)/\Jc (m2 s.c0) (m2 s.c1) (m2 s.c2) p
theorem C4 {x y z:Fp2} {p:Pt V2} (hx:x.ok) (hy:y.ok) (hz:z.ok) (h:Jc (m2 x) (m2 y) (m2 z) p):zm ⟨x,y,z⟩ p:=⟨⟨hx,hy,hz⟩,h⟩
theorem xY:zm zeroFp6 .inf:=⟨⟨cI,cI,cI⟩,by
 show m2 zeroFp2=0
 unfold m2
 rw [gK]
 exact CR.mul_zero _⟩
theorem Bb {p:Pg2} (h:p.good):zm (kD p) p.pt:=by
 unfold kD
 cases hi:p.inf with
 | true=>rw [KG hi,oZ hi];exact xY
 | false =>
  obtain ⟨hx,hy⟩:=o9 h.1 hi
  rw [KH hi,gL hi]
  refine C4 (bV hx) (bV hy) (bV jC) ?_
  rw [yw hx,yw hy,yw jC,uJ]
  exact ⟨cd,by grind,by grind⟩
theorem S0 {s:Fp6} {p:Pt V2} (hp:p.on) (h:zm s p):(pn s).good/\(pn s).pt=p:=by
 obtain ⟨⟨hx,hy,hz⟩,hj⟩:=h
 obtain ⟨i1,i2⟩:=OC (kQ hz)
 rw [xL hz] at i1 i2
 unfold pn
 by_cases h0:m2 s.c2=0
 ·rw [SX (i1 h0),hj.inf_of h0]
  exact ⟨tn,rfl⟩
 ·obtain ⟨j1,j2,j3⟩:=i2 h0
  obtain ⟨x,y,rfl,e1,e2⟩:=hj.aff_of h0
  rw [KO j1]
  have kk:=bg j2 j2
  have kkk:=bg kk j2
  have lx:=kQ hx
  have ly:=kQ hy
  have ex:(aR (cM s.c0) (aR (d7 (cM s.c2)).1 (d7 (cM s.c2)).1)).v=x:=by
   rw [bK lx kk,bK j2 j2,xL hx,j3,e1]
   exact aaC h0
  have ey:(aR (cM s.c1) (aR (aR (d7 (cM s.c2)).1 (d7 (cM s.c2)).1) (d7 (cM s.c2)).1)).v=y:=by
   rw [bK ly kkk,bK kk j2,bK j2 j2,xL hy,j3,e2]
   exact OB h0
  exact rW (bg lx kk) (bg ly kkk) ex ey hp
theorem ahC (x y:V2):((x*x+x*x)+x*x)*((x*x+x*x)+x*x)-((x*(y*y)+x*(y*y)+(x*(y*y)+x*(y*y)))+(x*(y*y)+x*(y*y)+(x*(y*y)+x*(y*y))))=jx x y:=by unfold jx;grind
theorem ahB (x y:V2):((x*x+x*x)+x*x)*((x*(y*y)+x*(y*y)+(x*(y*y)+x*(y*y)))-jx x y)-((y*y*(y*y)+y*y*(y*y)+(y*y*(y*y)+y*y*(y*y)))+(y*y*(y*y)+y*y*(y*y)+(y*y*(y*y)+y*y*(y*y))))=jy x y:=by unfold jy;generalize jx x y=k;grind
theorem ahA (y z:V2):y*z+y*z=jz y z:=by unfold jz;grind
theorem vK {s:Fp6} {p:Pt V2} (hp:p.on) (h:zm s p):zm (cz s) (p.add p):=by
 obtain ⟨⟨hx,hy,hz⟩,hj⟩:=h
 have ha:=an hx hx
 have hb:=an hy hy
 have hc:=an hb hb
 have hd:=an hx hb
 have hd2:=aV hd hd
 have hd4:=aV hd2 hd2
 have he:=aV (aV ha ha) ha
 have hee:=an he he
 have hd8:=aV hd4 hd4
 have hX:=bQ hee hd8
 have hc2:=aV hc hc
 have hc4:=aV hc2 hc2
 have hc8:=aV hc4 hc4
 have hyz:=an hy hz
 have hs:=bQ hd4 hX
 have hes:=an he hs
 have hj':=Aw hp hj
 have e1:=mT hee hd8
 rw [aI he he,g8 hd4 hd4,g8 hd2 hd2,g8 hd hd,aI hx hb,aI hy hy,g8 (aV ha ha) ha,g8 ha ha,aI hx hx,ahC] at e1
 have e2:=mT hes hc8
 rw [aI he hs,mT hd4 hX,e1,g8 hc4 hc4,g8 hc2 hc2,g8 hc hc,aI hb hb,g8 hd2 hd2,g8 hd hd,aI hx hb,aI hy hy,g8 (aV ha ha) ha,g8 ha ha,aI hx hx,ahB] at e2
 have e3:=g8 hyz hyz
 rw [aI hy hz,ahA] at e3
 unfold cz sR
 refine C4 hX (bQ hes hc8) (aV hyz hyz) ?_
 rw [e1,e2,e3]
 exact hj'
section
variable {f0 : Fp2 -> Bool} {f1 f2 f4 : Fp2 -> Fp2 -> Fp2} {f3 : Fp6 -> Fp6} {s t : Fp6}
theorem W4 (h:f0 s.c2=true):ca f0 f1 f2 f3 f4 s t=t:=by unfold ca;rw [h]
theorem W3 (h:f0 s.c2=false) (h2:f0 t.c2=true):ca f0 f1 f2 f3 f4 s t=s:=by unfold ca;rw [h,h2]
theorem RB (h:f0 s.c2=false) (h2:f0 t.c2=false) (h3:f0 (f2 (f1 t.c0 (f1 s.c2 s.c2)) (f1 s.c0 (f1 t.c2 t.c2)))=true) (h4:f0 (f2 (f1 t.c1 (f1 (f1 s.c2 s.c2) s.c2)) (f1 s.c1 (f1 (f1 t.c2 t.c2) t.c2)))=true):ca f0 f1 f2 f3 f4 s t=f3 s:=by
 unfold ca
 rw [h,h2,h3,h4]
theorem RE (h:f0 s.c2=false) (h2:f0 t.c2=false) (h3:f0 (f2 (f1 t.c0 (f1 s.c2 s.c2)) (f1 s.c0 (f1 t.c2 t.c2)))=true) (h4:f0 (f2 (f1 t.c1 (f1 (f1 s.c2 s.c2) s.c2)) (f1 s.c1 (f1 (f1 t.c2 t.c2) t.c2)))=false):ca f0 f1 f2 f3 f4 s t=zeroFp6:=by
 unfold ca
 rw [h,h2,h3,h4]
theorem J3 (h:f0 s.c2=false) (h2:f0 t.c2=false) (h3:f0 (f2 (f1 t.c0 (f1 s.c2 s.c2)) (f1 s.c0 (f1 t.c2 t.c2)))=false):ca f0 f1 f2 f3 f4 s t=⟨(f2 (f2 (f1 (f2 (f1 t.c1 (f1 (f1 s.c2 s.c2) s.c2)) (f1 s.c1 (f1 (f1 t.c2 t.c2) t.c2))) (f2 (f1 t.c1 (f1 (f1 s.c2 s.c2) s.c2)) (f1 s.c1 (f1 (f1 t.c2 t.c2) t.c2)))) (f1 (f1 (f2 (f1 t.c0 (f1 s.c2 s.c2)) (f1 s.c0 (f1 t.c2 t.c2))) (f2 (f1 t.c0 (f1 s.c2 s.c2)) (f1 s.c0 (f1 t.c2 t.c2)))) (f2 (f1 t.c0 (f1 s.c2 s.c2)) (f1 s.c0 (f1 t.c2 t.c2))))) (f4 (f1 (f1 s.c0 (f1 t.c2 t.c2)) (f1 (f2 (f1 t.c0 (f1 s.c2 s.c2)) (f1 s.c0 (f1 t.c2 t.c2))) (f2 (f1 t.c0 (f1 s.c2 s.c2)) (f1 s.c0 (f1 t.c2 t.c2))))) (f1 (f1 s.c0 (f1 t.c2 t.c2)) (f1 (f2 (f1 t.c0 (f1 s.c2 s.c2)) (f1 s.c0 (f1 t.c2 t.c2))) (f2 (f1 t.c0 (f1 s.c2 s.c2)) (f1 s.c0 (f1 t.c2 t.c2))))))),(f2 (f1 (f2 (f1 t.c1 (f1 (f1 s.c2 s.c2) s.c2)) (f1 s.c1 (f1 (f1 t.c2 t.c2) t.c2))) (f2 (f1 (f1 s.c0 (f1 t.c2 t.c2)) (f1 (f2 (f1 t.c0 (f1 s.c2 s.c2)) (f1 s.c0 (f1 t.c2 t.c2))) (f2 (f1 t.c0 (f1 s.c2 s.c2)) (f1 s.c0 (f1 t.c2 t.c2))))) (f2 (f2 (f1 (f2 (f1 t.c1 (f1 (f1 s.c2 s.c2) s.c2)) (f1 s.c1 (f1 (f1 t.c2 t.c2) t.c2))) (f2 (f1 t.c1 (f1 (f1 s.c2 s.c2) s.c2)) (f1 s.c1 (f1 (f1 t.c2 t.c2) t.c2)))) (f1 (f1 (f2 (f1 t.c0 (f1 s.c2 s.c2)) (f1 s.c0 (f1 t.c2 t.c2))) (f2 (f1 t.c0 (f1 s.c2 s.c2)) (f1 s.c0 (f1 t.c2 t.c2)))) (f2 (f1 t.c0 (f1 s.c2 s.c2)) (f1 s.c0 (f1 t.c2 t.c2))))) (f4 (f1 (f1 s.c0 (f1 t.c2 t.c2)) (f1 (f2 (f1 t.c0 (f1 s.c2 s.c2)) (f1 s.c0 (f1 t.c2 t.c2))) (f2 (f1 t.c0 (f1 s.c2 s.c2)) (f1 s.c0 (f1 t.c2 t.c2))))) (f1 (f1 s.c0 (f1 t.c2 t.c2)) (f1 (f2 (f1 t.c0 (f1 s.c2 s.c2)) (f1 s.c0 (f1 t.c2 t.c2))) (f2 (f1 t.c0 (f1 s.c2 s.c2)) (f1 s.c0 (f1 t.c2 t.c2))))))))) (f1 (f1 s.c1 (f1 (f1 t.c2 t.c2) t.c2)) (f1 (f1 (f2 (f1 t.c0 (f1 s.c2 s.c2)) (f1 s.c0 (f1 t.c2 t.c2))) (f2 (f1 t.c0 (f1 s.c2 s.c2)) (f1 s.c0 (f1 t.c2 t.c2)))) (f2 (f1 t.c0 (f1 s.c2 s.c2)) (f1 s.c0 (f1 t.c2 t.c2)))))),(f1 (f1 s.c2 t.c2) (f2 (f1 t.c0 (f1 s.c2 s.c2)) (f1 s.c0 (f1 t.c2 t.c2))))⟩:=by
 unfold ca
 rw [h,h2,h3]
end
theorem ag9 (u h r:V2):r*r-h*h*h-(u*(h*h)+u*(h*h))=r*r-h*h*h-2*(u*(h*h)):=by grind
theorem RI {s t:Fp6} {p q:Pt V2} (hp:p.on) (hq:q.on) (hs:zm s p) (ht:zm t q):zm (gW s t) (p.add q):=by
 have hs0:=hs
 have ht0:=ht
 obtain ⟨⟨hx,hy,hz⟩,hj⟩:=hs
 obtain ⟨⟨kx,ky,kz⟩,kj⟩:=ht
 unfold gW
 by_cases z1:m2 s.c2=0
 ·rw [W4 ((pj hz).2 z1),hj.inf_of z1,bR]
  exact ht0
 by_cases z2:m2 t.c2=0
 ·rw [W3 ((jJ hz).2 z1) ((pj kz).2 z2),kj.inf_of z2,bZ]
  exact hs0
 have n1:=(jJ hz).2 z1
 have n2:=(jJ kz).2 z2
 have zz:=an hz hz
 have ww:=an kz kz
 have zzz:=an zz hz
 have www:=an ww kz
 have hu:=an hx ww
 have hv:=an kx zz
 have ha:=an hy www
 have hb:=an ky zzz
 have hh:=bQ hv hu
 have hr:=bQ hb ha
 have eh:m2 (aG (ad t.c0 (ad s.c2 s.c2)) (ad s.c0 (ad t.c2 t.c2)))=m2 t.c0*(m2 s.c2*m2 s.c2)-m2 s.c0*(m2 t.c2*m2 t.c2):=by
  rw [mT hv hu,aI kx zz,aI hx ww,aI hz hz,aI kz kz]
 have er:m2 (aG (ad t.c1 (ad (ad s.c2 s.c2) s.c2)) (ad s.c1 (ad (ad t.c2 t.c2) t.c2)))=m2 t.c1*(m2 s.c2*m2 s.c2*m2 s.c2)-m2 s.c1*(m2 t.c2*m2 t.c2*m2 t.c2):=by
  rw [mT hb ha,aI ky zzz,aI hy www,aI zz hz,aI ww kz,aI hz hz,aI kz kz]
 by_cases h0:m2 t.c0*(m2 s.c2*m2 s.c2)-m2 s.c0*(m2 t.c2*m2 t.c2)=0
 ·obtain ⟨c1,c2⟩:=AW hp hq hj kj z1 z2 h0
  have n3:=(pj hh).2 (by rw [eh];exact h0)
  by_cases r0:m2 t.c1*(m2 s.c2*m2 s.c2*m2 s.c2)-m2 s.c1*(m2 t.c2*m2 t.c2*m2 t.c2)=0
  ·rw [RB n1 n2 n3 ((pj hr).2 (by rw [er];exact r0)),c1 r0]
   exact vK hp hs0
  ·rw [RE n1 n2 n3 ((jJ hr).2 (by rw [er];exact r0)),c2 r0]
   exact xY
 ·rw [J3 n1 n2 ((jJ hh).2 (by rw [eh];exact h0))]
  have key:=Hd hp hq hj kj z1 z2 h0
  have h2:=an hh hh
  have h3:=an h2 hh
  have hw:=an hu h2
  have hrr:=an hr hr
  have hw2:=aV hw hw
  have hrh:=bQ hrr h3
  have hX:=bQ hrh hw2
  have hwx:=bQ hw hX
  have hrw:=an hr hwx
  have hah:=an ha h3
  have hst:=an hz kz
  have eu:m2 (ad s.c0 (ad t.c2 t.c2))=m2 s.c0*(m2 t.c2*m2 t.c2):=by rw [aI hx ww,aI kz kz]
  have ea:m2 (ad s.c1 (ad (ad t.c2 t.c2) t.c2))=m2 s.c1*(m2 t.c2*m2 t.c2*m2 t.c2):=by rw [aI hy www,aI ww kz,aI kz kz]
  have e1:=mT hrh hw2
  rw [mT hrr h3,aI hr hr,er,aI h2 hh,aI hh hh,eh,g8 hw hw,aI hu h2,eu,aI hh hh,eh,ag9] at e1
  have e1':_=px (m2 s.c0) (m2 s.c1) (m2 s.c2) (m2 t.c0) (m2 t.c1) (m2 t.c2):=e1
  have e2:=mT hrw hah
  rw [aI hr hwx,mT hw hX,e1',aI hu h2,eu,aI hh hh,eh,aI ha h3,ea,aI h2 hh,aI hh hh,eh,er] at e2
  have e3:=aI hst hh
  rw [aI hz kz,eh] at e3
  refine C4 hX (bQ hrw hah) (an hst hh) ?_
  rw [e1',e2,e3]
  exact key
theorem adW {a:Pg2} (ha:a.good):(j9 a).good/\(j9 a).pt=a.pt.neg:=by
 unfold j9
 cases hi:a.inf with
 | true =>
  rw [RZ hi,oZ hi]
  exact ⟨ha,rfl⟩
 | false =>
  obtain ⟨hx,hy⟩:=o9 ha.1 hi
  have ho:=bM ha.2
  rw [gL hi] at ho ⊢
  rw [A4 hi]
  exact rW hx (sv hy) rfl (yT hy) ho
theorem Q4 (f0 f1:Fp2->Fp2->Fp2) (x:Fp2):C1 f0 f1 x=f0 (f1 (f1 x x) x) bFp2:=rfl
theorem ZW {x:Fp2} (hx:x.ok):(wm x).ok/\(wm x).v=x.v*x.v*x.v+Crv.b:=by
 have hb:bFp2.ok/\bFp2.v=Crv.b:=aa9
 have h2:=bg hx hx
 have h3:=bg h2 hx
 unfold wm
 rw [Q4]
 refine ⟨aV h3 hb.1,?_⟩
 rw [fG h3 hb.1,bK h2 hx,bK hx hx,hb.2]
theorem adA (p:Pg2):UV p=true <-> p.good:=by
 unfold UV
 cases hi:p.inf with
 | true =>
  rw [Xh hi,td]
  constructor
  ·intro h;rw [h];exact tn
  ·intro h;exact wK h.1 hi
 | false =>
  rw [Xi hi,Bool.and_eq_true,Bool.and_eq_true,Hy,Hy]
  constructor
  ·rintro ⟨⟨hx,hy⟩,h⟩
   obtain ⟨r1,r2⟩:=ZW hx
   rw [sE (bg hy hy) r1,bK hy hy,r2] at h
   exact ⟨.inr ⟨hi,hx,hy⟩,by rw [gL hi];exact h⟩
  ·intro h
   obtain ⟨hx,hy⟩:=o9 h.1 hi
   obtain ⟨r1,r2⟩:=ZW hx
   refine ⟨⟨hx,hy⟩,?_⟩
   rw [sE (bg hy hy) r1,bK hy hy,r2]
   have:=h.2
   rw [gL hi] at this
   exact this
end
section
theorem abd {K:Type} [Fld K] [Crv K] {f0:Fp2->Fp2->Bool->Fp2} {f1 f2:Fp2->Fp2->Fp2} {f3:Fp2->Bool->Fp2} {b:K} {small:Bool} (ok:Fp2->Prop) (v:Fp2->K)
  (hA : ∀ {x y},ok x->ok y->ok (f1 x y)/\v (f1 x y)=v x+v y) (hS : ∀ {x y},ok x->ok y->ok (f2 x y)/\v (f2 x y)=v x-v y) (hM : ∀ {x y},ok x->ok y->ok (f0 x y small)/\v (f0 x y small)=v x*v y) (hB : ∀ {x},ok x->ok (f3 x small)/\v (f3 x small)=3*b*v x)
  {s t:Fp6} (hs:ok s.c0/\ok s.c1/\ok s.c2) (ht:ok t.c0/\ok t.c1/\ok t.c2) :
  (ok (kX f0 f1 f2 f3 s t small).c0/\ok (kX f0 f1 f2 f3 s t small).c1/\ok (kX f0 f1 f2 f3 s t small).c2) /\
  v (kX f0 f1 f2 f3 s t small).c0=rx b (v s.c0) (v s.c1) (v s.c2) (v t.c0) (v t.c1) (v t.c2)/\v (kX f0 f1 f2 f3 s t small).c1=ry b (v s.c0) (v s.c1) (v s.c2) (v t.c0) (v t.c1) (v t.c2)/\v (kX f0 f1 f2 f3 s t small).c2=rz b (v s.c0) (v s.c1) (v s.c2) (v t.c0) (v t.c1) (v t.c2):=by
 obtain ⟨s0,s1,s2⟩:=hs
 obtain ⟨t0,t1,t2⟩:=ht
 have a0:=hM s0 t0
 have a1:=hM s1 t1
 have a2:=hM s2 t2
 have b3:=hM (hA s0 s1).1 (hA t0 t1).1
 have b4:=hM (hA s1 s2).1 (hA t1 t2).1
 have b5:=hM (hA s0 s2).1 (hA t0 t2).1
 have c3:=hS (hS b3.1 a0.1).1 a1.1
 have c4:=hS (hS b4.1 a1.1).1 a2.1
 have c5:=hS (hS b5.1 a0.1).1 a2.1
 have d0:=hA (hA a0.1 a0.1).1 a0.1
 have d2:=hB a2.1
 have dz:=hA a1.1 d2.1
 have d1:=hS a1.1 d2.1
 have dy:=hB c5.1
 have x1:=hM c3.1 d1.1
 have x2:=hM c4.1 dy.1
 have y1:=hM d1.1 dz.1
 have y2:=hM dy.1 d0.1
 have z1:=hM dz.1 c4.1
 have z2:=hM d0.1 c3.1
 have X:=hS x1.1 x2.1
 have Y:=hA y1.1 y2.1
 have Z:=hA z1.1 z2.1
 have e3:=c3.2
 rw [(hS b3.1 a0.1).2,b3.2,a0.2,a1.2,(hA s0 s1).2,(hA t0 t1).2] at e3
 have e4:=c4.2
 rw [(hS b4.1 a1.1).2,b4.2,a1.2,a2.2,(hA s1 s2).2,(hA t1 t2).2] at e4
 have e5:=c5.2
 rw [(hS b5.1 a0.1).2,b5.2,a0.2,a2.2,(hA s0 s2).2,(hA t0 t2).2] at e5
 have eX:=X.2
 rw [x1.2,x2.2,e3,e4,d1.2,dy.2,e5,d2.2,a1.2,a2.2] at eX
 have eY:=Y.2
 rw [y1.2,y2.2,d1.2,dz.2,dy.2,e5,d0.2,(hA a0.1 a0.1).2,d2.2,a0.2,a1.2,a2.2] at eY
 have eZ:=Z.2
 rw [z1.2,z2.2,dz.2,e4,d0.2,(hA a0.1 a0.1).2,d2.2,e3,a0.2,a1.2,a2.2] at eZ
 refine ⟨⟨X.1,Y.1,Z.1⟩,eX.trans ?_,eY.trans ?_,eZ.trans ?_⟩
 ·unfold rx;clear eX eY eZ e3 e4 e5;grind
 ·unfold ry;clear eX eY eZ e3 e4 e5;grind
 ·unfold rz;clear eX eY eZ e3 e4 e5;grind
def gh (x:Fp2):Prop:=x.c0.ok/\x.c1=zeroFp
def lZ (x:Fp2):V1:=x.c0.v
theorem Am {f:Fp->Fp->Fp} (h:f zeroFp zeroFp=zeroFp) {x y:Fp2} (hx:x.c1=zeroFp) (hy:y.c1=zeroFp):f x.c1 y.c1=zeroFp:=by rw [hx,hy,h]
theorem ae7:cP zeroFp zeroFp=zeroFp:=Fp.v_inj (cO a9 a9) a9 (by rw [lM a9 a9,gS];exact CR.add_zero _)
theorem acy:dM zeroFp zeroFp=zeroFp:=Fp.v_inj (fQ a9 a9) a9 (by rw [pJ a9 a9,gS];exact Qb rfl)
theorem aaw {x y:Fp} {z:V1} (h:x.ok) (hy:y=zeroFp) (hv:x.v=z):gh ⟨x,y⟩/\lZ ⟨x,y⟩=z:=⟨⟨h,hy⟩,hv⟩
theorem sB {x y:Fp2} (hx:gh x) (hy:gh y):gh (ml x y)/\lZ (ml x y)=lZ x+lZ y:=by
 rw [IA,sf]
 exact aaw (cO hx.1 hy.1) (Am ae7 hx.2 hy.2) (lM hx.1 hy.1)
theorem aee {x y:Fp2} (hx:gh x) (hy:gh y):gh (pQ x y)/\lZ (pQ x y)=lZ x-lZ y:=by
 rw [Gy,rj]
 exact aaw (fQ hx.1 hy.1) (Am acy hx.2 hy.2) (pJ hx.1 hy.1)
theorem Sa (f0:Fp->Fp->Fp) (f1:Fp2->Fp2->Fp2) (x y:Fp2):uR f0 f1 x y true=⟨f0 x.c0 y.c0,zeroFp⟩:=rfl
theorem Kp (f0:Fp->Fp->Fp) (f1:Fp2->Fp2->Fp2) (x y:Fp2):uR f0 f1 x y false=f1 x y:=rfl
theorem KB {x:Fp} (h:x.ok):gh ⟨x,zeroFp⟩/\lZ ⟨x,zeroFp⟩=x.v:=⟨⟨h,rfl⟩,rfl⟩
theorem aeg {x y:Fp2} (hx:gh x) (hy:gh y):gh (Df x y true)/\lZ (Df x y true)=lZ x*lZ y:=by
 unfold Df
 rw [Sa,fq hx.1 hy.1,<- show (bT x.c0 y.c0).v=lZ x*lZ y from gb hx.1 hy.1]
 exact KB (bc hx.1)
theorem ae0 (f0 f1:Fp2->Fp2->Fp2) (f2 x:Fp2):EC f0 f1 f2 x true=f0 (f0 (f0 (f0 x x) (f0 x x)) (f0 (f0 x x) (f0 x x))) (f0 (f0 x x) (f0 x x)):=rfl
theorem Zu (f0 f1:Fp2->Fp2->Fp2) (f2 x:Fp2):EC f0 f1 f2 x false=f1 (f0 (f0 (f0 (f0 x x) (f0 x x)) (f0 (f0 x x) (f0 x x))) (f0 (f0 x x) (f0 x x))) f2:=rfl
theorem Gq {K:Type} [CR K] (x:K):x+x+(x+x)+(x+x+(x+x))+(x+x+(x+x))=3*4*x:=by grind
theorem ahw {x:Fp2} (hx:gh x):gh (b3R x true)/\lZ (b3R x true)=3*Crv.b*lZ x:=by
 unfold b3R
 rw [ae0]
 have h2:=sB hx hx
 have h4:=sB h2.1 h2.1
 have h8:=sB h4.1 h4.1
 have h12:=sB h8.1 h4.1
 refine ⟨h12.1,?_⟩
 rw [h12.2,h8.2,h4.2,h2.2]
 exact Gq _
def akq (s:Fp6):Prop:=gh s.c0/\gh s.c1/\gh s.c2
def rn (s:Fp6) (p:Pt V1):Prop:=akq s/\Pj (lZ s.c0) (lZ s.c1) (lZ s.c2) p
theorem BQ {s t:Fp6} {p q:Pt V1} (hp:p.on) (hq:q.on) (hs:rn s p) (ht:rn t q):rn (ji s t true) (p.add q):=by
 unfold ji
 obtain ⟨h1,h2,h3,h4⟩:=abd (b:=(Crv.b:V1)) gh lZ sB aee aeg ahw hs.1 ht.1
 refine ⟨h1,?_⟩
 rw [h2,h3,h4]
 exact oK hp hq hs.2 ht.2
theorem GQ {a b c:Fp2} {p:Pt V1} (ha:gh a) (hb:gh b) (hc:gh c) (h:Pj (lZ a) (lZ b) (lZ c) p):rn ⟨a,b,c⟩ p:=⟨⟨ha,hb,hc⟩,h⟩
theorem Hp:iI=⟨zeroFp2,oneFp2,zeroFp2⟩:=by
 unfold iI
 rw [yg]
 rfl
theorem zero_low:gh zeroFp2/\lZ zeroFp2=0:=⟨⟨a9,rfl⟩,gS⟩
theorem one_low:gh oneFp2/\lZ oneFp2=1:=⟨⟨jD,rfl⟩,zU⟩
theorem A2:rn iI .inf:=by
 rw [Hp]
 refine GQ zero_low.1 one_low.1 zero_low.1 ?_
 rw [zero_low.2,one_low.2]
 exact ⟨rfl,rfl,cd⟩
theorem adP {f0:Fp6} {f1:Fp2} {a:Pg1} (h:a.inf=true):pd f0 f1 a=f0:=by unfold pd;rw [h]
theorem adQ {f0:Fp6} {f1:Fp2} {a:Pg1} (h:a.inf=false):pd f0 f1 a=⟨⟨a.x,zeroFp⟩,⟨a.y,zeroFp⟩,f1⟩:=by unfold pd;rw [h]
theorem N9 {a:Pg1} (ha:a.good):rn (Hn a) a.pt:=by
 unfold Hn
 cases hi:a.inf with
 | true=>rw [adP hi,kL hi];exact A2
 | false =>
  obtain ⟨hx,hy⟩:=pa ha.1 hi
  rw [adQ hi,fS hi,yg]
  refine GQ (KB hx).1 (KB hy).1 one_low.1 ?_
  rw [(KB hx).2,(KB hy).2,one_low.2]
  exact ⟨cd,(CR.mul_one _).symm,(CR.mul_one _).symm⟩
theorem agH {f0:Fp->Fp × Int} {f1:Fp->Fp->Fp} {s:Fp6} (h:(f0 s.c2.c0).2=7):oH f0 f1 s=infG1:=by
 unfold oH
 rw [h]
 rfl
theorem acm {f0:Fp->Fp × Int} {f1:Fp->Fp->Fp} {s:Fp6} (h:(f0 s.c2.c0).2=0):oH f0 f1 s=⟨f1 s.c0.c0 (f0 s.c2.c0).1,f1 s.c1.c0 (f0 s.c2.c0).1,false⟩:=by
 unfold oH
 rw [h]
 rfl
theorem D1 {K:Type} [Fld K] {x z:K} (hz:z ≠ 0):x*z*Fld.inv z=x:=by
 have:=aQ hz
 grind
theorem Nm {s:Fp6} {p:Pt V1} (hp:p.on) (h:rn s p):(CJ s).good/\(CJ s).pt=p:=by
 obtain ⟨⟨h0,h1,h2⟩,hj⟩:=h
 obtain ⟨i1,i2⟩:=Ek h2.1
 have ei:=rU h2.1
 unfold CJ
 cases p with
 | inf =>
  rw [agH (by rw [ei];exact i1 hj.2.1)]
  exact ⟨tp,rfl⟩
 | aff x y =>
  obtain ⟨hz,e1,e2⟩:=hj
  obtain ⟨j1,j2,j3⟩:=i2 hz
  rw [acm (by rw [ei];exact j1),ei,fq h0.1 j2,fq h1.1 j2]
  refine nJ (bc h0.1) (bc h1.1) ?_ ?_ hp
  ·rw [gb h0.1 j2,j3,show s.c0.c0.v=x*s.c2.c0.v from e1]
   exact D1 hz
  ·rw [gb h1.1 j2,j3,show s.c1.c0.v=y*s.c2.c0.v from e2]
   exact D1 hz
theorem vO {s:Fp6} {p:Pt V1} (hp:p.on) (h:rn s p) (e:List UInt64):rn (gq s e true) (p.mul (fw e)) :=
 lH rn hp (fun hq h=>BQ hq hq h h) (fun hq k=>BQ hq hp k h) e A2
theorem aeZ {x y:Fp2} (hx:x.ok) (hy:y.ok):(Df x y false).ok/\(Df x y false).v=x.v*y.v:=by
 unfold Df
 rw [Kp,lB hx hy]
 exact ⟨bg hx hy,bK hx hy⟩
theorem sG {x y:Fp2} (hx:x.ok) (hy:y.ok):(ml x y).ok/\(ml x y).v=x.v+y.v:=by rw [IA];exact ⟨aV hx hy,fG hx hy⟩
theorem aeY {x y:Fp2} (hx:x.ok) (hy:y.ok):(pQ x y).ok/\(pQ x y).v=x.v-y.v:=by rw [Gy];exact ⟨bQ hx hy,lm hx hy⟩
theorem aio:bb2=4*xi:=Qd.ext'
 (by rw [V2.mul_a,afk,afj];show (4:V1)=4*1-0*1;grind)
 (by rw [V2.mul_b,afk,afj];show (4:V1)=4*1+0*1;grind)
theorem ajH (x k b:V2) (h:b=4*k):3*4*x*k=3*b*x:=by rw [h];grind
theorem ain {x:Fp2} (hx:x.ok):(b3R x false).ok/\(b3R x false).v=3*Crv.b*x.v:=by
 unfold b3R
 rw [Zu]
 have h2:=sG hx hx
 have h4:=sG h2.1 h2.1
 have h8:=sG h4.1 h4.1
 have h12:=sG h8.1 h4.1
 rw [lB h12.1 L8]
 refine ⟨bg h12.1 L8,?_⟩
 rw [bK h12.1 L8,h12.2,h8.2,h4.2,h2.2,Gq,aiY]
 exact ajH _ _ _ aio
def akw (s:Fp6):Prop:=s.c0.ok/\s.c1.ok/\s.c2.ok
def rm (s:Fp6) (p:Pt V2):Prop:=akw s/\Pj s.c0.v s.c1.v s.c2.v p
theorem BP {s t:Fp6} {p q:Pt V2} (hp:p.on) (hq:q.on) (hs:rm s p) (ht:rm t q):rm (ji s t false) (p.add q):=by
 unfold ji
 obtain ⟨h1,h2,h3,h4⟩:=abd (b:=(Crv.b:V2)) Fp2.ok Fp2.v sG aeY aeZ ain hs.1 ht.1
 refine ⟨h1,?_⟩
 rw [h2,h3,h4]
 exact oK hp hq hs.2 ht.2
theorem GP {a b c:Fp2} {p:Pt V2} (ha:a.ok) (hb:b.ok) (hc:c.ok) (h:Pj a.v b.v c.v p):rm ⟨a,b,c⟩ p:=⟨⟨ha,hb,hc⟩,h⟩
theorem A1:rm iI .inf:=by
 rw [Hp]
 refine GP cI jC cI ?_
 rw [gK,uJ]
 exact ⟨rfl,rfl,cd⟩
theorem adM {f0:Fp6} {f1:Fp2} {a:Pg2} (h:a.inf=true):pc f0 f1 a=f0:=by unfold pc;rw [h]
theorem adN {f0:Fp6} {f1:Fp2} {a:Pg2} (h:a.inf=false):pc f0 f1 a=⟨a.x,a.y,f1⟩:=by unfold pc;rw [h]
theorem adL {a:Pg2} (ha:a.good):rm (UX a) a.pt:=by
 unfold UX
 cases hi:a.inf with
 | true=>rw [adM hi,oZ hi];exact A1
 | false =>
  obtain ⟨hx,hy⟩:=o9 ha.1 hi
  rw [adN hi,gL hi,yg]
  refine GP hx hy jC ?_
  rw [uJ]
  exact ⟨cd,(CR.mul_one _).symm,(CR.mul_one _).symm⟩
theorem agG {f0:Fp2->Fp2 × Int} {f1:Fp2->Fp2->Fp2} {s:Fp6} (h:(f0 s.c2).2=7):oG f0 f1 s=infG2:=by
 unfold oG
 rw [h]
 rfl
theorem acj {f0:Fp2->Fp2 × Int} {f1:Fp2->Fp2->Fp2} {s:Fp6} (h:(f0 s.c2).2=0):oG f0 f1 s=⟨f1 s.c0 (f0 s.c2).1,f1 s.c1 (f0 s.c2).1,false⟩:=by
 unfold oG
 rw [h]
 rfl
theorem ack {s:Fp6} {p:Pt V2} (hp:p.on) (h:rm s p):(Nl s).good/\(Nl s).pt=p:=by
 obtain ⟨⟨h0,h1,h2⟩,hj⟩:=h
 obtain ⟨i1,i2⟩:=OC h2
 have ei:=Yu h2
 unfold Nl
 cases p with
 | inf =>
  rw [agG (by rw [ei];exact i1 hj.2.1)]
  exact ⟨tn,rfl⟩
 | aff x y =>
  obtain ⟨hz,e1,e2⟩:=hj
  obtain ⟨j1,j2,j3⟩:=i2 hz
  rw [acj (by rw [ei];exact j1),ei,lB h0 j2,lB h1 j2]
  refine rW (bg h0 j2) (bg h1 j2) ?_ ?_ hp
  ·rw [bK h0 j2,j3,e1]
   exact D1 hz
  ·rw [bK h1 j2,j3,e2]
   exact D1 hz
theorem IU {s:Fp6} {p:Pt V2} (hp:p.on) (h:rm s p) (e:List UInt64):rm (gq s e false) (p.mul (fw e)) :=
 lH rm hp (fun hq h=>BP hq hq h h) (fun hq k=>BP hq hp k h) e A1
theorem ld (k:Fr):fw k.list=k.nat:=by
 show bj [k.l0,k.l1,k.l2,k.l3] 4=_
 unfold Fr.nat
 simp only [bj,atF,List.getD_eq_getElem?_getD,List.getElem?_cons_zero,List.getElem?_cons_succ,Option.getD_some,W64]
 omega
theorem AB {s:Sp1} {p:Pt V1} (hp:p.on) (h:zn s p) (e:List UInt64):zn (fO s e) (p.mul (fw e)) :=
 lH zn hp (fun hq h=>vM hq h) (fun hq k=>RJ hq hp k h) e xZ
theorem Az {s:Fp6} {p:Pt V2} (hp:p.on) (h:zm s p) (e:List UInt64):zm (fN s e) (p.mul (fw e)) :=
 lH zm hp (fun hq h=>vK hq h) (fun hq k=>RI hq hp k h) e xY
theorem Si (f0:Sp1->Pg1) (f1:Sp1->List UInt64->Sp1) (f2:Pg1->Sp1) (a:Pg1) (k:Fr):Dh f0 f1 f2 a k=f0 (f1 (f2 a) k.list):=rfl
theorem Sf (f0:Fp6->Pg2) (f1:Fp6->List UInt64->Fp6) (f2:Pg2->Fp6) (a:Pg2) (k:Fr):Dg f0 f1 f2 a k=f0 (f1 (f2 a) k.list):=rfl
theorem ad4 {a:Pg1} (ha:a.good) (k:Fr):(rM a k).good/\(rM a k).pt=a.pt.mul k.nat:=by
 unfold rM
 rw [Si,<- ld]
 exact S1 (cv ha.2 _) (AB ha.2 (Bc ha) _)
theorem ad3 {a:Pg2} (ha:a.good) (k:Fr):(rK a k).good/\(rK a k).pt=a.pt.mul k.nat:=by
 unfold rK
 rw [Sf,<- ld]
 exact S0 (cv ha.2 _) (Az ha.2 (Bb ha) _)
theorem EV (f0:Fp6->Pg1) (f1:Fp6->List UInt64->Bool->Fp6) (f2:Pg1->Fp6) (a:Pg1) (k:Fr):sV f0 f1 f2 a k=f0 (f1 (f2 a) k.list true):=rfl
theorem ES (f0:Fp6->Pg2) (f1:Fp6->List UInt64->Bool->Fp6) (f2:Pg2->Fp6) (a:Pg2) (k:Fr):sU f0 f1 f2 a k=f0 (f1 (f2 a) k.list false):=rfl
theorem IX {a:Pg1} (ha:a.good) (k:Fr):(iM a k).good/\(iM a k).pt=a.pt.mul k.nat:=by
 unfold iM
 rw [EV,<- ld]
 exact Nm (cv ha.2 _) (vO ha.2 (N9 ha) _)
theorem IV {a:Pg2} (ha:a.good) (k:Fr):(jv a k).good/\(jv a k).pt=a.pt.mul k.nat:=by
 unfold jv
 rw [ES,<- ld]
 exact ack (cv ha.2 _) (IU ha.2 (adL ha) _)
end
section
def UL {α:Type} (n:Nat) (k:Nat->α):α:=match n with
 | 0=>k 0
 | m+1=>k (m+1)
theorem yJ {α:Type} (n:Nat) (k:Nat->α):UL n k=k n:=by cases n <;> rfl
def aiP {α:Type} (a:V1) (k:V1->α):α:=UL a.nat fun n=>k (V1.of n)
theorem aeE {α:Type} (a:V1) (k:V1->α):aiP a k=k a:=by unfold aiP;rw [yJ,V1.of_nat]
def pr {α:Type} (a:V2) (k:V2->α):α:=UL a.a.nat fun n=>UL a.b.nat fun m=>k ⟨V1.of n,V1.of m⟩
theorem gO {α:Type} (a:V2) (k:V2->α):pr a k=k a:=by unfold pr;rw [yJ,yJ,V1.of_nat,V1.of_nat]
def goP {K:Type} [Fld K] [Crv K] (fc:K->(K->K × K × K)->K × K × K) (b gx gy:K) (e:List UInt64):Nat->K->K->K->K × K × K
 | 0,X,Y,Z=>(X,Y,Z)
 | n+1,X,Y,Z=>fc (rx b X Y Z X Y Z) fun X'=>fc (ry b X Y Z X Y Z) fun Y'=>fc (rz b X Y Z X Y Z) fun Z'=>match dH e n with
  | true=>fc (rx b X' Y' Z' gx gy 1) fun X''=>fc (ry b X' Y' Z' gx gy 1) fun Y''=>fc (rz b X' Y' Z' gx gy 1) fun Z''=>goP fc b gx gy e n X'' Y'' Z''
  | false=>goP fc b gx gy e n X' Y' Z'
theorem Ep {K:Type} [Fld K] [Crv K] {fc:K->(K->K × K × K)->K × K × K} (h : ∀ a k,fc a k=k a) (b gx gy:K) (e:List UInt64) : ∀ (n:Nat) (X Y Z:K),
  goP fc b gx gy e n X Y Z=uj (fun s=>(rx b s.1 s.2.1 s.2.2 s.1 s.2.1 s.2.2,ry b s.1 s.2.1 s.2.2 s.1 s.2.1 s.2.2,rz b s.1 s.2.1 s.2.2 s.1 s.2.1 s.2.2)) (fun s=>(rx b s.1 s.2.1 s.2.2 gx gy 1,ry b s.1 s.2.1 s.2.2 gx gy 1,rz b s.1 s.2.1 s.2.2 gx gy 1)) e n (X,Y,Z)
 | 0,X,Y,Z=>rfl
 | n+1,X,Y,Z=>by
  simp only [goP,h,uj]
  cases dH e n with
  | true=>exact Ep h b gx gy e n _ _ _
  | false=>exact Ep h b gx gy e n _ _ _
theorem Hi {K:Type} [Fld K] [Crv K] {fc:K->(K->K × K × K)->K × K × K} (h : ∀ a k,fc a k=k a) {gx gy:K} (hg:(Pt.aff gx gy).on) (e:List UInt64) (hz:(goP fc Crv.b gx gy e (64*e.length) 0 1 0).2.2=0):(Pt.aff gx gy).mul (fw e) = .inf:=by
 rw [Ep h] at hz
 have key:=lH (fun (s:K × K × K) p=>Pj s.1 s.2.1 s.2.2 p) (p:=Pt.aff gx gy) hg (tw:=fun s=>(rx Crv.b s.1 s.2.1 s.2.2 s.1 s.2.1 s.2.2,ry Crv.b s.1 s.2.1 s.2.2 s.1 s.2.1 s.2.2,rz Crv.b s.1 s.2.1 s.2.2 s.1 s.2.1 s.2.2)) (pl:=fun s=>(rx Crv.b s.1 s.2.1 s.2.2 gx gy 1,ry Crv.b s.1 s.2.1 s.2.2 gx gy 1,rz Crv.b s.1 s.2.1 s.2.2 gx gy 1))
  (fun hq k=>oK hq hq k k) (fun hq k=>oK hq hg k ⟨cd,(CR.mul_one _).symm,(CR.mul_one _).symm⟩) e (o:=((0:K),(1:K),(0:K))) ⟨rfl,rfl,cd⟩
 generalize (Pt.aff gx gy).mul (fw e)=p at *
 cases p with
 | inf=>rfl
 | aff x y=>exact absurd hz key.1
theorem gen1_ok:oneG1.x.ok/\oneG1.y.ok:=⟨by unfold Fp.ok;decide +kernel,by unfold Fp.ok;decide +kernel⟩
theorem HW:oneG1.inf=false:=rfl
theorem OO:(Pt.aff oneG1.x.v oneG1.y.v).on:=V1.ext (by
 show (oneG1.y.v*oneG1.y.v).nat=(oneG1.x.v*oneG1.x.v*oneG1.x.v+(4:V1)).nat
 rw [V1.nat_mul,V1.nat_add,V1.nat_mul,V1.nat_mul,Fp.v_nat gen1_ok.1,Fp.v_nat gen1_ok.2]
 decide +kernel)
theorem gen1_good:oneG1.good:=⟨.inr ⟨HW,gen1_ok⟩,OO⟩
theorem xf:oneG1.pt = .aff oneG1.x.v oneG1.y.v:=fS HW
theorem gV:fw rLimbs.list=qN:=by rw [ld,jA]
theorem hP:oneG1.pt.mul qN = .inf:=by
 rw [<- gV,xf]
 exact Hi (fc:=aiP) aeE OO rLimbs.list (V1.ext (by decide +kernel))
theorem aez:oneG2.x.ok/\oneG2.y.ok:=⟨⟨by unfold Fp.ok;decide +kernel,by unfold Fp.ok;decide +kernel⟩,⟨by unfold Fp.ok;decide +kernel,by unfold Fp.ok;decide +kernel⟩⟩
theorem HU:oneG2.inf=false:=rfl
theorem V2.ext_nat {x y:V2} (h:x.a.nat=y.a.nat) (g:x.b.nat=y.b.nat):x=y:=Qd.ext' (V1.ext h) (V1.ext g)
theorem Ds:(Pt.aff oneG2.x.v oneG2.y.v).on:=V2.ext_nat (by
 show ((oneG2.y.v*oneG2.y.v).a).nat=(oneG2.x.v*oneG2.x.v*oneG2.x.v+bb2).a.nat
 decide +kernel) (by
 show ((oneG2.y.v*oneG2.y.v).b).nat=(oneG2.x.v*oneG2.x.v*oneG2.x.v+bb2).b.nat
 decide +kernel)
theorem gen2_good:oneG2.good:=⟨.inr ⟨HU,aez⟩,Ds⟩
theorem xe:oneG2.pt = .aff oneG2.x.v oneG2.y.v:=gL HU
theorem Lk:oneG2.pt.mul qN = .inf:=by
 rw [<- gV,xe]
 exact Hi (fc:=pr) gO Ds rLimbs.list (V2.ext_nat (by decide +kernel) (by decide +kernel))
end
end Go.Proofs.YtcbplfkeeaecgaaGreat
namespace Go.Proofs.YtcbplfkeeaecgaaGreat
theorem adY {K:Type} [Fld K] [Crv K] {p:Pt K} (hp:p.on) : ∀ m n:Nat,p.mul m = .inf->p.mul n = .inf->p.mul (Nat.gcd m n) = .inf:=by
 intro m n
 induction m,n using Nat.gcd.induction with
 | H0 n=>intro _ h;rw [Nat.gcd_zero_left];exact h
 | H1 m n hm ih =>
  intro h1 h2
  rw [Nat.gcd_rec]
  refine ih ?_ h1
  rw [qd hp h1]
  exact h2
theorem g6 {K:Type} [Fld K] [Crv K] {p:Pt K} (hp:p.on) (h0:p ≠ .inf) (hq:p.mul qN = .inf) {k:Nat} (hk:0<k) (hk2:k<qN):p.mul k ≠ .inf:=fun h=>by
 have hg:=adY hp qN k hq h
 have h1:Nat.gcd qN k=1:=prime_qN.coprime fun hd=>by
  have:=Nat.le_of_dvd hk hd
  omega
 rw [h1,fC] at hg
 exact h0 hg
theorem aeA:oneG1.pt ≠ .inf:=by rw [xf];exact fun h=>by cases h
end Go.Proofs.YtcbplfkeeaecgaaGreat
