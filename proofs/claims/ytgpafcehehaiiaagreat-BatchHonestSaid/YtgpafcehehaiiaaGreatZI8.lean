/- Texts of the proof, joined. -/
import Derived.Test.YtgpafcehehaiiaaGreatZI7
set_option linter.unusedSectionVars false
set_option linter.unusedSimpArgs false
set_option linter.unusedVariables false
namespace Go.Proofs.YtgpafcehehaiiaaGreat
open Go.RowKit
section
def Fp6.ok (a:Fp6):Prop:=a.c0.ok/\a.c1.ok/\a.c2.ok
def Fp6.v (a:Fp6):V6:=⟨a.c0.v,a.c1.v,a.c2.v⟩
theorem Fp6.v_a (a:Fp6):a.v.a=a.c0.v:=rfl
theorem Fp6.v_b (a:Fp6):a.v.b=a.c1.v:=rfl
theorem Fp6.mk_ok {a b c:Fp2} (ha:a.ok) (hb:b.ok) (hc:c.ok):(⟨a,b,c⟩:Fp6).ok:=⟨ha,hb,hc⟩
theorem Fp6.mk_v {a b c:Fp2} {x:V6} (ha:a.v=x.a) (hb:b.v=x.b) (hc:c.v=x.c):(⟨a,b,c⟩:Fp6).v=x:=Cb.ext' ha hb hc
theorem Fp6.v_inj {a b:Fp6} (ha:a.ok) (hb:b.ok) (h:a.v=b.v):a=b:=by
 have h1:a.c0=b.c0:=Fp2.v_inj ha.1 hb.1 (congrArg Cb.a h)
 have h2:a.c1=b.c1:=Fp2.v_inj ha.2.1 hb.2.1 (congrArg Cb.b h)
 have h3:a.c2=b.c2:=Fp2.v_inj ha.2.2 hb.2.2 (congrArg Cb.c h)
 cases a;cases b
 simp only [] at h1 h2 h3
 subst h1 h2 h3
 rfl
section
variable {f0 f1 : Fp2 -> Fp2 -> Fp2} {f2 : Fp2 -> Fp2}
end
theorem Jt (a b:Fp6):ng a b=⟨aI a.c0 b.c0,aI a.c1 b.c1,aI a.c2 b.c2⟩:=by
 unfold ng ET vB y9
 rfl
theorem HF (a b:Fp6):io a b=⟨aH a.c0 b.c0,aH a.c1 b.c1,aH a.c2 b.c2⟩:=by
 unfold io DU vA y8
 rfl
theorem Iv (a:Fp6):nP a=io zeroFp6 a:=by unfold nP Er;rfl
theorem N9 (a:Fp6):uM a=⟨iW a.c2,a.c0,a.c1⟩:=by unfold uM M9;rfl
theorem wN (a:Fp6):eo a=⟨ay a.c0,ay a.c1,ay a.c2⟩:=by unfold eo tP;rfl
theorem IG (a:Fp6):rk a=⟨gu a.c0,gu a.c1,gu a.c2⟩:=by unfold rk EA;rfl
theorem Iy (a b:Fp6):nR a b=eo (ef a b):=by unfold nR Eu;rfl
theorem GM (f0 f1:Fp2->Fp2->Fp2) (f2:Fp2->Fp2) (f3:Nat->Nat->Fp6->Fp6->Fp2->Fp2->Fp2) (a b:Fp6):zY f0 f1 f2 f3 a b=⟨f1 (f0 a.c0 b.c0) (f2 (f3 1 2 a b (f0 a.c1 b.c1) (f0 a.c2 b.c2))),f1 (f3 0 1 a b (f0 a.c0 b.c0) (f0 a.c1 b.c1)) (f2 (f0 a.c2 b.c2)),f1 (f3 0 2 a b (f0 a.c0 b.c0) (f0 a.c2 b.c2)) (f0 a.c1 b.c1)⟩:=rfl
theorem Tz (a b:Fp6):ef a b=⟨aI (ag a.c0 b.c0) (iW (lw 1 2 a b (ag a.c1 b.c1) (ag a.c2 b.c2))),aI (lw 0 1 a b (ag a.c0 b.c0) (ag a.c1 b.c1)) (iW (ag a.c2 b.c2)),aI (lw 0 2 a b (ag a.c0 b.c0) (ag a.c2 b.c2)) (ag a.c1 b.c1)⟩:=GM ag aI iW lw a b
theorem yZ:zeroFp6.ok:=⟨dn,dn,dn⟩
theorem N6:zeroFp6.v=0:=Cb.ext' j0 j0 j0
theorem adS:oneFp6.ok:=⟨kt,dn,dn⟩
theorem agL:oneFp6.v=1:=Cb.ext' vE j0 j0
theorem tD {a b:Fp6} (ha:a.ok) (hb:b.ok):(ng a b).ok:=by rw [Jt];exact Fp6.mk_ok (bh ha.1 hb.1) (bh ha.2.1 hb.2.1) (bh ha.2.2 hb.2.2)
theorem E3 {a b:Fp6} (ha:a.ok) (hb:b.ok):(ng a b).v=a.v+b.v:=by rw [Jt];exact Fp6.mk_v (gY ha.1 hb.1) (gY ha.2.1 hb.2.1) (gY ha.2.2 hb.2.2)
theorem DS {a b:Fp6} (ha:a.ok) (hb:b.ok):(io a b).ok:=by rw [HF];exact Fp6.mk_ok (bX ha.1 hb.1) (bX ha.2.1 hb.2.1) (bX ha.2.2 hb.2.2)
theorem M8 {a b:Fp6} (ha:a.ok) (hb:b.ok):(io a b).v=a.v-b.v:=by rw [HF];exact Fp6.mk_v (l7 ha.1 hb.1) (l7 ha.2.1 hb.2.1) (l7 ha.2.2 hb.2.2)
theorem OR {a:Fp6} (ha:a.ok):(nP a).ok:=by rw [Iv];exact DS yZ ha
theorem Qb {R:Type} [CR R] (x:R):0-x = -x:=by grind
theorem aah {a:Fp6} (ha:a.ok):(nP a).v = -a.v:=by rw [Iv,M8 yZ ha,N6];exact Qb _
theorem E4 {a:Fp6} (ha:a.ok):(uM a).ok:=by rw [N9];exact Fp6.mk_ok (jT ha.2.2) ha.1 ha.2.1
theorem ajs {K:Type} [CR K] [CP K] (x:Cb K):(⟨0,1,0⟩:Cb K)*x=⟨CP.cr*x.c,x.a,x.b⟩:=Cb.ext'
 (by rw [Cb.mul_a];show 0*x.a+CP.cr*(1*x.c+0*x.b)=_;grind)
 (by rw [Cb.mul_b];show 0*x.b+1*x.a+CP.cr*(0*x.c)=_;grind)
 (by rw [Cb.mul_c];show 0*x.c+1*x.b+0*x.a=_;grind)
theorem afQ {a:Fp6} (ha:a.ok):(uM a).v=vv*a.v:=by
 have e:vv*a.v=⟨xi*a.c2.v,a.c0.v,a.c1.v⟩:=ajs a.v
 rw [N9,e]
 exact Fp6.mk_v (A5 ha.2.2) rfl rfl
def rv6:V6:=Cb.of rv2
def ri6:V6:=Cb.of ri2
theorem Cb.of_mul {K:Type} [CR K] [CP K] (x y:K):Cb.of (x*y)=Cb.of x*Cb.of y:=Cb.ext'
 (by rw [Cb.mul_a];show x*y=x*y+CP.cr*(0*0+0*0);grind)
 (by rw [Cb.mul_b];show 0=x*0+0*y+CP.cr*(0*0);grind)
 (by rw [Cb.mul_c];show 0=x*0+0*0+0*y;grind)
theorem Cb.of_times {K:Type} [CR K] [CP K] (k:K) (x:Cb K):Cb.of k*x=⟨k*x.a,k*x.b,k*x.c⟩:=Cb.ext'
 (by rw [Cb.mul_a];show k*x.a+CP.cr*(0*x.c+0*x.b)=_;grind)
 (by rw [Cb.mul_b];show k*x.b+0*x.a+CP.cr*(0*x.c)=_;grind)
 (by rw [Cb.mul_c];show k*x.c+0*x.b+0*x.a=_;grind)
theorem aau:rv6*ri6=1:=by unfold rv6 ri6;rw [<- Cb.of_mul,vJ];rfl
theorem tL {a:Fp6} (ha:a.ok):(eo a).ok:=by rw [wN];exact Fp6.mk_ok (cw ha.1) (cw ha.2.1) (cw ha.2.2)
theorem zf {a:Fp6} (ha:a.ok):(eo a).v=rv6*a.v:=by
 unfold rv6
 rw [wN,Cb.of_times]
 exact Fp6.mk_v (jf ha.1) (jf ha.2.1) (jf ha.2.2)
theorem O1 {a:Fp6} (ha:a.ok):(rk a).ok:=by rw [IG];exact Fp6.mk_ok (tq ha.1) (tq ha.2.1) (tq ha.2.2)
theorem aaj {a:Fp6} (ha:a.ok):(rk a).v=ri6*a.v:=by
 unfold ri6
 rw [IG,Cb.of_times]
 exact Fp6.mk_v (Ao ha.1) (Ao ha.2.1) (Ao ha.2.2)
theorem EH {a0 a1 b0 b1:Fp2} (h0:a0.ok) (h1:a1.ok) (k0:b0.ok) (k1:b1.ok):(aH (ag (aI a0 a1) (aI b0 b1)) (aI (ag a0 b0) (ag a1 b1))).ok/\(aH (ag (aI a0 a1) (aI b0 b1)) (aI (ag a0 b0) (ag a1 b1))).v=ri2*(a0.v*b1.v+a1.v*b0.v):=by
 have e1:=ap (bh h0 h1) (bh k0 k1)
 have e2:=ap h0 k0
 have e3:=ap h1 k1
 refine ⟨bX e1 (bh e2 e3),?_⟩
 rw [l7 e1 (bh e2 e3),jg (bh h0 h1) (bh k0 k1),gY e2 e3,jg h0 k0,jg h1 k1,gY h0 h1,gY k0 k1]
 grind
theorem TT (a b:Fp6) (x y:Fp2):lw 1 2 a b x y=aH (ag (aI a.c1 a.c2) (aI b.c1 b.c2)) (aI x y):=rfl
theorem TV (a b:Fp6) (x y:Fp2):lw 0 1 a b x y=aH (ag (aI a.c0 a.c1) (aI b.c0 b.c1)) (aI x y):=rfl
theorem TU (a b:Fp6) (x y:Fp2):lw 0 2 a b x y=aH (ag (aI a.c0 a.c2) (aI b.c0 b.c2)) (aI x y):=rfl
theorem Lx {K:Type} [CR K] [CP K] (k:K) (x y:Cb K):Cb.of k*(x*y)=⟨k*(x.a*y.a)+CP.cr*(k*(x.b*y.c+x.c*y.b)),k*(x.a*y.b+x.b*y.a)+CP.cr*(k*(x.c*y.c)),k*(x.a*y.c+x.c*y.a)+k*(x.b*y.b)⟩:=by
 rw [Cb.of_times]
 exact Cb.ext' (by rw [Cb.mul_a];grind) (by rw [Cb.mul_b];grind) (by rw [Cb.mul_c];grind)
theorem Pp {a b:Fp6} (ha:a.ok) (hb:b.ok):(ef a b).ok/\(ef a b).v=ri6*(a.v*b.v):=by
 obtain ⟨p1,p2⟩:=EH ha.2.1 ha.2.2 hb.2.1 hb.2.2
 obtain ⟨q1,q2⟩:=EH ha.1 ha.2.1 hb.1 hb.2.1
 obtain ⟨r1,r2⟩:=EH ha.1 ha.2.2 hb.1 hb.2.2
 have h0:=ap ha.1 hb.1
 have h1:=ap ha.2.1 hb.2.1
 have h2:=ap ha.2.2 hb.2.2
 have e:ri6*(a.v*b.v)=_:=Lx ri2 a.v b.v
 rw [Tz,e,TT,TV,TU]
 refine ⟨Fp6.mk_ok (bh h0 (jT p1)) (bh q1 (jT h2)) (bh r1 h1),Fp6.mk_v ?_ ?_ ?_⟩
 ·rw [gY h0 (jT p1),A5 p1,p2,jg ha.1 hb.1]
  rfl
 ·rw [gY q1 (jT h2),A5 h2,q2,jg ha.2.2 hb.2.2]
  rfl
 ·rw [gY r1 h1,r2,jg ha.2.1 hb.2.1]
  rfl
theorem oX {a b:Fp6} (ha:a.ok) (hb:b.ok):(ef a b).ok:=(Pp ha hb).1
theorem pJ {a b:Fp6} (ha:a.ok) (hb:b.ok):(ef a b).v=ri6*(a.v*b.v):=(Pp ha hb).2
theorem tm {a b:Fp6} (ha:a.ok) (hb:b.ok):(nR a b).ok:=by rw [Iy];exact tL (oX ha hb)
theorem JH {R:Type} [CR R] {r i x y:R} (h:r*i=1):r*(i*(x*y))=x*y:=by grind
theorem EZ {a b:Fp6} (ha:a.ok) (hb:b.ok):(nR a b).v=a.v*b.v:=by
 rw [Iy,zf (oX ha hb),pJ ha hb]
 exact JH aau
theorem YL {f0 f1 f3:Fp2->Fp2->Fp2} {f2:Fp2->Fp2} {f4:Fp2->Fp2 × Int} {a:Fp6} {d:Fp2} (hd:f3 (f1 a.c0 (f0 (f1 a.c0 a.c0) (f2 (f1 a.c1 a.c2)))) (f2 (f3 (f1 a.c2 (f0 (f2 (f1 a.c2 a.c2)) (f1 a.c0 a.c1))) (f1 a.c1 (f0 (f1 a.c1 a.c1) (f1 a.c0 a.c2)))))=d) (h:(f4 d).2=7):lI f0 f1 f2 f3 f4 a=(zeroFp6,7):=by
 unfold lI
 rw [hd,h]
 rfl
theorem Ti {f0 f1 f3:Fp2->Fp2->Fp2} {f2:Fp2->Fp2} {f4:Fp2->Fp2 × Int} {a:Fp6} {d:Fp2} (hd:f3 (f1 a.c0 (f0 (f1 a.c0 a.c0) (f2 (f1 a.c1 a.c2)))) (f2 (f3 (f1 a.c2 (f0 (f2 (f1 a.c2 a.c2)) (f1 a.c0 a.c1))) (f1 a.c1 (f0 (f1 a.c1 a.c1) (f1 a.c0 a.c2)))))=d) (h:(f4 d).2=0) :
  lI f0 f1 f2 f3 f4 a=(⟨f1 (f0 (f1 a.c0 a.c0) (f2 (f1 a.c1 a.c2))) (f4 d).1,f1 (f0 (f2 (f1 a.c2 a.c2)) (f1 a.c0 a.c1)) (f4 d).1,f1 (f0 (f1 a.c1 a.c1) (f1 a.c0 a.c2)) (f4 d).1⟩,0):=by
 unfold lI
 rw [hd,h]
 rfl
theorem agx {a:Fp6} (ha:a.ok):(aH (b9 a.c0 a.c0) (iW (b9 a.c1 a.c2))).ok/\(aH (b9 a.c0 a.c0) (iW (b9 a.c1 a.c2))).v=a.v.adj.a /\
  (aH (iW (b9 a.c2 a.c2)) (b9 a.c0 a.c1)).ok/\(aH (iW (b9 a.c2 a.c2)) (b9 a.c0 a.c1)).v=a.v.adj.b/\(aH (b9 a.c1 a.c1) (b9 a.c0 a.c2)).ok/\(aH (b9 a.c1 a.c1) (b9 a.c0 a.c2)).v=a.v.adj.c:=by
 obtain ⟨h0,h1,h2⟩:=ha
 have m00:=ck h0 h0
 have m12:=ck h1 h2
 have m22:=ck h2 h2
 have m01:=ck h0 h1
 have m11:=ck h1 h1
 have m02:=ck h0 h2
 refine ⟨bX m00 (jT m12),?_,bX (jT m22) m01,?_,bX m11 m02,?_⟩
 ·rw [l7 m00 (jT m12),A5 m12,dj h0 h0,dj h1 h2]
  rfl
 ·rw [l7 (jT m22) m01,A5 m22,dj h2 h2,dj h0 h1]
  rfl
 ·rw [l7 m11 m02,dj h1 h1,dj h0 h2]
  rfl
def Mx (a:Fp6):Fp2:=aI (b9 a.c0 (aH (b9 a.c0 a.c0) (iW (b9 a.c1 a.c2)))) (iW (aI (b9 a.c2 (aH (iW (b9 a.c2 a.c2)) (b9 a.c0 a.c1))) (b9 a.c1 (aH (b9 a.c1 a.c1) (b9 a.c0 a.c2)))))
theorem aj4 {a:Fp6} (ha:a.ok):(Mx a).ok/\(Mx a).v=a.v.norm:=by
 obtain ⟨p0,q0,p1,q1,p2,q2⟩:=agx ha
 obtain ⟨h0,h1,h2⟩:=ha
 unfold Mx
 generalize aH (b9 a.c0 a.c0) (iW (b9 a.c1 a.c2))=x at *
 generalize aH (iW (b9 a.c2 a.c2)) (b9 a.c0 a.c1)=y at *
 generalize aH (b9 a.c1 a.c1) (b9 a.c0 a.c2)=z at *
 have m0:=ck h0 p0
 have m2:=ck h2 p1
 have m1:=ck h1 p2
 refine ⟨bh m0 (jT (bh m2 m1)),?_⟩
 rw [gY m0 (jT (bh m2 m1)),A5 (bh m2 m1),gY m2 m1,dj h0 p0,dj h2 p1,dj h1 p2,q0,q1,q2]
 rfl
theorem Cb.norm_zero {K:Type} [CR K] [CP K]:(0:Cb K).norm=0:=by
 unfold Cb.norm
 show (0:K)*(0*0-CP.cr*(0*0))+CP.cr*(0*(CP.cr*(0*0)-0*0)+0*(0*0-0*0))=0
 grind
theorem V6.norm_ne {x:V6} (h:x ≠ 0):x.norm ≠ 0:=fun e=>by
 have h1:=Cb.mul_adj x
 have h2:=bl h
 have h3:x*Fld.inv x=1:=h2
 have h4:=Cb.norm_mul x (Fld.inv x)
 rw [h3,e] at h4
 have h5:(1:V6).norm=1:=by
  unfold Cb.norm
  show (1:V2)*(1*1-CP.cr*(0*0))+CP.cr*(0*(CP.cr*(0*0)-1*0)+0*(0*0-1*0))=1
  generalize (CP.cr:V2)=k
  grind
 rw [h5] at h4
 exact cL (K:=V2) (by rw [h4];exact CR.zero_mul _)
theorem V6.inv_eq {x:V6} (h:x ≠ 0):Fld.inv x=Cb.of (Fld.inv x.norm)*x.adj:=by
 refine (ow ?_).symm
 have h1:=Cb.mul_adj x
 have h2:Cb.of x.norm*Cb.of (Fld.inv x.norm)=(1:V6):=by rw [<- Cb.of_mul,bl (V6.norm_ne h)];rfl
 generalize Cb.of (Fld.inv x.norm)=k at *
 rw [<- h1] at h2
 generalize x.adj=y at *
 grind
theorem ah0 {a:Fp6} (ha:a.ok):(a.v=0->sN a=(zeroFp6,7))/\(a.v ≠ 0->(sN a).2=0/\(sN a).1.ok/\(sN a).1.v=Fld.inv a.v):=by
 obtain ⟨d1,d2⟩:=aj4 ha
 obtain ⟨h1,h2⟩:=AP d1
 rw [d2] at h1 h2
 unfold sN
 constructor
 ·intro h
  exact YL (d:=Mx a) rfl (congrArg Prod.snd (h1 (by rw [h];exact Cb.norm_zero)))
 ·intro h
  obtain ⟨i1,i2,i3⟩:=h2 (V6.norm_ne h)
  obtain ⟨p0,q0,p1,q1,p2,q2⟩:=agx ha
  rw [Ti (d:=Mx a) rfl i1]
  simp only []
  refine ⟨trivial,Fp6.mk_ok (ck p0 i2) (ck p1 i2) (ck p2 i2),?_⟩
  rw [V6.inv_eq h,Cb.of_times]
  refine Fp6.mk_v ?_ ?_ ?_
  ·rw [dj p0 i2,q0,i3];exact CR.mul_comm _ _
  ·rw [dj p1 i2,q1,i3];exact CR.mul_comm _ _
  ·rw [dj p2 i2,q2,i3];exact CR.mul_comm _ _
end
section
def Fp12.ok (a:Fp12):Prop:=a.c0.ok/\a.c1.ok
def Fp12.v (a:Fp12):V12:=⟨a.c0.v,a.c1.v⟩
theorem Fp12.v_a (a:Fp12):a.v.a=a.c0.v:=rfl
theorem Fp12.v_b (a:Fp12):a.v.b=a.c1.v:=rfl
theorem Fp12.mk_ok {a b:Fp6} (ha:a.ok) (hb:b.ok):(⟨a,b⟩:Fp12).ok:=⟨ha,hb⟩
theorem Fp12.mk_v {a b:Fp6} {x:V12} (ha:a.v=x.a) (hb:b.v=x.b):(⟨a,b⟩:Fp12).v=x:=Qd.ext' ha hb
theorem Fp12.v_inj {a b:Fp12} (ha:a.ok) (hb:b.ok) (h:a.v=b.v):a=b:=by
 have h1:a.c0=b.c0:=Fp6.v_inj ha.1 hb.1 (congrArg Qd.a h)
 have h2:a.c1=b.c1:=Fp6.v_inj ha.2 hb.2 (congrArg Qd.b h)
 cases a;cases b
 simp only [] at h1 h2
 subst h1 h2
 rfl
theorem Zc {a b:Fp12} (ha:a.ok) (hb:b.ok):r9 a b=true <-> a.v=b.v:=⟨fun h=>by rw [(yE a b).1 h],fun h=>(yE a b).2 (Fp12.v_inj ha hb h)⟩
theorem yN (a:Fp12):cM a=⟨a.c0,nP a.c1⟩:=by unfold cM uD;rfl
theorem uK (a:Fp12):bi a=⟨eo a.c0,eo a.c1⟩:=by unfold bi qL;rfl
theorem B8 (a:Fp12):fj a=⟨rk a.c0,rk a.c1⟩:=by unfold fj zS;rfl
theorem Dx (f0 f1 f2:Fp6->Fp6->Fp6) (f3:Fp6->Fp6) (a b:Fp12):up f0 f1 f2 f3 a b=⟨f1 (f0 a.c0 b.c0) (f3 (f0 a.c1 b.c1)),f2 (f0 (f1 a.c0 a.c1) (f1 b.c0 b.c1)) (f1 (f0 a.c0 b.c0) (f0 a.c1 b.c1))⟩:=rfl
theorem Mh (a b:Fp12):ax a b=⟨ng (ef a.c0 b.c0) (uM (ef a.c1 b.c1)),io (ef (ng a.c0 a.c1) (ng b.c0 b.c1)) (ng (ef a.c0 b.c0) (ef a.c1 b.c1))⟩:=Dx ef ng io uM a b
theorem ui:fg=oneFp12:=rfl
theorem oQ:oneFp12.ok:=⟨adS,yZ⟩
theorem DN:oneFp12.v=1:=Qd.ext' agL N6
theorem uB {a:Fp12} (ha:a.ok):(cM a).ok:=by rw [yN];exact Fp12.mk_ok ha.1 (OR ha.2)
theorem Vt {a:Fp12} (ha:a.ok):(cM a).v=a.v.conj:=by rw [yN];exact Fp12.mk_v rfl (aah ha.2)
def aav:V12:=Qd.of rv6
def pU:V12:=Qd.of ri6
theorem Oq:aav*pU=1:=by unfold aav pU;rw [<- Qd.of_mul,aau];rfl
theorem Qd.of_times {K:Type} [CR K] [QP K] (k:K) (x:Qd K):Qd.of k*x=⟨k*x.a,k*x.b⟩:=Qd.ext'
 (by rw [Qd.mul_a];show k*x.a+QP.nr*(0*x.b)=_;grind)
 (by rw [Qd.mul_b];show k*x.b+0*x.a=_;grind)
theorem qK {a:Fp12} (ha:a.ok):(bi a).ok:=by rw [uK];exact Fp12.mk_ok (tL ha.1) (tL ha.2)
theorem Bu {a:Fp12} (ha:a.ok):(bi a).v=aav*a.v:=by
 unfold aav
 rw [uK,Qd.of_times]
 exact Fp12.mk_v (zf ha.1) (zf ha.2)
theorem IF {a:Fp12} (ha:a.ok):(fj a).ok:=by rw [B8];exact Fp12.mk_ok (O1 ha.1) (O1 ha.2)
theorem acF {a:Fp12} (ha:a.ok):(fj a).v=pU*a.v:=by
 unfold pU
 rw [B8,Qd.of_times]
 exact Fp12.mk_v (aaj ha.1) (aaj ha.2)
theorem Gl {K:Type} [CR K] [QP K] (k:K) (x y:Qd K):Qd.of k*(x*y)=⟨k*(x.a*y.a)+QP.nr*(k*(x.b*y.b)),k*((x.a+x.b)*(y.a+y.b))-(k*(x.a*y.a)+k*(x.b*y.b))⟩:=by
 rw [Qd.of_times]
 exact Qd.ext' (by rw [Qd.mul_a];grind) (by rw [Qd.mul_b];grind)
theorem IY {a b:Fp12} (ha:a.ok) (hb:b.ok):(ax a b).ok/\(ax a b).v=pU*(a.v*b.v):=by
 have h0:=oX ha.1 hb.1
 have h1:=oX ha.2 hb.2
 have s0:=tD ha.1 ha.2
 have s1:=tD hb.1 hb.2
 have h2:=oX s0 s1
 have e:pU*(a.v*b.v)=_:=Gl ri6 a.v b.v
 rw [Mh,e]
 refine ⟨Fp12.mk_ok (tD h0 (E4 h1)) (DS h2 (tD h0 h1)),Fp12.mk_v ?_ ?_⟩
 ·rw [E3 h0 (E4 h1),afQ h1,pJ ha.1 hb.1,pJ ha.2 hb.2]
  rfl
 ·rw [M8 h2 (tD h0 h1),E3 h0 h1,pJ s0 s1,E3 ha.1 ha.2,E3 hb.1 hb.2,pJ ha.1 hb.1,pJ ha.2 hb.2]
  rfl
theorem dL {a b:Fp12} (ha:a.ok) (hb:b.ok):(ax a b).ok:=(IY ha hb).1
theorem Hw {a b:Fp12} (ha:a.ok) (hb:b.ok):(ax a b).v=pU*(a.v*b.v):=(IY ha hb).2
section
variable {f0 f1 : Fp6 -> Fp6 -> Fp6} {f2 f4 : Fp6 -> Fp6} {f3 : Fp6 -> Fp6 × Int} {a : Fp12}
theorem Tq (h:(f3 (f0 (f1 a.c0 a.c0) (f2 (f1 a.c1 a.c1)))).2=7):jq f0 f1 f2 f3 f4 a=(sh,7):=by
 unfold jq
 rw [h]
 rfl
theorem L6 (h:(f3 (f0 (f1 a.c0 a.c0) (f2 (f1 a.c1 a.c1)))).2=0):jq f0 f1 f2 f3 f4 a=(⟨f1 a.c0 (f3 (f0 (f1 a.c0 a.c0) (f2 (f1 a.c1 a.c1)))).1,f4 (f1 a.c1 (f3 (f0 (f1 a.c0 a.c0) (f2 (f1 a.c1 a.c1)))).1)⟩,0):=by
 unfold jq
 rw [h]
 rfl
end
theorem XG {a:Fp12} (ha:a.ok):(io (nR a.c0 a.c0) (uM (nR a.c1 a.c1))).ok/\(io (nR a.c0 a.c0) (uM (nR a.c1 a.c1))).v=a.v.norm:=by
 have m0:=tm ha.1 ha.1
 have m1:=tm ha.2 ha.2
 refine ⟨DS m0 (E4 m1),?_⟩
 rw [M8 m0 (E4 m1),afQ m1,EZ ha.1 ha.1,EZ ha.2 ha.2]
 rfl
theorem Qd.norm_zero {K:Type} [CR K] [QP K]:(0:Qd K).norm=0:=by
 unfold Qd.norm
 rw [Qd.zero_a,Qd.zero_b]
 grind
theorem Qd.inv_a {K:Type} [Fld K] [QF K] (x:Qd K):(Fld.inv x).a=x.a*Fld.inv x.norm:=rfl
theorem Qd.inv_b {K:Type} [Fld K] [QF K] (x:Qd K):(Fld.inv x).b = -(x.b*Fld.inv x.norm):=rfl
theorem aeJ {a:Fp12} (ha:a.ok):(a.v=0->iC a=(sh,7))/\(a.v ≠ 0->(iC a).2=0/\(iC a).1.ok/\(iC a).1.v=Fld.inv a.v):=by
 obtain ⟨d1,d2⟩:=XG ha
 obtain ⟨h1,h2⟩:=ah0 d1
 rw [d2] at h1 h2
 unfold iC
 constructor
 ·intro h
  exact Tq (congrArg Prod.snd (h1 (by rw [h];exact Qd.norm_zero)))
 ·intro h
  obtain ⟨i1,i2,i3⟩:=h2 (Qd.norm_ne h)
  rw [L6 i1]
  simp only []
  refine ⟨trivial,Fp12.mk_ok (tm ha.1 i2) (OR (tm ha.2 i2)),?_⟩
  refine Fp12.mk_v ?_ ?_
  ·rw [EZ ha.1 i2,i3,Qd.inv_a,Fp12.v_a]
  ·rw [aah (tm ha.2 i2),EZ ha.2 i2,i3,Qd.inv_b,Fp12.v_b]
theorem oR {R:Type} [CR R] (x:R):1*x=x:=by grind
theorem tO {R:Type} [CR R] {r i x:R} (h:r*i=1):i*(r*x)=x:=by grind
theorem WB {a:Fp12} (ha:a.ok) (e:List UInt64):(cU a e).ok/\pU*(cU a e).v=(pU*a.v) ^ iJ e (64*e.length):=by
 have h:=Oq
 unfold cU
 rw [ui]
 obtain ⟨h1,h2⟩:=Fg (mF:=ax) Fp12.ok (fun x=>pU*x.v) dL (fun {a b} ha hb=>by
  show pU*(ax a b).v=pU*a.v*(pU*b.v)
  rw [Hw ha hb]
  generalize pU=i at *
  grind) ha e (64*e.length) (qK oQ)
 refine ⟨h1,?_⟩
 rw [h2,Bu oQ,DN,show pU*(aav*1)=1 by generalize pU=i at *;generalize aav=r at *;grind,bq]
 exact oR _
end
set_option maxRecDepth 100000
section
def Fp.w (a:Fp):V1:=ri*a.v
def Fp2.w (a:Fp2):V2:=ri2*a.v
def Fp12.w (a:Fp12):V12:=pU*a.v
theorem Oo {R:Type} [CR R] (i x y:R):i*(i*(x*y))=i*x*(i*y):=by grind
theorem ag1 {R:Type} [CR R] (i x y:R):i*(x+y)=i*x+i*y:=by grind
theorem agY {R:Type} [CR R] (i x y:R):i*(x-y)=i*x-i*y:=by grind
theorem agZ {R:Type} [CR R] (i x:R):i * -x = -(i*x):=by grind
theorem ag0 {R:Type} [CR R] (i x y:R):i*(x*y)=x*(i*y):=by grind
theorem Hp {a:Fp} (ha:a.ok):(bj a).w=a.v:=by
 unfold Fp.w
 rw [wV ha,tO E7]
theorem dA {a b:Fp2} (ha:a.ok) (hb:b.ok):(ag a b).w=a.w*b.w:=by
 unfold Fp2.w
 rw [jg ha hb,Oo]
theorem M6 {a b:Fp2} (ha:a.ok) (hb:b.ok):(aI a b).w=a.w+b.w:=by
 unfold Fp2.w
 rw [gY ha hb,ag1]
theorem rT {a b:Fp2} (ha:a.ok) (hb:b.ok):(aH a b).w=a.w-b.w:=by
 unfold Fp2.w
 rw [l7 ha hb,agY]
theorem agJ {a:Fp2} (ha:a.ok):(kD a).w = -a.w:=by
 unfold Fp2.w
 rw [aai ha,agZ]
theorem ajp {a:Fp2} (ha:a.ok):(iW a).w=xi*a.w:=by
 unfold Fp2.w
 rw [A5 ha,ag0]
theorem pH {a:Fp2} (ha:a.ok):(dm a).w=a.w.conj:=by
 unfold Fp2.w
 rw [wW ha,Qd.conj_mul]
 unfold ri2
 rw [nv]
theorem oJ {a:Fp2} (ha:a.ok):(ay a).w=a.v:=by
 unfold Fp2.w
 rw [jf ha,tO vJ]
theorem aae {a:Fp2} (ha:a.ok):(gu a).v=a.w:=Ao ha
theorem acB:zeroFp2.w=0:=by unfold Fp2.w;rw [j0];generalize ri2=i;grind
theorem afP (a:Fp):(⟨a,zeroFp⟩:Fp2).w=Qd.of a.w:=by
 unfold Fp2.w Fp.w ri2
 rw [ajH,Qd.of_times]
 exact Qd.ext' rfl (show ri*0=(0:V1) by generalize ri=i;grind)
theorem aaD {a b:Fp2} (ha:a.ok) (hb:b.ok) (h:b.w ≠ 0):(cR a b).ok/\(cR a b).w=a.w*Fld.inv b.w:=by
 obtain ⟨_,h2,h3⟩:=(AP (tq hb)).2 (by rw [aae hb];exact h)
 have e:cR a b=ag a (ay (jd (gu b)).1):=rfl
 rw [e]
 exact ⟨ap ha (cw h2),by rw [dA ha (cw h2),oJ h2,h3,aae hb]⟩
theorem Wj (z:V12):pU*z=⟨⟨ri2*z.a.a,ri2*z.a.b,ri2*z.a.c⟩,⟨ri2*z.b.a,ri2*z.b.b,ri2*z.b.c⟩⟩:=by
 unfold pU
 rw [Qd.of_times]
 unfold ri6
 refine Qd.ext' ?_ ?_
 ·show Cb.of ri2*z.a=_
  generalize ri2=i
  exact Cb.ext' (by rw [Cb.mul_a];show i*z.a.a+CP.cr*(0*z.a.c+0*z.a.b)=i*z.a.a;grind) (by rw [Cb.mul_b];show i*z.a.b+0*z.a.a+CP.cr*(0*z.a.c)=i*z.a.b;grind) (by rw [Cb.mul_c];show i*z.a.c+0*z.a.b+0*z.a.a=i*z.a.c;grind)
 ·show Cb.of ri2*z.b=_
  generalize ri2=i
  exact Cb.ext' (by rw [Cb.mul_a];show i*z.b.a+CP.cr*(0*z.b.c+0*z.b.b)=i*z.b.a;grind) (by rw [Cb.mul_b];show i*z.b.b+0*z.b.a+CP.cr*(0*z.b.c)=i*z.b.b;grind) (by rw [Cb.mul_c];show i*z.b.c+0*z.b.b+0*z.b.a=i*z.b.c;grind)
theorem M5 (a b c d e f:Fp2):(⟨⟨a,b,c⟩,⟨d,e,f⟩⟩:Fp12).w=⟨⟨a.w,b.w,c.w⟩,⟨d.w,e.w,f.w⟩⟩:=by
 unfold Fp12.w
 rw [Wj]
 rfl
theorem fS {a b:Fp12} (ha:a.ok) (hb:b.ok):(ax a b).w=a.w*b.w:=by
 unfold Fp12.w
 rw [Hw ha hb,Oo]
theorem za {a:Fp12} (ha:a.ok):(cM a).w=a.w.conj:=by
 unfold Fp12.w
 rw [Vt ha,Qd.conj_mul]
 unfold pU
 rw [show (Qd.of ri6:V12)=e6 ri6 from rfl,nD]
theorem Bt {a:Fp12} (ha:a.ok):(bi a).w=a.v:=by
 unfold Fp12.w
 rw [Bu ha,tO Oq]
theorem DM {a:Fp12} (ha:a.ok):(fj a).v=a.w:=acF ha
theorem abg {t:Pg2} {s:Fp2} {p:Pg1} (tx:t.x.ok) (ty:t.y.ok) (hs:s.ok) (px:p.x.ok) (py:p.y.ok):(fD t s p).ok/\(fD t s p).w=lnW p.x.w p.y.w s.w t.x.w t.y.w:=by
 have e:fD t s p=⟨⟨iW ⟨p.y,zeroFp⟩,zeroFp2,zeroFp2⟩,⟨zeroFp2,aH (ag s t.x) t.y,kD (ag s ⟨p.x,zeroFp⟩)⟩⟩:=rfl
 have oy:(⟨p.y,zeroFp⟩:Fp2).ok:=⟨py,bI⟩
 have ox:(⟨p.x,zeroFp⟩:Fp2).ok:=⟨px,bI⟩
 have o1:=ap hs tx
 have o2:=ap hs ox
 rw [e,M5,ajp oy,afP,acB,rT o1 ty,dA hs tx,agJ o2,dA hs ox,afP]
 exact ⟨⟨⟨jT oy,dn,dn⟩,dn,bX o1 ty,OS o2⟩,rfl⟩
theorem aku {t:Pg2} {s x:Fp2} (tx:t.x.ok) (ty:t.y.ok) (hs:s.ok) (hx:x.ok):(mK t s x).x.ok/\(mK t s x).y.ok/\(mK t s x).x.w=onX s.w t.x.w x.w/\(mK t s x).y.w=onY s.w t.x.w t.y.w (onX s.w t.x.w x.w):=by
 have e1:(mK t s x).x=aH (aH (ag s s) t.x) x:=rfl
 have e2:(mK t s x).y=aH (ag s (aH t.x (mK t s x).x)) t.y:=rfl
 have o1:=ap hs hs
 have o2:=bX o1 tx
 have o3:=bX o2 hx
 rw [<- e1] at o3
 have o4:=bX tx o3
 have o5:=ap hs o4
 have w1:(mK t s x).x.w=onX s.w t.x.w x.w:=by
  rw [e1,rT o2 hx,rT o1 tx,dA hs hs]
  rfl
 refine ⟨o3,by rw [e2];exact bX o5 ty,w1,?_⟩
 rw [e2,rT o5 ty,dA hs o4,rT tx o3,w1]
 rfl
structure RelM (s : Fp12 × Pg2) (S : R3) : Prop where
 of:s.1.ok
 wf:s.1.w=S.1
 ox:s.2.x.ok
 oy:s.2.y.ok
 wx:s.2.x.w=S.2.1
 wy:s.2.y.w=S.2.2
theorem VE {y:V2} (h:y ≠ 0):y+y ≠ 0:=fun e=>by
 have:(2:V2)*y=0:=by rw [<- e];grind
 exact aG V2.two_ne h this
theorem Wr {p:Pg1} (px:p.x.ok) (py:p.y.ok) {s:Fp12 × Pg2} {S:R3} (h:RelM s S) (hy:S.2.2 ≠ 0):RelM (vk ag aI cR ax fD mK p s) (Ob p.x.w p.y.w S):=by
 obtain ⟨f,t⟩:=s
 obtain ⟨F,X,Y⟩:=S
 obtain ⟨of,wf,ox,oy,wx,wy⟩:=h
 simp only [] at of wf ox oy wx wy hy
 have oh:=ap ox ox
 have oa:=bh oh oh
 have ob:=bh oa oh
 have od:=bh oy oy
 have wd:(aI t.y t.y).w=Y+Y:=by rw [M6 oy oy,wy]
 obtain ⟨os,ws⟩:=aaD ob od (by rw [wd];exact VE hy)
 have wt:(Og ag aI cR t).w=DP X Y:=by
  unfold Og
  rw [ws,M6 oa oh,M6 oh oh,dA ox ox,wd,wx]
  rfl
 have ot:(Og ag aI cR t).ok:=os
 obtain ⟨ol,wl⟩:=abg ox oy ot px py
 obtain ⟨nx,ny,mx,my⟩:=aku ox oy ot ox
 have of2:=dL of of
 rw [Nb]
 refine ⟨dL of2 ol,?_,nx,ny,?_,?_⟩
 ·show (ax (ax f f) (fD t (Og ag aI cR t) p)).w=_
  rw [fS of2 ol,fS of of,wl,wf,wt,wx,wy]
 ·show (mK t (Og ag aI cR t) t.x).x.w=_
  rw [mx,wt,wx]
 ·show (mK t (Og ag aI cR t) t.x).y.w=_
  rw [my,wt,wx,wy]
theorem Ws {p:Pg1} (px:p.x.ok) (py:p.y.ok) {q:Pg2} (qx:q.x.ok) (qy:q.y.ok) {s:Fp12 × Pg2} {S:R3} (h:RelM s S) (hx:S.2.1 ≠ q.x.w):RelM (LI aH cR ax fD mK p q s) (abQ p.x.w p.y.w q.x.w q.y.w S):=by
 obtain ⟨f,t⟩:=s
 obtain ⟨F,X,Y⟩:=S
 obtain ⟨of,wf,ox,oy,wx,wy⟩:=h
 simp only [] at of wf ox oy wx wy hx
 have o1:=bX qy oy
 have o2:=bX qx ox
 have wd:(aH q.x t.x).w=q.x.w-X:=by rw [rT qx ox,wx]
 obtain ⟨os,ws⟩:=aaD o1 o2 (by rw [wd];exact fun e=>hx (aA e).symm)
 have wt:(PR aH cR q t).w=EM q.x.w q.y.w X Y:=by
  unfold PR
  rw [ws,wd,rT qy oy,wy]
  rfl
 have ot:(PR aH cR q t).ok:=os
 obtain ⟨ol,wl⟩:=abg ox oy ot px py
 obtain ⟨nx,ny,mx,my⟩:=aku ox oy ot qx
 rw [ER]
 refine ⟨dL of ol,?_,nx,ny,?_,?_⟩
 ·show (ax f (fD t (PR aH cR q t) p)).w=_
  rw [fS of ol,wl,wf,wt,wx,wy]
 ·show (mK t (PR aH cR q t) q.x).x.w=_
  rw [mx,wt,wx]
 ·show (mK t (PR aH cR q t) q.x).y.w=_
  rw [my,wt,wx,wy]
theorem MlOk.y_ne {px py:V1} {h:PtOk px py} {q:Pt V2} {j:Nat} {s:R3} (k:MlOk px py h q j s) (hq:q.on):s.2.2 ≠ 0:=by
 have ho:=ci hq j
 rw [k.pt] at ho
 exact Go.Proofs.YtgpafcehehaiiaaGreat.y_ne ho
theorem MlOk.far {px py:V1} {h:PtOk px py} {qx qy:V2} {j:Nat} {s:R3} (k:MlOk px py h (.aff qx qy) j s) (hq:(Pt.aff qx qy).sub qN) (h1:1<j) (h2:j+1<qN):s.2.1 ≠ qx:=by
 obtain ⟨f,x,y⟩:=s
 obtain ⟨k1,k2,k3⟩:=k
 have k2:(Pt.aff qx qy).mul j = .aff x y:=k2
 have hi:Pt.aff qx qy ≠ .inf:=fun e=>by cases e
 have ho:(Pt.aff x y).on:=by rw [<- k2];exact ci hq.1 j
 show x ≠ qx
 intro e
 subst e
 rcases k7 ho hq.1 with e | e
 ·rw [e] at k2
  obtain ⟨m,rfl⟩ : ∃ m,j=m+1:=⟨j-1,by omega⟩
  have c:=iU hq.1 (ci hq.1 m)
  rw [aB hq.1 (ci hq.1 m),<- aJ,k2,bE hq.1] at c
  exact iw hq.1 hi hq.2 (k:=m) (by omega) (by omega) c.symm
 ·have c:(Pt.aff x qy).mul (j+1) = .inf:=by
   rw [aJ,k2,e,aB ho (b8 ho),bE ho]
  exact iw hq.1 hi hq.2 (k:=j+1) (by omega) h2 c
theorem zL {p:Pg1} (px:p.x.ok) (py:p.y.ok) {q:Pg2} (qx:q.x.ok) (qy:q.y.ok) {h:PtOk p.x.w p.y.w} (hq:(Pt.aff q.x.w q.y.w).sub qN) : ∀ (n:Nat) (s:Fp12 × Pg2) (S:R3),RelM s S->MlOk p.x.w p.y.w h (.aff q.x.w q.y.w) (tN / 2 ^ n) S ->
  RelM (nU ag aI aH cR ax fD mK p q n s) (mlV p.x.w p.y.w q.x.w q.y.w n S)
 | 0,s,S,r,k=>r
 | n+1,s,S,r,k=>by
  have hb:=Nat.testBit_eq_decide_div_mod_eq (i:=n) (x:=tN)
  have hj:tN / 2 ^ (n+1)=tN / 2 ^ n / 2:=by rw [Nat.pow_succ,Nat.div_div_eq_div_mul]
  have hle:tN / 2 ^ n<=tN:=Nat.div_le_self _ _
  have hlt:=afV
  have k1:=k.two ae6 agn hq
  have j1:=k.j1
  have r1:=Wr px py r (k.y_ne hq.1)
  unfold mlV nU
  rw [show loopN=tN from rfl,hb]
  rw [hj] at k1 j1
  clear hb hj
  generalize hm:tN / 2 ^ n=m at *
  rcases Nat.mod_two_eq_zero_or_one m with e | e
  ·rw [e]
   refine zL (h:=h) px py qx qy hq n _ _ r1 ?_
   rw [hm,show m=m / 2+m / 2 by omega]
   exact k1
  ·rw [e]
   refine zL (h:=h) px py qx qy hq n _ _ (Ws px py qx qy r1 (k1.far hq (by omega) (by omega))) ?_
   rw [hm,show m=m / 2+m / 2+1 by omega]
   exact k1.add hq (by omega) (by omega)
theorem ae7:cd 0=0:=lS _ (by decide +kernel)
theorem XS {z:V12} (h:cd z ^ qN=1):z ≠ 0:=fun e=>by
 rw [e,ae7,lS _ lp] at h
 exact cL (K:=V12) h.symm
theorem acO:tN / 2 ^ 63=1:=by decide +kernel
theorem one_w:prOne.ok/\prOne.w=1:=by
 have e:prOne=bi oneFp12:=(show prOne=bi fg from rfl).trans (by rw [ui])
 rw [e]
 exact ⟨qK oQ,by rw [Bt oQ,DN]⟩
theorem Yd {p:Pg1} {q:Pg2} (px:p.x.ok) (py:p.y.ok) (qx:q.x.ok) (qy:q.y.ok) (h:PtOk p.x.w p.y.w) (hq:(Pt.aff q.x.w q.y.w).sub qN) :
  (nU ag aI aH cR ax fD mK p q 63 (prOne,q)).1.ok/\cd (nU ag aI aH cR ax fD mK p q 63 (prOne,q)).1.w=prV (.aff p.x.w p.y.w) (.aff q.x.w q.y.w):=by
 have r0:RelM (prOne,q) (1,q.x.w,q.y.w):=⟨one_w.1,one_w.2,qx,qy,rfl,rfl⟩
 have k0:MlOk p.x.w p.y.w h (.aff q.x.w q.y.w) 1 (1,q.x.w,q.y.w):=⟨Nat.one_pos,eT _,by
  rw [show (1:Nat)=0+1 from rfl,P8,cN,Lv.c_inf]
  show cd 1=1*1
  rw [NQ,i5]⟩
 rw [<- acO] at k0
 have r:=zL px py qx qy hq 63 (prOne,q) (1,q.x.w,q.y.w) r0 k0
 refine ⟨r.of,?_⟩
 rw [r.wf,aaF ae6 agn h hq]
theorem Ye {p p':Pg1} {q q':Pg2} (px:p'.x.ok) (py:p'.y.ok) (qx:q'.x.ok) (qy:q'.y.ok) (w1:p'.x.w=p.x.v) (w2:p'.y.w=p.y.v) (w3:q'.x.w=q.x.v) (w4:q'.y.w=q.y.v) (h:PtOk p.x.v p.y.v) (hq:(Pt.aff q.x.v q.y.v).sub qN) :
  (nU ag aI aH cR ax fD mK p' q' 63 (prOne,q')).1.ok/\cd (nU ag aI aH cR ax fD mK p' q' 63 (prOne,q')).1.w=prV (.aff p.x.v p.y.v) (.aff q.x.v q.y.v):=by
 rw [<- w1,<- w2] at h
 rw [<- w3,<- w4] at hq
 rw [<- w1,<- w2,<- w3,<- w4]
 exact Yd px py qx qy h hq
theorem Yc {p:Pg1} {q:Pg2} (px:p.x.ok) (py:p.y.ok) (qx:q.x.ok) (qy:q.y.ok) (h:PtOk p.x.v p.y.v) (hq:(Pt.aff q.x.v q.y.v).sub qN) :
  (eE p q).ok/\cd (eE p q).w=prV (.aff p.x.v p.y.v) (.aff q.x.v q.y.v):=by
 unfold eE
 have o1:=jR px
 have o2:=jR py
 have o3:=cw qx
 have o4:=cw qy
 have w1:=Hp px
 have w2:=Hp py
 have w3:=oJ qx
 have w4:=oJ qy
 generalize bj p.x=a1 at *
 generalize bj p.y=a2 at *
 generalize ay q.x=a3 at *
 generalize ay q.y=a4 at *
 exact Ye (p':=⟨a1,a2,false⟩) (q':=⟨a3,a4,false⟩) o1 o2 o3 o4 w1 w2 w3 w4 h hq
theorem aig (a b c d e f:V2):(⟨⟨a,b,c⟩,⟨d,e,f⟩⟩:V12) ^ pN=⟨⟨a.conj,b.conj*(gg*gg),c.conj*(gg*gg*gg*gg)⟩,⟨d.conj*gg,e.conj*(gg*gg*gg),f.conj*(gg*gg*gg*gg*gg)⟩⟩:=by
 have h1:(⟨⟨a,b,c⟩,⟨d,e,f⟩⟩:V12)=(e2 a+e2 b*(ww*ww)+e2 c*(ww*ww*(ww*ww)))+(e2 d+e2 e*(ww*ww)+e2 f*(ww*ww*(ww*ww)))*ww:=by
  rw [xf ⟨⟨a,b,c⟩,⟨d,e,f⟩⟩,kX,kX]
 have h2:(⟨⟨a.conj,b.conj*(gg*gg),c.conj*(gg*gg*gg*gg)⟩,⟨d.conj*gg,e.conj*(gg*gg*gg),f.conj*(gg*gg*gg*gg*gg)⟩⟩:V12)=(e2 a.conj+e2 (b.conj*(gg*gg))*(ww*ww)+e2 (c.conj*(gg*gg*gg*gg))*(ww*ww*(ww*ww)))+(e2 (d.conj*gg)+e2 (e.conj*(gg*gg*gg))*(ww*ww)+e2 (f.conj*(gg*gg*gg*gg*gg))*(ww*ww*(ww*ww)))*ww:=by
  rw [xf ⟨⟨a.conj,b.conj*(gg*gg),c.conj*(gg*gg*gg*gg)⟩,⟨d.conj*gg,e.conj*(gg*gg*gg),f.conj*(gg*gg*gg*gg*gg)⟩⟩,kX,kX]
 rw [h1,h2]
 clear h1 h2
 simp only [NN,aY,Mu,afM,bw]
 generalize e2 a.conj=a'
 generalize e2 b.conj=b'
 generalize e2 c.conj=c'
 generalize e2 d.conj=d'
 generalize e2 e.conj=e'
 generalize e2 f.conj=f'
 generalize e2 gg=g
 generalize ww=w
 grind
theorem ac3:iJ sixthV.list (64*sixthV.list.length)=(pN-1) / 6:=by decide +kernel
theorem xi_fp2:xiFp2.ok/\xiFp2.v=xi:=⟨⟨kv,kv⟩,Qd.ext' A6 A6⟩
theorem VG:(ay (pg xiFp2 sixthV.list)).ok/\(ay (pg xiFp2 sixthV.list)).w=gg:=by
 obtain ⟨h1,h2⟩:=ahn xi_fp2.1 sixthV.list
 refine ⟨cw h1,?_⟩
 rw [oJ h1,h2,xi_fp2.2,ac3]
 rfl
theorem VF:(ay oneFp2).ok/\(ay oneFp2).w=1:=⟨cw kt,by rw [oJ kt,vE]⟩
theorem JO {k g:Fp2} (hk:k.ok/\k.w=1) (hg:g.ok/\g.w=gg) {a:Fp12} (ha:a.ok):(w6 k g dm ag a).ok/\(w6 k g dm ag a).w=a.w ^ pN:=by
 obtain ⟨⟨a0,a1,a2⟩,⟨b0,b1,b2⟩⟩:=a
 obtain ⟨⟨oa0,oa1,oa2⟩,⟨ob0,ob1,ob2⟩⟩:=ha
 obtain ⟨k0,kw⟩:=hk
 obtain ⟨g0,gw⟩:=hg
 have k1:=ap k0 g0
 have k2:=ap k1 g0
 have k3:=ap k2 g0
 have k4:=ap k3 g0
 have k5:=ap k4 g0
 have c0:=hJ oa0
 have c1:=hJ oa1
 have c2:=hJ oa2
 have d0:=hJ ob0
 have d1:=hJ ob1
 have d2:=hJ ob2
 refine ⟨⟨⟨ap c0 k0,ap c1 k2,ap c2 k4⟩,⟨ap d0 k1,ap d1 k3,ap d2 k5⟩⟩,?_⟩
 have e:w6 k g dm ag ⟨⟨a0,a1,a2⟩,⟨b0,b1,b2⟩⟩=⟨⟨ag (dm a0) k,ag (dm a1) (ag (ag k g) g),ag (dm a2) (ag (ag (ag (ag k g) g) g) g)⟩,⟨ag (dm b0) (ag k g),ag (dm b1) (ag (ag (ag k g) g) g),ag (dm b2) (ag (ag (ag (ag (ag k g) g) g) g) g)⟩⟩:=rfl
 rw [e,M5,M5,aig,dA c0 k0,dA c1 k2,dA c2 k4,dA d0 k1,dA d1 k3,dA d2 k5,pH oa0,pH oa1,pH oa2,pH ob0,pH ob1,pH ob2,
  dA k4 g0,dA k3 g0,dA k2 g0,dA k1 g0,dA k0 g0,kw,gw,oR,i5]
theorem oK {a:Fp12} (ha:a.ok):(dC a).ok/\(dC a).w=a.w ^ pN:=JO VF VG ha
theorem acX:iJ thirdL (64*thirdL.length)=(tN+1)*(tN+1) / 3:=by decide +kernel
theorem acd:iJ pwX (64*pwX.length)=tN:=by decide +kernel
theorem sx {a:Fp12} (ha:a.ok) (e:List UInt64):(cU a e).ok/\(cU a e).w=a.w ^ iJ e (64*e.length):=WB ha e
def tE:Nat:=(tN+1)*(tN+1) / 3
theorem RG:((pN ^ 6-1)*(pN*pN+1))*(((tE*tN)*pN ^ 6+tE*pN)*(tN*tN+(pN*pN+pN ^ 6)))+((pN ^ 6-1)*(pN*pN+1))=eN+(pN ^ 6*pN ^ 6-1)*(((((pN ^ 6-1)*(pN*pN+1))*(((tE*tN)*pN ^ 6+tE*pN)*(tN*tN+(pN*pN+pN ^ 6)))+((pN ^ 6-1)*(pN*pN+1)))-eN) / (pN ^ 6*pN ^ 6-1)):=by decide +kernel
theorem adC {a:Fp12} (ha:a.ok) (h0:a.w ≠ 0):(lq a).ok/\(lq a).w=cd a.w:=by
 obtain ⟨_,i2,i3⟩:=(aeJ (IF ha)).2 (by rw [DM ha];exact h0)
 have oc:=uB ha
 have oi:=qK i2
 have o0:=dL oc oi
 have w0:(pw0 iC fj bi cM ax a).w=a.w ^ (pN ^ 6-1):=by
  unfold pw0
  rw [fS oc oi,za ha,Bt i2,i3,DM ha,<- V12.p6]
  conv=>lhs;lhs;rw [Eh]
  rw [aq,CR.mul_assoc,bl h0]
  exact i5 _
 have o0:(pw0 iC fj bi cM ax a).ok:=o0
 unfold lq Fd
 generalize pw0 iC fj bi cM ax a=z at *
 obtain ⟨t1,t2⟩:=oK o0
 obtain ⟨t3,t4⟩:=oK t1
 have o1:(pw1 dC ax z).ok:=dL t3 o0
 have w1:(pw1 dC ax z).w=a.w ^ ((pN ^ 6-1)*(pN*pN+1)):=by
  unfold pw1
  rw [fS t3 o0,t4,t2,w0,<- aE,<- aE,<- cu]
  congr 1
 generalize pw1 dC ax z=u at *
 clear t1 t2 t3 t4 o0 w0 i2 i3 oc oi
 obtain ⟨r1,r2⟩:=sx o1 thirdL
 rw [acX] at r2
 obtain ⟨r3,r4⟩:=sx r1 pwX
 rw [acd] at r4
 obtain ⟨r5,r6⟩:=oK r1
 have r7:=uB r3
 have o2:(pwA cM dC ax cU thirdL u).ok:=dL r7 r5
 have w2:(pwA cM dC ax cU thirdL u).w=u.w ^ ((tE*tN)*pN ^ 6+tE*pN):=by
  unfold pwA
  rw [fS r7 r5,za r3,<- V12.p6,r4,r6,r2,<- aE,<- aE,<- aE,<- cu]
  rfl
 generalize pwA cM dC ax cU thirdL u=v at *
 clear r1 r2 r3 r4 r5 r6 r7
 obtain ⟨s1,s2⟩:=sx o2 pwX
 rw [acd] at s2
 obtain ⟨s3,s4⟩:=sx s1 pwX
 rw [acd] at s4
 obtain ⟨t1,t2⟩:=oK o2
 obtain ⟨t3,t4⟩:=oK t1
 have s5:=uB o2
 have s6:=dL t3 s5
 have o3:(pwB cM dC ax cU v).ok:=dL s3 s6
 have w3:(pwB cM dC ax cU v).w=v.w ^ (tN*tN+(pN*pN+pN ^ 6)):=by
  unfold pwB
  rw [fS s3 s6,fS t3 s5,za o2,<- V12.p6,s4,s2,t4,t2,<- aE,<- aE,<- cu,<- cu]
 generalize pwB cM dC ax cU v=x at *
 refine ⟨dL o3 o1,?_⟩
 rw [fS o3 o1,w3,w2,w1,<- aE,<- aE,<- cu,RG,cu,aE,pB h0 Im (V12.p12 a.w),bq]
 exact i5 _
end
section
theorem aeF {X Y Z:V1} (h:Jc X Y Z .inf):Z=0:=h
theorem YW (f0:Pg1->Bool) (f1:Fp->Bool) (f2:Sp1->List UInt64->Sp1) (f3:Pg1->Sp1) (f4:Fr) (a:Pg1):vT f0 f1 f2 f3 f4 a=(f0 a && f1 (f2 (f3 a) f4.list).z):=by
 unfold vT
 cases f0 a <;> rfl
theorem Rf {s:Sp1} {p:Pt V1} (h:v8 s p):il s.z=true <-> p = .inf:=by
 rw [qn h.1.2.2]
 constructor
 ·exact h.2.inf_of
 ·intro e
  subst e
  exact aeF h.2
theorem Ph (a:Pg1):AQ a=true <-> a.good/\a.pt.mul qN = .inf:=by
 have key:a.good->(il (j6 (dR a) rLimbs.list).z=true <-> a.pt.mul qN = .inf):=fun hg=>by
  rw [<- kf]
  exact Rf (QC hg.2 (Cd hg) rLimbs.list)
 unfold AQ
 rw [YW,Bool.and_eq_true,adW]
 exact ⟨fun h=>⟨h.1,(key h.1).1 h.2⟩,fun h=>⟨h.1,(key h.1).2 h.2⟩⟩
theorem two_nat:(⟨2,0,0,0⟩:Fr).nat=2:=by decide +kernel
end
section
theorem YF {X Y Z:V2} (h:Jc X Y Z .inf):Z=0:=h
theorem YT (f0:Pg2->Bool) (f1:Fp2->Bool) (f2:Fp6->List UInt64->Fp6) (f3:Pg2->Fp6) (f4:Fr) (a:Pg2):vS f0 f1 f2 f3 f4 a=(f0 a && f1 (f2 (f3 a) f4.list).c2):=by
 unfold vS
 cases f0 a <;> rfl
theorem Re {s:Fp6} {p:Pt V2} (h:BM s p):ik s.c2=true <-> p = .inf:=by
 rw [qm h.1.2.2]
 constructor
 ·exact h.2.inf_of
 ·intro e
  subst e
  exact YF h.2
theorem Pg (a:Pg2):u9 a=true <-> a.good/\a.pt.mul qN = .inf:=by
 have key:a.good->(ik (j5 (qp a) rLimbs.list).c2=true <-> a.pt.mul qN = .inf):=fun hg=>by
  rw [<- kf]
  exact Re (QB hg.2 (S9 hg) rLimbs.list)
 unfold u9
 rw [YT,Bool.and_eq_true,adV]
 exact ⟨fun h=>⟨h.1,(key h.1).1 h.2⟩,fun h=>⟨h.1,(key h.1).2 h.2⟩⟩
end
set_option maxRecDepth 100000
section
structure In1P (p : Pg1) : Prop where
 good:p.good
 sub:p.pt.mul qN = .inf
structure In2P (q : Pg2) : Prop where
 good:q.good
 sub:q.pt.mul qN = .inf
theorem In1P.pts {p:Pg1} (h:In1P p):p.pt.sub qN:=⟨h.good.2,h.sub⟩
theorem In2P.pts {q:Pg2} (h:In2P q):q.pt.sub qN:=⟨h.good.2,h.sub⟩
theorem may_in {p:Pg1} {q:Pg2}:qX p q=true <-> In1P p/\In2P q:=by
 have e:qX p q=(AQ p && u9 q):=by
  have:qX p q=match AQ p with | true=>u9 q | false=>false:=rfl
  rw [this]
  cases AQ p <;> rfl
 rw [e,Bool.and_eq_true,Ph,Pg]
 exact ⟨fun h=>⟨⟨h.1.1,h.1.2⟩,⟨h.2.1,h.2.2⟩⟩,fun h=>⟨⟨h.1.good,h.1.sub⟩,⟨h.2.good,h.2.sub⟩⟩⟩
theorem WL (p:Pt V1) {q:Pg2} (h:q.inf=true):prV p q.pt=1:=by rw [Ec h];exact H2 p
theorem ahx {p:Pg1} {q:Pg2} (hp:In1P p) (hq:In2P q) (ip:p.inf=false) (iq:q.inf=false):(eE p q).ok/\cd (eE p q).w=prV p.pt q.pt:=by
 have h1:=hp.pts
 have h2:=hq.pts
 rw [ib ip] at h1 ⊢
 rw [p8 iq] at h2 ⊢
 have o1:p.x.ok/\p.y.ok:=by
  rcases hp.good.1 with e | e
  ·rw [e] at ip;cases ip
  ·exact e.2
 have o2:q.x.ok/\q.y.ok:=by
  rcases hq.good.1 with e | e
  ·rw [e] at iq;cases iq
  ·exact e.2
 exact Yc o1.1 o1.2 o2.1 o2.2 (oM h1) h2
noncomputable def prL:List Duo->V12
 | []=>1
 | x :: l=>prV x.p.pt x.q.pt*prL l
theorem Ed:prL []=1:=rfl
theorem sB (x:Duo) (l:List Duo):prL (x :: l)=prV x.p.pt x.q.pt*prL l:=rfl
theorem Rv (mF:Pg1->Pg2->Fp12) (hF:Fp12->Fp12->Fp12) (f:Fp12):sA mF hF [] f=f:=rfl
def ab2 (x:Duo):Prop:=In1P x.p/\In2P x.q
theorem adM {x:Duo} (hx:ab2 x) {f:Fp12} (hf:f.ok):(Fi eE ax x f).ok/\cd (Fi eE ax x f).w=cd f.w*prV x.p.pt x.q.pt:=by
 obtain ⟨p,q⟩:=x
 obtain ⟨hp,hq⟩:=hx
 simp only [] at hp hq
 unfold Fi
 simp only []
 cases ip:p.inf with
 | true=>exact ⟨hf,by rw [p9 ip,xE,i5];rfl⟩
 | false =>
  cases iq:q.inf with
  | true=>exact ⟨hf,by rw [WL _ iq,i5];rfl⟩
  | false =>
   obtain ⟨m1,m2⟩:=ahx hp hq ip iq
   refine ⟨dL hf m1,?_⟩
   show cd (ax f (eE p q)).w=_
   rw [fS hf m1,jD,m2]
theorem aaE : ∀ (l:List Duo),(∀ x ∈ l,ab2 x) -> ∀ {f:Fp12},f.ok->(sA eE ax l f).ok/\cd (sA eE ax l f).w=cd f.w*prL l
 | [],_,f,hf=>by
  rw [Rv,Ed,i5]
  exact ⟨hf,rfl⟩
 | x :: l,h,f,hf=>by
  obtain ⟨h1,h2⟩:=adM (h x (List.mem_cons_self ..)) hf
  obtain ⟨h3,h4⟩:=aaE l (fun y hy=>h y (List.mem_cons_of_mem _ hy)) h1
  rw [xD]
  refine ⟨h3,?_⟩
  rw [h4,h2,sB,CR.mul_assoc]
theorem af6 : ∀ l:List Duo,prL l ^ qN=1
 | []=>by rw [Ed,bq]
 | x :: l=>by
  rw [sB,aY,af5,af6 l,i5]
theorem Ru {l:List Duo} (h : ∀ x ∈ l,ab2 x):(lq (fX l)).ok/\(lq (fX l)).w=prL l:=by
 have k:(fX l).ok/\cd (fX l).w=cd prOne.w*prL l:=aaE l h one_w.1
 obtain ⟨h1,h2⟩:=k
 rw [one_w.2,NQ,oR] at h2
 obtain ⟨h3,h4⟩:=adC h1 (XS (by rw [h2];exact af6 l))
 exact ⟨h3,h4.trans h2⟩
theorem LL (mF:Pg1->Pg2->Bool):jB mF []=true:=rfl
theorem yc : ∀ l:List Duo,jB qX l=true <-> ∀ x ∈ l,ab2 x
 | []=>⟨fun _ x hx=>(List.not_mem_nil hx).elim,fun _=>LL _⟩
 | x :: l=>by
  rw [u7]
  cases h:qX x.p x.q with
  | false =>
   refine ⟨fun e=>Bool.noConfusion (show false=true from e),fun e => ?_⟩
   have:=may_in.2 (e x (List.mem_cons_self ..))
   rw [h] at this
   cases this
  | true =>
   show jB qX l=true <-> _
   rw [yc l]
   refine ⟨fun e y hy => ?_,fun e y hy=>e y (List.mem_cons_of_mem _ hy)⟩
   rcases List.mem_cons.1 hy with rfl | hy
   ·exact may_in.1 h
   ·exact e y hy
theorem Uc {o:Fp12} {mF:Pg1->Pg2->Bool} {pF:List Duo->Fp12} {wF lF:Fp12->Fp12} {l:List Duo} (h : ¬ ((l.length:Int) > 20)) (hm:jB mF l=true):sa o mF pF wF lF l=r9 (lF (wF (pF l))) o:=by
 unfold sa
 rw [decide_eq_false h,hm]
theorem RD {l:List Duo} (hl:l.length<=20) (h : ∀ x ∈ l,ab2 x):gH l=true <-> prL l=1:=by
 have e:gH l=r9 (fj (lq (fX l))) fg:=by
  unfold gH
  exact Uc (by omega) ((yc l).2 h)
 obtain ⟨h1,h2⟩:=Ru h
 rw [e,ui,Zc (IF h1) oQ,DM h1,h2,DN]
noncomputable def Vj:V12:=prV oneG1.pt oneG2.pt
theorem AS:Vj ^ qN=1:=af5 _ _
theorem aeY:Vj ≠ 1:=aic
theorem WU {R:Type} [CR R] (a:R) : ∀ m n:Nat,a ^ m=1->a ^ n=1->a ^ Nat.gcd m n=1:=by
 intro m n
 induction m,n using Nat.gcd.induction with
 | H0 n=>intro _ h;rw [Nat.gcd_zero_left];exact h
 | H1 m n hm ih =>
  intro h1 h2
  rw [Nat.gcd_rec]
  refine ih ?_ h1
  have e:n=m*(n / m)+n % m:=(Nat.div_add_mod n m).symm
  rw [e,cu,aE,h1,bq,oR] at h2
  exact h2
theorem pow_mod {R:Type} [CR R] {a:R} {m:Nat} (h:a ^ m=1) (n:Nat):a ^ (n % m)=a ^ n:=by
 have e:a ^ n=a ^ (m*(n / m)+n % m):=by rw [Nat.div_add_mod]
 rw [e,cu,aE,h,bq,oR]
theorem Zk (k:Nat):Vj ^ k=1 <-> k % qN=0:=by
 constructor
 ·intro h
  have h1:Vj ^ (k % qN)=1:=by rw [pow_mod AS];exact h
  rcases Nat.eq_zero_or_pos (k % qN) with e | e
  ·exact e
  ·exfalso
   have hk:k % qN<qN:=Nat.mod_lt _ lp
   have hg:=WU Vj qN (k % qN) AS h1
   have hc:Nat.gcd qN (k % qN)=1:=prime_qN.coprime fun hd=>by
    have:=Nat.le_of_dvd e hd
    omega
   rw [hc,eI] at hg
   exact aeY hg
 ·intro h
  rw [<- pow_mod AS,h,bu]
theorem Zl (a b:Nat):prV (oneG1.pt.mul a) (oneG2.pt.mul b)=Vj ^ (a*b):=adz ae6 agn ⟨gen1_good.2,iE⟩ gen2_good2 a b
end
set_option maxRecDepth 100000
section
instance : NeZero qN := ⟨by decide +kernel⟩
def VR:Type:=Fin qN
def VR.of (n:Nat):VR:=Fin.ofNat qN n
def VR.nat (a:VR):Nat:=Fin.val a
theorem VR.nat_lt (a:VR):a.nat<qN:=Fin.isLt a
theorem VR.nat_of (n:Nat):(VR.of n).nat=n % qN:=rfl
theorem VR.ext {a b:VR} (h:a.nat=b.nat):a=b:=Fin.eq_of_val_eq h
theorem VR.of_nat (a:VR):VR.of a.nat=a:=VR.ext (by rw [VR.nat_of,Nat.mod_eq_of_lt a.nat_lt])
def VR.add (a b:VR):VR:=VR.of (a.nat+b.nat)
def VR.mul (a b:VR):VR:=VR.of (a.nat*b.nat)
def VR.neg (a:VR):VR:=VR.of (qN-a.nat)
def VR.sub (a b:VR):VR:=VR.of (a.nat+(qN-b.nat))
def VR.inv (a:VR):VR:=VR.of (B5 255 a.nat (qN-2) qN)
theorem Xk:1<qN:=by decide +kernel
theorem VR.one_mod:1 % qN=1:=Nat.mod_eq_of_lt Xk
instance : CR VR where
 add:=VR.add
 mul:=VR.mul
 neg:=VR.neg
 sub:=VR.sub
 z:=VR.of 0
 o:=VR.of 1
 add_zero:=fun a=>VR.ext (by show (a.nat+0 % qN) % qN=a.nat;rw [Nat.zero_mod,Nat.add_zero,Nat.mod_eq_of_lt a.nat_lt])
 add_comm:=fun a b=>VR.ext (by show (a.nat+b.nat) % qN=(b.nat+a.nat) % qN;rw [Nat.add_comm])
 add_assoc:=fun a b c=>VR.ext (by show ((a.nat+b.nat) % qN+c.nat) % qN=(a.nat+(b.nat+c.nat) % qN) % qN;rw [Nat.mod_add_mod,Nat.add_mod_mod,Nat.add_assoc])
 mul_assoc:=fun a b c=>VR.ext (by show ((a.nat*b.nat) % qN*c.nat) % qN=(a.nat*((b.nat*c.nat) % qN)) % qN;rw [Nat.mod_mul_mod,Nat.mul_mod_mod,Nat.mul_assoc])
 mul_comm:=fun a b=>VR.ext (by show (a.nat*b.nat) % qN=(b.nat*a.nat) % qN;rw [Nat.mul_comm])
 mul_one:=fun a=>VR.ext (by show (a.nat*(1 % qN)) % qN=a.nat;rw [VR.one_mod,Nat.mul_one,Nat.mod_eq_of_lt a.nat_lt])
 dist:=fun a b c=>VR.ext (by
  show (a.nat*((b.nat+c.nat) % qN)) % qN=((a.nat*b.nat) % qN+(a.nat*c.nat) % qN) % qN
  rw [Nat.mul_mod_mod,<- Nat.add_mod,Nat.mul_add])
 neg_add:=fun a=>VR.ext (by
  show ((qN-a.nat) % qN+a.nat) % qN=0 % qN
  rw [Nat.mod_add_mod,Nat.sub_add_cancel (Nat.le_of_lt a.nat_lt),Nat.mod_self,Nat.zero_mod])
 sub_eq:=fun a b=>VR.ext (by
  show (a.nat+(qN-b.nat)) % qN=(a.nat+(qN-b.nat) % qN) % qN
  rw [Nat.add_mod_mod])
theorem VR.nat_add (a b:VR):(a+b).nat=(a.nat+b.nat) % qN:=rfl
theorem VR.nat_mul (a b:VR):(a*b).nat=(a.nat*b.nat) % qN:=rfl
theorem VR.nat_zero:(0:VR).nat=0:=Nat.zero_mod _
theorem VR.nat_one:(1:VR).nat=1:=VR.one_mod
theorem VR.nat_pow (a:VR) : ∀ n:Nat,(a ^ n).nat=a.nat ^ n % qN
 | 0=>rfl
 | n+1=>by rw [aq,VR.nat_mul,VR.nat_pow a n,Nat.mod_mul_mod,Nat.pow_succ]
theorem VR.ne_zero {a:VR} (h:a ≠ 0):a.nat ≠ 0:=fun e=>h (VR.ext (by rw [e,VR.nat_zero]))
theorem XF {a:Nat} (h:a<qN) (h0:a ≠ 0) : ¬ qN ∣ a:=fun hd=>absurd (Nat.le_of_dvd (by omega) hd) (by omega)
theorem acK:2<qN:=by decide +kernel
theorem VR.fermat {a:VR} (h:a ≠ 0):a ^ (qN-1)=1:=VR.ext (by
 rw [VR.nat_pow,VR.nat_one]
 exact Go.Proofs.YtgpafcehehaiiaaGreat.fermat prime_qN (XF a.nat_lt (VR.ne_zero h)))
theorem VR.inv_eq (a:VR):VR.inv a=a ^ (qN-2):=VR.ext (by
 show B5 255 a.nat (qN-2) qN % qN=_
 rw [ig qN 255 _ _ (by decide +kernel),VR.nat_pow,Nat.mod_mod])
instance : Fld VR where
 inv:=VR.inv
 mul_inv:=fun a h=>by
  rw [VR.inv_eq]
  have:=VR.fermat h
  rw [show qN-1=(qN-2)+1 by have:=acK;omega,aq] at this
  rw [CR.mul_comm]
  exact this
 one_ne:=fun e=>by
  have:=congrArg VR.nat e
  rw [VR.nat_one,VR.nat_zero] at this
  omega
def Fr.ok (a:Fr):Prop:=a.nat<qN
def Fr.v (a:Fr):VR:=VR.of a.nat
theorem Fr.v_nat {a:Fr} (h:a.ok):a.v.nat=a.nat:=Nat.mod_eq_of_lt h
theorem Fr.v_inj {a b:Fr} (ha:a.ok) (hb:b.ok) (h:a.v=b.v):a=b:=Fr.nat_inj (by rw [<- Fr.v_nat ha,<- Fr.v_nat hb,h])
theorem aih {a b:Fr} (ha:a.ok) (hb:b.ok):fw a b=true <-> a.v=b.v:=⟨fun h=>by rw [(oY a b).1 h],fun h=>(oY a b).2 (Fr.v_inj ha hb h)⟩
theorem Yg {a:Fr} (h:gP a=true):a.ok:=by
 rw [SP] at h
 exact (of_decide_eq_true h:a.nat<qN)
theorem lL {a b:Fr} (ha:a.ok) (hb:b.ok):(bf a b).ok:=Z9 ha hb
theorem et {a b:Fr} (hb:b.ok):(aw a b).ok:=XW hb
theorem tk {a:Fr} (ha:a.ok):(dN a).ok:=XJ ha
theorem DR {a b:Fr} (ha:a.ok) (hb:b.ok):(eO a b).ok:=by unfold Fr.ok;rw [tX ha hb];exact Nat.mod_lt _ lp
theorem Ap {a b:Fr} (ha:a.ok) (hb:b.ok):(bf a b).v=a.v+b.v:=VR.ext (by
 rw [Fr.v_nat (lL ha hb),VR.nat_add,Fr.v_nat ha,Fr.v_nat hb,uF ha hb])
theorem rU {a b:Fr} (ha:a.ok) (hb:b.ok):(aw a b).v=a.v*b.v:=VR.ext (by
 rw [Fr.v_nat (et hb),VR.nat_mul,Fr.v_nat ha,Fr.v_nat hb,uj hb])
theorem VR.add_neg (a b:VR) (h:a+b=0):a = -b:=by grind
theorem aag {a:Fr} (ha:a.ok):(dN a).v = -a.v:=by
 refine VR.add_neg _ _ (VR.ext ?_)
 rw [VR.nat_add,Fr.v_nat (tk ha),Fr.v_nat ha,B3 ha,Nat.mod_add_mod,Nat.sub_add_cancel (Nat.le_of_lt ha),Nat.mod_self,VR.nat_zero]
theorem aaf {a b:Fr} (ha:a.ok) (hb:b.ok):(eO a b).v=a.v-b.v:=by
 have h:(eO a b).v+b.v=a.v:=VR.ext (by
  rw [VR.nat_add,Fr.v_nat (DR ha hb),Fr.v_nat ha,Fr.v_nat hb,tX ha hb,Nat.mod_add_mod,show a.nat+qN-b.nat+b.nat=a.nat+qN by have:=Nat.le_of_lt hb;unfold Fr.ok at *;omega,Nat.add_mod_right,Nat.mod_eq_of_lt ha])
 generalize (eO a b).v=x at *
 rw [<- h]
 clear h
 grind
theorem Qg:zeroFr.ok:=by unfold Fr.ok;decide +kernel
theorem Vr:zeroFr.v=0:=VR.ext (by decide +kernel)
theorem dQ:oneFr.ok:=by unfold Fr.ok;decide +kernel
theorem nn:oneFr.v=1:=VR.ext (by decide +kernel)
noncomputable def gm (x:VR):Pt V1:=oneG1.pt.mul x.nat
noncomputable def hm (x:VR):Pt V2:=oneG2.pt.mul x.nat
noncomputable def em (x:VR):V12:=Vj ^ x.nat
theorem vo (x:VR):(gm x).on:=ci gen1_good.2 _
theorem NL (x y:VR):gm (x+y)=(gm x).add (gm y):=by
 unfold gm
 rw [VR.nat_add,rb gen1_good.2 iE,cW gen1_good.2]
theorem abq (x y:VR):gm (x*y)=(gm x).mul y.nat:=by
 unfold gm
 rw [VR.nat_mul,rb gen1_good.2 iE,iy gen1_good.2]
theorem gm_zero:gm 0 = .inf:=by
 unfold gm
 rw [VR.nat_zero,cN]
theorem abo:gm 1=oneG1.pt:=by
 unfold gm
 rw [VR.nat_one,eT]
theorem abp (x:VR):gm (-x)=(gm x).neg:=by
 refine lv (vo _) (b8 (vo _)) ?_
 have h:=NL x (-x)
 have e:x + -x=0:=by grind
 rw [e,gm_zero] at h
 rw [u5 (vo _) (vo _),aB (vo _) (vo _),<- h]
 rfl
theorem ah9 (x:VR):(gm x).sub qN:=sub_mul ⟨gen1_good.2,iE⟩ _
theorem aia {x y:VR} (h:gm x=gm y):x=y:=by
 have e:gm (x-y) = .inf:=by
  have:x-y=x + -y:=CR.sub_eq _ _
  rw [this,NL,h,abp,aB (vo _) (b8 (vo _)),bE (vo _)]
 have h0:(x-y).nat=0:=by
  rcases Nat.eq_zero_or_pos (x-y).nat with k | k
  ·exact k
  ·exact absurd e (iw gen1_good.2 aeT iE k (x-y).nat_lt)
 have h1:x-y=0:=VR.ext (by rw [h0,VR.nat_zero])
 grind
theorem aeO (x:VR):Good2 (hm x):=gen2_good2.mul _
theorem NF:hm 1=oneG2.pt:=by
 unfold hm
 rw [VR.nat_one,eT]
theorem aim (x y:VR):em (x+y)=em x*em y:=by
 unfold em
 rw [VR.nat_add,pow_mod AS,cu]
theorem Mt (x:VR):em x=1 <-> x=0:=by
 unfold em
 rw [Zk,Nat.mod_eq_of_lt x.nat_lt]
 exact ⟨fun h=>VR.ext (by rw [h,VR.nat_zero]),fun h=>by rw [h,VR.nat_zero]⟩
theorem aaG (x y:VR):prV (gm x) (hm y)=em (x*y):=by
 unfold gm hm em
 rw [Zl,VR.nat_mul,pow_mod AS]
structure At1 (p : Pg1) (x : VR) : Prop where
 good:p.good
 pt:p.pt=gm x
structure At2 (q : Pg2) (x : VR) : Prop where
 good:q.good
 pt:q.pt=hm x
theorem At1.in1 {p:Pg1} {x:VR} (h:At1 p x):In1P p:=⟨h.good,by rw [h.pt];exact (ah9 x).2⟩
theorem At2.in2 {q:Pg2} {x:VR} (h:At2 q x):In2P q:=⟨h.good,by rw [h.pt];exact (aeO x).sub.2⟩
theorem At1.eq {p q:Pg1} {x:VR} (h:At1 p x) (k:At1 q x):p=q:=adt h.good.1 k.good.1 (h.pt.trans k.pt.symm)
theorem At1.inj {p:Pg1} {x y:VR} (h:At1 p x) (k:At1 p y):x=y:=aia (h.pt.symm.trans k.pt)
theorem Up {p:Pg1} {x:VR} (h:At1 p x) {k:Fr} (hk:k.ok):At1 (jh p k) (x*k.v):=by
 obtain ⟨h1,h2⟩:=JV h.good k
 exact ⟨h1,by rw [h2,h.pt,abq,Fr.v_nat hk]⟩
theorem EQ:At1 nX 1:=⟨gen1_good,by rw [abo];rfl⟩
theorem at2_gen:At2 Bl 1:=⟨gen2_good,by rw [NF];rfl⟩
theorem afx {p:Pg1} {x:VR} (h:At1 p x):At1 (mL p) (-x):=by
 obtain ⟨h1,h2⟩:=aee h.good
 exact ⟨h1,by rw [h2,h.pt,abp]⟩
end
set_option maxRecDepth 100000
section
theorem iG:frZ.ok:=Qg
theorem nZ:frZ.v=0:=Vr
def bm (l:List Fr):Prop := ∀ x ∈ l,x.ok
noncomputable def vL (l:List Fr):List VR:=l.map Fr.v
theorem fY:bm []:=fun x hx=>(List.not_mem_nil hx).elim
theorem Sa {a:List Fr} (ha:bm a) (n:Nat):bm (a.take n):=fun x hx=>ha x (List.mem_of_mem_take hx)
theorem cH {l:List Fr} (h:bm l) (i:Nat):(l.getD i frZ).ok:=by
 rw [List.getD_eq_getElem?_getD]
 cases e:l[i]? with
 | none=>exact iG
 | some x=>exact h x (List.mem_of_getElem? e)
theorem yM (xs:List Fr) (n:Nat):cK xs (n+1)=match fw (xs.getD n frZ) frZ with | true=>cK xs n | false=>n+1:=rfl
theorem rq (xs:List Fr) : ∀ n i,cK xs n<=i->i<n->xs.getD i frZ=frZ
 | 0,i,_,h=>absurd h (Nat.not_lt_zero i)
 | n+1,i,h1,h2=>by
  unfold cK at h1
  cases e:fw (xs.getD n frZ) frZ with
  | true =>
   rw [e] at h1
   rcases Nat.lt_succ_iff_lt_or_eq.1 h2 with h3 | h3
   ·exact rq xs n i h1 h3
   ·rw [h3];exact (oY _ _).1 e
  | false =>
   rw [e] at h1
   have h1:n+1<=i:=h1
   omega
theorem Ja (xs:List Fr):xs=aO xs++List.replicate (xs.length-cK xs xs.length) frZ:=by
 have hd:xs.drop (cK xs xs.length)=List.replicate (xs.length-cK xs xs.length) frZ:=by
  refine List.eq_replicate_iff.2 ⟨List.length_drop ..,fun b hb => ?_⟩
  obtain ⟨i,hi,e⟩:=List.mem_iff_getElem.1 hb
  rw [List.length_drop] at hi
  rw [List.getElem_drop] at e
  have:=rq xs xs.length (cK xs xs.length+i) (Nat.le_add_right _ _) (by omega)
  rw [List.getD_eq_getElem?_getD,List.getElem?_eq_getElem (by omega)] at this
  rw [<- e]
  exact this
 conv=>lhs;rw [<- List.take_append_drop (cK xs xs.length) xs,hd]
 rfl
theorem fK {xs:List Fr} (h:bm xs):bm (aO xs):=Sa h _
theorem lU (a b:List Fr):vL (a++b)=vL a++vL b:=List.map_append
theorem Vu (n:Nat):vL (List.replicate n frZ)=List.replicate n 0:=by
 unfold vL
 rw [List.map_replicate,nZ]
theorem sT (t:VR) (xs:List Fr):hor t (vL (aO xs))=hor t (vL xs):=by
 conv=>rhs;rw [Ja xs,lU,Vu,Pk]
theorem CD (xs:List Fr) (m:Nat) : ∀ n,cK (xs++List.replicate m frZ) (xs.length+n)=if n<=m then cK xs xs.length else cK (xs++List.replicate m frZ) (xs.length+n)
 | 0=>by
  rw [if_pos (Nat.zero_le _),Nat.add_zero]
  have key : ∀ k,k<=xs.length->cK (xs++List.replicate m frZ) k=cK xs k:=fun k=>by
   induction k with
   | zero=>intro _;rfl
   | succ k ih =>
    intro hk
    unfold cK
    have e:(xs++List.replicate m frZ).getD k frZ=xs.getD k frZ:=by
     rw [List.getD_eq_getElem?_getD,List.getElem?_append_left (by omega),List.getD_eq_getElem?_getD]
    rw [e,ih (by omega)]
  exact key _ (Nat.le_refl _)
 | n+1=>by
  by_cases h:n+1<=m
  ·rw [if_pos h]
   have ih:=CD xs m n
   rw [if_pos (by omega)] at ih
   show cK (xs++List.replicate m frZ) (xs.length+n+1)=_
   rw [yM]
   have e:(xs++List.replicate m frZ).getD (xs.length+n) frZ=frZ:=by
    rw [List.getD_eq_getElem?_getD,List.getElem?_append_right (by omega),List.getElem?_replicate]
    split <;> rfl
   rw [e,(oY frZ frZ).2 rfl]
   simp only []
   exact ih
  ·rw [if_neg h]
theorem m7 (xs:List Fr) (m:Nat):aO (xs++List.replicate m frZ)=aO xs:=by
 have h:=CD xs m m
 rw [if_pos (Nat.le_refl _)] at h
 unfold aO
 rw [List.length_append,List.length_replicate,h,List.take_append_of_le_length (mz xs _)]
section
variable {aF mF : Fr -> Fr -> Fr} (hA : ∀ {a b : Fr}, a.ok -> b.ok -> (aF a b).ok /\ (aF a b).v = a.v + b.v) (hM : ∀ {a b : Fr}, a.ok -> b.ok -> (mF a b).ok /\ (mF a b).v = a.v * b.v)
include hA hM
theorem aaB {xs:List Fr} (h:bm xs) {x:Fr} (hx:x.ok) : ∀ n,n<=xs.length -> ∀ {y:Fr},y.ok->(rAt aF mF xs x n y).ok/\(rAt aF mF xs x n y).v=y.v*x.v ^ n+hor x.v (vL (xs.take n))
 | 0,_,y,hy=>by
  rw [HU]
  refine ⟨hy,?_⟩
  show y.v=y.v*x.v ^ 0+hor x.v []
  rw [bu,yr]
  generalize y.v=a
  grind
 | n+1,hn,y,hy=>by
  have hc:=cH h n
  obtain ⟨m1,m2⟩:=hM hy hx
  obtain ⟨a1,a2⟩:=hA m1 hc
  obtain ⟨h1,h2⟩:=aaB h hx n (by omega) a1
  rw [HV]
  refine ⟨h1,?_⟩
  have e:xs.take (n+1)=xs.take n ++ [xs.getD n frZ]:=j8 xs (by omega)
  rw [h2,a2,m2,e,lU,show vL [xs.getD n frZ] = [(xs.getD n frZ).v] from rfl,hI,aq]
  unfold vL
  rw [List.length_map,List.length_take,Nat.min_eq_left (by omega)]
  generalize x.v ^ n=p
  generalize hor x.v (List.map Fr.v (List.take n xs))=q
  generalize (xs.getD n frZ).v=c
  generalize y.v=b
  generalize x.v=d
  clear h2 m2 a2
  grind
end
theorem AZ {a b:Fr} (ha:a.ok) (hb:b.ok):(bf a b).ok/\(bf a b).v=a.v+b.v:=⟨lL ha hb,Ap ha hb⟩
theorem vR {a b:Fr} (ha:a.ok) (hb:b.ok):(aw a b).ok/\(aw a b).v=a.v*b.v:=⟨et hb,rU ha hb⟩
theorem ajA {xs:List Fr} (h:bm xs) {x:Fr} (hx:x.ok) {n:Nat} (hn:n<=xs.length) {y:Fr} (hy:y.ok):(rAt bf aw xs x n y).ok/\(rAt bf aw xs x n y).v=y.v*x.v ^ n+hor x.v (vL (xs.take n)):=aaB AZ vR h hx n hn hy
theorem Ea {xs:List Fr} (h:bm xs) {x:Fr} (hx:x.ok):(rAt bf aw xs x xs.length frZ).ok/\(rAt bf aw xs x xs.length frZ).v=hor x.v (vL xs):=by
 obtain ⟨h1,h2⟩:=ajA h hx (Nat.le_refl _) iG
 refine ⟨h1,?_⟩
 rw [h2,List.take_length,nZ]
 generalize x.v ^ xs.length=p
 generalize hor x.v (vL xs)=q
 clear h2
 grind
end
set_option maxRecDepth 100000
section
theorem SU (x y t c:UInt64):jG x y t c=jG y x t c:=by unfold jG;rw [UInt64.mul_comm]
theorem LA (x y:UInt64):gr x y=gr y x:=UInt64.toNat.inj (by rw [iR,iR,Nat.mul_comm])
theorem SW (x y t c:UInt64):fR x y t c=fR y x t c:=by unfold fR;rw [UInt64.mul_comm,LA]
theorem SI (t0 t1 t2 t3 top:UInt64) (more:Bool):AL rLimbs g9 t0 t1 t2 t3 top more=D1 t0 t1 t2 t3 top more:=by
 unfold AL D1
 simp only [AC,AD,uG t0]
 rfl
theorem SG (ai:UInt64) (b:Fr) (t:L5):fh rLimbs g9 ai b t=jk b ai t:=by
 unfold fh jk
 rw [SI]
 simp only [AC,AD,SU ai,SW ai]
theorem Gu (a b:Fr):ew a b rLimbs=lu b a:=by
 unfold ew fE fG fH
 rw [ft]
 simp only [SG]
 rfl
theorem Ta (a:Fr):AN a=cC a rLimbs:=rfl
theorem Tb (a:Fr) (o:UInt64):jW a o=match decide (o<b2u (decide (a.nat<qN))) with | true=>a | false=>(cC a rLimbs).1:=by
 unfold jW
 rw [Ta,oC,gp]
 rfl
theorem rm {t:Fr} {o:UInt64} (ho:o.toNat<=1) (h:t.nat+r4N*o.toNat<2*qN):(jW t o).nat=(t.nat+r4N*o.toNat) % qN:=by
 obtain ⟨h1,h2⟩:=D7 t o.toNat ho h
 rw [Tb]
 by_cases hl:t.nat<qN
 ·rw [decide_eq_true hl]
  rcases Nat.lt_or_ge o.toNat 1 with h0 | h0
  ·have e0:o.toNat=0:=by omega
   have e:o=0:=UInt64.toNat.inj e0
   subst e
   exact h2 ⟨e0,hl⟩
  ·have e1:o.toNat=1:=by omega
   have e:o=1:=UInt64.toNat.inj e1
   subst e
   exact h1 (.inl e1)
 ·rw [decide_eq_false hl]
  have e:decide (o<b2u false)=false:=decide_eq_false (by
   intro hlt
   have:o.toNat<0:=hlt
   omega)
  rw [e]
  exact h1 (.inr hl)
theorem Ck {a b:Fr} (ha:a.nat<qN):(mT a b).nat<qN/\(mT a b).nat*r4N % qN=a.nat*b.nat % qN:=by
 obtain ⟨k,h1,h2⟩:=xU b a
 rw [Gu] at h1 h2
 have h3:=L5.nat_low (lu a b)
 have ht:(lu a b).t4.toNat<=1:=by
  have hpr:2*qN<r4N:=by decide +kernel
  rcases Nat.lt_or_ge (lu a b).t4.toNat 1 with h | h
  ·omega
  ·have:r4N*1<=r4N*(lu a b).t4.toNat:=Nat.mul_le_mul_left _ h
   omega
 have e:=rm (t:=(lu a b).low) ht (by omega)
 have e2:(mT a b).nat=(lu a b).nat % qN:=by
  rw [h3]
  exact e
 rw [e2]
 refine ⟨Nat.mod_lt _ lp,?_⟩
 rw [Nat.mod_mul_mod,h1,Nat.add_mul_mod_self_right,Nat.mul_comm]
theorem Sv {a b:Fr} (ha:a.nat<qN):(cX a b).nat=a.nat*b.nat % qN:=by
 obtain ⟨h1,h2⟩:=Ck (b:=b) ha
 obtain ⟨h3,h4⟩:=Ck (a:=mT a b) (b:=sq4Limbs) h1
 have h3:(cX a b).nat<qN:=h3
 have h4:(cX a b).nat*r4N % qN=(mT a b).nat*sq4Limbs.nat % qN:=h4
 rw [<- Nat.mod_eq_of_lt h3]
 refine BT ?_
 rw [h4,DX,Nat.mul_mod_mod]
 have e:(mT a b).nat*(r4N*r4N)=(mT a b).nat*r4N*r4N:=(Nat.mul_assoc _ _ _).symm
 rw [e,<- Nat.mod_mul_mod,h2,Nat.mod_mul_mod]
theorem Iw {a b:Fr} (ha:a.nat<qN) (hb:b.nat<qN):cX a b=aw a b:=Fr.nat_inj (by rw [Sv ha,uj hb])
theorem Ux {a b:Fr} (ha:a.nat<qN) (hb:b.nat<qN):(dI a b).nat=(a.nat+b.nat) % qN:=by
 have h:=uH a b
 unfold dI
 cases hc:(cp a b).2 with
 | true =>
  rw [hc] at h
  have e:=rm (t:=(cp a b).1) (o:=b2u true) (Nat.le_refl 1) (by
   show (cp a b).1.nat+r4N*1<2*qN
   have:(cp a b).1.nat+r4N*1=a.nat+b.nat:=h
   omega)
  rw [e]
  exact congrArg (· % qN) h
 | false =>
  rw [hc] at h
  have e:=rm (t:=(cp a b).1) (o:=b2u false) (Nat.zero_le 1) (by
   show (cp a b).1.nat+r4N*0<2*qN
   have:(cp a b).1.nat+r4N*0=a.nat+b.nat:=h
   omega)
  rw [e]
  exact congrArg (· % qN) h
theorem Jq {a b:Fr} (ha:a.nat<qN) (hb:b.nat<qN):dI a b=bf a b:=Fr.nat_inj (by rw [Ux ha hb,uF ha hb])
theorem VW (a b:Fr):xd a b=eO a b:=by
 unfold xd eO lG
 cases (cC a b).2 <;> rfl
theorem XM (a:Fr):pj a=dN a:=VW zeroFr a
end
set_option maxRecDepth 100000
section
theorem tG {a b:Fr} (ha:a.ok) (hb:b.ok):(dI a b).ok/\(dI a b).v=a.v+b.v:=by
 rw [Jq ha hb]
 exact AZ ha hb
theorem nw {a b:Fr} (ha:a.ok) (hb:b.ok):(cX a b).ok/\(cX a b).v=a.v*b.v:=by
 rw [Iw ha hb]
 exact vR ha hb
section
variable {aF mF : Fr -> Fr -> Fr}
def cP (aF mF:Fr->Fr->Fr) (z:Fr):List Fr->List Fr × Fr
 | []=>([],frZ)
 | a :: l=>(match l with | [] => [] | _ :: _=>(cP aF mF z l).2 :: (cP aF mF z l).1,aF a (mF (cP aF mF z l).2 z))
theorem sL (z:Fr):cP aF mF z []=([],frZ):=rfl
theorem IM (z a:Fr):cP aF mF z [a]=([],aF a (mF frZ z)):=rfl
theorem lW (z a b:Fr) (l:List Fr):cP aF mF z (a :: b :: l)=((cP aF mF z (b :: l)).2 :: (cP aF mF z (b :: l)).1,aF a (mF (cP aF mF z (b :: l)).2 z)):=rfl
def O5 (aF mF:Fr->Fr->Fr) (z:Fr):List Fr->List Fr
 | [] => []
 | a :: l=>(cP aF mF z (a :: l)).2 :: (cP aF mF z (a :: l)).1
theorem kW (z a:Fr) (l:List Fr):(cP aF mF z (a :: l)).1=O5 aF mF z l:=by cases l <;> rfl
theorem mp (z a:Fr) (l:List Fr):(cP aF mF z (a :: l)).2=aF a (mF (cP aF mF z l).2 z):=rfl
theorem S6 (z a:Fr) (l:List Fr):O5 aF mF z (a :: l)=aF a (mF (cP aF mF z l).2 z) :: O5 aF mF z l:=by
 show (cP aF mF z (a :: l)).2 :: (cP aF mF z (a :: l)).1=_
 rw [kW,mp]
theorem wG (n:Nat) (v:Fr) (t:List Fr):(aK (n+1)++t).set n v=aK n++v :: t:=by
 unfold aK
 rw [List.replicate_succ',List.append_assoc,List.set_append_right _ _ (by rw [List.length_replicate];exact Nat.le_refl _),List.length_replicate,Nat.sub_self]
 rfl
theorem Y4 (p s:List Fr) (a:Fr):(p++a :: s).getD p.length frZ=a:=by
 rw [List.getD_eq_getElem?_getD,List.getElem?_append_right (Nat.le_refl _),Nat.sub_self]
 rfl
theorem abh (xs:List Fr) (z:Fr) : ∀ n p s,xs=p++s->p.length=n+1->Ca aF mF xs z (n+1) ((cP aF mF z s).2,aK n++O5 aF mF z s)=((cP aF mF z xs).2,(cP aF mF z xs).1)
 | 0,p,s,h,hp=>by
  obtain ⟨a,rfl⟩ : ∃ a,p = [a]:=by
   match p,hp with
   | [a],_=>exact ⟨a,rfl⟩
  subst h
  rw [B9]
  show (aF a (mF (cP aF mF z s).2 z),O5 aF mF z s)=_
  rw [List.singleton_append,kW,mp]
 | n+1,p,s,h,hp=>by
  have hne:p ≠ []:=by intro e;rw [e] at hp;cases hp
  have e1:p=p.dropLast ++ [p.getLast hne]:=(List.dropLast_concat_getLast hne).symm
  generalize p.getLast hne=a at e1
  have hl:p.dropLast.length=n+1:=by rw [List.length_dropLast,hp];omega
  generalize p.dropLast=q at *
  subst e1
  have ih:=abh xs z n q (a :: s) (by rw [h,List.append_assoc];rfl) hl
  rw [um]
  have eg:xs.getD (n+1) frZ=a:=by
   rw [h,List.append_assoc,<- hl]
   exact Y4 q s a
  rw [eg,wG]
  rw [mp,S6] at ih
  exact ih
theorem Yz (xs:List Fr) (z:Fr):Ca aF mF xs z xs.length (frZ,aK (xs.length-1))=((cP aF mF z xs).2,(cP aF mF z xs).1):=by
 cases xs with
 | nil=>rfl
 | cons a l =>
  have:=abh (aF:=aF) (mF:=mF) (a :: l) z l.length (a :: l) [] (List.append_nil _).symm rfl
  rw [sL] at this
  rw [show O5 aF mF z [] = [] from rfl,List.append_nil] at this
  exact this
theorem Fw (cF:List Fr->List Fr) (xs:List Fr) (z:Fr):Vg aF mF cF xs z=(cF (cP aF mF z xs).1,(cP aF mF z xs).2):=by
 unfold Vg
 rw [Yz]
section
variable (hA : ∀ {a b : Fr}, a.ok -> b.ok -> (aF a b).ok /\ (aF a b).v = a.v + b.v) (hM : ∀ {a b : Fr}, a.ok -> b.ok -> (mF a b).ok /\ (mF a b).v = a.v * b.v)
include hA hM
theorem ND {z:Fr} (hz:z.ok) : ∀ xs,bm xs->bm (cP aF mF z xs).1/\(cP aF mF z xs).2.ok/\vL (cP aF mF z xs).1=(lin z.v (vL xs)).1/\(cP aF mF z xs).2.v=(lin z.v (vL xs)).2
 | [],_=>⟨fY,iG,rfl,nZ⟩
 | [a],h=>by
  obtain ⟨m1,m2⟩:=hM iG hz
  obtain ⟨a1,a2⟩:=hA (h a (List.mem_singleton.2 rfl)) m1
  refine ⟨fY,a1,rfl,?_⟩
  rw [IM,show vL [a] = [a.v] from rfl,O4]
  show (aF a (mF frZ z)).v=a.v+0*z.v
  rw [a2,m2,nZ]
 | a :: b :: l,h=>by
  have hb:bm (b :: l):=fun x hx=>h x (List.mem_cons_of_mem _ hx)
  obtain ⟨i1,i2,i3,i4⟩:=ND hz (b :: l) hb
  obtain ⟨m1,m2⟩:=hM i2 hz
  obtain ⟨a1,a2⟩:=hA (h a (List.mem_cons_self ..)) m1
  rw [lW]
  refine ⟨fun x hx => ?_,a1,?_,?_⟩
  ·rcases List.mem_cons.1 hx with rfl | hx
   ·exact i2
   ·exact i1 x hx
  ·show (cP aF mF z (b :: l)).2.v :: vL (cP aF mF z (b :: l)).1=(lin z.v (a.v :: b.v :: vL l)).1
   rw [zT,i3,i4]
   rfl
  ·show (aF a (mF (cP aF mF z (b :: l)).2 z)).v=(lin z.v (a.v :: b.v :: vL l)).2
   rw [zT,a2,m2,i4]
   rfl
theorem afW {z:Fr} (hz:z.ok):aF frZ (mF frZ z)=frZ:=by
 obtain ⟨m1,m2⟩:=hM iG hz
 obtain ⟨a1,a2⟩:=hA iG m1
 refine Fr.v_inj a1 iG ?_
 rw [a2,m2,nZ]
 generalize z.v=a
 grind
theorem rl {z:Fr} (hz:z.ok) : ∀ m,cP aF mF z (aK m)=(aK (m-1),frZ)
 | 0=>rfl
 | 1=>by
  show ([],aF frZ (mF frZ z))=_
  rw [afW hA hM hz]
  rfl
 | m+2=>by
  have ih:=rl hz (m+1)
  show cP aF mF z (frZ :: frZ :: aK m)=_
  rw [lW,show frZ :: aK m=aK (m+1) from rfl,ih,afW hA hM hz]
  rfl
theorem IL {z:Fr} (hz:z.ok) (m:Nat) : ∀ l,∃ k,cP aF mF z (l++aK m)=((cP aF mF z l).1++aK k,(cP aF mF z l).2)
 | []=>⟨m-1,by rw [List.nil_append,rl hA hM hz m];rfl⟩
 | [a]=>by
  cases m with
  | zero=>exact ⟨0,by rw [show aK 0 = [] from rfl,List.append_nil];rfl⟩
  | succ m =>
   refine ⟨m+1,?_⟩
   show cP aF mF z (a :: frZ :: aK m)=([]++aK (m+1),aF a (mF frZ z))
   rw [lW,show frZ :: aK m=aK (m+1) from rfl,rl hA hM hz (m+1)]
   rfl
 | a :: b :: l=>by
  obtain ⟨k,ih⟩:=IL hz m (b :: l)
  refine ⟨k,?_⟩
  rw [List.cons_append] at ih
  rw [List.cons_append,List.cons_append,lW,ih,lW]
  rfl
end
end
theorem NE (f:List Fr) (z:Fr):gV f z=(aO (cP dI cX z f).1,(cP dI cX z f).2):=by
 unfold gV
 rw [Fw]
theorem Mz (xs:List Fr) (m:Nat):aO (xs++aK m)=aO xs:=m7 xs m
theorem zW (f:List Fr) {z:Fr} (hz:z.ok):gV f z=gV (aO f) z:=by
 obtain ⟨k,e⟩:=IL tG nw hz (f.length-cK f f.length) (aO f)
 have h:=Ja f
 have e2:cP dI cX z f=((cP dI cX z (aO f)).1++aK k,(cP dI cX z (aO f)).2):=by
  rw [<- e]
  exact congrArg _ h
 rw [NE,NE,e2]
 simp only [Mz]
theorem yl (f:List Fr) {z:Fr} (hz:z.ok):(gV f z).1.length<=(aO f).length-1:=by
 rw [zW f hz]
 exact zV _ z
theorem abi {f:List Fr} (hf:bm f) {z:Fr} (hz:z.ok) (t:VR):bm (gV f z).1/\(gV f z).2.ok/\(gV f z).2.v=hor z.v (vL f)/\hor t (vL f)=hor t (vL (gV f z).1)*(t-z.v)+hor z.v (vL f):=by
 obtain ⟨h1,h2,h3,h4⟩:=ND tG nw hz f hf
 rw [NE]
 refine ⟨fK h1,h2,by rw [<- IK];exact h4,?_⟩
 show hor t (vL f)=hor t (vL (aO (cP dI cX z f).1))*(t-z.v)+hor z.v (vL f)
 rw [sT,h3]
 conv=>lhs;rw [EC t z.v,IK]
end
section
section
variable {K : Type} [Fld K] [Crv K]
noncomputable def n9 (P:Nat->Pt K) (k:Nat->Nat):Nat->Pt K
 | 0 => .inf
 | j+1=>(n9 P k j).add ((P j).mul (k j))
theorem nk {P:Nat->Pt K} {k:Nat->Nat} : ∀ {n:Nat},(∀ j,j<n->(P j).on)->(n9 P k n).on
 | 0,_=>trivial
 | n+1,h=>bN (nk fun j hj=>h j (by omega)) (ci (h n (by omega)) _)
omit [Crv K] in
theorem wK {P Q:Nat->Pt K} {k l:Nat->Nat} : ∀ {n:Nat},(∀ j,j<n->P j=Q j/\k j=l j)->n9 P k n=n9 Q l n
 | 0,_=>rfl
 | n+1,h=>by
  simp only [n9]
  rw [wK fun j hj=>h j (by omega),(h n (by omega)).1,(h n (by omega)).2]
theorem Zd {a b c d:Pt K} (ha:a.on) (hb:b.on) (hc:c.on) (hd:d.on):(a.add b).add (c.add d)=(a.add c).add (b.add d):=by
 rw [aX ha hb (bN hc hd),<- aX hb hc hd,aB hb hc,aX hc hb hd,<- aX ha hc (bN hb hd)]
theorem Hl {P:Nat->Pt K} {k l:Nat->Nat} : ∀ {n:Nat},(∀ j,j<n->(P j).on)->n9 P (fun j=>k j+l j) n=(n9 P k n).add (n9 P l n)
 | 0,_=>rfl
 | n+1,h=>by
  have h' : ∀ j,j<n->(P j).on:=fun j hj=>h j (by omega)
  simp only [n9]
  rw [Hl h',cW (h n (by omega)),Zd (nk h') (nk h') (ci (h n (by omega)) _) (ci (h n (by omega)) _)]
theorem Hk {P:Nat->Pt K} {k:Nat->Nat} (m:Nat) : ∀ {n:Nat},(∀ j,j<n->(P j).on)->n9 P (fun j=>k j*m) n=(n9 P k n).mul m
 | 0,_=>(gq m).symm
 | n+1,h=>by
  have h' : ∀ j,j<n->(P j).on:=fun j hj=>h j (by omega)
  simp only [n9]
  rw [Hk m h',iy (h n (by omega)),dc (nk h') (ci (h n (by omega)) _)]
omit [Crv K] in
theorem Bq {P:Nat->Pt K} {k:Nat->Nat} : ∀ {n:Nat},(∀ j,j<n->k j=0)->n9 P k n = .inf
 | 0,_=>rfl
 | n+1,h=>by
  simp only [n9]
  rw [Bq fun j hj=>h j (by omega),h n (by omega)]
  rfl
theorem Gk {p:Pt K} (hp:p.on):(((p.add p).add (p.add p)).add ((p.add p).add (p.add p))).add (((p.add p).add (p.add p)).add ((p.add p).add (p.add p)))=p.mul 16:=by
 have d : ∀ n,(p.mul n).add (p.mul n)=p.mul (n+n):=fun n=>(cW hp n n).symm
 have e:p.add p=p.mul 2:=by have:=d 1;rw [eT] at this;exact this
 rw [e,d 2,d 4,d 8]
end
theorem YC (k:Fr) : ∀ {i:Nat},i<4->(k.limb i).toNat=k.nat / 2 ^ (64*i) % 2 ^ 64
 | 0,_=>by
  have h0:=k.l0.toNat_lt
  show k.l0.toNat=_
  unfold Fr.nat
  rw [show W64=18446744073709551616 from rfl]
  simp only [Nat.mul_zero,Nat.pow_zero,Nat.div_one]
  omega
 | 1,_=>by
  have h0:=k.l0.toNat_lt
  have h1:=k.l1.toNat_lt
  show k.l1.toNat=_
  unfold Fr.nat
  rw [show W64=18446744073709551616 from rfl,show 2 ^ (64*1)=18446744073709551616 from rfl]
  omega
 | 2,_=>by
  have h0:=k.l0.toNat_lt
  have h1:=k.l1.toNat_lt
  have h2:=k.l2.toNat_lt
  show k.l2.toNat=_
  unfold Fr.nat
  rw [show W64=18446744073709551616 from rfl,show 2 ^ (64*2)=18446744073709551616*18446744073709551616 from rfl,<- Nat.div_div_eq_div_mul]
  omega
 | 3,_=>by
  have h0:=k.l0.toNat_lt
  have h1:=k.l1.toNat_lt
  have h2:=k.l2.toNat_lt
  have h3:=k.l3.toNat_lt
  show k.l3.toNat=_
  unfold Fr.nat
  rw [show W64=18446744073709551616 from rfl,show 2 ^ (64*3)=18446744073709551616*18446744073709551616*18446744073709551616 from rfl,<- Nat.div_div_eq_div_mul,<- Nat.div_div_eq_div_mul]
  omega
 | n+4,h=>absurd h (by omega)
theorem Zq (k:Fr) {m:Nat} (hm:m<64):(Vk k ((4*m:Nat):Int)).toNat=k.nat / 16 ^ m % 16:=by
 have hw:IntKind.i64.wrap (((4*m:Nat):Int).tdiv 64)=((m / 16:Nat):Int):=by
  rw [show (((4*m:Nat):Int).tdiv 64)=((4*m / 64:Nat):Int) from rfl,IntWalk.i64_in _ (by omega)]
  congr 1
  omega
 have hs:((UInt64.ofNat (((4*m:Nat):Int).tmod 64 % 18446744073709551616).toNat).toNat:Int)=((4*(m % 16):Nat):Int):=by
  rw [show (((4*m:Nat):Int).tmod 64)=((4*m % 64:Nat):Int) from rfl,UInt64.toNat_ofNat']
  omega
 unfold Vk
 rw [hw,hs,Int.toNat_natCast,UInt64.toNat_mod]
 unfold iY
 have hl:=YC k (i:=m / 16) (by omega)
 have e16:(UInt64.ofNat 16).toNat=16:=rfl
 have hb:=(k.limb (m / 16)).toNat_lt
 rw [UInt64.toNat_ofNat',e16,Int.toNat_natCast,Nat.min_eq_left (by omega)]
 have hd:(k.limb (m / 16)).toNat / 2 ^ (4*(m % 16))<2 ^ 64:=Nat.lt_of_le_of_lt (Nat.div_le_self _ _) hb
 rw [Nat.mod_eq_of_lt hd,hl]
 have hp:(16:Nat) ^ m=2 ^ (64*(m / 16))*2 ^ (4*(m % 16)):=by
  rw [<- Nat.pow_add,show (16:Nat)=2 ^ 4 from rfl,<- Nat.pow_mul]
  congr 1
  omega
 rw [hp,<- Nat.div_div_eq_div_mul]
 generalize k.nat / 2 ^ (64*(m / 16))=y
 have hs:4*(m % 16)+4<=64:=by omega
 obtain ⟨r,hr⟩ : ∃ r,64=4*(m % 16)+(4+r):=⟨64-4-4*(m % 16),by omega⟩
 rw [hr,Nat.pow_add,Nat.mod_mul_right_div_self,Nat.pow_add,Nat.mod_mul_right_mod]
section
variable {K : Type} [Fld K] [Crv K] {R : Sp1 -> Pt K -> Prop} {tw : Sp1 -> Sp1} {pl : Sp1 -> Sp1 -> Sp1} (h0 : R dF .inf) (htw : ∀ {s : Sp1} {p : Pt K}, p.on -> R s p -> R (tw s) (p.add p))
 (hpl : ∀ {s t:Sp1} {p q:Pt K},p.on->q.on->R s p->R t q->R (pl s t) (p.add q))
include h0 hpl in
theorem BE {s:Sp1} {p:Pt K} (hp:p.on) (h:R s p) : ∀ d,R (J0 pl s d) (p.mul d)
 | 0=>h0
 | d+1=>hpl (ci hp d) hp (BE hp h d) h
include hpl in
theorem xa {tl:List Sp1} {ks:List Fr} {z:Int} {P:Nat->Pt K} {d:Nat->Nat} {n:Nat} (hP : ∀ j,j<n->(P j).on) (ht : ∀ j,j<n->R (tl.getD (j*16+(Vk (ks.getD j fr0) z).toNat) sp0) ((P j).mul (d j)))
  {o:Sp1} {p:Pt K} (hp:p.on) (ho:R o p) : ∀ j,j<=n->R (mb pl tl ks z j o) (p.add (n9 P d j))
 | 0,_=>by
  rw [n9,cn]
  exact ho
 | j+1,h=>by
  have hw:(n9 P d j).on:=nk fun i hi=>hP i (by omega)
  have:=hpl (bN hp hw) (ci (hP j (by omega)) (d j)) (xa hP ht hp ho j (by omega)) (ht j (by omega))
  rw [aX hp hw (ci (hP j (by omega)) _)] at this
  exact this
include htw in
theorem JM {o:Sp1} {p:Pt K} (hp:p.on) (h:R o p):R (tw (tw (tw (tw o)))) (p.mul 16):=by
 rw [<- Gk hp]
 exact htw (bN (bN (bN hp hp) (bN hp hp)) (bN (bN hp hp) (bN hp hp))) (htw (bN (bN hp hp) (bN hp hp)) (htw (bN hp hp) (htw hp h)))
include htw hpl in
theorem uP {tl:List Sp1} {ks:List Fr} {P:Nat->Pt K} {n:Nat} (hP : ∀ j,j<n->(P j).on) (ht : ∀ j d,j<n->d<16->R (tl.getD (j*16+d) sp0) ((P j).mul d)) :
  ∀ (m:Nat),m<=64 -> ∀ {o:Sp1},R o (n9 P (fun j=>(ks.getD j fr0).nat / 16 ^ m) n)->R (np tw pl tl ks n m o) (n9 P (fun j=>(ks.getD j fr0).nat) n)
 | 0,_,o,h=>by
  simp only [Nat.pow_zero,Nat.div_one] at h
  exact h
 | m+1,hm,o,h=>by
  simp only [np]
  refine uP hP ht m (by omega) ?_
  have hw:=nk (k:=fun j=>(ks.getD j fr0).nat / 16 ^ (m+1)) hP
  have h1:=xa hpl (tl:=tl) (ks:=ks) (z:=((4*m:Nat):Int)) (d:=fun j=>(ks.getD j fr0).nat / 16 ^ m % 16) hP (fun j hj=>by
   rw [Zq _ (by omega)]
   exact ht j _ hj (Nat.mod_lt _ (by decide))) (ci hw 16) (JM htw hw h) n (Nat.le_refl n)
  rw [<- Hk 16 hP,<- Hl hP] at h1
  rw [wK (Q:=P) (l:=fun j=>(ks.getD j fr0).nat / 16 ^ m) (fun j _=>⟨rfl,by
   have key:(ks.getD j fr0).nat / 16 ^ (m+1)=(ks.getD j fr0).nat / 16 ^ m / 16:=by rw [Nat.pow_succ,Nat.div_div_eq_div_mul]
   show (ks.getD j fr0).nat / 16 ^ (m+1)*16+(ks.getD j fr0).nat / 16 ^ m % 16=(ks.getD j fr0).nat / 16 ^ m
   rw [key]
   generalize (ks.getD j fr0).nat / 16 ^ m=y
   omega⟩)] at h1
  exact h1
end
theorem C0 {α:Type} (f:Nat->α) (d:α) : ∀ {i:Nat},i<16->(ke f).getD i d=f i
 | 0,_=>rfl | 1,_=>rfl | 2,_=>rfl | 3,_=>rfl | 4,_=>rfl | 5,_=>rfl | 6,_=>rfl | 7,_=>rfl
 | 8,_=>rfl | 9,_=>rfl | 10,_=>rfl | 11,_=>rfl | 12,_=>rfl | 13,_=>rfl | 14,_=>rfl | 15,_=>rfl
 | n+16,h=>absurd h (by omega)
theorem w8 (f:Pg1->Nat->Sp1) (F:Pg1->Tab .sp1) (hF : ∀ p,(F p).xs=ke (f p)) : ∀ (ps:List Pg1) (j d:Nat),j<ps.length->d<16->(eM F ps).getD (j*16+d) sp0=f (ps.getD j dK) d
 | [],j,d,hj,_=>absurd hj (Nat.not_lt_zero j)
 | p :: ps,0,d,_,hd=>by
  have h16:(F p).xs.length=16:=(F p).len
  have e:eM F (p :: ps)=(F p).xs++eM F ps:=by simp [eM]
  rw [e,Nat.zero_mul,Nat.zero_add,List.getD_eq_getElem?_getD,List.getElem?_append_left (by omega),<- List.getD_eq_getElem?_getD,hF]
  exact C0 _ _ hd
 | p :: ps,j+1,d,hj,hd=>by
  have h16:(F p).xs.length=16:=(F p).len
  have e:eM F (p :: ps)=(F p).xs++eM F ps:=by simp [eM]
  rw [e,List.getD_eq_getElem?_getD,List.getElem?_append_right (by omega),h16,show (j+1)*16+d-16=j*16+d by omega,<- List.getD_eq_getElem?_getD]
  exact w8 f F hF ps j d (by simpa using hj) hd
theorem VP (p:Pg1):(jH p).xs=ke (J0 aR (dR p)):=rfl
theorem LZ {ps:List Pg1} (hp : ∀ i,i<ps.length->(ps.getD i dK).good) (ks:List Fr):(dH ps ks).good/\(dH ps ks).pt=n9 (fun j=>(ps.getD j dK).pt) (fun j=>(ks.getD j fr0).nat) (aQ ps ks):=by
 have hN:aQ ps ks<=ps.length:=Nat.min_le_right _ _
 have hP : ∀ j,j<aQ ps ks->(ps.getD j dK).pt.on:=fun j hj=>(hp j (by omega)).2
 unfold dH
 refine Te (nk hP) (uP (R:=v8) qP ue hP (fun j d hj hd => ?_) 64 (Nat.le_refl _) ?_)
 ·rw [w8 (fun p=>J0 aR (dR p)) jH VP (ps.take (aQ ps ks)) j d (by rw [List.length_take];omega) hd]
  have e:(ps.take (aQ ps ks)).getD j dK=ps.getD j dK:=by rw [List.getD_eq_getElem?_getD,List.getD_eq_getElem?_getD,List.getElem?_take_of_lt hj]
  rw [e]
  exact BE (R:=v8) oP ue (hP j hj) (Cd (hp j (by omega))) d
 ·rw [Bq fun j hj => ?_]
  ·exact oP
  ·have h1:=(ks.getD j fr0).nat_lt
   have h2:r4N=16 ^ 64:=by decide +kernel
   rw [h2] at h1
   exact Nat.div_eq_of_lt h1
end
set_option maxRecDepth 100000
section
def U7 (X K:Nat->VR):Nat->VR
 | 0=>0
 | n+1=>U7 X K n+X n*K n
theorem tR (X K:Nat->VR) (n:Nat):U7 X K (n+1)=U7 X K n+X n*K n:=rfl
theorem N4 {P:Nat->Pt V1} {k:Nat->Nat} {X K:Nat->VR} : ∀ n,(∀ i,i<n->P i=gm (X i)/\k i=(K i).nat)->n9 P k n=gm (U7 X K n)
 | 0,_=>gm_zero.symm
 | n+1,h=>by
  have ih:=N4 n fun i hi=>h i (Nat.lt_succ_of_lt hi)
  obtain ⟨h1,h2⟩:=h n (Nat.lt_succ_self n)
  show (n9 P k n).add ((P n).mul (k n))=_
  rw [ih,h1,h2,<- abq,<- NL,tR]
theorem yV {ps:List Pg1} {ks:List Fr} {X:Nat->VR} (hp : ∀ i,i<ps.length->At1 (ps.getD i dK) (X i)) (hk : ∀ i,i<ks.length->(ks.getD i fr0).ok):At1 (dH ps ks) (U7 X (fun i=>(ks.getD i fr0).v) (aQ ps ks)):=by
 have hN:aQ ps ks<=ps.length:=Nat.min_le_right _ _
 have hK:aQ ps ks<=ks.length:=Nat.min_le_left _ _
 obtain ⟨h1,h2⟩:=LZ (ps:=ps) (fun i hi=>(hp i hi).good) ks
 refine ⟨h1,?_⟩
 rw [h2]
 exact N4 _ fun i hi=>⟨(hp i (Nat.lt_of_lt_of_le hi hN)).pt,(Fr.v_nat (hk i (Nat.lt_of_lt_of_le hi hK))).symm⟩
theorem Hs (t:VR) (ks:List Fr) : ∀ n,n<=ks.length->U7 (fun i=>t ^ i) (fun i=>(ks.getD i fr0).v) n=hor t ((ks.take n).map Fr.v)
 | 0,_=>rfl
 | n+1,h=>by
  have ih:=Hs t ks n (by omega)
  have e:ks.take (n+1)=ks.take n ++ [ks.getD n fr0]:=by
   rw [List.take_add_one,List.getD_eq_getElem?_getD,List.getElem?_eq_getElem (by omega)]
   rfl
  rw [tR,ih,e,List.map_append,List.map_singleton,hI,List.length_map,List.length_take,Nat.min_eq_left (by omega)]
end
set_option maxRecDepth 100000
section
theorem IB : ∀ {l:List Fr},rh gP l=true->bm l
 | [],_=>fY
 | x :: l,h=>by
  rw [xZ] at h
  cases e:gP x with
  | false =>
   rw [e] at h
   cases h
  | true =>
   rw [e] at h
   have h:rh gP l=true:=h
   intro y hy
   rcases List.mem_cons.1 hy with rfl | hy
   ·exact Yg e
   ·exact IB h y hy
theorem rj {l:List Fr} {n:Int} (h:dr l n=true):bm l/\(l.length:Int)<=n:=by
 unfold dr at h
 cases e:rh gP l with
 | false=>rw [e] at h;cases h
 | true =>
  rw [e] at h
  exact ⟨IB e,of_decide_eq_true h⟩
theorem T6 (f0:Pg1->Fr->Pg1) (f1:Pg1) (k:Fr):EL f0 f1 k=f0 f1 k:=rfl
theorem ZB (k:Fr):ej k=jh nX k:=by unfold ej;exact T6 _ _ _
theorem T3 (f0:Pg2->Fr->Pg2) (f1:Pg2) (k:Fr):EJ f0 f1 k=f0 f1 k:=rfl
theorem ZA (k:Fr):n6 k=j7 Bl k:=by unfold n6;exact T3 _ _ _
theorem VR.one_mul (x:VR):1*x=x:=by grind
theorem o8 {k:Fr} (hk:k.ok):At1 (ej k) k.v:=by
 have:=Up EQ hk
 rw [VR.one_mul,<- ZB] at this
 exact this
theorem Jo {k:Fr} (hk:k.ok):At2 (n6 k) k.v:=by
 obtain ⟨h1,h2⟩:=JT at2_gen.good k
 rw [ZA]
 refine ⟨h1,?_⟩
 rw [h2,at2_gen.pt,NF]
 unfold hm
 rw [Fr.v_nat hk]
theorem tg:kB 1=oneFr:=rfl
theorem aaK {x:Fr} (hx:x.ok) : ∀ n,(Ee (kB 1) aw x n).ok/\(Ee (kB 1) aw x n).v=x.v ^ n
 | 0=>by
  show (kB 1).ok/\(kB 1).v=x.v ^ 0
  rw [tg,bu,nn]
  exact ⟨dQ,rfl⟩
 | n+1=>by
  obtain ⟨h1,h2⟩:=aaK hx n
  obtain ⟨m1,m2⟩:=vR h1 hx
  rw [BV]
  refine ⟨m1,?_⟩
  rw [m2,h2,aq,CR.mul_comm]
theorem BU (x:Fr) (n:Nat):(co x n).1=AI (kB 1) ej aw x n:=by simp only [co,Int.toNat_natCast]
theorem iQ (x:Fr) (n:Nat):(co x n).1.length=n:=by rw [BU,Ia]
theorem yy {α:Type} (g:Nat->α) (d:α) {n i:Nat} (hi:i<n):((List.range n).map g).getD i d=g i:=by
 rw [List.getD_eq_getElem?_getD,List.getElem?_map,List.getElem?_range hi]
 rfl
theorem WR {x:Fr} (hx:x.ok) (n:Nat) {i:Nat} (hi:i<n):At1 ((co x n).1.getD i dK) (x.v ^ i):=by
 rw [BU]
 unfold AI
 rw [yy _ dK hi]
 obtain ⟨h1,h2⟩:=aaK hx i
 have:=o8 h1
 rw [h2] at this
 exact this
theorem Th (F:List Fr->List Fr) (S:List Pg1->List Fr->Pg1) (p:List Pg1 × Pg2) (f:List Fr):(jX F S p f).outD (dK,0)=cond (decide (((F f).length:Int) > (p.1.length:Int))) (dK,8) (S p.1 (F f),0):=by
 unfold jX
 simp only [ko,ki,fq,en,wL]
 rfl
theorem L3 (p:List Pg1 × Pg2) (f:List Fr):dD p f=cond (decide (((aO f).length:Int) > (p.1.length:Int))) (dK,8) (dH p.1 (aO f),0):=Th _ _ p f
theorem EI {α:Type} {a b:Nat} (h:b<a) (x y:α):cond (decide ((a:Int) > (b:Int))) x y=x:=by
 rw [decide_eq_true (by omega)]
 rfl
theorem yO {α:Type} {a b:Nat} (h:a<=b) (x y:α):cond (decide ((a:Int) > (b:Int))) x y=y:=by
 rw [decide_eq_false (by omega)]
 rfl
theorem qr {p:List Pg1 × Pg2} {f:List Fr} (h:(aO f).length<=p.1.length):dD p f=(dH p.1 (aO f),0):=by rw [L3,yO h]
theorem acY {t:Fr} (ht:t.ok) {n:Nat} {f:List Fr} (hf:bm f) (hn:f.length<=n):At1 (dH (co t n).1 f) (hor t.v (vL f)):=by
 have h:=yV (ps:=(co t n).1) (ks:=f) (X:=fun i=>t.v ^ i) (fun i hi=>WR ht n (by rw [iQ] at hi;exact hi)) (fun i hi=>cH hf i)
 have e:aQ (co t n).1 f=f.length:=by
  unfold aQ
  rw [iQ]
  exact Nat.min_eq_left hn
 rw [e,Hs t.v f f.length (Nat.le_refl _),List.take_length] at h
 exact h
theorem Gz {t:Fr} (ht:t.ok) {n:Nat} {f:List Fr} (hf:bm f) (hn:(aO f).length<=n):(dD (co t n) f).2=0/\At1 (dD (co t n) f).1 (hor t.v (vL f)):=by
 have h:=acY ht (fK hf) hn
 rw [sT] at h
 rw [qr (by rw [iQ];exact hn)]
 dsimp only
 exact ⟨rfl,h⟩
theorem aeE (F:List Fr->List Fr) (L:List Fr->Fr->List Fr × Fr) (C:List Pg1 × Pg2->List Fr->Pg1 × Int) (p:List Pg1 × Pg2) (f:List Fr) (z:Fr) (d:Fr × Pg1 × Int):(nz F L C p f z).outD d =
  cond (decide (((F f).length:Int) > (p.1.length:Int))) (frZ,dK,8) (cond ((C p (L f z).1).2 != 0) (frZ,dK,(C p (L f z).1).2) ((L f z).2,(C p (L f z).1).1,0)):=by
 unfold nz
 simp only [ko,ki,fq,en,wL]
 rfl
theorem IU (p:List Pg1 × Pg2) (f:List Fr) (z:Fr):du p f z =
  cond (decide (((aO f).length:Int) > (p.1.length:Int))) (frZ,dK,8) (cond ((dD p (gV f z).1).2 != 0) (frZ,dK,(dD p (gV f z).1).2) ((gV f z).2,(dD p (gV f z).1).1,0)):=aeE _ _ _ p f z _
theorem ym {p:List Pg1 × Pg2} {f:List Fr} {z:Fr} (h:p.1.length<(aO f).length):du p f z=(frZ,dK,8):=by rw [IU,EI h]
theorem TX {α β:Type} (x:β) (a b:α):cond ((x,(0:Int)).2 != 0) a b=b:=rfl
theorem Gy {p:List Pg1 × Pg2} {f:List Fr} {z:Fr} (hz:z.ok) (h:(aO f).length<=p.1.length):du p f z=((gV f z).2,(dD p (gV f z).1).1,0):=by
 have hs:=yl f hz
 have hc:=dE (gV f z).1
 rw [IU,yO h,qr (by omega),TX]
theorem lX {t:Fr} (ht:t.ok) {n:Nat} {f:List Fr} (hf:bm f) {z:Fr} (hz:z.ok) (hn:(aO f).length<=n) :
  (du (co t n) f z).2.2=0/\(du (co t n) f z).1.ok/\(du (co t n) f z).1.v=hor z.v (vL f)/\At1 (du (co t n) f z).2.1 (hor t.v (vL (gV f z).1))/\hor t.v (vL f)=hor t.v (vL (gV f z).1)*(t.v-z.v)+hor z.v (vL f):=by
 obtain ⟨h1,h2,h3,h4⟩:=abi hf hz t.v
 have hs:=yl f hz
 have hc:=dE (gV f z).1
 rw [Gy hz (by rw [iQ];exact hn)]
 exact ⟨rfl,h2,h3,(Gz ht h1 (by omega)).2,h4⟩
theorem EP {p:Pg1} {x:VR} (h:At1 p x):AQ p=true:=(Ph p).2 ⟨h.good,h.in1.sub⟩
theorem afw {p:Pg2} {x:VR} (h:At2 p x):u9 p=true:=(Pg p).2 ⟨h.good,h.in2.sub⟩
theorem afv:At2 oneG2 1:=⟨gen2_good,by rw [NF]⟩
theorem VR.move (c y w z t:VR):c-y+w*z=w*t <-> c-y=w*(t-z):=by
 constructor
 ·intro h
  grind
 ·intro h
  grind
theorem aed {y:Fr} (hy:y.ok):(pj y).ok/\(pj y).v = -y.v:=by
 rw [XM]
 exact ⟨tk hy,aag hy⟩
end
set_option maxRecDepth 100000
section
theorem qo {α:Type} (p:List α) (a b:α) (s:List α):(p++a :: s).set p.length b=p++b :: s:=by
 rw [List.set_append_right _ _ (Nat.le_refl _),Nat.sub_self]
 rfl
theorem ls {α:Type} (p:List α) (a d:α) (s:List α):(p++a :: s).getD p.length d=a:=by
 rw [List.getD_eq_getElem?_getD,List.getElem?_append_right (Nat.le_refl _),Nat.sub_self]
 rfl
theorem agX {a x z c:Fr} (ha:a.ok) (hx:x.ok) (hz:z.ok) (hc:c.ok) (h:c.v = -z.v):eO a (aw x c)=bf a (aw x z):=by
 refine Fr.v_inj (DR ha (et hc)) (lL ha (et hz)) ?_
 rw [aaf ha (et hc),rU hx hc,Ap ha (et hz),rU hx hz,h]
 generalize a.v=p
 generalize x.v=q
 generalize z.v=r
 grind
theorem aat {x:Fr} (hx:x.ok):aw x oneFr=x:=by
 refine Fr.v_inj (et dQ) hx ?_
 rw [rU hx dQ,nn]
 generalize x.v=q
 grind
theorem agW {x:Fr} (hx:x.ok):eO x (aw x oneFr)=frZ:=by
 refine Fr.v_inj (DR hx (et dQ)) iG ?_
 rw [aaf hx (et dQ),rU hx dQ,nn,nZ]
 generalize x.v=q
 grind
theorem O6 {z:Fr} (hz:z.ok) {xs:List Fr} (h:bm xs):bm (cP bf aw z xs).1/\(cP bf aw z xs).2.ok:=by
 obtain ⟨h1,h2,_⟩:=ND (aF:=bf) (mF:=aw) AZ vR hz xs h
 exact ⟨h1,h2⟩
section
variable {aF mF : Fr -> Fr -> Fr}
theorem zU (z:Fr):O5 aF mF z [] = []:=rfl
theorem yj (z b:Fr) (l:List Fr):O5 aF mF z (b :: l)=(cP aF mF z (b :: l)).2 :: (cP aF mF z (b :: l)).1:=rfl
end
theorem Xi {a b:List Fr × Fr} (h1:a.1=b.1) (h2:a.2=b.2):a=b:=Prod.ext h1 h2
theorem O7 {z:Fr} (hz:z.ok) : ∀ {xs:List Fr},bm xs->cP bf aw z xs=cP dI cX z xs
 | [],_=>by rw [sL,sL]
 | a :: l,h=>by
  have hl:bm l:=fun x hx=>h x (List.mem_cons_of_mem _ hx)
  have ha:a.ok:=h a (List.mem_cons_self ..)
  have ih:=O7 hz hl
  obtain ⟨_,o2⟩:=O6 hz hl
  refine Xi ?_ ?_
  ·rw [kW,kW]
   cases l with
   | nil=>rw [zU,zU]
   | cons b l=>rw [yj,yj,ih]
  ·rw [mp,mp,<- ih,Iw o2 hz,Jq ha (et hz)]
theorem agl {z c:Fr} (hz:z.ok) (hc:c.ok) (h:c.v = -z.v) : ∀ (n:Nat) (p s:List Fr),p.length=n->s ≠ []->bm p->bm s ->
  (dvR aw eO [c,oneFr] oneFr n (p++(cP bf aw z s).2 :: aK (s.length-1),aK n++((cP bf aw z s).1 ++ [frZ]))).2=(cP bf aw z (p++s)).1 ++ [frZ]
 | 0,p,s,hp,hs,h1,h2=>by
  obtain rfl:p = []:=List.length_eq_zero_iff.1 hp
  rw [sQ]
  exact List.nil_append _
 | n+1,p,s,hp,hs,h1,h2=>by
  have hne:p ≠ []:=by intro e;rw [e] at hp;cases hp
  have e1:p=p.dropLast ++ [p.getLast hne]:=(List.dropLast_concat_getLast hne).symm
  generalize p.getLast hne=a at e1
  have hl:p.dropLast.length=n:=by rw [List.length_dropLast,hp];omega
  generalize p.dropLast=q at *
  subst e1
  have ha:a.ok:=h1 a (by simp)
  have hq:bm q:=fun x hx=>h1 x (by simp [hx])
  obtain ⟨o1,o2⟩:=O6 hz h2
  have ih:=agl hz hc h n q (a :: s) hl (by simp) hq (fun x hx=>by
   rcases List.mem_cons.1 hx with rfl | hx
   ·exact ha
   ·exact h2 x hx)
  have es:(cP bf aw z (a :: s)).1=(cP bf aw z s).2 :: (cP bf aw z s).1:=by
   cases s with
   | nil=>exact absurd rfl hs
   | cons b s=>rfl
  rw [mp,es] at ih
  generalize hx:(cP bf aw z s).2=x at *
  generalize (cP bf aw z s).1=r at *
  rw [show q ++ [a]++s=q++a :: s by simp,<- ih,Aa]
  have g1:(q ++ [a]++x :: aK (s.length-1)).getD (n+2-1) frZ=x:=by
   have:=ls (q ++ [a]) x frZ (aK (s.length-1))
   rw [List.length_append,hl] at this
   exact this
  rw [show [c,oneFr].length=2 from rfl,g1,aat o2]
  have row:je aw eO (q ++ [a]++x :: aK (s.length-1)) [c,oneFr] x n 2=q++bf a (aw x z) :: aK ((a :: s).length-1):=by
   have r1:je aw eO (q ++ [a]++x :: aK (s.length-1)) [c,oneFr] x n 1=q++bf a (aw x z) :: x :: aK (s.length-1):=by
    rw [m6,Mw]
    show (q ++ [a]++x :: aK (s.length-1)).set n (eO ((q ++ [a]++x :: aK (s.length-1)).getD n frZ) (aw x c))=_
    rw [List.append_assoc,List.singleton_append,<- hl,ls,qo,agX ha o2 hz hc h]
   rw [m6,r1]
   show (q++bf a (aw x z) :: x :: aK (s.length-1)).set (n+1) (eO ((q++bf a (aw x z) :: x :: aK (s.length-1)).getD (n+1) frZ) (aw x oneFr))=_
   have e3:q++bf a (aw x z) :: x :: aK (s.length-1)=(q ++ [bf a (aw x z)])++x :: aK (s.length-1):=by simp
   have e4:n+1=(q ++ [bf a (aw x z)]).length:=by rw [List.length_append,hl];rfl
   rw [e3,e4,ls,qo,agW o2,List.append_assoc,List.singleton_append]
   congr 2
   obtain ⟨m,hm⟩ : ∃ m,s.length=m+1:=⟨s.length-1,by have:=List.length_pos_iff.2 hs;omega⟩
   rw [List.length_cons,hm]
   rfl
  rw [row]
  have st:(aK (n+1)++(r ++ [frZ])).set n x=aK n++(x :: r ++ [frZ]):=by
   rw [wG]
   rfl
  rw [st]
theorem ae4 {z c:Fr} (hz:z.ok) (hc:c.ok) (h:c.v = -z.v) {A:List Fr} (hA:bm A) :
  aO (dvR aw eO [c,oneFr] oneFr (A.length+1-2) (A,aK A.length)).2=aO (cP bf aw z A).1:=by
 cases hn:A.length with
 | zero =>
  obtain rfl:A = []:=List.length_eq_zero_iff.1 hn
  rw [show 0+1-2=0 from rfl,sQ,sL]
  rfl
 | succ n =>
  have hne:A ≠ []:=by intro e;rw [e] at hn;cases hn
  have e1:A=A.dropLast ++ [A.getLast hne]:=(List.dropLast_concat_getLast hne).symm
  generalize A.getLast hne=a at e1
  have hl:A.dropLast.length=n:=by rw [List.length_dropLast,hn];omega
  generalize A.dropLast=p at *
  subst e1
  have ha:a.ok:=hA a (by simp)
  have hp:bm p:=fun x hx=>hA x (by simp [hx])
  have key:=agl hz hc h n p [a] hl (by simp) hp (fun x hx=>by rw [List.mem_singleton.1 hx];exact ha)
  have ea:(cP bf aw z [a]).2=a:=by
   rw [IM]
   dsimp only
   refine Fr.v_inj (lL ha (et hz)) ha ?_
   rw [Ap ha (et hz),rU iG hz,nZ]
   generalize a.v=p
   generalize z.v=q
   grind
  have e0:(cP bf aw z [a]).1 = []:=by
   rw [kW,zU]
  have e1:aK ([a].length-1) = []:=rfl
  rw [ea,e0,e1] at key
  rw [show n+1+1-2=n by omega]
  have ez:aK (n+1)=aK n++([] ++ [frZ]):=by
   unfold aK
   rw [List.replicate_succ',List.nil_append]
  rw [ez]
  rw [key]
  exact m7 _ 1
end
set_option maxRecDepth 100000
section
theorem Pz (x:Fr) {n:Nat} (h:n<4294967296):few (co x n).1:=by
 show (co x n).1.length<4294967296
 rw [iQ]
 exact h
def frN (n:Nat):Fr:=⟨UInt64.ofNat n,UInt64.ofNat 0,UInt64.ofNat 0,UInt64.ofNat 0⟩
theorem Zx (a b:Bool):cond a b false=(a && b):=by cases a <;> rfl
theorem v3:(frN 1).v+(frN 2).v*((frN 1).v+(frN 2).v*0)=(frN 3).v:=VR.ext (by decide +kernel)
theorem v6:(frN 1).v+(frN 5).v*((frN 1).v+(frN 5).v*0)=(frN 6).v:=VR.ext (by decide +kernel)
end
set_option maxRecDepth 100000
section
theorem Xw {l:List Fr} {g:Fr->Fr} (h : ∀ x ∈ l,(g x).ok):bm (l.map g):=fun y hy=>by
 obtain ⟨x,hx,rfl⟩:=List.mem_map.1 hy
 exact h x hx
theorem Vv {l:List Fr} (h:bm l) {k:Fr} (hk:k.ok):vL (l.map fun a=>aw a k)=(vL l).map fun a=>a*k.v:=by
 unfold vL
 rw [List.map_map,List.map_map]
 refine List.map_congr_left fun x hx => ?_
 exact rU (h x hx) hk
theorem WF {l:List Fr} (h:bm l) {k:Fr} (hk:k.ok) (t:VR):bm (aM l k)/\hor t (vL (aM l k))=hor t (vL l)*k.v:=by
 unfold aM
 refine ⟨fK (Xw fun x _=>et hk),?_⟩
 rw [sT,Vv h hk,Ch]
theorem Pm (t:VR) (l:List Fr) {n:Nat} (h:l.length<=n):hor t ((List.range n).map fun i=>(atL l i).v)=hor t (vL l):=by
 have e:((List.range n).map fun i=>(atL l i).v)=vL l++List.replicate (n-l.length) 0:=by
  refine List.ext_getElem? fun i => ?_
  rw [List.getElem?_map]
  by_cases hi:i<n
  ·rw [List.getElem?_range hi]
   show some (atL l i).v=_
   unfold atL vL
   by_cases h1:i<l.length
   ·rw [List.getElem?_append_left (by rw [List.length_map];exact h1),List.getElem?_map,List.getD_eq_getElem?_getD,List.getElem?_eq_getElem h1]
    rfl
   ·rw [List.getElem?_append_right (by rw [List.length_map];omega),List.length_map,List.getElem?_replicate,if_pos (by omega),List.getD_eq_getElem?_getD,List.getElem?_eq_none (by omega)]
    exact congrArg some nZ
  ·rw [List.getElem?_eq_none (by rw [List.length_range];omega),List.getElem?_eq_none (by unfold vL;rw [List.length_append,List.length_map,List.length_replicate];omega)]
   rfl
 rw [e,Pk]
theorem ahi {l m:List Fr} (hl:bm l) (hm:bm m) (t:VR):bm (bS l m)/\hor t (vL (bS l m))=hor t (vL l)+hor t (vL m):=by
 unfold bS
 have h1 : ∀ i,(atL l i).ok:=fun i=>cH hl i
 have h2 : ∀ i,(atL m i).ok:=fun i=>cH hm i
 refine ⟨fK (fun y hy => ?_),?_⟩
 ·unfold kO at hy
  obtain ⟨i,_,rfl⟩:=List.mem_map.1 hy
  exact lL (h1 i) (h2 i)
 ·rw [sT]
  have e:vL (kO l m (cB l m))=(List.range (cB l m)).map fun i=>(atL l i).v+(atL m i).v:=by
   unfold vL kO
   rw [List.map_map]
   refine List.map_congr_left fun i _ => ?_
   exact Ap (h1 i) (h2 i)
  rw [e,Pn,Pm t l (n:=cB l m) (Nat.le_max_right _ _),Pm t m (n:=cB l m) (Nat.le_max_left _ _)]
theorem KB (l:List Fr) (k:Fr):(aM l k).length<=l.length:=by
 unfold aM
 refine Nat.le_trans (dE _) ?_
 rw [List.length_map]
 exact Nat.le_refl _
theorem WH (l m:List Fr):(bS l m).length<=cB l m:=by
 unfold bS
 refine Nat.le_trans (dE _) ?_
 rw [pD]
 exact Nat.le_refl _
end
set_option maxRecDepth 100000
section
theorem R9 (f:UInt64->Fr):Em f=f 1:=rfl
theorem Iq:sD=oneFr:=by
 unfold sD
 rw [R9,tg]
theorem Ej:aw oneFr oneFr=oneFr:=aat dQ
theorem qY (e:List UInt64) : ∀ n,nM oneFr e n oneFr=oneFr
 | 0=>rfl
 | n+1=>by
  show nM oneFr e n (match df e n with | true=>aw (aw oneFr oneFr) oneFr | false=>aw oneFr oneFr)=oneFr
  cases df e n with
  | true =>
   show nM oneFr e n (aw (aw oneFr oneFr) oneFr)=oneFr
   rw [Ej,Ej]
   exact qY e n
  | false =>
   show nM oneFr e n (aw oneFr oneFr)=oneFr
   rw [Ej]
   exact qY e n
theorem YI {a:Fr} (h:fw a zeroFr=false):pu a=(xG a rm2,0):=by
 unfold pu
 rw [h]
theorem YH:(pu oneFr).1=oneFr:=by
 have h:fw oneFr zeroFr=false:=by decide
 rw [YI h]
 dsimp only
 unfold xG
 rw [tg]
 exact qY _ _
theorem Ac (c:Fr):aO [c,oneFr] = [c,oneFr]:=by
 have h:fw oneFr frZ=false:=by decide
 have e:cK [c,oneFr] 2=2:=by
  rw [yM]
  show (match fw oneFr frZ with | true=>cK [c,oneFr] 1 | false=>1+1)=2
  rw [h]
 unfold aO
 show List.take (cK [c,oneFr] 2) [c,oneFr]=_
 rw [e]
 rfl
theorem abD {a:List Fr} (ha:bm a) {z c:Fr} (hz:z.ok) (hc:c.ok) (h:c.v = -z.v):(dvF a [c,oneFr]).1=(gV a z).1:=by
 have e:dvF a [c,oneFr]=(aO (dvR aw eO (aO [c,oneFr]) (pu ((aO [c,oneFr]).getD 1 frZ)).1 ((aO a).length+1-(aO [c,oneFr]).length) (aO a,aK (aO a).length)).2,0) :=
  Ab (n:=1) (by rw [Ac];rfl)
 rw [e,Ac]
 show aO (dvR aw eO [c,oneFr] (pu oneFr).1 ((aO a).length+1-2) (aO a,aK (aO a).length)).2=_
 rw [YH,ae4 hz hc h (fK ha),O7 hz (fK ha),zW a hz]
 unfold gV
 rw [Fw]
def abR (aF:Fr->Fr->Fr) (l m:List Fr) (n:Nat):List Fr:=(List.range n).map fun i=>aF (atL l i) (atL m i)
theorem afz (l m:List Fr) (n:Nat):kO l m n=abR bf l m n:=by
 unfold kO abR
 exact List.map_congr_left fun _ _=>Eq.refl _
theorem Z5 (c:Fr) (l:List Fr) (i:Nat):atL (c :: l) (i+1)=atL l i:=by
 unfold atL
 rw [List.getD_cons_succ]
theorem aiW (l:List Fr) {i:Nat} (h:i<l.length):atL l i=l[i]:=by
 unfold atL
 rw [List.getD_eq_getElem?_getD,List.getElem?_eq_getElem h]
 exact Option.getD_some
theorem aft (l:List Fr) {i:Nat} (h:l.length<=i):atL l i=frZ:=by
 unfold atL
 rw [List.getD_eq_getElem?_getD,List.getElem?_eq_none h]
 exact Option.getD_none
theorem MX {aF:Fr->Fr->Fr} {c:Fr} {l s:List Fr} (hs:s.length<=1) (h0 : ∀ x ∈ l,aF x frZ=x):abR aF (c :: l) s (l.length+1)=aF c (atL s 0) :: l:=by
 unfold abR
 rw [List.range_succ_eq_map,List.map_cons,List.map_map]
 have h1:List.map ((fun i=>aF (atL (c :: l) i) (atL s i)) ∘ Nat.succ) (List.range l.length)=l:=by
  refine List.ext_getElem (by rw [List.length_map,List.length_range]) fun i hi hi2 => ?_
  rw [List.getElem_map,List.getElem_range]
  show aF (atL (c :: l) (i+1)) (atL s (i+1))=l[i]
  rw [Z5,aiW l hi2,aft s (by omega)]
  exact h0 _ (List.getElem_mem hi2)
 rw [h1]
 rfl
theorem GQ (x:Fr):aO [x] = [] \/ aO [x] = [x]:=by
 have h:=dE [x]
 have h2:=Ad [x]
 unfold aO
 generalize cK [x] [x].length=n at *
 match n with
 | 0=>exact .inl (List.take_zero)
 | n+1=>exact .inr (by rw [List.take_succ_cons,List.take_nil])
theorem afu (x:Fr):atL (aO [x]) 0=frZ \/ atL (aO [x]) 0=x:=by
 rcases GQ x with e | e
 ·rw [e];exact .inl rfl
 ·rw [e];exact .inr rfl
theorem BN (l:List Fr) (y:Fr):jI l [y]=bS l (aO [aw y (dN oneFr)]):=by
 rw [zo,tg]
 unfold aM
 rw [List.map_cons,List.map_nil]
theorem BS (l m:List Fr):bS l m=aO (abR bf l m (cB l m)):=by
 unfold bS
 rw [afz]
theorem KA (c:Fr) (l:List Fr) (hl:bm l) (y:Fr):jI (c :: l) [y]=aO (bf c (atL (aO [aw y (dN oneFr)]) 0) :: l):=by
 rw [BN,BS]
 have len:(aO [aw y (dN oneFr)]).length<=1:=dE _
 generalize aO [aw y (dN oneFr)]=s at len ⊢
 have hm:cB (c :: l) s=l.length+1:=by
  show max s.length (c :: l).length=l.length+1
  rw [List.length_cons]
  exact Nat.max_eq_right (by omega)
 rw [hm,MX len fun x hx => ?_]
 have hx:x.ok:=hl x hx
 refine Fr.v_inj (lL hx iG) hx ?_
 rw [Ap hx iG,nZ]
 generalize x.v=p
 grind
theorem Rk {f:List Fr} (hf:bm f) {z:Fr} (hz:z.ok):fe f z=(gV f z).1:=by
 have hn:(dN z).ok:=tk hz
 have hv:(dN z).v = -z.v:=aag hz
 rw [BR,Iq]
 have hy:(fC f z).ok:=(Ea hf hz).1
 generalize fC f z=y at hy
 cases f with
 | nil =>
  have ok:bm (jI [] [y]):=by
   rw [BN,BS]
   refine fK fun x hx => ?_
   unfold abR at hx
   obtain ⟨i,_,rfl⟩:=List.mem_map.1 hx
   refine lL (cH fY i) (cH ?_ i)
   exact fK fun x hx=>by
    rw [List.mem_singleton.1 hx]
    exact et (tk dQ)
  have len:(jI [] [y]).length<=1:=by
   rw [zo]
   refine Nat.le_trans (WH _ _) ?_
   refine Nat.max_le.2 ⟨KB _ _,Nat.zero_le _⟩
  rw [abD ok hz hn hv]
  generalize jI [] [y]=a at len
  have h1:((gV a z).1).length=0:=by
   have:=zV a z
   omega
  rw [List.length_eq_zero_iff.1 h1]
  rfl
 | cons c l =>
  have hc:c.ok:=hf c (List.mem_cons_self ..)
  have hl:bm l:=fun x hx=>hf x (List.mem_cons_of_mem _ hx)
  have e1:=KA c l hl y
  have e2:=afu (aw y (dN oneFr))
  have hm:(aw y (dN oneFr)).ok:=et (tk dQ)
  generalize aw y (dN oneFr)=x at e1 e2 hm
  generalize atL (aO [x]) 0=e at e1 e2
  have he:e.ok:=by
   rcases e2 with rfl | rfl
   ·exact iG
   ·exact hm
  have ok:bm (bf c e :: l):=fun x hx=>by
   rcases List.mem_cons.1 hx with rfl | hx
   ·exact lL hc he
   ·exact hl x hx
  rw [e1,abD (fK ok) hz hn hv,<- zW _ hz]
  unfold gV
  rw [Fw,Fw,kW,kW]
theorem I9 {mF sF:Fr->Fr->Fr} (B:List Fr) (t:Fr) : ∀ (n:Nat) (s:List Fr × List Fr),(dvR mF sF B t n s).2.length=s.2.length
 | 0,s=>by rw [sQ]
 | n+1,(A,q)=>by rw [Aa,I9 B t n,List.length_set]
theorem Zy {t:Fr} (ht:t.ok) {f:List Fr} (hf:bm f):At1 (lR t f) (hor t.v (vL f)):=by
 obtain ⟨h1,h2⟩:=Ea hf ht
 rw [ZD]
 have:=o8 (k:=fC f t) h1
 rw [show (fC f t).v=hor t.v (vL f) from h2] at this
 exact this
end
set_option maxRecDepth 100000
section
noncomputable def cv (l:List Fr) (i:Nat):VR:=(atL l i).v
theorem iM {l:List Fr} {i:Nat} (h:l.length<=i):atL l i=frZ:=by
 unfold atL
 rw [List.getD_eq_getElem?_getD,List.getElem?_eq_none h]
 rfl
theorem U5 {l:List Fr} {i:Nat} (h:i<l.length):atL l i=l[i]:=by
 unfold atL
 rw [List.getD_eq_getElem?_getD,List.getElem?_eq_getElem h]
 rfl
theorem Z4 {l:List Fr} {n i:Nat} (h:i<n):atL (l.take n) i=atL l i:=by
 unfold atL
 rw [List.getD_eq_getElem?_getD,List.getElem?_take_of_lt h,List.getD_eq_getElem?_getD]
theorem abW (l:List Fr) (i:Nat):atL (aO l) i=atL l i:=by
 by_cases h:i<cK l l.length
 ·exact Z4 h
 ·rw [iM (by rw [Ad];omega)]
  by_cases h3:i<l.length
  ·exact (rq l l.length i (by omega) h3).symm
  ·exact (iM (by omega)).symm
theorem FG (l:List Fr) (i:Nat):cv (aO l) i=cv l i:=by
 unfold cv
 rw [abW]
theorem Ds {a b:List Fr} (hl:a.length=b.length) (h : ∀ i,atL a i=atL b i):a=b:=by
 refine List.ext_getElem hl fun i h1 h2 => ?_
 have:=h i
 rw [U5 h1,U5 h2] at this
 exact this
theorem PX (a:List Fr) (m i:Nat):atL (a++List.replicate m frZ) i=atL a i:=by
 by_cases h:i<a.length
 ·unfold atL
  rw [List.getD_eq_getElem?_getD,List.getElem?_append_left h,List.getD_eq_getElem?_getD]
 ·rw [iM (Nat.le_of_not_lt h)]
  by_cases h2:i<a.length+m
  ·unfold atL
   rw [List.getD_eq_getElem?_getD,List.getElem?_append_right (by omega),List.getElem?_replicate,if_pos (by omega)]
   rfl
  ·exact iM (by rw [List.length_append,List.length_replicate];omega)
theorem PD {a b:List Fr} (h : ∀ i,atL a i=atL b i):aO a=aO b:=by
 rw [<- m7 a (b.length-a.length),<- m7 b (a.length-b.length)]
 refine congrArg aO (Ds ?_ fun i=>by rw [PX,PX,h i])
 rw [List.length_append,List.length_append,List.length_replicate,List.length_replicate]
 omega
theorem PF (a:List Fr):aO (aO a)=aO a:=PD (abW a)
theorem CC {a b:List Fr} (ha:bm a) (hb:bm b) (h : ∀ i,cv a i=cv b i):aO a=aO b:=PD fun i=>Fr.v_inj (cH ha i) (cH hb i) (h i)
theorem Uo (g:Nat->Fr) (n i:Nat):atL ((List.range n).map g) i=if i<n then g i else frZ:=by
 by_cases h:i<n
 ·rw [if_pos h,U5 (by rw [List.length_map,List.length_range];exact h),List.getElem_map,List.getElem_range]
 ·rw [if_neg h]
  exact iM (by rw [List.length_map,List.length_range];omega)
theorem kA {g:Nat->Fr} {n:Nat} (h : ∀ i,i<n->(g i).ok):bm ((List.range n).map g):=fun x hx=>by
 obtain ⟨i,hi,rfl⟩:=List.mem_map.1 hx
 exact h i (List.mem_range.1 hi)
theorem sS {g:Nat->Fr} {n:Nat} {X:Nat->VR} (h : ∀ i,i<n->(g i).v=X i) (h0 : ∀ i,n<=i->X i=0) (i:Nat):cv ((List.range n).map g) i=X i:=by
 unfold cv
 rw [Uo]
 by_cases hi:i<n
 ·rw [if_pos hi,h i hi]
 ·rw [if_neg hi,nZ,h0 i (Nat.le_of_not_lt hi)]
theorem di {l:List Fr} {i:Nat} (h:l.length<=i):cv l i=0:=by
 unfold cv
 rw [iM h,nZ]
theorem VR.zz:(0:VR)+0=0:=by grind
theorem VR.zm (x:VR):0*x=0:=by grind
theorem Nx (l m:List Fr):l.length<=cB l m:=Nat.le_max_right _ _
theorem aa9 (l m:List Fr):m.length<=cB l m:=Nat.le_max_left _ _
theorem ahw (tF:List Fr->Int->Fr) (aF:Fr->Fr->Fr) (l m:List Fr) (i:Nat):pbG tF aF l m i=aF (tF l (i:Int)) (tF m (i:Int)):=rfl
theorem ahu (tF:List Fr->Int->Fr) (gF:Fr->Fr->Fr->Fr) (l m:List Fr) (x:Fr) (i:Nat):pcG tF gF l m x i=gF (tF l (i:Int)) (tF m (i:Int)) x:=rfl
theorem Aj (l:List Fr) (i:Nat):nG l (i:Int)=atL l i:=by
 unfold nG
 rw [Int.toNat_natCast]
theorem Np {l m:List Fr} (hl:bm l) (hm:bm m):bm (fN l m) /\ ∀ i,cv (fN l m) i=cv l i+cv m i:=by
 have key : ∀ i,pbG nG dI l m i=dI (atL l i) (atL m i):=fun i=>by rw [ahw,Aj,Aj]
 have ok : ∀ i,(pbG nG dI l m i).ok/\(pbG nG dI l m i).v=cv l i+cv m i:=fun i=>by
  rw [key]
  exact tG (cH hl i) (cH hm i)
 unfold fN qb
 refine ⟨fK (kA fun i _=>(ok i).1),fun i => ?_⟩
 rw [FG]
 refine sS (X:=fun i=>cv l i+cv m i) (fun i _=>(ok i).2) (fun i hi => ?_) i
 have h1:=Nx l m
 have h2:=aa9 l m
 show cv l i+cv m i=0
 rw [di (l:=l) (by omega),di (l:=m) (by omega),VR.zz]
theorem zu {l:List Fr} (hl:bm l) {k:Fr} (hk:k.ok):bm (bT l k) /\ ∀ i,cv (bT l k) i=cv l i*k.v:=by
 have key : ∀ i,pcG nG ji l [] k i=cX (atL l i) k:=fun i=>by
  rw [ahu,Aj]
  unfold ji
  rfl
 have ok : ∀ i,(pcG nG ji l [] k i).ok/\(pcG nG ji l [] k i).v=cv l i*k.v:=fun i=>by
  rw [key]
  exact nw (cH hl i) hk
 unfold bT rX
 refine ⟨fK (kA fun i _=>(ok i).1),fun i => ?_⟩
 rw [FG]
 refine sS (X:=fun i=>cv l i*k.v) (fun i _=>(ok i).2) (fun i hi => ?_) i
 have h1:=Nx l []
 show cv l i*k.v=0
 rw [di (l:=l) (by omega),VR.zm]
theorem ads {l m:List Fr} (hl:bm l) (hm:bm m):bm (bS l m) /\ ∀ i,cv (bS l m) i=cv l i+cv m i:=by
 have ok : ∀ i,(bf (atL l i) (atL m i)).ok/\(bf (atL l i) (atL m i)).v=cv l i+cv m i:=fun i=>AZ (cH hl i) (cH hm i)
 unfold bS kO
 refine ⟨fK (kA fun i _=>(ok i).1),fun i => ?_⟩
 rw [FG]
 refine sS (X:=fun i=>cv l i+cv m i) (fun i _=>(ok i).2) (fun i hi => ?_) i
 have h1:=Nx l m
 have h2:=aa9 l m
 show cv l i+cv m i=0
 rw [di (l:=l) (by omega),di (l:=m) (by omega),VR.zz]
theorem SS (l:List Fr) (g:Fr->Fr):l.map g=(List.range l.length).map fun i=>g (atL l i):=by
 refine List.ext_getElem (by rw [List.length_map,List.length_map,List.length_range]) fun i h1 h2 => ?_
 rw [List.length_map] at h1
 rw [List.getElem_map,List.getElem_map,List.getElem_range,U5 h1]
theorem Rj {l:List Fr} (hl:bm l) {k:Fr} (hk:k.ok):bm (aM l k) /\ ∀ i,cv (aM l k) i=cv l i*k.v:=by
 have ok : ∀ i,(aw (atL l i) k).ok/\(aw (atL l i) k).v=cv l i*k.v:=fun i=>vR (cH hl i) hk
 unfold aM
 rw [SS]
 refine ⟨fK (kA fun i _=>(ok i).1),fun i => ?_⟩
 rw [FG]
 refine sS (X:=fun i=>cv l i*k.v) (fun i _=>(ok i).2) (fun i hi => ?_) i
 show cv l i*k.v=0
 rw [di hi,VR.zm]
theorem ace {o:Fr} {mF:Fr->Fr->Fr} (hM : ∀ {a b:Fr},a.ok->b.ok->(mF a b).ok/\(mF a b).v=a.v*b.v) (ho:o.ok) (ho1:o.v=1) {x:Fr} (hx:x.ok) : ∀ n,(pwK o mF x n).ok/\(pwK o mF x n).v=x.v ^ n
 | 0=>⟨ho,by rw [bu];exact ho1⟩
 | n+1=>by
  obtain ⟨h1,h2⟩:=ace hM ho ho1 hx n
  obtain ⟨m1,m2⟩:=hM h1 hx
  rw [zr]
  exact ⟨m1,by rw [m2,h2,aq]⟩
theorem akv:uZ (UInt64.ofNat 1)=oneFr:=rfl
theorem af3 {x:Fr} (hx:x.ok) (n:Nat):(pwK (uZ (UInt64.ofNat 1)) cX x n).ok/\(pwK (uZ (UInt64.ofNat 1)) cX x n).v=x.v ^ n:=by
 rw [akv]
 exact ace nw dQ nn hx n
theorem ahg (f:UInt64->Fr):zp f=f (1:UInt64):=rfl
theorem Rn:bR=oneFr:=by
 unfold bR
 rw [ahg,tg]
theorem ahh (f:Fr->Fr->Fr) (a b:Fr):zq f a b=f a b:=rfl
theorem WG {a b:Fr} (ha:a.ok) (hb:b.ok):(bM a b).ok/\(bM a b).v=a.v*b.v:=by
 unfold bM
 rw [ahh]
 exact vR ha hb
theorem af2 {x:Fr} (hx:x.ok) (n:Nat):(pwK bR bM x n).ok/\(pwK bR bM x n).v=x.v ^ n:=by
 rw [Rn]
 exact ace WG dQ nn hx n
noncomputable def fs (f:List (List Fr)) (v:VR) (i:Nat):Nat->VR
 | 0=>0
 | n+1=>fs f v i n+cv (f.getD n []) i*v ^ n
theorem Px (f:List (List Fr)) (v:VR) (i n:Nat):fs f v i (n+1)=fs f v i n+cv (f.getD n []) i*v ^ n:=rfl
def BZ (f:List (List Fr)):Prop := ∀ xs ∈ f,bm xs
theorem sE {f:List (List Fr)} (h:BZ f) (n:Nat):bm (f.getD n []):=by
 rw [List.getD_eq_getElem?_getD]
 cases e:f[n]? with
 | none=>exact fY
 | some x=>exact h x (List.mem_of_getElem? e)
theorem VR.step1 (a c p s w:VR):(a*w+c)*p+s=a*(p*w)+(s+c*p):=by grind
theorem VR.start (a s:VR):a=a*1+0:=by grind
theorem yJ {sF:List Fr->Fr->List Fr} {aF:List Fr->List Fr->List Fr} (hS : ∀ {l:List Fr},bm l -> ∀ {k:Fr},k.ok->bm (sF l k) /\ ∀ i,cv (sF l k) i=cv l i*k.v) (hA : ∀ {l m:List Fr},bm l->bm m->bm (aF l m) /\ ∀ i,cv (aF l m) i=cv l i+cv m i)
  {f:List (List Fr)} (hf:BZ f) {v:Fr} (hv:v.ok) : ∀ n {q:List Fr},bm q->bm (n0 sF aF f v n q) /\ ∀ i,cv (n0 sF aF f v n q) i=cv q i*v.v ^ n+fs f v.v i n
 | 0,q,hq=>⟨hq,fun i=>by
  show cv q i=cv q i*v.v ^ 0+0
  rw [bu]
  exact VR.start _ 0⟩
 | n+1,q,hq=>by
  obtain ⟨s1,s2⟩:=hS hq hv
  obtain ⟨a1,a2⟩:=hA s1 (sE hf n)
  obtain ⟨i1,i2⟩:=yJ hS hA hf hv n a1
  rw [kK]
  refine ⟨i1,fun i => ?_⟩
  rw [i2,a2,s2,Px,aq]
  exact VR.step1 _ _ _ _ _
theorem Py {sF:List Fr->Fr->List Fr} {aF:List Fr->List Fr->List Fr} {mF:Fr->Fr->Fr} {o:Fr} (hS : ∀ {l:List Fr},bm l -> ∀ {k:Fr},k.ok->bm (sF l k) /\ ∀ i,cv (sF l k) i=cv l i*k.v) (hA : ∀ {l m:List Fr},bm l->bm m->bm (aF l m) /\ ∀ i,cv (aF l m) i=cv l i+cv m i)
  {f:List (List Fr)} (hf:BZ f) {v:Fr} (hP : ∀ n,(pwK o mF v n).ok/\(pwK o mF v n).v=v.v ^ n) : ∀ n,bm (iH sF aF mF o f v n) /\ ∀ i,cv (iH sF aF mF o f v n) i=fs f v.v i n
 | 0=>⟨fY,fun i=>di (Nat.zero_le _)⟩
 | n+1=>by
  obtain ⟨i1,i2⟩:=Py hS hA hf hP n
  obtain ⟨p1,p2⟩:=hP n
  obtain ⟨s1,s2⟩:=hS (sE hf n) p1
  obtain ⟨a1,a2⟩:=hA i1 s1
  rw [kJ]
  refine ⟨a1,fun i => ?_⟩
  rw [a2,i2,s2,p2,Px]
theorem uv {sF:List Fr->Fr->List Fr} {aF:List Fr->List Fr->List Fr} (hC : ∀ l m,aO (aF l m)=aF l m) (f:List (List Fr)) (v:Fr) : ∀ n {q:List Fr},aO q=q->aO (n0 sF aF f v n q)=n0 sF aF f v n q
 | 0,_,h=>h
 | n+1,q,_=>by
  rw [kK]
  exact uv hC f v n (hC _ _)
theorem TH {sF:List Fr->Fr->List Fr} {aF:List Fr->List Fr->List Fr} {mF:Fr->Fr->Fr} {o:Fr} (hC : ∀ l m,aO (aF l m)=aF l m) (f:List (List Fr)) (v:Fr) : ∀ n,aO (iH sF aF mF o f v n)=iH sF aF mF o f v n
 | 0=>rfl
 | n+1=>by
  rw [kJ]
  exact hC _ _
theorem Il (l m:List Fr):aO (fN l m)=fN l m:=by
 unfold fN qb
 exact PF _
theorem WI (l m:List Fr):aO (bS l m)=bS l m:=by
 unfold bS
 exact PF _
theorem z9 {f:List (List Fr)} (hf:BZ f) {v:Fr} (hv:v.ok):bH f v=li f v:=by
 obtain ⟨h1,h2⟩:=yJ zu Np hf hv f.length fY
 obtain ⟨k1,k2⟩:=Py Rj ads hf (af2 hv) f.length
 have c1:=uv (sF:=bT) Il f v f.length (q := []) rfl
 have c2:=TH (sF:=aM) (mF:=bM) (o:=bR) WI f v f.length
 unfold bH li
 rw [<- c1,<- c2]
 refine CC h1 k1 fun i => ?_
 rw [h2,k2,di (l := []) (Nat.zero_le _)]
 generalize v.v ^ f.length=p
 generalize fs f v.v i f.length=s
 clear h2 k2
 grind
theorem mX {f:List (List Fr)} (hf:BZ f) {v:Fr} (hv:v.ok):bm (bH f v):=(yJ zu Np hf hv f.length fY).1
theorem l6 (f:List (List Fr)) (v:Fr):aO (bH f v)=bH f v:=uv (sF:=bT) Il f v f.length (q := []) rfl
noncomputable def abv (f:List (List Fr)) (v t:VR):Nat->VR
 | 0=>0
 | n+1=>abv f v t n+hor t (vL (f.getD n []))*v ^ n
theorem Cr (f:List (List Fr)) (v t:VR) (n:Nat):abv f v t (n+1)=abv f v t n+hor t (vL (f.getD n []))*v ^ n:=rfl
theorem Cw {f:List (List Fr)} (hf:BZ f) {v:Fr} (hv:v.ok) (t:VR) : ∀ n,bm (iH aM bS bM bR f v n)/\hor t (vL (iH aM bS bM bR f v n))=abv f v.v t n
 | 0=>⟨fY,rfl⟩
 | n+1=>by
  obtain ⟨i1,i2⟩:=Cw hf hv t n
  obtain ⟨p1,p2⟩:=af2 hv n
  obtain ⟨s1,s2⟩:=WF (sE hf n) p1 t
  obtain ⟨a1,a2⟩:=ahi i1 s1 t
  rw [kJ]
  exact ⟨a1,by rw [a2,i2,s2,p2,Cr]⟩
theorem pA {f:List (List Fr)} (hf:BZ f) {v:Fr} (hv:v.ok) (t:VR):hor t (vL (bH f v))=abv f v.v t f.length:=by
 rw [z9 hf hv]
 exact (Cw hf hv t f.length).2
theorem abV {aF mF:Fr->Fr->Fr} (hA : ∀ {a b:Fr},a.ok->b.ok->(aF a b).ok/\(aF a b).v=a.v+b.v) (hM : ∀ {a b:Fr},a.ok->b.ok->(mF a b).ok/\(mF a b).v=a.v*b.v) {y k:List Fr} (hy:bm y) (hk:bm k) {V:VR} (hV : ∀ i,i<y.length->(k.getD i frZ).v=V ^ i) :
  ∀ n,n<=y.length->(EX aF mF y k n).ok/\(EX aF mF y k n).v=hor V (vL (y.take n))
 | 0,_=>⟨iG,nZ⟩
 | n+1,hn=>by
  obtain ⟨i1,i2⟩:=abV hA hM hy hk hV n (by omega)
  obtain ⟨m1,m2⟩:=hM (cH hy n) (cH hk n)
  obtain ⟨a1,a2⟩:=hA i1 m1
  rw [UG]
  refine ⟨a1,?_⟩
  have e:y.take (n+1)=y.take n ++ [y.getD n frZ]:=j8 y (by omega)
  rw [a2,m2,i2,hV n (by omega),e,lU,show vL [y.getD n frZ] = [(y.getD n frZ).v] from rfl,hI]
  unfold vL
  rw [List.length_map,List.length_take,Nat.min_eq_left (by omega)]
  generalize V ^ n=p
  generalize hor V (List.map Fr.v (List.take n y))=q
  generalize (y.getD n frZ).v=c
  clear a2 m2 i2
  grind
theorem ub {v:Fr} (hv:v.ok) {n i:Nat} (hi:i<n):((lc v (n:Int)).getD i frZ).ok/\((lc v (n:Int)).getD i frZ).v=v.v ^ i:=by
 unfold lc pwL
 rw [Int.toNat_natCast,yy _ _ hi]
 exact af3 hv i
theorem KS {v:Fr} (hv:v.ok) (n:Nat):bm (lc v (n:Int)):=by
 unfold lc pwL
 exact kA fun i _=>(af3 hv i).1
theorem D0 {y:List Fr} (hy:bm y) {v:Fr} (hv:v.ok):(lQ y v).ok/\(lQ y v).v=hor v.v (vL y):=by
 obtain ⟨h1,h2⟩:=abV tG nw hy (KS hv y.length) (fun i hi=>(ub hv hi).2) y.length (Nat.le_refl _)
 unfold lQ
 refine ⟨h1,?_⟩
 rw [h2,List.take_length]
theorem aaC {y:List Fr} (hy:bm y) {v:Fr} (hv:v.ok):(fC y v).ok/\(fC y v).v=hor v.v (vL y):=by
 unfold fC
 exact Ea hy hv
theorem Hr (V:VR) (c:List Fr) {k:List Fr} (hk : ∀ i,i<c.length->(k.getD i fr0).v=V ^ i) : ∀ n,n<=c.length->U7 (fun i=>(c.getD i frZ).v) (fun i=>(k.getD i fr0).v) n=hor V (vL (c.take n))
 | 0,_=>rfl
 | n+1,hn=>by
  have e:c.take (n+1)=c.take n ++ [c.getD n frZ]:=j8 c (by omega)
  rw [tR,Hr V c hk n (by omega),hk n (by omega),e,lU,show vL [c.getD n frZ] = [(c.getD n frZ).v] from rfl,hI]
  unfold vL
  rw [List.length_map,List.length_take,Nat.min_eq_left (by omega)]
  generalize V ^ n=p
  generalize hor V (List.map Fr.v (List.take n c))=q
  generalize (c.getD n frZ).v=d
  grind
theorem W2 {c:List Fr} {i:Nat} (hi:i<c.length):(ee c).getD i dK=ej (c.getD i frZ):=by
 unfold ee
 rw [List.getD_eq_getElem?_getD,List.getElem?_map,List.getElem?_eq_getElem hi,List.getD_eq_getElem?_getD,List.getElem?_eq_getElem hi]
 rfl
theorem zt (c:List Fr):(ee c).length=c.length:=by
 unfold ee
 rw [List.length_map]
theorem Nl {c:List Fr} (hc:bm c) {v:Fr} (hv:v.ok):At1 (xI (ee c) v) (hor v.v (vL c)):=by
 have hl:=zt c
 have h:=yV (ps:=ee c) (ks:=lc v (c.length:Int)) (X:=fun i=>(c.getD i frZ).v) (fun i hi=>by
  rw [W2 (by omega)]
  exact o8 (cH hc i)) (fun i hi=>by
  rw [pf] at hi
  exact (ub hv hi).1)
 have e:aQ (ee c) (lc v (c.length:Int))=c.length:=by
  unfold aQ
  rw [pf,hl]
  exact Nat.min_self _
 rw [e,Hr v.v c (fun i hi=>(ub hv hi).2) c.length (Nat.le_refl _),List.take_length] at h
 unfold xI
 rw [hl]
 exact h
end
set_option maxRecDepth 100000
section
theorem FB:fr1.ok:=by unfold Fr.ok;decide +kernel
theorem abx:fr2.ok:=by unfold Fr.ok;decide +kernel
theorem NM:fr3.ok:=by unfold Fr.ok;decide +kernel
theorem abw:fr7.ok:=by unfold Fr.ok;decide +kernel
theorem agj:fr1.v=1:=VR.ext (by decide +kernel)
theorem Za:fr1.v*1+fr2.v*fr3.v=fr7.v:=VR.ext (by decide +kernel)
theorem aeU:fr1.v+fr3.v*(fr2.v+fr3.v*0)=fr7.v:=VR.ext (by decide +kernel)
theorem sG {a:Fr} (h:a.ok):bm [a]:=fun x hx=>by
 rw [List.mem_singleton.1 hx]
 exact h
theorem Sb {a b:Fr} (h:a.ok) (k:b.ok):bm [a,b]:=fun x hx=>by
 rcases List.mem_cons.1 hx with rfl | hx
 ·exact h
 ·rw [List.mem_singleton.1 hx]
  exact k
theorem VR.pow1 (x:VR):x ^ 1=x:=by
 rw [show (1:Nat)=0+1 from rfl,aq,bu]
 grind
theorem VR.z1 (x:VR):0+x=x:=by grind
theorem VR.z2 (x y:VR):0+0*x+0*y=0:=by grind
theorem aif (a b:List Fr) (v:VR) (i:Nat):fs [a,b] v i 2=cv a i*1+cv b i*v:=by
 show 0+cv a i*v ^ 0+cv b i*v ^ 1=_
 rw [bu,VR.pow1,VR.z1]
theorem akV:aO [fr7] = [fr7]:=by
 have h:cK [fr7] [fr7].length=1:=by decide +kernel
 unfold aO
 rw [h]
 rfl
theorem ajX:bH [[fr1],[fr2]] fr3 = [fr7]:=by
 have hf:BZ [[fr1],[fr2]]:=fun xs hx=>by
  rcases List.mem_cons.1 hx with rfl | hx
  ·exact sG FB
  ·rw [List.mem_singleton.1 hx]
   exact sG abx
 obtain ⟨h1,h2⟩:=yJ zu Np hf NM 2 fY
 have c:=l6 [[fr1],[fr2]] fr3
 rw [<- c,<- akV]
 refine CC h1 (sG abw) fun i => ?_
 show cv (n0 bT fN [[fr1],[fr2]] fr3 2 []) i=_
 rw [h2,di (l := []) (Nat.zero_le _),aif]
 cases i with
 | zero =>
  show 0*fr3.v ^ 2+(fr1.v*1+fr2.v*fr3.v)=fr7.v
  rw [Za]
  generalize fr3.v ^ 2=p
  generalize fr7.v=q
  clear h2
  grind
 | succ i =>
  rw [di (l := [fr1]) (by simp),di (l := [fr2]) (by simp),di (l := [fr7]) (by simp)]
  generalize fr3.v ^ 2=p
  generalize fr3.v=q
  clear h2
  grind
theorem aju:lQ [fr1,fr2] fr3=fr7:=by
 obtain ⟨h1,h2⟩:=D0 (Sb FB abx) NM
 refine Fr.v_inj h1 abw ?_
 rw [h2]
 exact aeU
theorem Zz:ej fr1=nX:=by
 have h:=o8 FB
 rw [agj] at h
 exact h.eq EQ
theorem akL:xI [nX] fr3=nX:=by
 have h:=Nl (sG FB) NM
 have e1:ee [fr1] = [nX]:=by
  unfold ee
  rw [List.map_cons,List.map_nil,Zz]
 have e2:hor fr3.v (vL [fr1])=1:=by
  show fr1.v+fr3.v*0=1
  rw [agj]
  generalize fr3.v=q
  clear h
  grind
 rw [e1,e2] at h
 exact h.eq EQ
theorem Uh {fF:List (List Fr)->Fr->List Fr} {sF:List Fr->Fr->Fr} {g:Pg1} {pF:List Pg1->Fr->Pg1} (h1:fF [[fr1],[fr2]] fr3 = [fr7]) (h2:sF [fr1,fr2] fr3=fr7) (h3:pF [g] fr3=g):PV fF sF g pF=true:=by
 unfold PV
 rw [h1,h2,h3,show (((([fr7]:List Fr).length:Nat):Int)==1)=true from rfl,show ([fr7]:List Fr).getD 0 frZ=fr7 from rfl,(oY fr7 fr7).2 rfl]
 exact (jV g g).2 rfl
theorem rQ:eW=true:=by
 unfold eW
 exact Uh ajX aju akL
theorem uk {m:Nat} : ∀ {f:List (List Fr)},po dr (m:Int) f=true -> ∀ xs ∈ f,bm xs/\xs.length<=m
 | [],_,xs,hx=>(List.not_mem_nil hx).elim
 | a :: f,h,xs,hx=>by
  rw [xY] at h
  cases e:dr a (m:Int) with
  | false=>rw [e] at h;cases h
  | true =>
   rw [e] at h
   obtain ⟨h1,h2⟩:=rj e
   rcases List.mem_cons.1 hx with rfl | hx
   ·exact ⟨h1,by omega⟩
   ·exact uk h xs hx
theorem kG {f:List (List Fr)} {n m:Nat} (h:iz f (n:Int) (m:Int)=true):BZ f/\(∀ xs ∈ f,xs.length<=m)/\f.length<=n:=by
 unfold iz at h
 cases e:po dr (m:Int) f with
 | false=>rw [e] at h;cases h
 | true =>
  rw [e] at h
  simp only [decide_eq_true_eq] at h
  exact ⟨fun xs hx=>(uk e xs hx).1,fun xs hx=>(uk e xs hx).2,by omega⟩
theorem zM {f:List (List Fr)} {n m:Nat} (h:iz f (n:Int) (m:Int)=true) (hn:n<1000) (hm:m<1000):fO f:=by
 obtain ⟨_,h2,h3⟩:=kG h
 exact ⟨by omega,fun xs hx=>by have:=h2 xs hx;omega⟩
end
set_option maxRecDepth 100000
section
def boI (n:UInt8):Int:=IntKind.i64.wrap (3+(((n % UInt8.ofNat 4).toNat:Nat):Int))
theorem PT (n:UInt8) : ∃ k:Nat,boI n=(k:Int)/\3<=k/\k<=6:=by
 have h:(n % UInt8.ofNat 4).toNat<4:=by
  rw [UInt8.toNat_mod]
  exact Nat.mod_lt _ (by decide)
 refine ⟨3+(n % UInt8.ofNat 4).toNat,?_,by omega,by omega⟩
 unfold boI
 rw [IntWalk.i64_in _ (by omega)]
 omega
def akr (a b:PP):Bool:=q8 a.a b.a && (q8 a.b b.b && true)
def boB (O:PP × Int):Bool:=(O.2==8 && akr O.1 pp0)
def boA (O:PP × Int) (c d:Pg1):Bool:=(O.2==0 && (q8 O.1.a c && q8 O.1.b d))
theorem Jk:boB (pp0,8)=true:=by
 unfold boB akr
 dsimp only
 rw [(jV _ _).2 rfl,(jV _ _).2 rfl]
 rfl
theorem ZL {O:PP × Int} {c d:Pg1} (h1:O.2=0) (h2:O.1.a=c) (h3:O.1.b=d):boA O c d=true:=by
 unfold boA
 rw [h1,h2,h3,(jV _ _).2 rfl,(jV _ _).2 rfl]
 rfl
theorem DB (b:Bool) (M:List Fr->Int->Bool) (Y:List (List Fr)->Int->Int->Bool) (P:Fr->Int->List Pg1 × Pg2) (O:List Pg1 × Pg2->List (List Fr)->Fr->List (List Fr)->Fr->Fr->PP × Int) (F:List (List Fr)->Fr->List Fr) (Q:List Fr->Fr->List Fr) (D:Fr->List Fr->Pg1) (tau:Fr) (n:UInt8) (f m:List (List Fr)) (z x v:Fr):(dh b M Y P O F Q D tau n f m z x v).outD false =
  cond (!b) false (cond (!M [tau,z,x,v] 4) true (cond (!Y f 4 6) true (cond (!Y m 4 6) true
   (cond (decide (((F f v).length:Int) > boI n)) (boB (O ((P tau (boI n)).1,(P tau (boI n)).2) f z m x v))
    (cond (decide (((F m v).length:Int) > boI n)) (boB (O ((P tau (boI n)).1,(P tau (boI n)).2) f z m x v))
     (boA (O ((P tau (boI n)).1,(P tau (boI n)).2) f z m x v) (D tau (Q (F f v) z)) (D tau (Q (F m v) x)))))))):=by
 unfold dh
 simp only [ko,ki,fq,Zx,pG,lB]
 rfl
theorem Hd {p:List Pg1 × Pg2} {f m:List (List Fr)} {z x v:Fr} (h:du p (bH f v) z=(frZ,dK,8)):iK p f z m x v=(pp0,8):=by
 rw [Ai,h]
 rfl
theorem Hc {p:List Pg1 × Pg2} {f m:List (List Fr)} {z x v:Fr} (h0:(du p (bH f v) z).2.2=0) (h:du p (bH m v) x=(frZ,dK,8)):iK p f z m x v=(pp0,8):=by
 rw [Ai,h0,h]
 rfl
theorem vh {p:List Pg1 × Pg2} {f m:List (List Fr)} {z x v:Fr} (h0:(du p (bH f v) z).2.2=0) (h1:(du p (bH m v) x).2.2=0):iK p f z m x v=(⟨(du p (bH f v) z).2.1,(du p (bH m v) x).2.1⟩,0):=by
 rw [Ai,h0,h1]
 rfl
theorem BY {t:Fr} (ht:t.ok) {n:Nat} {f:List Fr} (hf:bm f) {z:Fr} (hz:z.ok) (hn:(aO f).length<=n):(du (co t n) f z).2.1=lR t (fe f z):=by
 obtain ⟨o1,o2,o3,o4,o5⟩:=lX ht (n:=n) hf hz hn
 obtain ⟨q1,q2,q3,q4⟩:=abi hf hz t.v
 rw [Rk hf hz]
 exact o4.eq (Zy ht q1)
theorem wu (tau:Fr) (n:UInt8) (f m:List (List Fr)) (z x v:Fr):m9 tau n f m z x v=true:=by
 unfold m9
 rw [DB,rQ]
 cases e:dr [tau,z,x,v] 4 with
 | false=>rfl
 | true =>
  cases e1:iz f 4 6 with
  | false=>rfl
  | true =>
   cases e2:iz m 4 6 with
   | false=>rfl
   | true =>
    have h:=(rj e).1
    have k1:=h tau (by simp)
    have k2:=h z (by simp)
    have k3:=h x (by simp)
    have k4:=h v (by simp)
    have hf:=(kG (n:=4) (m:=6) e1).1
    have hm:=(kG (n:=4) (m:=6) e2).1
    obtain ⟨k,hk,h3,h6⟩:=PT n
    rw [hk,<- z9 hf k4,<- z9 hm k4]
    have of:=mX hf k4
    have om:=mX hm k4
    have cf:=l6 f v
    have cm:=l6 m v
    have pe:((co tau (k:Int)).1,(co tau (k:Int)).2)=co tau k:=Prod.eta _
    rw [pe]
    show cond (decide (((bH f v).length:Int) > (k:Int))) (boB (iK (co tau k) f z m x v)) (cond (decide (((bH m v).length:Int) > (k:Int))) (boB (iK (co tau k) f z m x v)) (boA (iK (co tau k) f z m x v) (lR tau (fe (bH f v) z)) (lR tau (fe (bH m v) x))))=true
    rcases Nat.lt_or_ge k (bH f v).length with hlt | hge
    ·rw [EI hlt]
     have ho:=ym (p:=co tau k) (f:=bH f v) (z:=z) (by rw [iQ,cf];exact hlt)
     rw [Hd ho]
     exact Jk
    ·rw [yO hge]
     have hge':(aO (bH f v)).length<=k:=by rw [cf];exact hge
     have o1:=(lX k1 (n:=k) of k2 hge').1
     rcases Nat.lt_or_ge k (bH m v).length with hlt | hgem
     ·rw [EI hlt]
      have ho:=ym (p:=co tau k) (f:=bH m v) (z:=x) (by rw [iQ,cm];exact hlt)
      rw [Hc o1 ho]
      exact Jk
     ·rw [yO hgem]
      have hgem':(aO (bH m v)).length<=k:=by rw [cm];exact hgem
      have o2:=(lX k1 (n:=k) om k3 hgem').1
      have e3:=BY k1 of k2 hge'
      have e4:=BY k1 om k3 hgem'
      rw [vh o1 o2]
      exact ZL rfl e3 e4
theorem BQ {f:List Fr} (h4:bQ f) (z:Fr):(fe f z).length<aW:=by
 rw [BR,Iq]
 have e : ∀ a c,((dvF a [c,oneFr]).1).length<=a.length:=fun a c=>by
  have e:dvF a [c,oneFr]=(aO (dvR aw eO (aO [c,oneFr]) (pu ((aO [c,oneFr]).getD 1 frZ)).1 ((aO a).length+1-(aO [c,oneFr]).length) (aO a,aK (aO a).length)).2,0) :=
   Ab (n:=1) (by rw [Ac];rfl)
  rw [e]
  dsimp only
  refine Nat.le_trans (dE _) ?_
  rw [I9]
  dsimp only
  rw [wH]
  exact dE _
 have h5:(jI f [fC f z]).length<4294967296:=BO h4 (aji _)
 have h6:=e (jI f [fC f z]) (dN z)
 show _<1125899906842624
 omega
theorem Cx {f:List (List Fr)} (hf:fO f) (v:Fr):(li f v).length<4294967296:=ut hf bR v bM f.length
theorem aa2 {b:Bool} (h:(!b)=false):b=true:=by cases b <;> first | rfl | cases h
theorem AX (tau:Fr) (n:UInt8) (f m:List (List Fr)) (z x v:Fr):(dh eW dr iz co iK li fe lR tau n f m z x v).full=true/\(dh eW dr iz co iK li fe lR tau n f m z x v).okAll:=by
 obtain ⟨k,hk,h3,h6⟩:=PT n
 have hp:few (co tau (boI n)).1:=by
  rw [hk]
  exact Pz tau (n:=k) (by omega)
 have hw:Mr (boI n):=by
  rw [hk]
  exact ⟨by omega,by omega⟩
 refine ⟨rfl,fun _=>trivial,fun _=>⟨fun _=>trivial,fun _=>⟨rfl,fun _=>trivial,fun b1=>⟨rfl,fun _=>trivial,fun b2 => ?_⟩⟩⟩⟩
 have f1:fO f:=zM (n:=4) (m:=6) (aa2 b1) (by decide) (by decide)
 have f2:fO m:=zM (n:=4) (m:=6) (aa2 b2) (by decide) (by decide)
 have l1:=Cx f1 v
 have l2:=Cx f2 v
 have q1:(fe (List.take (li f v).length (List.drop 0 (li f v))) z).length<aW:=BQ (by rw [pG];exact l1) z
 have q2:(fe (List.take (li m v).length (List.drop 0 (li m v))) x).length<aW:=BQ (by rw [pG];exact l2) x
 exact ⟨hw,⟨An hp,⟨rfl,f1⟩,rfl,f2⟩,⟨rfl,f1⟩,⟨rfl,f2⟩,bc _,fun _=>⟨fun _=>trivial,fun _=>trivial⟩,fun _=>⟨bc _,fun _=>⟨fun _=>trivial,fun _=>trivial⟩,fun _=>⟨fun _=>⟨jS l1,cj q1,fun _=>⟨jS l2,cj q2,trivial⟩,fun _=>trivial⟩,fun _=>trivial⟩⟩⟩
theorem tC {w:World} {v0 v1 v2 v3 v4' v5 v6:Value} {tau:Fr} {n:UInt8} {f m:List (List Fr)} {z x v:Fr} (g0:(aa Fr).arg.is w v0 tau) (g1:kU8.arg.is w v1 n) (g2:LsIs .fr w v2 f) (g3:LsIs .fr w v3 m) (g4:(aa Fr).arg.is w v4' z) (g5:(aa Fr).arg.is w v5 x) (g6:(aa Fr).arg.is w v6 v):Gives Tryz.prog 3 #[v0,v1,v2,v3,v4',v5,v6] w kBool.rs.res true:=by
 have:=rE tau n f m z x v g0 g1 g2 g3 g4 g5 g6 (fun _ _=>AX tau n f m z x v)
 rw [wu] at this
 exact this
end
set_option maxRecDepth 100000
section
noncomputable abbrev bhC:List Code:=flat (ae Tryz.f12)
noncomputable abbrev bhE (bF:Bool) (mF:List Fr->Int->Bool) (yF:List (List Fr)->Int->Int->Bool) (pF:Fr->Int->List Pg1 × Pg2) (oF:List Pg1 × Pg2->List (List Fr)->Fr->List (List Fr)->Fr->Fr->PP × Int) (tF:List Fr->Fr->Fr) (hF:Fr->Pg2) (nF:List Fr->List Pg1) (cF:Pg2->List Pg1->List Fr->Fr->List Pg1->List Fr->Fr->Fr->Fr->PP->Bool) (aF:Fr->Fr->Fr):Env:=Ens [(13,K0 kBool.rs.res bF),(14,K2 (ba .fr) kInt.arg kBool.rs.res mF),(15,K3 (yW .fr) kInt.arg kInt.arg kBool.rs.res yF),(17,K2 (aa Fr).arg (kInt.arg.such Mr) oPow.res pF),(16,KL (ArgL.cons A4 (ArgL.cons tJ (ArgL.cons (aa Fr).arg (ArgL.cons tJ (ArgL.cons (aa Fr).arg (ArgL.cons (aa Fr).arg ArgL.nil)))))) ((aa PP).rs2 kInt).out.res (fun x=>oF x.1 x.2.1 x.2.2.1 x.2.2.2.1 x.2.2.2.2.1 x.2.2.2.2.2.1)),(26,K2 (ba .fr) (aa Fr).arg r4.res tF),(31,K1 (aa Fr).arg (aa Pg2).rs.res hF),(42,K1 bV oG1s.res nF),(41,KL (ArgL.cons (aa Pg2).arg (ArgL.cons ((ba .g1).such few) (ArgL.cons bV (ArgL.cons (aa Fr).arg (ArgL.cons ((ba .g1).such few) (ArgL.cons bV (ArgL.cons (aa Fr).arg (ArgL.cons (aa Fr).arg (ArgL.cons (aa Fr).arg (ArgL.cons (aa PP).arg ArgL.nil)))))))))) kBool.rs.out.res (fun x=>cF x.1 x.2.1 x.2.2.1 x.2.2.2.1 x.2.2.2.2.1 x.2.2.2.2.2.1 x.2.2.2.2.2.2.1 x.2.2.2.2.2.2.2.1 x.2.2.2.2.2.2.2.2.1 x.2.2.2.2.2.2.2.2.2.1)),(28,Kr2 aF)] [17,42,mo 28]
def bhS (f g:List (List Fr)) (tau z x v r more:Fr) (w:PP) (e i j:Int) (nc ny nd nu:Nat) (c y d u:List Fr) (more2:List (Nat × AV)):St:=ar 155 ([(1,lsV 0 .fr f),(2,lsV 1 .fr g),(8,a8 2),(11,a8 3),(12,a8 4),(13,a8 5),(14,a8 6),(15,a8 7),(17,a8 8),(18,vI e),(19,qT 9 nc),(20,qT 10 ny),(21,qT 11 nd),(22,qT 12 nu)]++more2)
 [.lists .fr f,.lists .fr g,own 24 (Row.cs tau),own 24 (Row.cs z),own 24 (Row.cs x),own 24 (Row.cs v),own 24 (Row.cs r),own 24 (Row.cs more),own 34 (Row.cs w),eP c,eP y,eP d,eP u]
theorem ZQ (bF:Bool) (mF:List Fr->Int->Bool) (yF:List (List Fr)->Int->Int->Bool) (pF:Fr->Int->List Pg1 × Pg2) (oF:List Pg1 × Pg2->List (List Fr)->Fr->List (List Fr)->Fr->Fr->PP × Int) (tF:List Fr->Fr->Fr) (hF:Fr->Pg2) (nF:List Fr->List Pg1) (cF:Pg2->List Pg1->List Fr->Fr->List Pg1->List Fr->Fr->Fr->Fr->PP->Bool) (aF:Fr->Fr->Fr) (f g:List (List Fr)) (tau z x v r more:Fr):letI za':=oF (List.take (pF tau 5).fst.length (List.drop 0 (pF tau 5).fst),(pF tau 5).snd) f z g x v;HL (bhE bF mF yF pF oF tF hF nF cF aF) oB 300 Tryz.f12 (bhC.take 8) (ah Tryz.f12 [v4 tau,lsV 0 .fr f,lsV 1 .fr g,v4 z,v4 x,v4 v,v4 r,v4 more] [.lists .fr f,.lists .fr g]) [1,2,8,11,12,13,14,15,17,18,19,20,21,22,23] [0,1,2,3,4,5,6,7,10] [(1,.as),(2,.as),(8,.as),(11,.as),(12,.as),(13,.as),(14,.as),(15,.as),(17,.as),(18,.as),(19,.nilE 9 4),(20,.nilE 10 4),(21,.nilE 11 4),(22,.nilE 12 4),(23,.int)] [] [(24,.rows .fr),(24,.rows .fr),(24,.rows .fr),(24,.rows .fr)]=(.br (!(bF)) (.leaf (.inr (some ((false,.t))))) (.br (!(mF [tau,z,x,v,r,more] 6)) (.leaf (.inr (some ((true,.t))))) (.vc (f.length=f.length) (.br (!(yF f 3 5)) (.leaf (.inr (some ((true,.t))))) (.vc (g.length=g.length) (.br (!(yF g 3 5)) (.leaf (.inr (some ((true,.t))))) (.vc (Mr 5) (.vc (((0+(pF tau 5).fst.length*13<=(ad RK.g1 (pF tau 5).fst).length/\0=0/\(pF tau 5).fst.length<1125899906842624/\0=0/\13=13)/\Vi (List.take (pF tau 5).fst.length (List.drop 0 (pF tau 5).fst),(pF tau 5).snd))/\(f.length=f.length/\fO f)/\g.length=g.length/\fO g) (.leaf (.inl (ar 155 [(1,.one (.c (.slc 0 0 (f.length) 1 (.of 0) false))),(2,.one (.c (.slc 1 0 (g.length) 1 (.of 0) false))),(8,.one (.c (.ptr 2 0))),(11,.one (.c (.ptr 3 0))),(12,.one (.c (.ptr 4 0))),(13,.one (.c (.ptr 5 0))),(14,.one (.c (.ptr 6 0))),(15,.one (.c (.ptr 7 0))),(17,.one (.c (.ptr 8 0))),(18,.one (.c (.int .i64 (za'.snd)))),(19,.one (.c (.slc 9 0 0 4 (.of 0) false))),(20,.one (.c (.slc 10 0 0 4 (.of 0) false))),(21,.one (.c (.slc 11 0 0 4 (.of 0) false))),(22,.one (.c (.slc 12 0 0 4 (.of 0) false))),(23,.one (.c (.int .i64 0)))] [.lists .fr (f),.lists .fr (g),.live ⟨true,24,0,(.row (Row.cs (tau:Fr))),false⟩,.live ⟨true,24,0,(.row (Row.cs (z:Fr))),false⟩,.live ⟨true,24,0,(.row (Row.cs (x:Fr))),false⟩,.live ⟨true,24,0,(.row (Row.cs (v:Fr))),false⟩,.live ⟨true,24,0,(.row (Row.cs (r:Fr))),false⟩,.live ⟨true,24,0,(.row (Row.cs (more:Fr))),false⟩,.live ⟨true,34,0,(.row [(.u64 (za'.fst.a.x.l0)),(.u64 (za'.fst.a.x.l1)),(.u64 (za'.fst.a.x.l2)),(.u64 (za'.fst.a.x.l3)),(.u64 (za'.fst.a.x.l4)),(.u64 (za'.fst.a.x.l5)),(.u64 (za'.fst.a.y.l0)),(.u64 (za'.fst.a.y.l1)),(.u64 (za'.fst.a.y.l2)),(.u64 (za'.fst.a.y.l3)),(.u64 (za'.fst.a.y.l4)),(.u64 (za'.fst.a.y.l5)),(.bool (za'.fst.a.inf)),(.u64 (za'.fst.b.x.l0)),(.u64 (za'.fst.b.x.l1)),(.u64 (za'.fst.b.x.l2)),(.u64 (za'.fst.b.x.l3)),(.u64 (za'.fst.b.x.l4)),(.u64 (za'.fst.b.x.l5)),(.u64 (za'.fst.b.y.l0)),(.u64 (za'.fst.b.y.l1)),(.u64 (za'.fst.b.y.l2)),(.u64 (za'.fst.b.y.l3)),(.u64 (za'.fst.b.y.l4)),(.u64 (za'.fst.b.y.l5)),(.bool (za'.fst.b.inf))]),false⟩,.live ⟨true,24,4,(.rows .fr ([]:List Fr)),false⟩,.live ⟨true,24,4,(.rows .fr ([]:List Fr)),false⟩,.live ⟨true,24,4,(.rows .fr ([]:List Fr)),false⟩,.live ⟨true,24,4,(.rows .fr ([]:List Fr)),false⟩]))))))))))):=by kernel_rfl
theorem aj7 (bF:Bool) (mF:List Fr->Int->Bool) (yF:List (List Fr)->Int->Int->Bool) (pF:Fr->Int->List Pg1 × Pg2) (oF:List Pg1 × Pg2->List (List Fr)->Fr->List (List Fr)->Fr->Fr->PP × Int) (tF:List Fr->Fr->Fr) (hF:Fr->Pg2) (nF:List Fr->List Pg1) (cF:Pg2->List Pg1->List Fr->Fr->List Pg1->List Fr->Fr->Fr->Fr->PP->Bool) (aF:Fr->Fr->Fr) (f g:List (List Fr)) (tau z x v r more:Fr) (w:PP) (e i j:Int) (nc ny nd nu:Nat) (c y d u:List Fr):letI za':=((0<=i/\i<(↑f.length:Int))/\f.length<=f.length);letI zb':=i.toNat<f.length;letI zc':=(Row.cs (more:Fr));roundP (bhE bF mF yF pF oF tF hF nF cF aF) 300 (aP Tryz.f12 0) (bhS f g tau z x v r more w e i j nc ny nd nu c y d u [(23,vI i)]) (dM [1,2,8,11,12,13,14,15,17,18,19,20,21,22,23] [0,1,2,3,4,5,6,7,8] [19,20,21,22])=(.vc (f.length=f.length) (.br (decide (i<(↑f.length:Int))) (.vc za' (.vc zb' (.vc (0+(f.getD i.toNat []).length*4<=(ad RK.fr (f.getD i.toNat [])).length/\0=0/\(f.getD i.toNat []).length<1125899906842624/\0=0/\4=4) (.vc ((0+nc*4<=(ad RK.fr c).length/\0=0)/\nc+1<=9223372036854775807/\(nc+1)*32<=140737488355328) (.vc za' (.vc zb' (.vc (0+(f.getD i.toNat []).length*4<=(ad RK.fr (f.getD i.toNat [])).length/\0=0/\(f.getD i.toNat []).length<1125899906842624/\0=0/\4=4) (.vc ((0+ny*4<=(ad RK.fr y).length/\0=0)/\ny+1<=9223372036854775807/\(ny+1)*32<=140737488355328) (.leaf ((.normal,ar 155 [(1,.one (.c (.slc 0 0 (f.length) 1 (.of 0) false))),(2,.one (.c (.slc 1 0 (g.length) 1 (.of 0) false))),(8,.one (.c (.ptr 2 0))),(11,.one (.c (.ptr 3 0))),(12,.one (.c (.ptr 4 0))),(13,.one (.c (.ptr 5 0))),(14,.one (.c (.ptr 6 0))),(15,.one (.c (.ptr 7 0))),(17,.one (.c (.ptr 8 0))),(18,.one (.c (.int .i64 (e)))),(19,.one (.c (.slc 9 0 (nc+1) 4 (.of 0) false))),(20,.one (.c (.slc 10 0 (ny+1) 4 (.of 0) false))),(21,.one (.c (.slc 11 0 (nd) 4 (.of 0) false))),(22,.one (.c (.slc 12 0 (nu) 4 (.of 0) false))),(23,.one (.c (.int .i64 (IntKind.i64.wrap (i+1)))))] [.lists .fr (f),.lists .fr (g),.live ⟨true,24,0,(.row (Row.cs (tau:Fr))),false⟩,.live ⟨true,24,0,(.row (Row.cs (z:Fr))),false⟩,.live ⟨true,24,0,(.row (Row.cs (x:Fr))),false⟩,.live ⟨true,24,0,(.row (Row.cs (v:Fr))),false⟩,.live ⟨true,24,0,(.row (Row.cs (r:Fr))),false⟩,.live ⟨true,24,0,(.row zc'),false⟩,.live ⟨true,34,0,(.row [(.u64 (w.a.x.l0)),(.u64 (w.a.x.l1)),(.u64 (w.a.x.l2)),(.u64 (w.a.x.l3)),(.u64 (w.a.x.l4)),(.u64 (w.a.x.l5)),(.u64 (w.a.y.l0)),(.u64 (w.a.y.l1)),(.u64 (w.a.y.l2)),(.u64 (w.a.y.l3)),(.u64 (w.a.y.l4)),(.u64 (w.a.y.l5)),(.bool (w.a.inf)),(.u64 (w.b.x.l0)),(.u64 (w.b.x.l1)),(.u64 (w.b.x.l2)),(.u64 (w.b.x.l3)),(.u64 (w.b.x.l4)),(.u64 (w.b.x.l5)),(.u64 (w.b.y.l0)),(.u64 (w.b.y.l1)),(.u64 (w.b.y.l2)),(.u64 (w.b.y.l3)),(.u64 (w.b.y.l4)),(.u64 (w.b.y.l5)),(.bool (w.b.inf))]),false⟩,.live ⟨true,24,4,(.rows .fr (List.take (jc nc (4 / 4)) (List.drop 0 c) ++ [tF (List.take (f.getD i.toNat []).length (List.drop 0 (f.getD i.toNat []))) tau]:List Fr)),false⟩,.live ⟨true,24,4,(.rows .fr (List.take (jc ny (4 / 4)) (List.drop 0 y) ++ [tF (List.take (f.getD i.toNat []).length (List.drop 0 (f.getD i.toNat []))) z]:List Fr)),false⟩,.live ⟨true,24,4,(.rows .fr (d:List Fr)),false⟩,.live ⟨true,24,4,(.rows .fr (u:List Fr)),false⟩]))))))))))) (.leaf ((.exit 0,ar 155 [(1,.one (.c (.slc 0 0 (f.length) 1 (.of 0) false))),(2,.one (.c (.slc 1 0 (g.length) 1 (.of 0) false))),(8,.one (.c (.ptr 2 0))),(11,.one (.c (.ptr 3 0))),(12,.one (.c (.ptr 4 0))),(13,.one (.c (.ptr 5 0))),(14,.one (.c (.ptr 6 0))),(15,.one (.c (.ptr 7 0))),(17,.one (.c (.ptr 8 0))),(18,.one (.c (.int .i64 (e)))),(19,.one (.c (.slc 9 0 (nc) 4 (.of 0) false))),(20,.one (.c (.slc 10 0 (ny) 4 (.of 0) false))),(21,.one (.c (.slc 11 0 (nd) 4 (.of 0) false))),(22,.one (.c (.slc 12 0 (nu) 4 (.of 0) false))),(23,.one (.c (.int .i64 (i))))] [.lists .fr (f),.lists .fr (g),.live ⟨true,24,0,(.row (Row.cs (tau:Fr))),false⟩,.live ⟨true,24,0,(.row (Row.cs (z:Fr))),false⟩,.live ⟨true,24,0,(.row (Row.cs (x:Fr))),false⟩,.live ⟨true,24,0,(.row (Row.cs (v:Fr))),false⟩,.live ⟨true,24,0,(.row (Row.cs (r:Fr))),false⟩,.live ⟨true,24,0,(.row zc'),false⟩,.live ⟨true,34,0,(.row [(.u64 (w.a.x.l0)),(.u64 (w.a.x.l1)),(.u64 (w.a.x.l2)),(.u64 (w.a.x.l3)),(.u64 (w.a.x.l4)),(.u64 (w.a.x.l5)),(.u64 (w.a.y.l0)),(.u64 (w.a.y.l1)),(.u64 (w.a.y.l2)),(.u64 (w.a.y.l3)),(.u64 (w.a.y.l4)),(.u64 (w.a.y.l5)),(.bool (w.a.inf)),(.u64 (w.b.x.l0)),(.u64 (w.b.x.l1)),(.u64 (w.b.x.l2)),(.u64 (w.b.x.l3)),(.u64 (w.b.x.l4)),(.u64 (w.b.x.l5)),(.u64 (w.b.y.l0)),(.u64 (w.b.y.l1)),(.u64 (w.b.y.l2)),(.u64 (w.b.y.l3)),(.u64 (w.b.y.l4)),(.u64 (w.b.y.l5)),(.bool (w.b.inf))]),false⟩,.live ⟨true,24,4,(.rows .fr (c:List Fr)),false⟩,.live ⟨true,24,4,(.rows .fr (y:List Fr)),false⟩,.live ⟨true,24,4,(.rows .fr (d:List Fr)),false⟩,.live ⟨true,24,4,(.rows .fr (u:List Fr)),false⟩]))))):=by kernel_rfl
theorem aiP (bF:Bool) (mF:List Fr->Int->Bool) (yF:List (List Fr)->Int->Int->Bool) (pF:Fr->Int->List Pg1 × Pg2) (oF:List Pg1 × Pg2->List (List Fr)->Fr->List (List Fr)->Fr->Fr->PP × Int) (tF:List Fr->Fr->Fr) (hF:Fr->Pg2) (nF:List Fr->List Pg1) (cF:Pg2->List Pg1->List Fr->Fr->List Pg1->List Fr->Fr->Fr->Fr->PP->Bool) (aF:Fr->Fr->Fr) (f g:List (List Fr)) (tau z x v r more:Fr) (w:PP) (e i j:Int) (nc ny nd nu:Nat) (c y d u:List Fr):stageG (bhE bF mF yF pF oF tF hF nF cF aF) 100 ((bhC.drop 9).take 1) (bhS f g tau z x v r more w e i j nc ny nd nu c y d u [(23,vI i)]) [1,2,8,11,12,13,14,15,17,18,19,20,21,22,24] [0,1,2,3,4,5,6,7,8,9,10,11,12] [(1,.as),(2,.as),(8,.as),(11,.as),(12,.as),(13,.as),(14,.as),(15,.as),(17,.as),(18,.as),(19,.as),(20,.as),(21,.as),(22,.as),(24,.int)] [] []=(.leaf (ar 155 [(1,.one (.c (.slc 0 0 (f.length) 1 (.of 0) false))),(2,.one (.c (.slc 1 0 (g.length) 1 (.of 0) false))),(8,.one (.c (.ptr 2 0))),(11,.one (.c (.ptr 3 0))),(12,.one (.c (.ptr 4 0))),(13,.one (.c (.ptr 5 0))),(14,.one (.c (.ptr 6 0))),(15,.one (.c (.ptr 7 0))),(17,.one (.c (.ptr 8 0))),(18,.one (.c (.int .i64 (e)))),(19,.one (.c (.slc 9 0 (nc) 4 (.of 0) false))),(20,.one (.c (.slc 10 0 (ny) 4 (.of 0) false))),(21,.one (.c (.slc 11 0 (nd) 4 (.of 0) false))),(22,.one (.c (.slc 12 0 (nu) 4 (.of 0) false))),(24,.one (.c (.int .i64 0)))] [.lists .fr (f),.lists .fr (g),.live ⟨true,24,0,(.row (Row.cs (tau:Fr))),false⟩,.live ⟨true,24,0,(.row (Row.cs (z:Fr))),false⟩,.live ⟨true,24,0,(.row (Row.cs (x:Fr))),false⟩,.live ⟨true,24,0,(.row (Row.cs (v:Fr))),false⟩,.live ⟨true,24,0,(.row (Row.cs (r:Fr))),false⟩,.live ⟨true,24,0,(.row (Row.cs (more:Fr))),false⟩,.live ⟨true,34,0,(.row [(.u64 (w.a.x.l0)),(.u64 (w.a.x.l1)),(.u64 (w.a.x.l2)),(.u64 (w.a.x.l3)),(.u64 (w.a.x.l4)),(.u64 (w.a.x.l5)),(.u64 (w.a.y.l0)),(.u64 (w.a.y.l1)),(.u64 (w.a.y.l2)),(.u64 (w.a.y.l3)),(.u64 (w.a.y.l4)),(.u64 (w.a.y.l5)),(.bool (w.a.inf)),(.u64 (w.b.x.l0)),(.u64 (w.b.x.l1)),(.u64 (w.b.x.l2)),(.u64 (w.b.x.l3)),(.u64 (w.b.x.l4)),(.u64 (w.b.x.l5)),(.u64 (w.b.y.l0)),(.u64 (w.b.y.l1)),(.u64 (w.b.y.l2)),(.u64 (w.b.y.l3)),(.u64 (w.b.y.l4)),(.u64 (w.b.y.l5)),(.bool (w.b.inf))]),false⟩,.live ⟨true,24,4,(.rows .fr (c:List Fr)),false⟩,.live ⟨true,24,4,(.rows .fr (y:List Fr)),false⟩,.live ⟨true,24,4,(.rows .fr (d:List Fr)),false⟩,.live ⟨true,24,4,(.rows .fr (u:List Fr)),false⟩])):=by kernel_rfl
theorem aj6 (bF:Bool) (mF:List Fr->Int->Bool) (yF:List (List Fr)->Int->Int->Bool) (pF:Fr->Int->List Pg1 × Pg2) (oF:List Pg1 × Pg2->List (List Fr)->Fr->List (List Fr)->Fr->Fr->PP × Int) (tF:List Fr->Fr->Fr) (hF:Fr->Pg2) (nF:List Fr->List Pg1) (cF:Pg2->List Pg1->List Fr->Fr->List Pg1->List Fr->Fr->Fr->Fr->PP->Bool) (aF:Fr->Fr->Fr) (f g:List (List Fr)) (tau z x v r more:Fr) (w:PP) (e i j:Int) (nc ny nd nu:Nat) (c y d u:List Fr):letI za':=((0<=j/\j<(↑g.length:Int))/\g.length<=g.length);letI zb':=j.toNat<g.length;letI zc':=(Row.cs (more:Fr));roundP (bhE bF mF yF pF oF tF hF nF cF aF) 300 (aP Tryz.f12 1) (bhS f g tau z x v r more w e i j nc ny nd nu c y d u [(24,vI j)]) (dM [1,2,8,11,12,13,14,15,17,18,19,20,21,22,24] [0,1,2,3,4,5,6,7,8] [19,20,21,22])=(.vc (g.length=g.length) (.br (decide (j<(↑g.length:Int))) (.vc za' (.vc zb' (.vc (0+(g.getD j.toNat []).length*4<=(ad RK.fr (g.getD j.toNat [])).length/\0=0/\(g.getD j.toNat []).length<1125899906842624/\0=0/\4=4) (.vc ((0+nd*4<=(ad RK.fr d).length/\0=0)/\nd+1<=9223372036854775807/\(nd+1)*32<=140737488355328) (.vc za' (.vc zb' (.vc (0+(g.getD j.toNat []).length*4<=(ad RK.fr (g.getD j.toNat [])).length/\0=0/\(g.getD j.toNat []).length<1125899906842624/\0=0/\4=4) (.vc ((0+nu*4<=(ad RK.fr u).length/\0=0)/\nu+1<=9223372036854775807/\(nu+1)*32<=140737488355328) (.leaf ((.normal,ar 155 [(1,.one (.c (.slc 0 0 (f.length) 1 (.of 0) false))),(2,.one (.c (.slc 1 0 (g.length) 1 (.of 0) false))),(8,.one (.c (.ptr 2 0))),(11,.one (.c (.ptr 3 0))),(12,.one (.c (.ptr 4 0))),(13,.one (.c (.ptr 5 0))),(14,.one (.c (.ptr 6 0))),(15,.one (.c (.ptr 7 0))),(17,.one (.c (.ptr 8 0))),(18,.one (.c (.int .i64 (e)))),(19,.one (.c (.slc 9 0 (nc) 4 (.of 0) false))),(20,.one (.c (.slc 10 0 (ny) 4 (.of 0) false))),(21,.one (.c (.slc 11 0 (nd+1) 4 (.of 0) false))),(22,.one (.c (.slc 12 0 (nu+1) 4 (.of 0) false))),(24,.one (.c (.int .i64 (IntKind.i64.wrap (j+1)))))] [.lists .fr (f),.lists .fr (g),.live ⟨true,24,0,(.row (Row.cs (tau:Fr))),false⟩,.live ⟨true,24,0,(.row (Row.cs (z:Fr))),false⟩,.live ⟨true,24,0,(.row (Row.cs (x:Fr))),false⟩,.live ⟨true,24,0,(.row (Row.cs (v:Fr))),false⟩,.live ⟨true,24,0,(.row (Row.cs (r:Fr))),false⟩,.live ⟨true,24,0,(.row zc'),false⟩,.live ⟨true,34,0,(.row [(.u64 (w.a.x.l0)),(.u64 (w.a.x.l1)),(.u64 (w.a.x.l2)),(.u64 (w.a.x.l3)),(.u64 (w.a.x.l4)),(.u64 (w.a.x.l5)),(.u64 (w.a.y.l0)),(.u64 (w.a.y.l1)),(.u64 (w.a.y.l2)),(.u64 (w.a.y.l3)),(.u64 (w.a.y.l4)),(.u64 (w.a.y.l5)),(.bool (w.a.inf)),(.u64 (w.b.x.l0)),(.u64 (w.b.x.l1)),(.u64 (w.b.x.l2)),(.u64 (w.b.x.l3)),(.u64 (w.b.x.l4)),(.u64 (w.b.x.l5)),(.u64 (w.b.y.l0)),(.u64 (w.b.y.l1)),(.u64 (w.b.y.l2)),(.u64 (w.b.y.l3)),(.u64 (w.b.y.l4)),(.u64 (w.b.y.l5)),(.bool (w.b.inf))]),false⟩,.live ⟨true,24,4,(.rows .fr (c:List Fr)),false⟩,.live ⟨true,24,4,(.rows .fr (y:List Fr)),false⟩,.live ⟨true,24,4,(.rows .fr (List.take (jc nd (4 / 4)) (List.drop 0 d) ++ [tF (List.take (g.getD j.toNat []).length (List.drop 0 (g.getD j.toNat []))) tau]:List Fr)),false⟩,.live ⟨true,24,4,(.rows .fr (List.take (jc nu (4 / 4)) (List.drop 0 u) ++ [tF (List.take (g.getD j.toNat []).length (List.drop 0 (g.getD j.toNat []))) x]:List Fr)),false⟩]))))))))))) (.leaf ((.exit 2,ar 155 [(1,.one (.c (.slc 0 0 (f.length) 1 (.of 0) false))),(2,.one (.c (.slc 1 0 (g.length) 1 (.of 0) false))),(8,.one (.c (.ptr 2 0))),(11,.one (.c (.ptr 3 0))),(12,.one (.c (.ptr 4 0))),(13,.one (.c (.ptr 5 0))),(14,.one (.c (.ptr 6 0))),(15,.one (.c (.ptr 7 0))),(17,.one (.c (.ptr 8 0))),(18,.one (.c (.int .i64 (e)))),(19,.one (.c (.slc 9 0 (nc) 4 (.of 0) false))),(20,.one (.c (.slc 10 0 (ny) 4 (.of 0) false))),(21,.one (.c (.slc 11 0 (nd) 4 (.of 0) false))),(22,.one (.c (.slc 12 0 (nu) 4 (.of 0) false))),(24,.one (.c (.int .i64 (j))))] [.lists .fr (f),.lists .fr (g),.live ⟨true,24,0,(.row (Row.cs (tau:Fr))),false⟩,.live ⟨true,24,0,(.row (Row.cs (z:Fr))),false⟩,.live ⟨true,24,0,(.row (Row.cs (x:Fr))),false⟩,.live ⟨true,24,0,(.row (Row.cs (v:Fr))),false⟩,.live ⟨true,24,0,(.row (Row.cs (r:Fr))),false⟩,.live ⟨true,24,0,(.row zc'),false⟩,.live ⟨true,34,0,(.row [(.u64 (w.a.x.l0)),(.u64 (w.a.x.l1)),(.u64 (w.a.x.l2)),(.u64 (w.a.x.l3)),(.u64 (w.a.x.l4)),(.u64 (w.a.x.l5)),(.u64 (w.a.y.l0)),(.u64 (w.a.y.l1)),(.u64 (w.a.y.l2)),(.u64 (w.a.y.l3)),(.u64 (w.a.y.l4)),(.u64 (w.a.y.l5)),(.bool (w.a.inf)),(.u64 (w.b.x.l0)),(.u64 (w.b.x.l1)),(.u64 (w.b.x.l2)),(.u64 (w.b.x.l3)),(.u64 (w.b.x.l4)),(.u64 (w.b.x.l5)),(.u64 (w.b.y.l0)),(.u64 (w.b.y.l1)),(.u64 (w.b.y.l2)),(.u64 (w.b.y.l3)),(.u64 (w.b.y.l4)),(.u64 (w.b.y.l5)),(.bool (w.b.inf))]),false⟩,.live ⟨true,24,4,(.rows .fr (c:List Fr)),false⟩,.live ⟨true,24,4,(.rows .fr (y:List Fr)),false⟩,.live ⟨true,24,4,(.rows .fr (d:List Fr)),false⟩,.live ⟨true,24,4,(.rows .fr (u:List Fr)),false⟩]))))):=by kernel_rfl
theorem aiR (bF:Bool) (mF:List Fr->Int->Bool) (yF:List (List Fr)->Int->Int->Bool) (pF:Fr->Int->List Pg1 × Pg2) (oF:List Pg1 × Pg2->List (List Fr)->Fr->List (List Fr)->Fr->Fr->PP × Int) (tF:List Fr->Fr->Fr) (hF:Fr->Pg2) (nF:List Fr->List Pg1) (cF:Pg2->List Pg1->List Fr->Fr->List Pg1->List Fr->Fr->Fr->Fr->PP->Bool) (aF:Fr->Fr->Fr) (f g:List (List Fr)) (tau z x v r more:Fr) (w:PP) (e i j:Int) (nc ny nd nu:Nat) (c y d u:List Fr):letI za':=nF (List.take nc (List.drop 0 c));letI zb':=nF (List.take nd (List.drop 0 d));letI zc':=(0+za'.length*13<=(ad RK.g1 za').length/\0=0/\za'.length<1125899906842624/\0=0/\13=13)/\few (List.take za'.length (List.drop 0 za'));letI zd':=(0+zb'.length*13<=(ad RK.g1 zb').length/\0=0/\zb'.length<1125899906842624/\0=0/\13=13)/\few (List.take zb'.length (List.drop 0 zb'));letI ze':=(0+nc*4<=(ad RK.fr c).length/\0=0/\nc<1125899906842624/\0=0/\4=4)/\bQ (List.take nc (List.drop 0 c));letI zf':=(0+nd*4<=(ad RK.fr d).length/\0=0/\nd<1125899906842624/\0=0/\4=4)/\bQ (List.take nd (List.drop 0 d));letI zg':=(y.set 0 (aF (y.getD 0 { l0:=0,l1:=0,l2:=0,l3:=0 }) more));letI zh':=0+nu*4<=(ad RK.fr u).length/\0=0/\nu<1125899906842624/\0=0/\4=4;letI zi':=List.take nu (List.drop 0 u);letI zj':=0<ny/\0+ny*4<=(ad RK.fr y).length/\0<4/\0=0;letI zk':=List.take za'.length (List.drop 0 za');letI zl':=List.take zb'.length (List.drop 0 zb');letI zm':=List.take ny (List.drop 0 zg');letI zn':=List.take ny (List.drop 0 y);cD (bhE bF mF yF pF oF tF hF nF cF aF) oB 300 Tryz.f12 (bhC.drop 11) (bhS f g tau z x v r more w e i j nc ny nd nu c y d u [(24,vI j)])=(.br (e != 0) (.leaf (some ((false,.t)))) (.vc ze' (.vc zf' (.vc (zc'/\((0+ny*4<=(ad RK.fr y).length/\0=0/\ny<1125899906842624/\0=0/\4=4)/\bQ zn')/\zd'/\zh'/\bQ zi') (.br (!(cF (hF tau) zk' zn' z zl' zi' x v r w)) (.leaf (some ((false,.t)))) (.vc (0+ny*4<=(ad RK.fr y).length/\0<4) (.br ((↑ny:Int)==0) (.leaf (some ((true,.t)))) (.br (fw (more) ({ l0:=UInt64.ofNat 0,l1:=UInt64.ofNat 0,l2:=UInt64.ofNat 0,l3:=UInt64.ofNat 0 })) (.leaf (some ((true,.t)))) (.vc zj' (.vc (0<y.length) (.vc zj' (.vc (0<y.length) (.vc ze' (.vc zf' (.vc (zc'/\((0+ny*4<=(ad RK.fr zg').length/\0=0/\ny<1125899906842624/\0=0/\4=4)/\bQ zm')/\zd'/\zh'/\bQ zi') (.leaf (some ((!cF (hF tau) zk' zm' z zl' zi' x v r w,.t))))))))))))))))))):=by kernel_rfl
end
set_option maxRecDepth 100000
section
section
variable {bF : Bool} {mF : List Fr -> Int -> Bool} {yF : List (List Fr) -> Int -> Int -> Bool} {pF : Fr -> Int -> List Pg1 × Pg2} {oF : List Pg1 × Pg2 -> List (List Fr) -> Fr -> List (List Fr) -> Fr -> Fr -> PP × Int} {tF : List Fr -> Fr -> Fr} {hF : Fr -> Pg2} {nF : List Fr -> List Pg1} {cF : Pg2 -> List Pg1 -> List Fr -> Fr -> List Pg1 -> List Fr -> Fr -> Fr -> Fr -> PP -> Bool} {aF : Fr -> Fr -> Fr}
def bhQ (hF:Fr->Pg2) (nF:List Fr->List Pg1) (cF:Pg2->List Pg1->List Fr->Fr->List Pg1->List Fr->Fr->Fr->Fr->PP->Bool) (aF:Fr->Fr->Fr) (tau z x v r more:Fr) (w:PP) (e:Int) (c y d u:List Fr):Bool :=
 match e != 0 with
 | true=>false
 | false=>match !(cF (hF tau) (nF c) y z (nF d) u x v r w) with
  | true=>false
  | false=>match (y.length:Int)==0 with
   | true=>true
   | false=>match fw more frZ with
    | true=>true
    | false => !(cF (hF tau) (nF c) (y.set 0 (aF (y.getD 0 frZ) more)) z (nF d) u x v r w)
def bhM (tF:List Fr->Fr->Fr) (t:Fr) (f:List (List Fr)) (j:Nat):List Fr:=(f.take j).map fun xs=>tF xs t
def bhG (bF:Bool) (mF:List Fr->Int->Bool) (yF:List (List Fr)->Int->Int->Bool) (pF:Fr->Int->List Pg1 × Pg2) (oF:List Pg1 × Pg2->List (List Fr)->Fr->List (List Fr)->Fr->Fr->PP × Int) (tF:List Fr->Fr->Fr) (hF:Fr->Pg2) (nF:List Fr->List Pg1) (cF:Pg2->List Pg1->List Fr->Fr->List Pg1->List Fr->Fr->Fr->Fr->PP->Bool) (aF:Fr->Fr->Fr) (tau:Fr) (f g:List (List Fr)) (z x v r more:Fr):Bool :=
 match !bF with
 | true=>false
 | false=>match !(mF [tau,z,x,v,r,more] 6) with
  | true=>true
  | false=>match !(yF f 3 5) with
   | true=>true
   | false=>match !(yF g 3 5) with
    | true=>true
    | false=>bhQ hF nF cF aF tau z x v r more (oF ((pF tau 5).1,(pF tau 5).2) f z g x v).1 (oF ((pF tau 5).1,(pF tau 5).2) f z g x v).2 (bhM tF tau f f.length) (bhM tF z f f.length) (bhM tF tau g g.length) (bhM tF x g g.length)
theorem kM (tF:List Fr->Fr->Fr) (t:Fr) {f:List (List Fr)} {j:Nat} (h:j<=f.length):(bhM tF t f j).length=j:=by
 unfold bhM
 rw [List.length_map,List.length_take,Nat.min_eq_left h]
theorem o7 (tF:List Fr->Fr->Fr) (t:Fr) {f:List (List Fr)} {j:Nat} (h:j<f.length):bhM tF t f (j+1)=bhM tF t f j ++ [tF (f.getD j []) t]:=by
 unfold bhM
 rw [List.take_succ_eq_append_getElem h,List.map_append,List.getD_eq_getElem?_getD,List.getElem?_eq_getElem h]
 rfl
theorem aiQ (hE:EnvOk (bhE bF mF yF pF oF tF hF nF cF aF)) (hP : ∀ l,(nF l).length=l.length) (f g:List (List Fr)) (tau z x v r more:Fr) (w:PP) (e i j:Int) (nc ny nd nu:Nat) (c y d u:List Fr) (kc:c.length=nc) (ky:y.length=ny) (kd:d.length=nd) (ku:u.length=nu) (hc:nc<4294967296) (hy:ny<4294967296) (hd:nd<4294967296) (hu:nu<4294967296) :
  DoesL (bhE bF mF yF pF oF tF hF nF cF aF) (bhC.drop 11) (bhS f g tau z x v r more w e i j nc ny nd nu c y d u [(24,vI j)]) (EndsAs (bhE bF mF yF pF oF tF hF nF cF aF) Tryz.f12 (bO oB (bhQ hF nF cF aF tau z x v r more w e c y d u))):=by
 subst kc ky kd ku
 have q1:List.take c.length (List.drop 0 c)=c:=am rfl
 have q2:List.take y.length (List.drop 0 y)=y:=am rfl
 have q3:List.take d.length (List.drop 0 d)=d:=am rfl
 have q4:List.take u.length (List.drop 0 u)=u:=am rfl
 have p1:(nF c).length<4294967296:=by rw [hP];exact hc
 have p2:(nF d).length<4294967296:=by rw [hP];exact hd
 have C1:((0+c.length*4<=(ad RK.fr c).length/\0=0/\c.length<1125899906842624/\0=0/\4=4)/\bQ c):=⟨cj (Nat.lt_of_lt_of_le hc (by decide)),hc⟩
 have C2:((0+y.length*4<=(ad RK.fr y).length/\0=0/\y.length<1125899906842624/\0=0/\4=4)/\bQ y):=⟨cj (Nat.lt_of_lt_of_le hy (by decide)),hy⟩
 have C3:((0+d.length*4<=(ad RK.fr d).length/\0=0/\d.length<1125899906842624/\0=0/\4=4)/\bQ d):=⟨cj (Nat.lt_of_lt_of_le hd (by decide)),hd⟩
 have C4:((0+u.length*4<=(ad RK.fr u).length/\0=0/\u.length<1125899906842624/\0=0/\4=4)/\bQ u):=⟨cj (Nat.lt_of_lt_of_le hu (by decide)),hu⟩
 have N1:=vD p1
 have N2:=vD p2
 have w1:List.take (nF c).length (List.drop 0 (nF c))=nF c:=lB _
 have w2:List.take (nF d).length (List.drop 0 (nF d))=nF d:=lB _
 rw [w1] at N1
 rw [w2] at N2
 have s1:(y.set 0 (aF (y.getD 0 frZ) more)).length=y.length:=List.length_set
 have q5:List.take y.length (List.drop 0 (y.set 0 (aF (y.getD 0 frZ) more)))=y.set 0 (aF (y.getD 0 frZ) more):=am s1
 have C5:((0+y.length*4<=(ad RK.fr (y.set 0 (aF (y.getD 0 frZ) more))).length/\0=0/\y.length<1125899906842624/\0=0/\4=4)/\bQ (y.set 0 (aF (y.getD 0 frZ) more))):=by
  have:=C2
  rw [aN] at this ⊢
  rw [s1]
  exact ⟨this.1,by show _<_;rw [s1];exact hy⟩
 have run:=aiR bF mF yF pF oF tF hF nF cF aF f g tau z x v r more w e i j c.length y.length d.length u.length c y d u
 rw [q1,q2,q3,q4,w1,w2,show ({ l0:=0,l1:=0,l2:=0,l3:=0 }:Fr)=frZ from rfl,q5] at run
 refine DoesL.ends hE 300 run ⟨fun b1=>⟨.t,by unfold bhQ;rw [b1],trivial⟩,fun b1=>⟨C1,fun _=>⟨C3,fun _=>⟨⟨N1,C2,N2,C4⟩,fun _=>⟨fun b2=>⟨.t,by unfold bhQ;rw [b1,b2],trivial⟩,fun b2=>⟨bc y,fun _=>⟨fun b3=>⟨.t,by unfold bhQ;rw [b1,b2,b3],trivial⟩,fun b3=>⟨fun b4 => ?_,fun b4 => ?_⟩⟩⟩⟩⟩⟩⟩⟩
 ·have b4:fw more frZ=true:=b4
  exact ⟨.t,by unfold bhQ;rw [b1,b2,b3,b4],trivial⟩
 ·have b4:fw more frZ=false:=b4
  have hy0:0<y.length:=by
   rcases Nat.eq_zero_or_pos y.length with h | h
   ·rw [h] at b3;cases b3
   ·exact h
  have I:0<y.length/\0+y.length*4<=(ad RK.fr y).length/\0<4/\0=0:=⟨hy0,by rw [aN];omega,by decide,rfl⟩
  exact ⟨I,fun _=>⟨hy0,fun _=>⟨I,fun _=>⟨hy0,fun _=>⟨C1,fun _=>⟨C3,fun _=>⟨⟨N1,C5,N2,C4⟩,fun _=>⟨.t,by unfold bhQ;rw [b1,b2,b3,b4],trivial⟩⟩⟩⟩⟩⟩⟩⟩
theorem aiN (hE:EnvOk (bhE bF mF yF pF oF tF hF nF cF aF)) (hP : ∀ l,(nF l).length=l.length) (f g:List (List Fr)) (hg:fO g) (tau z x v r more:Fr) (w:PP) (e i:Int) (nc ny:Nat) (c y:List Fr) (kc:c.length=nc) (ky:y.length=ny) (hc:nc<4294967296) (hy:ny<4294967296) :
  DoesL (bhE bF mF yF pF oF tF hF nF cF aF) (bhC.drop 10) (bhS f g tau z x v r more w e i 0 nc ny 0 0 c y (bhM tF tau g 0) (bhM tF x g 0) [(24,vI ((0:Nat):Int))]) (EndsAs (bhE bF mF yF pF oF tF hF nF cF aF) Tryz.f12 (bO oB (bhQ hF nF cF aF tau z x v r more w e c y (bhM tF tau g g.length) (bhM tF x g g.length)))):=by
 refine DoesL.blockLoop (B:=aP Tryz.f12 1) (rest:=bhC.drop 11) (id:=2) (by kernel_rfl) (fun j : { j:Nat // j<=g.length }=>bhS f g tau z x v r more w e i 0 nc ny j.1 j.1 c y (bhM tF tau g j.1) (bhM tF x g j.1) [(24,vI (j.1:Int))]) (fun j=>g.length-j.1) ⟨0,Nat.zero_le _⟩ fun j => ?_
 obtain ⟨j,hj⟩:=j
 refine (?_:Does _ _ (bhS f g tau z x v r more w e i 0 nc ny j j c y (bhM tF tau g j) (bhM tF x g j) [(24,vI (j:Int))]) _)
 have l1:=kM tF tau hj
 have l2:=kM tF x hj
 have hlg:=hg.1
 have run:=aj6 bF mF yF pF oF tF hF nF cF aF f g tau z x v r more w e i (j:Int) nc ny j j c y (bhM tF tau g j) (bhM tF x g j)
 rw [Int.toNat_natCast] at run
 refine Does.roundP hE 300 _ run ⟨rfl,fun _=>⟨fun h => ?_,fun h => ?_⟩⟩
 ·simp only [decide_eq_true_eq] at h
  have hj1:j<g.length:=by omega
  have s1:=o7 tF tau hj1
  have s2:=o7 tF x hj1
  have hgj:(g.getD j []).length<1125899906842624:=Nat.lt_trans (mq hg j) (by decide)
  generalize g.getD j []=gj at *
  have I:((0:Int)<=(j:Int)/\(j:Int)<(g.length:Int))/\g.length<=g.length:=⟨⟨by omega,by omega⟩,Nat.le_refl _⟩
  refine ⟨I,fun _=>⟨hj1,fun _=>⟨cj hgj,fun _=>⟨⟨⟨by rw [aN,l1];omega,rfl⟩,by omega,by omega⟩,fun _=>⟨I,fun _=>⟨hj1,fun _=>⟨cj hgj,fun _=>⟨⟨⟨by rw [aN,l2];omega,rfl⟩,by omega,by omega⟩,fun _ => ?_⟩⟩⟩⟩⟩⟩⟩⟩
  refine ⟨⟨j+1,hj1⟩,by show g.length-(j+1)<g.length-j;omega,?_⟩
  rw [am (xs:=gj) rfl,gk l1,gk l2,<- s1,<- s2,qJ j (by omega)]
  rfl
 ·simp only [decide_eq_false_iff_not] at h
  obtain rfl:j=g.length:=by omega
  exact ⟨rfl,aiQ hE hP f g tau z x v r more w e i _ nc ny _ _ c y _ _ kc ky l1 l2 hc hy hlg hlg⟩
theorem aiO (hE:EnvOk (bhE bF mF yF pF oF tF hF nF cF aF)) (hP : ∀ l,(nF l).length=l.length) (f g:List (List Fr)) (hf:fO f) (hg:fO g) (tau z x v r more:Fr) (w:PP) (e:Int) :
  DoesL (bhE bF mF yF pF oF tF hF nF cF aF) (bhC.drop 8) (bhS f g tau z x v r more w e 0 0 0 0 0 0 (bhM tF tau f 0) (bhM tF z f 0) [] [] [(23,vI ((0:Nat):Int))]) (EndsAs (bhE bF mF yF pF oF tF hF nF cF aF) Tryz.f12 (bO oB (bhQ hF nF cF aF tau z x v r more w e (bhM tF tau f f.length) (bhM tF z f f.length) (bhM tF tau g g.length) (bhM tF x g g.length)))):=by
 refine DoesL.blockLoop (B:=aP Tryz.f12 0) (rest:=bhC.drop 9) (id:=0) (by kernel_rfl) (fun j : { j:Nat // j<=f.length }=>bhS f g tau z x v r more w e 0 0 j.1 j.1 0 0 (bhM tF tau f j.1) (bhM tF z f j.1) [] [] [(23,vI (j.1:Int))]) (fun j=>f.length-j.1) ⟨0,Nat.zero_le _⟩ fun j => ?_
 obtain ⟨j,hj⟩:=j
 refine (?_:Does _ _ (bhS f g tau z x v r more w e 0 0 j j 0 0 (bhM tF tau f j) (bhM tF z f j) [] [] [(23,vI (j:Int))]) _)
 have l1:=kM tF tau hj
 have l2:=kM tF z hj
 have hlf:=hf.1
 have run:=aj7 bF mF yF pF oF tF hF nF cF aF f g tau z x v r more w e (j:Int) 0 j j 0 0 (bhM tF tau f j) (bhM tF z f j) [] []
 rw [Int.toNat_natCast] at run
 refine Does.roundP hE 300 _ run ⟨rfl,fun _=>⟨fun h => ?_,fun h => ?_⟩⟩
 ·simp only [decide_eq_true_eq] at h
  have hj1:j<f.length:=by omega
  have s1:=o7 tF tau hj1
  have s2:=o7 tF z hj1
  have hgj:(f.getD j []).length<1125899906842624:=Nat.lt_trans (mq hf j) (by decide)
  generalize f.getD j []=gj at *
  have I:((0:Int)<=(j:Int)/\(j:Int)<(f.length:Int))/\f.length<=f.length:=⟨⟨by omega,by omega⟩,Nat.le_refl _⟩
  refine ⟨I,fun _=>⟨hj1,fun _=>⟨cj hgj,fun _=>⟨⟨⟨by rw [aN,l1];omega,rfl⟩,by omega,by omega⟩,fun _=>⟨I,fun _=>⟨hj1,fun _=>⟨cj hgj,fun _=>⟨⟨⟨by rw [aN,l2];omega,rfl⟩,by omega,by omega⟩,fun _ => ?_⟩⟩⟩⟩⟩⟩⟩⟩
  refine ⟨⟨j+1,hj1⟩,by show f.length-(j+1)<f.length-j;omega,?_⟩
  rw [am (xs:=gj) rfl,gk l1,gk l2,<- s1,<- s2,qJ j (by omega)]
  rfl
 ·simp only [decide_eq_false_iff_not] at h
  obtain rfl:j=f.length:=by omega
  refine ⟨rfl,DoesL.stageG hE 100 1 _ _ _ _ _ (aiP bF mF yF pF oF tF hF nF cF aF f g tau z x v r more w e _ 0 _ _ 0 0 _ _ [] []) ?_⟩
  exact aiN hE hP f g hg tau z x v r more w e 0 _ _ _ _ l1 l2 hlf hlf
theorem afn (hE:EnvOk (bhE bF mF yF pF oF tF hF nF cF aF)) (hP : ∀ l,(nF l).length=l.length) (hp : ∀ t,few (pF t 5).1) (hY : ∀ f,yF f 3 5=true->fO f) (tau:Fr) (f g:List (List Fr)) (z x v r more:Fr) :
  DoesL (bhE bF mF yF pF oF tF hF nF cF aF) (flat (ae Tryz.f12)) (ah Tryz.f12 [v4 tau,lsV 0 .fr f,lsV 1 .fr g,v4 z,v4 x,v4 v,v4 r,v4 more] [.lists .fr f,.lists .fr g])
   (EndsAs (bhE bF mF yF pF oF tF hF nF cF aF) Tryz.f12 (bO oB (bhG bF mF yF pF oF tF hF nF cF aF tau f g z x v r more))):=by
 have run:=ZQ bF mF yF pF oF tF hF nF cF aF f g tau z x v r more
 have q1:List.take (pF tau 5).1.length (List.drop 0 (pF tau 5).1)=(pF tau 5).1:=lB _
 have F:=An (hp tau)
 rw [q1] at run F
 refine DoesL.seg hE 300 8 _ _ _ _ _ run ⟨fun b1=>⟨.t,by unfold bhG;rw [b1],trivial⟩,fun b1=>⟨fun b2=>⟨.t,by unfold bhG;rw [b1,b2],trivial⟩,fun b2=>⟨rfl,fun _=>⟨fun b3=>⟨.t,by unfold bhG;rw [b1,b2,b3],trivial⟩,fun b3=>⟨rfl,fun _=>⟨fun b4=>⟨.t,by unfold bhG;rw [b1,b2,b3,b4],trivial⟩,fun b4 => ?_⟩⟩⟩⟩⟩⟩
 have hf:=hY f (by simpa using b3)
 have hg:=hY g (by simpa using b4)
 refine ⟨⟨by decide,by decide⟩,fun _=>⟨⟨F,⟨rfl,hf⟩,rfl,hg⟩,fun _ => ?_⟩⟩
 have G:bhG bF mF yF pF oF tF hF nF cF aF tau f g z x v r more=bhQ hF nF cF aF tau z x v r more (oF ((pF tau 5).1,(pF tau 5).2) f z g x v).1 (oF ((pF tau 5).1,(pF tau 5).2) f z g x v).2 (bhM tF tau f f.length) (bhM tF z f f.length) (bhM tF tau g g.length) (bhM tF x g g.length):=by
  unfold bhG
  rw [b1,b2,b3,b4]
 rw [G]
 generalize oF ((pF tau 5).1,(pF tau 5).2) f z g x v=O
 exact aiO hE hP f g hf hg tau z x v r more O.1 O.2
end
def oE (tau:Fr) (f g:List (List Fr)) (z x v r more:Fr):Bool:=bhG eW dr iz co iK fC n6 ee lz bf tau f g z x v r more
end
set_option maxRecDepth 100000
section
theorem DoesL.toW {ρ:Type} {E:Env} {o:Out ρ} {fn:Func} {cs:List Code} {st:St} {x:ρ} (h:DoesL E cs st (EndsAs E fn (bO o x))):DoesL E cs st (Within E fn o x (EndsAs E fn (bO o x))):=DoesL.mono h fun r hr=>by
 unfold Within
 split <;> exact hr
section
variable {bF : Bool} {mF : List Fr -> Int -> Bool} {lF : Fr -> List Fr -> List Fr -> List Fr -> List Fr -> Fr -> Fr -> Fr -> Fr -> FF -> Fr} {sF : Fr -> Fr -> Fr} {hF : Fr -> Pg2} {gF : Fr -> Pg1} {pF : List Fr -> List Pg1} {cF : Pg2 -> List Pg1 -> List Fr -> Fr -> List Pg1 -> List Fr -> Fr -> Fr -> Fr -> PP -> Bool}
end
end
set_option maxRecDepth 100000
section
theorem akI {a b:Pg1} {k l:Fr} {A B:VR} (ha:At1 a A) (hb:At1 b B) (hk:k.ok) (hl:l.ok):At1 (dH [a,b] [k,l]) (0+A*k.v+B*l.v):=by
 have h:=yV (ps := [a,b]) (ks := [k,l]) (X:=fun i => [A,B].getD i 0) (fun i hi=>by
  match i,hi with
  | 0,_=>exact ha
  | 1,_=>exact hb) (fun i hi=>by
  match i,hi with
  | 0,_=>exact hk
  | 1,_=>exact hl)
 exact h
theorem akH {a b c d e:Pg1} {k l m n o:Fr} {A B C D E:VR} (ha:At1 a A) (hb:At1 b B) (hc:At1 c C) (hd:At1 d D) (he:At1 e E) (hk:k.ok) (hl:l.ok) (hm:m.ok) (hn:n.ok) (ho:o.ok):At1 (dH [a,b,c,d,e] [k,l,m,n,o]) (0+A*k.v+B*l.v+C*m.v+D*n.v+E*o.v):=by
 have h:=yV (ps := [a,b,c,d,e]) (ks := [k,l,m,n,o]) (X:=fun i => [A,B,C,D,E].getD i 0) (fun i hi=>by
  match i,hi with
  | 0,_=>exact ha
  | 1,_=>exact hb
  | 2,_=>exact hc
  | 3,_=>exact hd
  | 4,_=>exact he) (fun i hi=>by
  match i,hi with
  | 0,_=>exact hk
  | 1,_=>exact hl
  | 2,_=>exact hm
  | 3,_=>exact hn
  | 4,_=>exact ho)
 exact h
theorem VR.sideA (a b r:VR):0+a*1+b*r=a+b*r:=by grind
theorem VR.sideB (a b c d y u z x r:VR):0+a*z+b*(r*x)+c*1+d*r+1 * -(y+r*u)=a*z+b*(r*x)+c+d*r-(y+r*u):=by grind
theorem Z6:At1 oneG1 1:=⟨gen1_good,by rw [abo]⟩
theorem ZY {c y d u:List Fr} {z x v r:Fr} {wa wb:Pg1} {A B:VR} (hc:bm c) (hy:bm y) (hd:bm d) (hu:bm u) (hz:z.ok) (hx:x.ok) (hv:v.ok) (hr:r.ok) (ha:At1 wa A) (hb:At1 wb B) :
  At1 (jE (ee c) y z (ee d) u x v r ⟨wa,wb⟩).1 (A+B*r.v)/\At1 (jE (ee c) y z (ee d) u x v r ⟨wa,wb⟩).2 (A*z.v+B*(r.v*x.v)+hor v.v (vL c)+hor v.v (vL d)*r.v-(hor v.v (vL y)+r.v*hor v.v (vL u))):=by
 rw [Uj,akv]
 obtain ⟨y1,y2⟩:=D0 hy hv
 obtain ⟨u1,u2⟩:=D0 hu hv
 obtain ⟨m1,m2⟩:=nw hr hx
 obtain ⟨n1,n2⟩:=nw hr u1
 obtain ⟨a1,a2⟩:=tG y1 n1
 obtain ⟨g1,g2⟩:=aed a1
 have h1:=akI ha hb dQ hr
 have h2:=akH ha hb (Nl hc hv) (Nl hd hv) Z6 hz m1 dQ hr g1
 rw [nn,VR.sideA] at h1
 rw [nn,g2,a2,n2,m2,y2,u2,VR.sideB] at h2
 dsimp only
 exact ⟨h1,h2⟩
theorem MM {a b:Pg1} {t q:Pg2} {A B T:VR} (ha:At1 a A) (hb:At1 b B) (ht:At2 t T) (hq:At2 q 1):gH [⟨a,t⟩,⟨mL b,q⟩]=true <-> A*T=B:=by
 have hn:=afx hb
 have hd : ∀ x ∈ [(⟨a,t⟩:Duo),⟨mL b,q⟩],ab2 x:=fun x hx=>by
  rcases List.mem_cons.1 hx with rfl | hx
  ·exact ⟨ha.in1,ht.in2⟩
  ·rcases List.mem_cons.1 hx with rfl | hx
   ·exact ⟨hn.in1,hq.in2⟩
   ·exact (List.not_mem_nil hx).elim
 rw [RD (by show 2<=20;decide) hd,sB,sB,Ed,i5]
 simp only []
 rw [ha.pt,hq.pt,hn.pt,ht.pt,aaG,aaG,<- aim,Mt]
 constructor
 ·intro h
  have:A*T + -B*1=A*T-B:=by grind
  rw [this] at h
  grind
 ·intro h
  rw [h]
  grind
theorem Cf {c:List Fr} (hc:bm c):yp (ee c)=true:=by
 unfold yp
 refine (uo _ _).2 fun x hx => ?_
 unfold ee at hx
 obtain ⟨a,ha,rfl⟩:=List.mem_map.1 hx
 exact EP (o8 (hc a ha))
theorem YQ {a b:Pg1} {A B:VR} (ha:At1 a A) (hb:At1 b B):yp [a,b]=true:=by
 unfold yp
 refine (uo _ _).2 fun x hx => ?_
 rcases List.mem_cons.1 hx with rfl | hx
 ·exact EP ha
 ·rw [List.mem_singleton.1 hx]
  exact EP hb
theorem Jn {T:VR} {t:Pg2} {c y d u:List Fr} {z x v r:Fr} {wa wb:Pg1} {A B:VR} (ht:At2 t T) (hc:bm c) (hy:bm y) (hd:bm d) (hu:bm u) (hz:z.ok) (hx:x.ok) (hv:v.ok) (hr:r.ok) (ha:At1 wa A) (hb:At1 wb B) :
  lz t (ee c) y z (ee d) u x v r ⟨wa,wb⟩=true <-> c.length=y.length/\d.length=u.length/\(A+B*r.v)*T=A*z.v+B*(r.v*x.v)+hor v.v (vL c)+hor v.v (vL d)*r.v-(hor v.v (vL y)+r.v*hor v.v (vL u)):=by
 obtain ⟨s1,s2⟩:=ZY hc hy hd hu hz hx hv hr ha hb
 rw [Un,zt,zt,Cf hc,Cf hd,afw ht]
 have h2:=YQ ha hb
 rw [h2,Bool.true_and,Bool.true_and,Bool.true_and,Bool.true_and,Bool.and_eq_true,Bool.and_eq_true,beq_iff_eq,beq_iff_eq,MM s1 s2 ht afv]
end
set_option maxRecDepth 100000
section
theorem FL {f:List (List Fr)} (hf:BZ f) {t:Fr} (ht:t.ok) (n:Nat):bm (bhM fC t f n):=fun x hx=>by
 obtain ⟨xs,h1,rfl⟩:=List.mem_map.1 hx
 exact (aaC (hf xs (List.mem_of_mem_take h1)) ht).1
theorem VR.pm (a p c:VR):a+p*c=a+c*p:=by grind
theorem tB {f:List (List Fr)} (hf:BZ f) {t:Fr} (ht:t.ok) (V:VR) : ∀ n,n<=f.length->hor V (vL (bhM fC t f n))=abv f V t.v n
 | 0,_=>rfl
 | n+1,hn=>by
  have ih:=tB hf ht V n (by omega)
  have hl:=kM fC t (f:=f) (j:=n) (by omega)
  rw [o7 fC t (by omega),lU,show vL [fC (f.getD n []) t] = [(fC (f.getD n []) t).v] from rfl,hI,ih,Cr,(aaC (sE hf n) ht).2]
  rw [show (vL (bhM fC t f n)).length=n by unfold vL;rw [List.length_map];exact hl]
  exact VR.pm _ _ _
theorem VR.honest {A B F Fz G Gx R T Z X:VR} (h1:F=A*(T-Z)+Fz) (h2:G=B*(T-X)+Gx):(A+B*R)*T=A*Z+B*(R*X)+F+G*R-(Fz+R*Gx):=by
 rw [h1,h2]
 grind
theorem VR.cheat {A B C D Y U R T Z X M:VR} (h:(A+B*R)*T=A*Z+B*(R*X)+C+D*R-(Y+R*U)) (k:(A+B*R)*T=A*Z+B*(R*X)+C+D*R-(Y+M+R*U)):M=0:=by grind
theorem YX (V M a:VR) (l:List VR):hor V ((a+M) :: l)=hor V (a :: l)+M:=by
 rw [dS,dS]
 generalize V*hor V l=q
 grind
theorem SO {f:List (List Fr)} (h:iz f 3 5=true):fO f:=zM (n:=3) (m:=5) h (by decide) (by decide)
theorem yI {f:List (List Fr)} (hf:BZ f) {v:Fr} (hv:v.ok) (hl : ∀ xs ∈ f,xs.length<=5):(bH f v).length<=5:=by
 unfold bH
 have : ∀ (n:Nat) (q:List Fr),q.length<=5->(n0 bT fN f v n q).length<=5:=by
  intro n
  induction n with
  | zero=>intro q hq;exact hq
  | succ n ih =>
   intro q hq
   rw [kK]
   refine ih _ (Eg _ _ (Nat.le_trans (ug q v) hq) ?_)
   rw [List.getD_eq_getElem?_getD]
   cases e:f[n]? with
   | none=>exact Nat.zero_le _
   | some x=>exact hl x (List.mem_of_getElem? e)
 exact this _ _ (Nat.zero_le _)
theorem ZR {hF:Fr->Pg2} {nF:List Fr->List Pg1} {cF:Pg2->List Pg1->List Fr->Fr->List Pg1->List Fr->Fr->Fr->Fr->PP->Bool} {aF:Fr->Fr->Fr} {tau z x v r more:Fr} {w:PP} {e:Int} {c y d u:List Fr} (h0:e=0) (h1:cF (hF tau) (nF c) y z (nF d) u x v r w=true)
  (h2:0<y.length->fw more frZ=false->cF (hF tau) (nF c) (y.set 0 (aF (y.getD 0 frZ) more)) z (nF d) u x v r w=false):bhQ hF nF cF aF tau z x v r more w e c y d u=true:=by
 unfold bhQ
 rw [h0,h1]
 show (match (y.length:Int)==0 with | true=>true | false=>match fw more frZ with | true=>true | false => !(cF (hF tau) (nF c) (y.set 0 (aF (y.getD 0 frZ) more)) z (nF d) u x v r w))=true
 cases e3:((y.length:Int)==0) with
 | true=>rfl
 | false =>
  have hy:0<y.length:=by
   rcases Nat.eq_zero_or_pos y.length with h | h
   ·rw [h] at e3;cases e3
   ·exact h
  cases e4:fw more frZ with
  | true=>rfl
  | false =>
   rw [h2 hy e4]
   rfl
theorem ZS {bF:Bool} {mF:List Fr->Int->Bool} {yF:List (List Fr)->Int->Int->Bool} {pF:Fr->Int->List Pg1 × Pg2} {oF:List Pg1 × Pg2->List (List Fr)->Fr->List (List Fr)->Fr->Fr->PP × Int} {tF:List Fr->Fr->Fr} {hF:Fr->Pg2} {nF:List Fr->List Pg1} {cF:Pg2->List Pg1->List Fr->Fr->List Pg1->List Fr->Fr->Fr->Fr->PP->Bool} {aF:Fr->Fr->Fr} {tau:Fr} {f g:List (List Fr)} {z x v r more:Fr} (hb:bF=true)
  (h:mF [tau,z,x,v,r,more] 6=true->yF f 3 5=true->yF g 3 5=true->bhQ hF nF cF aF tau z x v r more (oF ((pF tau 5).1,(pF tau 5).2) f z g x v).1 (oF ((pF tau 5).1,(pF tau 5).2) f z g x v).2 (bhM tF tau f f.length) (bhM tF z f f.length) (bhM tF tau g g.length) (bhM tF x g g.length)=true):bhG bF mF yF pF oF tF hF nF cF aF tau f g z x v r more=true:=by
 unfold bhG
 rw [hb]
 cases e1:mF [tau,z,x,v,r,more] 6 with
 | false=>rfl
 | true =>
  cases e2:yF f 3 5 with
  | false=>rfl
  | true =>
   cases e3:yF g 3 5 with
   | false=>rfl
   | true=>exact h e1 e2 e3
theorem vt (tau:Fr) (f g:List (List Fr)) (z x v r more:Fr):oE tau f g z x v r more=true:=by
 unfold oE
 refine ZS rQ fun e1 e2 e3 => ?_
 have h:=(rj e1).1
 have k1:=h tau (by simp)
 have k2:=h z (by simp)
 have k3:=h x (by simp)
 have k4:=h v (by simp)
 have k5:=h r (by simp)
 have k6:=h more (by simp)
 obtain ⟨hf,lf,_⟩:=kG (n:=3) (m:=5) e2
 obtain ⟨hg,lg,_⟩:=kG (n:=3) (m:=5) e3
 have of:=mX hf k4
 have og:=mX hg k4
 have cf:(aO (bH f v)).length<=5:=by rw [l6];exact yI hf k4 lf
 have cg:(aO (bH g v)).length<=5:=by rw [l6];exact yI hg k4 lg
 obtain ⟨o1,_,_,o4,o5⟩:=lX k1 (n:=5) of k2 cf
 obtain ⟨p1,_,_,p4,p5⟩:=lX k1 (n:=5) og k3 cg
 have pe:((co tau 5).1,(co tau 5).2)=co tau ((5:Nat):Int):=Prod.eta _
 rw [pe,vh o1 p1]
 rw [pA hf k4,pA hf k4] at o5
 rw [pA hg k4,pA hg k4] at p5
 generalize hor tau.v (vL (gV (bH f v) z).1)=A at *
 generalize hor tau.v (vL (gV (bH g v) x).1)=B at *
 generalize (du (co tau ((5:Nat):Int)) (bH f v) z).2.1=wa at *
 generalize (du (co tau ((5:Nat):Int)) (bH g v) x).2.1=wb at *
 have c1:=FL hf k1 f.length
 have c2:=FL hf k2 f.length
 have c3:=FL hg k1 g.length
 have c4:=FL hg k3 g.length
 have l1:=kM fC tau (Nat.le_refl f.length)
 have l2:=kM fC z (Nat.le_refl f.length)
 have l3:=kM fC tau (Nat.le_refl g.length)
 have l4:=kM fC x (Nat.le_refl g.length)
 have v1:=tB hf k1 v.v f.length (Nat.le_refl _)
 have v2:=tB hf k2 v.v f.length (Nat.le_refl _)
 have v3:=tB hg k1 v.v g.length (Nat.le_refl _)
 have v4:=tB hg k3 v.v g.length (Nat.le_refl _)
 rw [<- v1,<- v2] at o5
 rw [<- v3,<- v4] at p5
 generalize bhM fC tau f f.length=c at *
 generalize bhM fC z f f.length=y at *
 generalize bhM fC tau g g.length=d at *
 generalize bhM fC x g g.length=u at *
 have good:=VR.honest (R:=r.v) o5 p5
 have key:lz (n6 tau) (ee c) y z (ee d) u x v r ⟨wa,wb⟩=true:=(Jn (Jo k1) c1 c2 c3 c4 k2 k3 k4 k5 o4 p4).2 ⟨by rw [l1,l2],by rw [l3,l4],good⟩
 refine ZR rfl key fun hy hm => ?_
 cases y with
 | nil=>cases hy
 | cons y0 ys =>
  obtain ⟨a1,a2⟩:=AZ (c2 y0 (List.mem_cons_self ..)) k6
  cases e:lz (n6 tau) (ee c) ((y0 :: ys).set 0 (bf ((y0 :: ys).getD 0 frZ) more)) z (ee d) u x v r ⟨wa,wb⟩ with
  | false=>rfl
  | true =>
   exfalso
   have e:lz (n6 tau) (ee c) (bf y0 more :: ys) z (ee d) u x v r ⟨wa,wb⟩=true:=e
   have oy:bm (bf y0 more :: ys):=fun q hq=>by
    rcases List.mem_cons.1 hq with rfl | hq
    ·exact a1
    ·exact c2 q (List.mem_cons_of_mem _ hq)
   have bad:=((Jn (Jo k1) c1 oy c3 c4 k2 k3 k4 k5 o4 p4).1 e).2.2
   rw [show vL (bf y0 more :: ys)=(bf y0 more).v :: vL ys from rfl,a2,YX,show y0.v :: vL ys=vL (y0 :: ys) from rfl] at bad
   have h0:=VR.cheat good bad
   have:fw more frZ=true:=(aih k6 iG).2 (by rw [h0,nZ])
   rw [this] at hm
   cases hm
theorem rG {w:World} {v0 v1 v2 v3 v4' v5 v6 v7:Value} {tau:Fr} {f g:List (List Fr)} {z x v r more:Fr} (g0:(aa Fr).arg.is w v0 tau) (g1:LsIs .fr w v1 f) (g2:LsIs .fr w v2 g) (g3:(aa Fr).arg.is w v3 z) (g4:(aa Fr).arg.is w v4' x) (g5:(aa Fr).arg.is w v5 v) (g6:(aa Fr).arg.is w v6 r) (g7:(aa Fr).arg.is w v7 more) :
  Gives Tryz.prog 12 #[v0,v1,v2,v3,v4',v5,v6,v7] w oB.res true:=by
 have:=GLg (E:=bhE eW dr iz co iK fC n6 ee lz bf) Tryz.func12 (c:=ae Tryz.f12) (by kernel_rfl) (InpL.cons (aa Fr).inp (InpL.cons (yo .fr) (InpL.cons (yo .fr) (InpL.cons (aa Fr).inp (InpL.cons (aa Fr).inp (InpL.cons (aa Fr).inp (InpL.cons (aa Fr).inp (InpL.cons (aa Fr).inp InpL.nil)))))))) oB (oE tau f g z x v r more) (vs := [v0,v1,v2,v3,v4',v5,v6,v7]) (x:=(tau,f,g,z,x,v,r,more,())) ⟨g0,g1,g2,g3,g4,g5,g6,g7,rfl⟩ fun q=>by
  have hE:EnvOk (bhE eW dr iz co iK fC n6 ee lz bf):=bn (.cons yU (.cons zN (.cons IA (.cons H9 (.cons Jm (.cons Eb (.cons Je (.cons W3 (.cons Um (.cons ES .nil))))))))))
  exact afn hE (fun l=>by unfold ee;rw [List.length_map]) (fun t=>Pz t (n:=5) (by decide)) (fun f h=>SO h) tau f g z x v r more
 rw [vt] at this
 exact this
end
end Go.Proofs.YtgpafcehehaiiaaGreat
