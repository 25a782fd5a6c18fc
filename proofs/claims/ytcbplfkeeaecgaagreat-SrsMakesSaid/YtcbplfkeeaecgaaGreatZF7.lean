/- Texts of the proof, joined. -/
import Derived.Test.YtcbplfkeeaecgaaGreatZF6
set_option linter.unusedSectionVars false
set_option linter.unusedSimpArgs false
set_option linter.unusedVariables false
set_option maxRecDepth 100000
namespace Go.Proofs.YtcbplfkeeaecgaaGreat
def pX (x:V1):V12:=e2 (Qd.of x)*(ww*ww)
def pY (y:V1):V12:=e2 (Qd.of y)*(ww*ww*ww)
theorem bb_xi:bb2=Qd.of 4*xi:=Qd.ext' (by rw [Qd.mul_a];show (4:V1)=4*1+QP.nr*(0*1);grind) (by rw [Qd.mul_b];show (4:V1)=4*1+0*1;grind)
theorem of_add (x y:V1):(Qd.of (x+y):V2)=Qd.of x+Qd.of y:=Qd.ext' rfl (show (0:V1)=0+0 by grind)
theorem of_neg (x:V1):(Qd.of (-x):V2) = -Qd.of x:=Qd.ext' rfl (show (0:V1) = -0 by grind)
theorem pY_sq (y:V1):pY y*pY y=e2 (Qd.of (y*y)*xi):=by
 unfold pY
 rw [e2_mul,<- ww_six,Qd.of_mul,e2_mul]
 generalize ww=w
 generalize e2 (Qd.of y)=u
 grind
theorem pX_cube (x:V1):pX x*pX x*pX x=e2 (Qd.of (x*x*x)*xi):=by
 unfold pX
 rw [e2_mul,<- ww_six,Qd.of_mul,Qd.of_mul,e2_mul,e2_mul]
 generalize ww=w
 generalize e2 (Qd.of x)=u
 grind
theorem crv1_b:(Crv.b:V1)=4:=rfl
theorem crv2_b:(Crv.b:V2)=bb2:=rfl
theorem curve12 {x y:V1} (h:y*y=x*x*x+Crv.b):pY y*pY y=pX x*pX x*pX x+e2 bb2:=by
 rw [pY_sq,pX_cube,h,crv1_b,of_add,bb_xi,<- e2_add]
 congr 1
 generalize xi=z
 grind
theorem pX_eq (x:V1):pX x=e6 ⟨0,Qd.of x,0⟩:=by
 unfold pX e2
 rw [ww_sq,<- e6_mul]
 refine congrArg e6 (Cb.ext' ?_ ?_ ?_)
 ·show Qd.of x*0+CP.cr*(0*0+0*1)=(0:V2);grind
 ·show Qd.of x*1+0*0+CP.cr*(0*0)=Qd.of x;grind
 ·show Qd.of x*0+0*1+0*0=(0:V2);grind
theorem pY_b (y:V1):pY y=e6 ⟨0,Qd.of y,0⟩*ww:=by
 have e:pY y=pX y*ww:=by unfold pY pX;grind
 rw [e,pX_eq]
theorem e6_b (x y:V6):(e6 x*ww-e6 y).b=x:=by
 rw [Qd.sub_b,Qd.mul_b]
 show x*1+0*0-0=x
 grind
def lnV (x y:V1) (l m:V2):V12:=pY y-e2 l*pX x-e2 m
theorem lnV_eq (x y:V1) (l m:V2):lnV x y l m=e6 ⟨0,Qd.of y,0⟩*ww-e6 (⟨l,0,0⟩*⟨0,Qd.of x,0⟩+⟨m,0,0⟩):=by
 unfold lnV
 rw [pY_b,pX_eq,e6_add,e6_mul]
 show _=_-(e2 l*_+e2 m)
 generalize e6 ⟨0,Qd.of x,0⟩=u
 generalize e6 ⟨0,Qd.of y,0⟩*ww=t
 grind
theorem of_ne {x:V1} (h:x ≠ 0):(Qd.of x:V2) ≠ 0:=fun e=>h (congrArg Qd.a e)
theorem lnV_ne {x y:V1} (hy:y ≠ 0) (l m:V2):lnV x y l m ≠ 0:=fun e=>by
 rw [lnV_eq] at e
 have h:=congrArg Qd.b e
 rw [e6_b] at h
 exact of_ne hy (congrArg Cb.b h)
theorem conj_e6 (x:V6):(e6 x).conj=e6 x:=Qd.ext' rfl (show -(0:V6)=0 by grind)
theorem conj_ww:ww.conj = -ww:=Qd.ext' (show (0:V6) = -0 by grind) rfl
theorem conj_sub (a b:V12):(a-b).conj=a.conj-b.conj:=Qd.ext' rfl (show -(a.b-b.b) = -a.b - -b.b by grind)
theorem pY_neg (y:V1):pY (-y) = -pY y:=by unfold pY;rw [of_neg,e2_neg];generalize ww=w;grind
theorem lnV_conj (x y:V1) (l m:V2):(lnV x y l m).conj=lnV x (-y) l m:=by
 unfold lnV
 rw [conj_sub,conj_sub,Qd.conj_mul,pX_eq,pY_neg,pY_b,Qd.conj_mul,conj_ww]
 unfold e2
 rw [conj_e6,conj_e6,conj_e6,conj_e6]
 generalize ww=w
 grind
theorem lnV_opp (x y:V1) (l m:V2):lnV x (-y) l m = -lnV x y (-l) (-m):=by
 unfold lnV
 rw [pY_neg,e2_neg,e2_neg]
 grind
theorem lnV_pm {x y:V1} (hy:y ≠ 0) (l m:V2):ch12 (lnV x y l m)*ch12 (lnV x (-y) l m)=1:=by
 rw [<- lnV_conj]
 exact cx_conj (lnV_ne hy l m)
theorem lnV_op {x y:V1} (hy:y ≠ 0) (l m:V2):ch12 (lnV x y l m)*ch12 (lnV x y (-l) (-m))=1:=by
 have e:=lnV_pm (x:=x) hy l m
 rw [lnV_opp,cx_neg] at e
 exact e
theorem lnV_op' {x y:V1} (hy:y ≠ 0) {l m l' m':V2} (h1:l' = -l) (h2:m' = -m):ch12 (lnV x y l m)*ch12 (lnV x y l' m')=1:=by
 rw [h1,h2]
 exact lnV_op hy l m
theorem far_ne {x:V1} (hx:x ≠ 0) (a:V2):ch12 (pX x-e2 a)=1:=by
 have e:pX x-e2 a=e6 ⟨-a,Qd.of x,0⟩:=by
  rw [pX_eq]
  unfold e2
  rw [<- e6_sub]
  exact congrArg e6 (Cb.ext' (show (0:V2)-a = -a by grind) (show Qd.of x-0=(Qd.of x:V2) by grind) (show (0:V2)-0=0 by grind))
 rw [e]
 exact cx_e6 fun h=>of_ne hx (congrArg Cb.b h)
structure PtOk (x y : V1) : Prop where
 nx:x ≠ 0
 ny:y ≠ 0
 on:y*y=x*x*x+Crv.b
noncomputable def lvAt (x y:V1) (h:PtOk x y):Lv V2 V12 where
 S:=fun l m=>ch12 (lnV x y l m)
 F:=fun p q r=>ch12 (pX x*pX x+e2 p*pX x+e2 q-e2 r*pY y)
 four:=fun l m k n a h1 h2=>by
  have e:=lines_mul (R:=V12) (l:=e2 l) (m:=e2 m) (k:=e2 k) (n:=e2 n) (a:=e2 a) (b:=e2 bb2) (X:=pX x) (Y:=pY y) (curve12 h.on)
   (by rw [<- e2_mul,<- e2_add,<- e2_mul,h1,e2_add,e2_mul,e2_mul,crv2_b]) (by rw [<- e2_mul,<- e2_add,h2,e2_neg,e2_add,e2_mul])
  have e':lnV x y l m*lnV x y k n=(pX x-e2 a)*(pX x*pX x+e2 (a+l*k)*pX x+e2 (l*n+k*m+a*(a+l*k))-e2 (l+k)*pY y):=by
   unfold lnV
   rw [e]
   simp only [e2_add,e2_mul]
  rw [<- cx_mul,e',cx_mul,far_ne h.nx]
  exact (CR.mul_comm _ _).trans (mOne _)
 opp:=fun l m=>lnV_op' (x:=x) (y:=y) h.ny rfl rfl
theorem fb_add (a b:V12):(a+b) ^ pN=a ^ pN+b ^ pN:=by rw [dream prime_p V12.char]
theorem fb_neg (a:V12):(-a) ^ pN = -(a ^ pN):=by
 have h:=fb_add (-a) a
 have e : -a+a=0:=by grind
 rw [e,zero_pow' _ pN_pos] at h
 generalize (-a) ^ pN=u at *
 generalize a ^ pN=v at *
 grind
theorem fb_sub (a b:V12):(a-b) ^ pN=a ^ pN-b ^ pN:=by
 have e:a-b=a + -b:=CR.sub_eq a b
 rw [e,fb_add,fb_neg]
 exact (CR.sub_eq _ _).symm
theorem of_conj (x:V1):(Qd.of x:V2).conj=Qd.of x:=Qd.ext' rfl (show -(0:V1)=0 by grind)
theorem pX_p (x:V1):pX x ^ pN=e2 (gg*gg)*pX x:=by
 unfold pX
 rw [mul_pow',mul_pow',ww_p,e2_p,of_conj,e2_mul]
 generalize ww=w
 generalize e2 gg=g
 generalize e2 (Qd.of x)=u
 grind
theorem pY_p (y:V1):pY y ^ pN=e2 (gg*gg*gg)*pY y:=by
 unfold pY
 rw [mul_pow',mul_pow',mul_pow',ww_p,e2_p,of_conj,e2_mul,e2_mul]
 generalize ww=w
 generalize e2 gg=g
 generalize e2 (Qd.of y)=u
 grind
theorem gg_ne:gg ≠ 0:=pow_ne' xi_ne _
def gi:V2:=Fld.inv gg
theorem gi_eq:gg*gi=1:=mul_inv' gg_ne
theorem gg_six:gg*gg*gg*gg*gg*gg*xi=xi.conj:=by
 have h:gg ^ 6=xi ^ (6*((pN-1) / 6)):=by rw [Nat.mul_comm];exact (pow_mul' xi _ 6).symm
 have h2:gg*gg*gg*gg*gg*gg=gg ^ 6:=by generalize gg=g;grind
 rw [h2,h,<- V2.frob,<- pow_succ',<- pN_sixth]
theorem bb_conj:bb2.conj*(gi*gi*gi*gi*gi*gi)=bb2:=by
 have h:=gg_six
 have k:=gi_eq
 rw [bb_xi,Qd.conj_mul,of_conj,<- h]
 generalize xi=z at *
 generalize gg=g at *
 generalize gi=i at *
 have e:Qd.of 4*(g*g*g*g*g*g*z)*(i*i*i*i*i*i)=Qd.of 4*z*((g*i)*(g*i)*(g*i)*(g*i)*(g*i)*(g*i)):=by clear h k;grind
 rw [e,k]
 clear h k e
 grind
theorem lnV_p (x y:V1) (l m:V2):lnV x y l m ^ pN=e2 (gg*gg*gg)*lnV x y (l.conj*gi) (m.conj*(gi*gi*gi)):=by
 have k:=gi_eq
 have e1:l.conj*(gg*gg)=gg*gg*gg*(l.conj*gi):=by
  generalize gg=g at *
  generalize gi=i at *
  have:g*g*g*(l.conj*i)=l.conj*(g*g)*(g*i):=by clear k;grind
  rw [this,k]
  grind
 have e2':m.conj=gg*gg*gg*(m.conj*(gi*gi*gi)):=by
  generalize gg=g at *
  generalize gi=i at *
  have:g*g*g*(m.conj*(i*i*i))=m.conj*((g*i)*(g*i)*(g*i)):=by clear k;grind
  rw [this,k]
  grind
 unfold lnV
 rw [fb_sub,fb_sub,mul_pow',e2_p,e2_p,pX_p,pY_p]
 have h1:e2 l.conj*(e2 (gg*gg)*pX x)=e2 (gg*gg*gg)*(e2 (l.conj*gi)*pX x):=by
  rw [<- CR.mul_assoc,<- e2_mul,e1,e2_mul,CR.mul_assoc]
 have h2:e2 m.conj=e2 (gg*gg*gg)*e2 (m.conj*(gi*gi*gi)):=by
  rw [<- e2_mul,<- e2']
 rw [h1,h2]
 generalize e2 (gg*gg*gg)=u
 generalize e2 (l.conj*gi)*pX x=s
 generalize e2 (m.conj*(gi*gi*gi))=t
 clear h1 h2 e1 e2' k
 grind
theorem ggg_ne:gg*gg*gg ≠ 0:=mul_ne' (mul_ne' gg_ne gg_ne) gg_ne
theorem cx_lnV_p (x y:V1) (l m:V2):ch12 (lnV x y l m) ^ pN=ch12 (lnV x y (l.conj*gi) (m.conj*(gi*gi*gi))):=by
 rw [cx_p,lnV_p,cx_mul,cx_e2 ggg_ne]
 exact (CR.mul_comm _ _).trans (mOne _)
def phi:Pt V2->Pt V2
 | .inf => .inf
 | .aff x y => .aff (x.conj*(gi*gi)) (y.conj*(gi*gi*gi))
theorem cj_add (a b:V2):(a+b).conj=a.conj+b.conj:=Qd.conj_add a b
theorem cj_mul (a b:V2):(a*b).conj=a.conj*b.conj:=Qd.conj_mul a b
theorem cj_neg (a:V2):(-a).conj = -a.conj:=rfl
theorem cj_two:(2:V2).conj=2:=by
 rw [show (2:V2)=1+1 by grind,cj_add]
 have:(1:V2).conj=1:=of_conj 1
 rw [this]
theorem Ln.phi {l m x1 x2 x3:V2} (h:Ln l m x1 x2 x3):Ln (l.conj*gi) (m.conj*(gi*gi*gi)) (x1.conj*(gi*gi)) (x2.conj*(gi*gi)) (x3.conj*(gi*gi)):=by
 have h1:=congrArg Qd.conj h.s1
 have h2:=congrArg Qd.conj h.s2
 have h3:=congrArg Qd.conj h.s3
 rw [crv2_b] at h3
 simp only [cj_add,cj_mul,cj_neg,cj_two] at h1 h2 h3
 have hb:=bb_conj
 refine ⟨?_,?_,?_⟩
 ·generalize gi=i at *
  have:l.conj*i*(l.conj*i)=(l.conj*l.conj)*(i*i):=by clear h1 h2 h3 hb;grind
  rw [this,h1]
  clear h1 h2 h3 hb
  grind
 ·generalize gi=i at *
  have:2*(l.conj*i*(m.conj*(i*i*i)))=2*(l.conj*m.conj)*(i*i*i*i):=by clear h1 h2 h3 hb;grind
  rw [this,h2]
  clear h1 h2 h3 hb
  grind
 ·rw [crv2_b]
  generalize gi=i at *
  have:m.conj*(i*i*i)*(m.conj*(i*i*i))=m.conj*m.conj*(i*i*i*i*i*i):=by clear h1 h2 h3 hb;grind
  rw [this,h3]
  generalize bb2.conj=u at *
  rw [<- hb]
  clear h1 h2 h3 hb
  grind
theorem phi_at (l m x:V2):(l*x+m).conj*(gi*gi*gi)=l.conj*gi*(x.conj*(gi*gi))+m.conj*(gi*gi*gi):=by
 rw [cj_add,cj_mul]
 generalize gi=i
 grind
theorem phi_neg (p:Pt V2):phi p.neg=(phi p).neg:=by
 cases p with
 | inf=>rfl
 | aff x y =>
  show Pt.aff (x.conj*(gi*gi)) ((-y).conj*(gi*gi*gi))=Pt.aff (x.conj*(gi*gi)) (-(y.conj*(gi*gi*gi)))
  rw [cj_neg]
  exact congrArg _ (by generalize gi=i;grind)
theorem phi_on {p:Pt V2} (hp:p.on):(phi p).on:=by
 cases p with
 | inf=>trivial
 | aff x y =>
  have h:=congrArg Qd.conj (show y*y=x*x*x+bb2 from hp)
  simp only [cj_add,cj_mul] at h
  show y.conj*(gi*gi*gi)*(y.conj*(gi*gi*gi))=x.conj*(gi*gi)*(x.conj*(gi*gi))*(x.conj*(gi*gi))+bb2
  have hb:=bb_conj
  generalize gi=i at *
  have:y.conj*(i*i*i)*(y.conj*(i*i*i))=y.conj*y.conj*(i*i*i*i*i*i):=by clear h hb;grind
  rw [this,h]
  generalize bb2.conj=u at *
  rw [<- hb]
  clear h hb
  grind
theorem phi_add {p q:Pt V2} (hp:p.on) (hq:q.on):phi (p.add q)=(phi p).add (phi q):=by
 cases p with
 | inf=>rfl
 | aff x1 y1 =>
  cases q with
  | inf=>rw [add_inf];exact (add_inf _).symm
  | aff x2 y2 =>
   rcases add_cases hp hq with ⟨h1,h2,h⟩ | ⟨l,m,x3,hL,h1,h2,h⟩
   ·rw [h,h1,h2]
    have e:=neg_add_pt (phi_on hq)
    rw [add_comm_pt (neg_on (phi_on hq)) (phi_on hq)] at e
    rw [add_comm_pt (phi_on (show (Pt.aff x2 (-y2)).on from neg_on hq)) (phi_on hq),show Pt.aff x2 (-y2)=(Pt.aff x2 y2).neg from rfl,phi_neg,e]
    rfl
   ·rw [h,show (Pt.aff x3 (-(l*x3+m)))=(Pt.aff x3 (l*x3+m)).neg from rfl,phi_neg]
    subst h1 h2
    show (Pt.aff _ _).neg=(Pt.aff _ _).add (Pt.aff _ _)
    rw [add_of_ln hL.phi (phi_at l m x1) (phi_at l m x2),<- phi_at]
    rfl
theorem lv_phi {x y:V1} (h:PtOk x y) {p q:Pt V2} (hp:p.on) (hq:q.on):(lvAt x y h).c (phi p) (phi q)=(lvAt x y h).c p q ^ pN:=by
 cases p with
 | inf=>rw [show phi .inf=(.inf:Pt V2) from rfl,Lv.c_inf,Lv.c_inf,one_pow']
 | aff x1 y1 =>
  cases q with
  | inf=>rw [show phi .inf=(.inf:Pt V2) from rfl,Lv.c_inf',Lv.c_inf',one_pow']
  | aff x2 y2 =>
   rcases add_cases hp hq with ⟨h1,h2,_⟩ | ⟨l,m,x3,hL,h1,h2,_⟩
   ·rw [(lvAt x y h).c_opp h1 h2,one_pow']
    subst h1 h2
    exact Lv.c_opp _ rfl (by rw [cj_neg];generalize gi=i;grind)
   ·rw [(lvAt x y h).c_ln hL h1 h2]
    subst h1 h2
    show (lvAt x y h).c (Pt.aff _ _) (Pt.aff _ _)=_
    rw [Lv.c_ln _ hL.phi (phi_at l m x1) (phi_at l m x2)]
    exact (cx_lnV_p x y l m).symm
theorem lv_neg {K M:Type} [Fld K] [Crv K] [CR M] (v:Lv K M) {p q:Pt K} (hp:p.on) (hq:q.on):v.c p.neg q.neg*v.c p q=1:=by
 cases p with
 | inf=>rw [show Pt.neg .inf=(.inf:Pt K) from rfl,Lv.c_inf,Lv.c_inf];exact mOne _
 | aff x1 y1 =>
  cases q with
  | inf=>rw [show Pt.neg .inf=(.inf:Pt K) from rfl,Lv.c_inf',Lv.c_inf'];exact mOne _
  | aff x2 y2 =>
   rcases add_cases hp hq with ⟨h1,h2,_⟩ | ⟨l,m,x3,hL,h1,h2,_⟩
   ·rw [v.c_opp h1 h2,show (Pt.aff x1 y1).neg = .aff x1 (-y1) from rfl,show (Pt.aff x2 y2).neg = .aff x2 (-y2) from rfl,v.c_opp h1 (by rw [h2])]
    exact mOne _
   ·rw [v.c_ln hL h1 h2,show (Pt.aff x1 y1).neg = .aff x1 (-y1) from rfl,show (Pt.aff x2 y2).neg = .aff x2 (-y2) from rfl,v.c_ln hL.neg (by rw [h1];grind) (by rw [h2];grind),CR.mul_comm]
    exact v.opp l m
end Go.Proofs.YtcbplfkeeaecgaaGreat
set_option maxRecDepth 100000
namespace Go.Proofs.YtcbplfkeeaecgaaGreat
def tN:Nat:=15132376222941642752
theorem tN_p:tN+pN=qN*((tN+pN) / qN):=by decide +kernel
theorem S_q (x y:V1) (h:PtOk x y) (l m:V2):(lvAt x y h).S l m ^ qN=1:=cx_q (lnV_ne h.ny l m)
open Classical in
theorem c_q (x y:V1) (h:PtOk x y) (p q:Pt V2):(lvAt x y h).c p q ^ qN=1:=by
 cases p with
 | inf=>rw [Lv.c_inf,one_pow']
 | aff x1 y1 =>
  cases q with
  | inf=>rw [Lv.c_inf',one_pow']
  | aff x2 y2 =>
   unfold Lv.c
   simp only
   split
   ·exact one_pow' _
   ·exact S_q x y h _ _
theorem f_q (x y:V1) (h:PtOk x y) (q:Pt V2) : ∀ n,(lvAt x y h).f q n ^ qN=1
 | 0=>one_pow' _
 | n+1=>by
  show ((lvAt x y h).f q n*(lvAt x y h).c (q.mul n) q) ^ qN=1
  rw [mul_pow',f_q x y h q n,c_q]
  exact mOne _
theorem die_q {a:V12} (h:a ^ qN=1):a ^ tN*a ^ pN=1:=by
 rw [<- pow_add',tN_p,pow_mul',h,one_pow']
structure Good2 (q : Pt V2) : Prop where
 sub:q.sub qN
 tw:q.mul tN=(phi q).neg
theorem Good2.on {q:Pt V2} (h:Good2 q):q.on:=h.sub.1
theorem good2_inf:Good2 .inf:=⟨⟨trivial,mul_inf_pt _⟩,by rw [mul_inf_pt];rfl⟩
theorem neg_add_neg {K:Type} [Fld K] [Crv K] {p q:Pt K} (hp:p.on) (hq:q.on):p.neg.add q.neg=(p.add q).neg:=by
 have h1:=add_on hp hq
 refine eq_of_neg_add (add_on (neg_on hp) (neg_on hq)) (neg_on h1) ?_
 have e:(p.neg.add q.neg).neg=p.add q:=by
  refine eq_of_neg_add (neg_on (add_on (neg_on hp) (neg_on hq))) h1 ?_
  rw [neg_neg_pt,add_assoc_pt (neg_on hp) (neg_on hq) h1,add_comm_pt hp hq,<- add_assoc_pt (neg_on hq) hq hp,neg_add_pt hq,inf_add,neg_add_pt hp]
 rw [e,add_comm_pt h1 (neg_on h1),neg_add_pt h1]
theorem Good2.add {p q:Pt V2} (hp:Good2 p) (hq:Good2 q):Good2 (p.add q) :=
 ⟨sub_add hp.sub hq.sub,by rw [add_mul_pt hp.on hq.on,hp.tw,hq.tw,neg_add_neg (phi_on hp.on) (phi_on hq.on),phi_add hp.on hq.on]⟩
theorem Good2.mul {p:Pt V2} (hp:Good2 p) : ∀ n,Good2 (p.mul n)
 | 0=>good2_inf
 | n+1=>(Good2.mul hp n).add hp
section
variable {d : Pt V2} (hd : d.on) (hdn : d.mul qN ≠ .inf)
include hd hdn in
theorem f_add2 (x y:V1) (h:PtOk x y) {p q:Pt V2} (hp:Good2 p) (hq:Good2 q):(lvAt x y h).f (p.add q) tN=(lvAt x y h).f p tN*(lvAt x y h).f q tN:=by
 have e:=Lv.f_sum (lvAt x y h) hd hdn hp.sub hq.sub tN
 have e2:=lv_neg (lvAt x y h) (phi_on hp.on) (phi_on hq.on)
 rw [<- hp.tw,<- hq.tw,lv_phi h hp.on hq.on] at e2
 have e3:=die_q (c_q x y h p q)
 generalize (lvAt x y h).f (p.add q) tN=a at *
 generalize (lvAt x y h).f p tN=b at *
 generalize (lvAt x y h).f q tN=c at *
 generalize (lvAt x y h).c (p.mul tN) (q.mul tN)=z at *
 generalize (lvAt x y h).c p q ^ tN=s at *
 generalize (lvAt x y h).c p q ^ pN=t at *
 have:a*(s*t)=b*c*(z*t):=by
  have:a*(s*t)=(a*s)*t:=by grind
  rw [this,e]
  grind
 rw [e3,e2] at this
 exact (mOne a).symm.trans (this.trans (mOne _))
end
def lnH (k n:V1) (x y:V2):V12:=e2 y-e2 (Qd.of k)*ww*e2 x-e2 (Qd.of n)*(ww*ww*ww)
theorem lnH_eq (k n:V1) (x y:V2):lnH k n x y=e2 y-e6 (⟨Qd.of k,0,0⟩*⟨x,0,0⟩+⟨Qd.of n,0,0⟩*vv)*ww:=by
 unfold lnH e2
 rw [e6_add,e6_mul,e6_mul,<- ww_sq]
 generalize ww=w
 generalize e6 ⟨y,0,0⟩=s1
 generalize e6 ⟨Qd.of k,0,0⟩=s2
 generalize e6 ⟨Qd.of n,0,0⟩=s3
 generalize e6 ⟨x,0,0⟩=s4
 grind
theorem e6_ab (x y:V6):(e6 x-e6 y*ww).a=x:=by
 rw [Qd.sub_a,Qd.mul_a]
 show x-(y*0+QP.nr*(0*1))=x
 grind
theorem lnH_ne (k n:V1) {x y:V2} (hy:y ≠ 0):lnH k n x y ≠ 0:=fun e=>by
 rw [lnH_eq] at e
 have h:=congrArg Qd.a e
 rw [show e2 y=e6 ⟨y,0,0⟩ from rfl,e6_ab] at h
 exact hy (congrArg Cb.a h)
theorem lnH_conj (k n:V1) (x y:V2):lnH k n x (-y) = -(lnH k n x y).conj:=by
 rw [lnH_eq,lnH_eq,conj_sub,Qd.conj_mul,conj_e6,conj_ww,e2_neg]
 unfold e2
 rw [conj_e6]
 generalize ww=w
 grind
theorem lnH_pm (k n:V1) {x y y':V2} (hy:y ≠ 0) (h:y' = -y):ch12 (lnH k n x y)*ch12 (lnH k n x y')=1:=by
 rw [h,lnH_conj,cx_neg]
 exact cx_conj (lnH_ne k n hy)
theorem lnH_p (k n:V1) (x y:V2):lnH k n x y ^ pN=e2 (gg*gg*gg)*lnH k n (x.conj*(gi*gi)) (y.conj*(gi*gi*gi)):=by
 have hk:=gi_eq
 have h1:e2 y.conj=e2 (gg*gg*gg)*e2 (y.conj*(gi*gi*gi)):=by
  rw [<- e2_mul]
  refine congrArg e2 ?_
  generalize gg=g at *
  generalize gi=i at *
  have:g*g*g*(y.conj*(i*i*i))=y.conj*((g*i)*(g*i)*(g*i)):=by clear hk;grind
  rw [this,hk]
  grind
 have h2:e2 gg*e2 x.conj=e2 (gg*gg*gg)*e2 (x.conj*(gi*gi)):=by
  rw [<- e2_mul,<- e2_mul]
  refine congrArg e2 ?_
  generalize gg=g at *
  generalize gi=i at *
  have:g*g*g*(x.conj*(i*i))=g*x.conj*((g*i)*(g*i)):=by clear hk;grind
  rw [this,hk]
  grind
 unfold lnH
 rw [fb_sub,fb_sub,mul_pow',mul_pow',mul_pow',mul_pow',mul_pow',e2_p,e2_p,e2_p,e2_p,ww_p,of_conj,of_conj]
 have h3:e2 (Qd.of k)*(e2 gg*ww)*e2 x.conj=e2 (gg*gg*gg)*(e2 (Qd.of k)*ww*e2 (x.conj*(gi*gi))):=by
  have:e2 (Qd.of k)*(e2 gg*ww)*e2 x.conj=e2 (Qd.of k)*ww*(e2 gg*e2 x.conj):=by
   generalize ww=w;generalize e2 gg=u;generalize e2 (Qd.of k)=s;generalize e2 x.conj=t;clear h1 h2 hk;grind
  rw [this,h2]
  generalize ww=w;generalize e2 (gg*gg*gg)=u;generalize e2 (Qd.of k)=s;generalize e2 (x.conj*(gi*gi))=t
  clear h1 h2 hk this
  grind
 rw [h1,h3,e2_mul (gg*gg) gg,e2_mul gg gg]
 generalize ww=w
 generalize e2 gg=u
 generalize e2 (Qd.of k)*w*e2 (x.conj*(gi*gi))=s
 generalize e2 (y.conj*(gi*gi*gi))=t
 generalize e2 (Qd.of n)=r
 clear h1 h2 h3 hk
 grind
def hV (k n:V1):Pt V2->V12
 | .inf=>1
 | .aff x y=>ch12 (lnH k n x y)
theorem hV_inf (k n:V1):hV k n .inf=1:=rfl
theorem hV_neg (k n:V1) {q:Pt V2} (hq:q.on):hV k n q*hV k n q.neg=1:=by
 cases q with
 | inf=>exact mOne _
 | aff x y=>exact lnH_pm k n (y_ne hq) rfl
theorem hV_pm (k n:V1) {x y y':V2} (ho:(Pt.aff x y).on) (h:y' = -y):hV k n (.aff x y)*hV k n (.aff x y')=1:=lnH_pm k n (y_ne ho) h
theorem hV_q (k n:V1) {q:Pt V2} (hq:q.on):hV k n q ^ qN=1:=by
 cases q with
 | inf=>exact one_pow' _
 | aff x y=>exact cx_q (lnH_ne k n (y_ne hq))
theorem hV_phi (k n:V1) (q:Pt V2):hV k n (phi q)=hV k n q ^ pN:=by
 cases q with
 | inf=>exact (one_pow' _).symm
 | aff x y =>
  show ch12 _=ch12 _ ^ pN
  rw [cx_p,lnH_p,cx_mul,cx_e2 ggg_ne]
  exact ((CR.mul_comm _ _).trans (mOne _)).symm
theorem hV_tw (k n:V1) {q:Pt V2} (hq:Good2 q):hV k n (q.mul tN)*hV k n q ^ pN=1:=by
 rw [hq.tw,<- hV_phi,CR.mul_comm]
 exact hV_neg k n (phi_on hq.on)
theorem three_ch (a b c:V12):ch12 a*ch12 b*ch12 c=ch12 (a*b*c):=by rw [cx_mul,cx_mul]
theorem S_at (x y:V1) (h:PtOk x y) (l m:V2):(lvAt x y h).S l m=ch12 (lnV x y l m):=rfl
theorem hV_aff (k n:V1) (x y:V2):hV k n (.aff x y)=ch12 (lnH k n x y):=rfl
theorem lines_at {k n x1 x2 x3:V1} (hL:Ln k n x1 x2 x3) (o1:PtOk x1 (k*x1+n)) (o2:PtOk x2 (k*x2+n)) (o3:PtOk x3 (-(k*x3+n))) (l m u1 u2 u3:V2) (hK:Ln l m u1 u2 u3) {w1 w2 w3:V2} (g1:w1=l*u1+m) (g2:w2=l*u2+m) (g3:w3=l*u3+m) :
  (lvAt _ _ o1).S l m*(lvAt _ _ o2).S l m=(lvAt _ _ o3).S l m*(hV k n (.aff u1 w1)*hV k n (.aff u2 w2)*hV k n (.aff u3 w3)):=by
 subst g1 g2 g3
 rw [S_at,S_at,S_at,hV_aff,hV_aff,hV_aff]
 have hy3:k*x3+n ≠ 0:=fun e=>o3.ny (by rw [e];grind)
 have pm:=lnV_pm (x:=x3) hy3 l m
 have e2two:e2 2=2:=by rw [show (2:V2)=1+1 by grind,e2_add,e2_one];grind
 have of2:(Qd.of 2:V2)=2:=by rw [show (2:V1)=1+1 by grind,of_add];show (1:V2)+1=2;grind
 have oz : ∀ a b:V1,e2 (Qd.of (a*b))=e2 (Qd.of a)*e2 (Qd.of b):=fun a b=>by rw [Qd.of_mul,e2_mul]
 have oa : ∀ a b:V1,e2 (Qd.of (a+b))=e2 (Qd.of a)+e2 (Qd.of b):=fun a b=>by rw [of_add,e2_add]
 have on' : ∀ a:V1,e2 (Qd.of (-a)) = -e2 (Qd.of a):=fun a=>by rw [of_neg,e2_neg]
 have e:=recip (R:=V12) (b:=e2 bb2) (l:=e2 l) (m:=e2 m) (x1:=e2 u1) (x2:=e2 u2) (x3:=e2 u3) (k:=e2 (Qd.of k)*ww) (n:=e2 (Qd.of n)*(ww*ww*ww)) (u1:=pX x1) (u2:=pX x2) (u3:=pX x3)
  (by rw [<- e2_mul,hK.s1,e2_add,e2_add]) (by rw [<- e2two,<- e2_mul,<- e2_mul,hK.s2];simp only [e2_neg,e2_add,e2_mul]) (by rw [<- e2_mul,hK.s3,e2_add,e2_mul,e2_mul,crv2_b])
  (by
   have h:=congrArg (fun z=>e2 (Qd.of z)) hL.s1
   simp only [oz,oa] at h
   unfold pX
   generalize ww=w
   generalize e2 (Qd.of k)=s at *
   have:s*w*(s*w)=s*s*(w*w):=by clear h;grind
   rw [this,h]
   clear h this pm
   grind)
  (by
   have h:=congrArg (fun z=>e2 (Qd.of z)) hL.s2
   simp only [oz,oa,on'] at h
   rw [of2,e2two] at h
   unfold pX
   generalize ww=w
   generalize e2 (Qd.of k)=s at *
   generalize e2 (Qd.of n)=t at *
   have:2*(s*w*(t*(w*w*w)))=2*(s*t)*(w*w*(w*w)):=by clear h;grind
   rw [this,h]
   clear h this pm
   grind)
  (by
   have h:=congrArg (fun z=>e2 (Qd.of z)) hL.s3
   simp only [oz,oa] at h
   rw [crv1_b] at h
   rw [bb_xi,e2_mul,<- ww_six]
   unfold pX
   generalize ww=w
   generalize e2 (Qd.of n)=t at *
   have:t*(w*w*w)*(t*(w*w*w))=t*t*w ^ 6:=by clear h;grind
   rw [this,h]
   clear h this pm
   grind)
 have hl : ∀ x:V1,e2 (Qd.of k)*ww*pX x+e2 (Qd.of n)*(ww*ww*ww)-e2 l*pX x-e2 m=lnV x (k*x+n) l m:=fun x=>by
  unfold lnV pY
  rw [oa,oz]
  unfold pX
  generalize ww=w
  clear e pm
  grind
 have hr : ∀ u:V2,e2 l*e2 u+e2 m-e2 (Qd.of k)*ww*e2 u-e2 (Qd.of n)*(ww*ww*ww)=lnH k n u (l*u+m):=fun u=>by
  unfold lnH
  rw [e2_add,e2_mul]
 rw [hl,hl,hl,hr,hr,hr] at e
 have e':=congrArg ch12 e
 rw [cx_neg,<- three_ch,<- three_ch] at e'
 rw [<- e']
 generalize ch12 (lnV x1 (k*x1+n) l m)=a at *
 generalize ch12 (lnV x2 (k*x2+n) l m)=b at *
 generalize ch12 (lnV x3 (k*x3+n) l m)=c at *
 generalize ch12 (lnV x3 (-(k*x3+n)) l m)=d at *
 have:d*(a*b*c)=a*b*(c*d):=by clear e e' hl hr pm;grind
 rw [this,pm]
 exact (mOne _).symm
theorem f_add1 {k n x1 x2 x3 y1 y2 y3:V1} (hL:Ln k n x1 x2 x3) (e1:y1=k*x1+n) (e2:y2=k*x2+n) (e3:y3 = -(k*x3+n)) (o1:PtOk x1 y1) (o2:PtOk x2 y2) (o3:PtOk x3 y3) {q:Pt V2} (hq:Good2 q) :
  (lvAt _ _ o1).f q tN*(lvAt _ _ o2).f q tN=(lvAt _ _ o3).f q tN:=by
 subst e1 e2 e3
 have e:=f_prod (v1:=lvAt _ _ o1) (v2:=lvAt _ _ o2) (v3:=lvAt _ _ o3) (h:=hV k n) (hV_inf k n) (fun x y ho=>hV_pm k n ho rfl) (fun l m u1 u2 u3 hK=>lines_at hL o1 o2 o3 l m u1 u2 u3 hK rfl rfl rfl) hq.on tN
 have e2:=hV_tw k n hq
 have e3:=die_q (hV_q k n hq.on)
 generalize (lvAt _ _ o1).f q tN=a at *
 generalize (lvAt _ _ o2).f q tN=b at *
 generalize (lvAt _ _ o3).f q tN=c at *
 generalize hV k n (q.mul tN)=z at *
 generalize hV k n q ^ tN=s at *
 generalize hV k n q ^ pN=t at *
 have:a*b*(z*t)=c*(s*t):=by
  have:a*b*(z*t)=(a*b*z)*t:=by grind
  rw [this,e]
  grind
 rw [e2,e3] at this
 exact (mOne _).symm.trans (this.trans (mOne _))
theorem c_neg1 {x y y':V1} (hy:y' = -y) (h1:PtOk x y) (h2:PtOk x y') (p q:Pt V2):(lvAt x y h1).c p q*(lvAt x y' h2).c p q=1:=by
 subst hy
 cases p with
 | inf=>rw [Lv.c_inf,Lv.c_inf];exact mOne _
 | aff x1 y1 =>
  cases q with
  | inf=>rw [Lv.c_inf',Lv.c_inf'];exact mOne _
  | aff x2 y2 =>
   unfold Lv.c
   simp only
   split
   ·exact mOne _
   ·exact lnV_pm h1.ny _ _
theorem f_neg1 {x y y':V1} (hy:y' = -y) (h1:PtOk x y) (h2:PtOk x y') (q:Pt V2) : ∀ n,(lvAt x y h1).f q n*(lvAt x y' h2).f q n=1
 | 0=>mOne _
 | n+1=>by
  have ih:=f_neg1 hy h1 h2 q n
  have e:=c_neg1 hy h1 h2 (q.mul n) q
  show (lvAt x y h1).f q n*(lvAt x y h1).c (q.mul n) q*((lvAt x y' h2).f q n*(lvAt x y' h2).c (q.mul n) q)=1
  generalize (lvAt x y h1).f q n=a at *
  generalize (lvAt x y' h2).f q n=b at *
  generalize (lvAt x y h1).c (q.mul n) q=c at *
  generalize (lvAt x y' h2).c (q.mul n) q=d at *
  have:a*c*(b*d)=(a*b)*(c*d):=by clear e ih;grind
  rw [this,ih,e]
  exact mOne _
theorem sub_x {x y:V1} (h:(Pt.aff x y).sub qN):x ≠ 0:=fun e=>by
 subst e
 have hn : ¬ ((0:V1)=0/\y = -y):=fun e=>y_self h.1 e.2
 have h2:(Pt.aff 0 y).mul 2=(Pt.aff (0:V1) y).neg:=by
  rw [show (2:Nat)=1+1 from rfl,mul_succ_pt,mul_one_pt,add_aff,if_neg hn]
  have hs:slope (0:V1) y 0 y=0:=by
   unfold slope
   rw [if_pos rfl]
   grind
  rw [hs]
  show Pt.aff _ _=Pt.aff 0 (-y)
  congr 1 <;> grind
 have h3:(Pt.aff (0:V1) y).mul 3 = .inf:=by
  rw [show (3:Nat)=2+1 from rfl,mul_succ_pt,h2]
  exact neg_add_pt h.1
 exact mul_ne_inf h.1 (fun e=>by cases e) h.2 (k:=3) (by decide) (by decide +kernel) h3
theorem sub_ptOk {x y:V1} (h:(Pt.aff x y).sub qN):PtOk x y:=⟨sub_x h,y_ne h.1,h.1⟩
open Classical in
noncomputable def prV:Pt V1->Pt V2->V12
 | .inf,_=>1
 | .aff x y,q=>if h:PtOk x y then (lvAt x y h).f q tN else 1
theorem prV_inf (q:Pt V2):prV .inf q=1:=rfl
open Classical in
theorem prV_at {x y:V1} (h:PtOk x y) (q:Pt V2):prV (.aff x y) q=(lvAt x y h).f q tN:=dif_pos h
open Classical in
theorem prV_no {x y:V1} (h : ¬ PtOk x y) (q:Pt V2):prV (.aff x y) q=1:=dif_neg h
theorem prV_q (p:Pt V1) (q:Pt V2):prV p q ^ qN=1:=by
 cases p with
 | inf=>exact one_pow' _
 | aff x y =>
  by_cases h:PtOk x y
  ·rw [prV_at h];exact f_q x y h q tN
  ·rw [prV_no h]
   exact one_pow' _
theorem prV_add1 {p1 p2:Pt V1} (h1:p1.sub qN) (h2:p2.sub qN) {q:Pt V2} (hq:Good2 q):prV (p1.add p2) q=prV p1 q*prV p2 q:=by
 cases p1 with
 | inf=>rw [inf_add,prV_inf,CR.mul_comm];exact (mOne _).symm
 | aff x1 y1 =>
  cases p2 with
  | inf=>rw [add_inf,prV_inf];exact (mOne _).symm
  | aff x2 y2 =>
   have o1:=sub_ptOk h1
   have o2:=sub_ptOk h2
   have h3:=sub_add h1 h2
   rw [prV_at o1,prV_at o2]
   rcases add_cases h1.1 h2.1 with ⟨e1,e2,e⟩ | ⟨k,n,x3,hL,e1,e2,e⟩
   ·rw [e,prV_inf]
    subst e1
    rw [CR.mul_comm]
    exact (f_neg1 e2 o2 o1 q tN).symm
   ·rw [e] at h3 ⊢
    have o3:=sub_ptOk h3
    rw [prV_at o3]
    exact (f_add1 hL e1 e2 rfl o1 o2 o3 hq).symm
open Classical in
theorem prV_inf2 (p:Pt V1):prV p .inf=1:=by
 cases p with
 | inf=>rfl
 | aff x y =>
  by_cases h:PtOk x y
  ·rw [prV_at h]
   have : ∀ n,(lvAt x y h).f .inf n=1:=fun n=>by
    induction n with
    | zero=>rfl
    | succ n ih =>
     show (lvAt x y h).f .inf n*(lvAt x y h).c ((Pt.inf:Pt V2).mul n) .inf=1
     rw [ih,Lv.c_inf']
     exact mOne _
   exact this tN
  ·exact prV_no h _
section
variable {d : Pt V2} (hd : d.on) (hdn : d.mul qN ≠ .inf)
open Classical in
include hd hdn in
theorem prV_add2 (p:Pt V1) {q r:Pt V2} (hq:Good2 q) (hr:Good2 r):prV p (q.add r)=prV p q*prV p r:=by
 cases p with
 | inf=>exact (mOne _).symm
 | aff x y =>
  by_cases h:PtOk x y
  ·rw [prV_at h,prV_at h,prV_at h]
   exact f_add2 hd hdn x y h hq hr
  ·rw [prV_no h,prV_no h,prV_no h]
   exact (mOne _).symm
theorem prV_mul1 {p:Pt V1} (hp:p.sub qN) {q:Pt V2} (hq:Good2 q) : ∀ a,prV (p.mul a) q=prV p q ^ a
 | 0=>rfl
 | a+1=>by rw [mul_succ_pt,prV_add1 (sub_mul hp a) hp hq,prV_mul1 hp hq a,pow_succ']
include hd hdn in
theorem prV_mul2 (p:Pt V1) {q:Pt V2} (hq:Good2 q) : ∀ b,prV p (q.mul b)=prV p q ^ b
 | 0=>prV_inf2 p
 | b+1=>by rw [mul_succ_pt,prV_add2 hd hdn p (hq.mul b) hq,prV_mul2 p hq b,pow_succ']
include hd hdn in
theorem prV_mul {p:Pt V1} (hp:p.sub qN) {q:Pt V2} (hq:Good2 q) (a b:Nat):prV (p.mul a) (q.mul b)=prV p q ^ (a*b):=by
 rw [prV_mul1 hp (hq.mul b) a,prV_mul2 hd hdn p hq b,<- pow_mul',Nat.mul_comm]
end
end Go.Proofs.YtcbplfkeeaecgaaGreat
set_option maxRecDepth 100000
namespace Go.Proofs.YtcbplfkeeaecgaaGreat
section
variable {K : Type} [Fld K] [Crv K] {fc : K -> (K -> K × K × K) -> K × K × K} (h : ∀ a k, fc a k = k a) {gx gy : K} (hg : (Pt.aff gx gy).on) (e : List UInt64)
include h hg in
theorem goP_at:Pj (goP fc Crv.b gx gy e (64*e.length) 0 1 0).1 (goP fc Crv.b gx gy e (64*e.length) 0 1 0).2.1 (goP fc Crv.b gx gy e (64*e.length) 0 1 0).2.2 ((Pt.aff gx gy).mul (valL e)):=by
 rw [goP_eq h]
 exact dblG_all (fun (s:K × K × K) p=>Pj s.1 s.2.1 s.2.2 p) (p:=Pt.aff gx gy) hg (tw:=fun s=>(rx Crv.b s.1 s.2.1 s.2.2 s.1 s.2.1 s.2.2,ry Crv.b s.1 s.2.1 s.2.2 s.1 s.2.1 s.2.2,rz Crv.b s.1 s.2.1 s.2.2 s.1 s.2.1 s.2.2)) (pl:=fun s=>(rx Crv.b s.1 s.2.1 s.2.2 gx gy 1,ry Crv.b s.1 s.2.1 s.2.2 gx gy 1,rz Crv.b s.1 s.2.1 s.2.2 gx gy 1))
  (fun hq k=>sum_all hq hq k k) (fun hq k=>sum_all hq hg k ⟨one_ne',(CR.mul_one _).symm,(CR.mul_one _).symm⟩) e (o:=((0:K),(1:K),(0:K))) ⟨rfl,rfl,one_ne'⟩
include h hg in
theorem mul_ne_of (hz:(goP fc Crv.b gx gy e (64*e.length) 0 1 0).2.2 ≠ 0):(Pt.aff gx gy).mul (valL e) ≠ .inf:=fun hi=>by
 have k:=goP_at h hg e
 rw [hi] at k
 exact hz k.2.1
include h hg in
theorem mul_tw_of {g i cx cy:K} (hgi:g*i=1) (hX:(goP fc Crv.b gx gy e (64*e.length) 0 1 0).1*(g*g)=cx*(goP fc Crv.b gx gy e (64*e.length) 0 1 0).2.2) (hY:(goP fc Crv.b gx gy e (64*e.length) 0 1 0).2.1*(g*g*g) = -cy*(goP fc Crv.b gx gy e (64*e.length) 0 1 0).2.2)
  (hZ:(goP fc Crv.b gx gy e (64*e.length) 0 1 0).2.2 ≠ 0):(Pt.aff gx gy).mul (valL e) = .aff (cx*(i*i)) (-(cy*(i*i*i))):=by
 have k:=goP_at h hg e
 generalize (goP fc Crv.b gx gy e (64*e.length) 0 1 0)=s at *
 generalize (Pt.aff gx gy).mul (valL e)=p at *
 cases p with
 | inf=>exact absurd k.2.1 hZ
 | aff x y =>
  obtain ⟨_,k1,k2⟩:=k
  rw [k1] at hX
  rw [k2] at hY
  have ex:x*(g*g)=cx:=mul_cancel' hZ (by rw [<- hX];generalize s.2.2=z;clear hX hY hZ k1 k2 hgi h;grind)
  have ey:y*(g*g*g) = -cy:=mul_cancel' hZ (by rw [<- hY];generalize s.2.2=z;clear hX hY hZ k1 k2 hgi h;grind)
  have fx:x=cx*(i*i):=by
   rw [<- ex]
   have:x*(g*g)*(i*i)=x*((g*i)*(g*i)):=by clear ex ey hX hY hZ k1 k2 hgi h;grind
   rw [this,hgi]
   clear ex ey hX hY hZ k1 k2 hgi this h
   grind
  have fy:y = -(cy*(i*i*i)):=by
   have e : -(cy*(i*i*i)) = -cy*(i*i*i):=by clear ex ey hX hY hZ k1 k2 hgi fx h;grind
   rw [e,<- ey]
   have:y*(g*g*g)*(i*i*i)=y*((g*i)*(g*i)*(g*i)):=by clear ex ey hX hY hZ k1 k2 hgi fx e h;grind
   rw [this,hgi]
   clear ex ey hX hY hZ k1 k2 hgi this fx e h
   grind
  rw [<- fx,<- fy]
end
def dX:V2:=⟨0,1⟩
def dY:V2:=⟨V1.of 2973677408986561043442465346520108879172042883009249989176415018091420807192182638567116318576472649347015917690530,V1.of 3086196438705319049925973437647385832154519810789273688466929354097832529895965677626713931657629044072635064607771⟩
theorem d_on:(Pt.aff dX dY).on:=V2.ext_nat (by
 show ((dY*dY).a).nat=(dX*dX*dX+bb2).a.nat
 decide +kernel) (by
 show ((dY*dY).b).nat=(dX*dX*dX+bb2).b.nat
 decide +kernel)
theorem V2.ne_nat {z:V2} (h:z.a.nat ≠ 0):z ≠ 0:=fun e=>h (by rw [e];exact V1.nat_zero)
theorem d_ne:(Pt.aff dX dY).mul qN ≠ .inf:=by
 rw [<- rLimbs_val]
 exact mul_ne_of (fc:=fcV2) fcV2_eq d_on rLimbs.list (V2.ne_nat (by decide +kernel))
def powE {K:Type} [CR K] (fc:K->(K->K)->K) (f:K) (e:Nat):Nat->K->K
 | 0,a=>a
 | n+1,a=>fc (a*a) fun b=>match e.testBit n with
  | true=>fc (b*f) fun c=>powE fc f e n c
  | false=>powE fc f e n b
theorem powE_eq {K:Type} [CR K] {fc:K->(K->K)->K} (h : ∀ a k,fc a k=k a) (f:K) (e:Nat) : ∀ (n:Nat) (a:K),powE fc f e n a=a ^ 2 ^ n*f ^ (e % 2 ^ n)
 | 0,a=>by
  show a=a ^ 1*f ^ (e % 1)
  rw [Nat.mod_one,pow_one',pow_zero']
  exact (CR.mul_one a).symm
 | n+1,a=>by
  have h2:(a*a) ^ 2 ^ n=a ^ 2 ^ (n+1):=by
   rw [Nat.pow_succ,Nat.mul_comm,pow_mul']
   congr 1
   show a*a=a ^ (1+1)
   rw [pow_succ',pow_one']
  have h3:e % 2 ^ (n+1)=e % 2 ^ n+2 ^ n*(e / 2 ^ n % 2):=Nat.mod_pow_succ
  simp only [powE,h]
  rw [Nat.testBit_eq_decide_div_mod_eq]
  rcases Nat.mod_two_eq_zero_or_one (e / 2 ^ n) with k | k
  ·rw [k] at h3
   simp only [Nat.mul_zero,Nat.add_zero] at h3
   rw [k,h3]
   show powE fc f e n (a*a)=_
   rw [powE_eq h f e n,h2]
  ·rw [k] at h3
   rw [k,h3]
   show powE fc f e n (a*a*f)=_
   rw [powE_eq h f e n,mul_pow',h2,Nat.mul_one,pow_add']
   generalize a ^ 2 ^ (n+1)=u
   generalize f ^ 2 ^ n=v
   generalize f ^ (e % 2 ^ n)=w
   grind
theorem powE_all {K:Type} [CR K] {fc:K->(K->K)->K} (h : ∀ a k,fc a k=k a) (f:K) {e n:Nat} (he:e<2 ^ n):powE fc f e n 1=f ^ e:=by
 rw [powE_eq h,one_pow',Nat.mod_eq_of_lt he,CR.mul_comm]
 exact CR.mul_one _
def gC:V2:=⟨V1.of 3850754370037169011952147076051364057158807420970682438676050522613628423219637725072182697113062777891589506424760,V1.of 151655185184498381465642749684540099398075398968325446656007613510403227271200139370504932015952886146304766135027⟩
theorem gg_eq:gg=gC:=by
 unfold gg
 rw [<- powE_all (fc:=fcV2) fcV2_eq xi (e:=(pN-1) / 6) (n:=384) (by decide +kernel)]
 exact V2.ext_nat (by decide +kernel) (by decide +kernel)
theorem tN_val:valL [15132376222941642752]=tN:=by decide +kernel
theorem gg_gC:gC*gi=1:=by rw [<- gg_eq];exact gi_eq
theorem gen2_tw:oneG2.pt.mul tN=(phi oneG2.pt).neg:=by
 rw [<- tN_val,gen2_pt]
 exact mul_tw_of (fc:=fcV2) fcV2_eq gen2_on [15132376222941642752] (cx:=oneG2.x.v.conj) (cy:=oneG2.y.v.conj) gg_gC (V2.ext_nat (by decide +kernel) (by decide +kernel)) (V2.ext_nat (by decide +kernel) (by decide +kernel)) (V2.ne_nat (by decide +kernel))
theorem gen2_good2:Good2 oneG2.pt:=⟨⟨gen2_good.2,gen2_order⟩,gen2_tw⟩
abbrev R3:Type:=V12 × V2 × V2
def lnW (px py:V1) (l x y:V2):V12:=⟨⟨xi*Qd.of py,0,0⟩,⟨0,l*x-y, -(l*Qd.of px)⟩⟩
theorem lnW_eq (px py:V1) (l x y:V2):lnW px py l x y=lnV px py l (y-l*x)*(ww*ww*ww):=by
 have h:lnW px py l x y=e6 ⟨xi*Qd.of py,0,0⟩+e6 ⟨0,l*x-y, -(l*Qd.of px)⟩*ww:=split12 _
 rw [h,e6_split,e6_split]
 show e2 (xi*Qd.of py)+e2 0*_+e2 0*_+(e2 0+e2 (l*x-y)*_+e2 (-(l*Qd.of px))*_)*ww=_
 unfold lnV pX pY
 rw [e2_zero,e2_mul xi,<- ww_six,e2_sub,e2_sub,e2_neg,e2_mul l x,e2_mul l (Qd.of px)]
 generalize ww=w
 grind
theorem cx_lnW (px py:V1) (l x y:V2):ch12 (lnW px py l x y)=ch12 (lnV px py l (y-l*x)):=by
 rw [lnW_eq,cx_mul,cx_www]
 exact CR.mul_one _
def tanS (x y:V2):V2:=(x*x+x*x+x*x)*Fld.inv (y+y)
def chdS (qx qy x y:V2):V2:=(qy-y)*Fld.inv (qx-x)
def onX (l x z:V2):V2:=l*l-x-z
def onY (l x y z:V2):V2:=l*(x-z)-y
def twoL (px py:V1) (l:V2) (s:R3):R3:=(s.1*s.1*lnW px py l s.2.1 s.2.2,onX l s.2.1 s.2.1,onY l s.2.1 s.2.2 (onX l s.2.1 s.2.1))
def twoV (px py:V1) (s:R3):R3:=twoL px py (tanS s.2.1 s.2.2) s
def addL (px py:V1) (qx l:V2) (s:R3):R3:=(s.1*lnW px py l s.2.1 s.2.2,onX l s.2.1 qx,onY l s.2.1 s.2.2 (onX l s.2.1 qx))
def addV (px py:V1) (qx qy:V2) (s:R3):R3:=addL px py qx (chdS qx qy s.2.1 s.2.2) s
theorem two_eq (px py:V1) (f:V12) (x y:V2):twoV px py (f,x,y)=(f*f*lnW px py (tanS x y) x y,onX (tanS x y) x x,onY (tanS x y) x y (onX (tanS x y) x x)):=by simp only [twoV,twoL]
theorem addV_eq (px py:V1) (qx qy:V2) (f:V12) (x y:V2):addV px py qx qy (f,x,y)=(f*lnW px py (chdS qx qy x y) x y,onX (chdS qx qy x y) x qx,onY (chdS qx qy x y) x y (onX (chdS qx qy x y) x qx)):=by simp only [addV,addL]
def mlV (px py:V1) (qx qy:V2):Nat->R3->R3
 | 0,s=>s
 | n+1,s=>match tN.testBit n with
  | true=>mlV px py qx qy n (addV px py qx qy (twoV px py s))
  | false=>mlV px py qx qy n (twoV px py s)
structure MlOk (px py : V1) (h : PtOk px py) (q : Pt V2) (j : Nat) (s : R3) : Prop where
 j1:0<j
 pt:q.mul j = .aff s.2.1 s.2.2
 val:ch12 s.1=(lvAt px py h).f q j
open Classical in
theorem Lv_at {px py:V1} {h:PtOk px py} {x y u w:V2} (hn : ¬ (x=u/\y = -w)):(lvAt px py h).c (.aff x y) (.aff u w)=ch12 (lnV px py (slope x y u w) (y-slope x y u w*x)):=by
 unfold Lv.c
 simp only
 rw [if_neg hn]
 exact S_at _ _ _ _ _
theorem Lv_succ {K M:Type} [Fld K] [Crv K] [CR M] (v:Lv K M) (q:Pt K) (n:Nat):v.f q (n+1)=v.f q n*v.c (q.mul n) q:=rfl
theorem tan_slope (x y:V2):tanS x y=slope x y x y:=by
 unfold tanS slope
 rw [if_pos rfl,show y+y=2*y by grind,show x*x+x*x+x*x=3*x*x by grind]
section
variable {d : Pt V2} (hd : d.on) (hdn : d.mul qN ≠ .inf)
include hd hdn in
theorem MlOk.two {px py:V1} {h:PtOk px py} {q:Pt V2} {j:Nat} {s:R3} (k:MlOk px py h q j s) (hq:q.sub qN):MlOk px py h q (j+j) (twoV px py s):=by
 obtain ⟨f,x,y⟩:=s
 obtain ⟨k1,k2,k3⟩:=k
 have k2:q.mul j = .aff x y:=k2
 have k3:ch12 f=(lvAt px py h).f q j:=k3
 have ho:(Pt.aff x y).on:=by rw [<- k2];exact mul_on hq.1 j
 rw [two_eq]
 have hn : ¬ (x=x/\y = -y):=fun e=>y_self ho e.2
 refine ⟨by omega,?_,?_⟩
 ·rw [mul_add_pt hq.1,k2]
  show (Pt.aff x y).add (.aff x y)=_
  rw [add_aff,if_neg hn,<- tan_slope]
  rfl
 ·rw [Lv.f_add (lvAt px py h) hd hdn hq,k2,<- k3]
  have hc:(lvAt px py h).c (.aff x y) (.aff x y)=ch12 (lnV px py (tanS x y) (y-tanS x y*x)):=by
   rw [tan_slope]
   exact Lv_at hn
  rw [hc]
  simp only []
  rw [cx_mul,cx_mul,cx_lnW]
end
theorem MlOk.add {px py:V1} {h:PtOk px py} {qx qy:V2} {j:Nat} {s:R3} (k:MlOk px py h (.aff qx qy) j s) (hq:(Pt.aff qx qy).sub qN) (h1:1<j) (h2:j+1<qN):MlOk px py h (.aff qx qy) (j+1) (addV px py qx qy s):=by
 obtain ⟨f,x,y⟩:=s
 obtain ⟨k1,k2,k3⟩:=k
 have k2:(Pt.aff qx qy).mul j = .aff x y:=k2
 have k3:ch12 f=(lvAt px py h).f (.aff qx qy) j:=k3
 have hi:Pt.aff qx qy ≠ .inf:=fun e=>by cases e
 have ho:(Pt.aff x y).on:=by rw [<- k2];exact mul_on hq.1 j
 have hx:x ≠ qx:=fun e=>by
  subst e
  rcases aff_same ho hq.1 with e | e
  ·rw [e] at k2
   obtain ⟨m,rfl⟩ : ∃ m,j=m+1:=⟨j-1,by omega⟩
   have c:=cancel_pt hq.1 (mul_on hq.1 m)
   rw [add_comm_pt hq.1 (mul_on hq.1 m),<- mul_succ_pt,k2,neg_add_pt hq.1] at c
   exact mul_ne_inf hq.1 hi hq.2 (k:=m) (by omega) (by omega) c.symm
  ·have c:(Pt.aff x qy).mul (j+1) = .inf:=by
    rw [mul_succ_pt,k2,e,add_comm_pt ho (neg_on ho),neg_add_pt ho]
   exact mul_ne_inf hq.1 hi hq.2 (k:=j+1) (by omega) h2 c
 have hn : ¬ (x=qx/\y = -qy):=fun e=>hx e.1
 have hs:chdS qx qy x y=slope x y qx qy:=by
  unfold chdS slope
  rw [if_neg hx]
 rw [addV_eq]
 refine ⟨by omega,?_,?_⟩
 ·rw [mul_succ_pt,k2,add_aff,if_neg hn,<- hs]
  rfl
 ·rw [Lv_succ]
  have hc:(lvAt px py h).c (.aff x y) (.aff qx qy)=ch12 (lnV px py (chdS qx qy x y) (y-chdS qx qy x y*x)):=by
   rw [hs]
   exact Lv_at hn
  rw [k2,hc,<- k3]
  simp only []
  rw [cx_mul,cx_lnW]
theorem tN_lt:tN<qN:=by decide +kernel
section
variable {d : Pt V2} (hd : d.on) (hdn : d.mul qN ≠ .inf)
include hd hdn in
theorem mlV_ok {px py:V1} {h:PtOk px py} {qx qy:V2} (hq:(Pt.aff qx qy).sub qN) : ∀ (n:Nat) (s:R3),MlOk px py h (.aff qx qy) (tN / 2 ^ n) s->MlOk px py h (.aff qx qy) tN (mlV px py qx qy n s)
 | 0,s,k=>by
  rw [Nat.pow_zero,Nat.div_one] at k
  exact k
 | n+1,s,k=>by
  have hb:=Nat.testBit_eq_decide_div_mod_eq (i:=n) (x:=tN)
  have hj:tN / 2 ^ (n+1)=tN / 2 ^ n / 2:=by rw [Nat.pow_succ,Nat.div_div_eq_div_mul]
  have hle:tN / 2 ^ n<=tN:=Nat.div_le_self _ _
  have hlt:=tN_lt
  have k1:=k.two hd hdn hq
  have j1:=k.j1
  unfold mlV
  rw [hb]
  rw [hj] at k1 j1
  clear hb hj
  generalize hm:tN / 2 ^ n=m at *
  rcases Nat.mod_two_eq_zero_or_one m with e | e
  ·rw [e]
   show MlOk _ _ _ _ _ (mlV px py qx qy n (twoV px py s))
   refine mlV_ok hq n _ ?_
   rw [hm,show m=m / 2+m / 2 by omega]
   exact k1
  ·rw [e]
   show MlOk _ _ _ _ _ (mlV px py qx qy n (addV px py qx qy (twoV px py s)))
   refine mlV_ok hq n _ ?_
   rw [hm,show m=m / 2+m / 2+1 by omega]
   exact k1.add hq (by omega) (by omega)
include hd hdn in
theorem prV_ml {px py:V1} (h:PtOk px py) {qx qy:V2} (hq:(Pt.aff qx qy).sub qN):prV (.aff px py) (.aff qx qy)=ch12 (mlV px py qx qy 63 (1,qx,qy)).1:=by
 rw [prV_at h]
 have k:MlOk px py h (.aff qx qy) (tN / 2 ^ 63) (1,qx,qy):=by
  rw [show tN / 2 ^ 63=1 by decide +kernel]
  exact ⟨Nat.one_pos,mul_one_pt _,by
   show ch12 1=(1:V12)*(lvAt px py h).c .inf _
   rw [cx_one,Lv.c_inf]
   exact (CR.mul_one _).symm⟩
 exact (mlV_ok hd hdn hq 63 _ k).val.symm
end
def fc12 {α:Type} (a:V12) (k:V12->α):α:=fcV2 a.a.a fun x0=>fcV2 a.a.b fun x1=>fcV2 a.a.c fun x2=>fcV2 a.b.a fun x3=>fcV2 a.b.b fun x4=>fcV2 a.b.c fun x5=>k ⟨⟨x0,x1,x2⟩,⟨x3,x4,x5⟩⟩
theorem fc12_eq {α:Type} (a:V12) (k:V12->α):fc12 a k=k a:=by
 unfold fc12
 rw [fcV2_eq,fcV2_eq,fcV2_eq,fcV2_eq,fcV2_eq,fcV2_eq]
def mlE (px py:V1) (qx qy:V2):Nat->V12->V2->V2->V12
 | 0,f,_,_=>f
 | n+1,f,x,y=>fcV2 (Fld.inv (y+y)) fun i=>fcV2 ((x*x+x*x+x*x)*i) fun l=>fc12 (f*f) fun f2=>fc12 (f2*lnW px py l x y) fun f3=>fcV2 (onX l x x) fun x'=>fcV2 (onY l x y x') fun y'=>match tN.testBit n with
  | true=>fcV2 (Fld.inv (qx-x')) fun i=>fcV2 ((qy-y')*i) fun l=>fc12 (f3*lnW px py l x' y') fun f4=>fcV2 (onX l x' qx) fun x''=>fcV2 (onY l x' y' x'') fun y''=>mlE px py qx qy n f4 x'' y''
  | false=>mlE px py qx qy n f3 x' y'
theorem mlE_eq (px py:V1) (qx qy:V2) : ∀ (n:Nat) (f:V12) (x y:V2),mlE px py qx qy n f x y=(mlV px py qx qy n (f,x,y)).1
 | 0,f,x,y=>rfl
 | n+1,f,x,y=>by
  simp only [mlE,mlV,fcV2_eq,fc12_eq,two_eq,addV_eq,tanS,chdS]
  cases tN.testBit n with
  | true=>exact mlE_eq px py qx qy n _ _ _
  | false=>exact mlE_eq px py qx qy n _ _ _
theorem cx_one_b {f:V12} (h0:f ≠ 0) (h:ch12 f=1):(f ^ kN).b=0:=by
 unfold ch12 eN at h
 rw [Nat.mul_comm,pow_mul'] at h
 have e:(f ^ kN) ^ (pN ^ 6)=f ^ kN:=by
  conv=>lhs;rw [p6_succ]
  rw [pow_succ',h,CR.mul_comm]
  exact CR.mul_one _
 rw [V12.p6] at e
 have e2 : -(f ^ kN).b=(f ^ kN).b:=congrArg Qd.b e
 generalize (f ^ kN).b=z at *
 have h2:(2:V6)*z=0:=by grind
 rcases mul_eq_zero' h2 with k | k
 ·exact absurd (congrArg (fun z:V6=>z.a) k) fun k=>V2.two_ne (by
   have:(2:V6).a=2:=by
    rw [show (2:V6)=1+1 by grind]
    show (1:V2)+1=2
    grind
   rw [<- this]
   exact k)
 ·exact k
theorem ne_of_ml {d:Pt V2} (hd:d.on) (hdn:d.mul qN ≠ .inf) {px py:V1} {qx qy:V2} (o1:PtOk px py) (s2:(Pt.aff qx qy).sub qN) (h0:(fc12 (mlE px py qx qy 63 1 qx qy) fun f=>f).a.a ≠ 0)
  (hk:kN<2 ^ 2048) (h1:(fc12 (mlE px py qx qy 63 1 qx qy) fun f=>powE fc12 f kN 2048 1).b ≠ 0):prV (.aff px py) (.aff qx qy) ≠ 1:=fun h=>by
 rw [prV_ml hd hdn o1 s2,<- mlE_eq] at h
 rw [fc12_eq] at h0 h1
 rw [powE_all (fc:=fc12) fc12_eq _ hk] at h1
 generalize mlE px py qx qy 63 1 qx qy=f at *
 exact h1 (cx_one_b (fun e=>h0 (by rw [e];rfl)) h)
theorem kN_lt:kN<2 ^ 2048:=by decide +kernel
theorem g1_ok:PtOk oneG1.x.v oneG1.y.v:=sub_ptOk (by rw [<- gen1_pt];exact ⟨gen1_good.2,gen1_order⟩)
theorem g2_sub:(Pt.aff oneG2.x.v oneG2.y.v).sub qN:=by rw [<- gen2_pt];exact gen2_good2.sub
theorem V6.ne_nat {z:V6} (h:z.a.a.nat ≠ 0):z ≠ 0:=fun e=>h (by rw [e];exact V1.nat_zero)
theorem ml_ne0:(fc12 (mlE oneG1.x.v oneG1.y.v oneG2.x.v oneG2.y.v 63 1 oneG2.x.v oneG2.y.v) fun f=>f).a.a ≠ 0:=V2.ne_nat (by decide +kernel)
theorem ml_ne1:(fc12 (mlE oneG1.x.v oneG1.y.v oneG2.x.v oneG2.y.v 63 1 oneG2.x.v oneG2.y.v) fun f=>powE fc12 f kN 2048 1).b ≠ 0:=V6.ne_nat (by decide +kernel)
theorem gen_ne:prV oneG1.pt oneG2.pt ≠ 1:=by
 rw [gen1_pt,gen2_pt]
 exact ne_of_ml d_on d_ne g1_ok g2_sub ml_ne0 kN_lt ml_ne1
end Go.Proofs.YtcbplfkeeaecgaaGreat
namespace Go.Proofs.YtcbplfkeeaecgaaGreat
open Go.RowKit
section
def Fp6.ok (a:Fp6):Prop:=a.c0.ok/\a.c1.ok/\a.c2.ok
def Fp6.v (a:Fp6):V6:=⟨a.c0.v,a.c1.v,a.c2.v⟩
theorem Fp6.v_a (a:Fp6):a.v.a=a.c0.v:=rfl
theorem Fp6.v_b (a:Fp6):a.v.b=a.c1.v:=rfl
theorem Fp6.mk_ok {a b c:Fp2} (ha:a.ok) (hb:b.ok) (hc:c.ok):(⟨a,b,c⟩:Fp6).ok:=⟨ha,hb,hc⟩
theorem Fp6.mk_v {a b c:Fp2} {x:V6} (ha:a.v=x.a) (hb:b.v=x.b) (hc:c.v=x.c):(⟨a,b,c⟩:Fp6).v=x:=Cb.ext' ha hb hc
theorem Fp6.v_inj {a b:Fp6} (ha:a.ok) (hb:b.ok) (h:a.v=b.v):a=b:=by
 have h1:a.c0=b.c0:=Fp2.v_inj ha.1 hb.1 (congrArg Cb.a h)
 have h2:a.c1=b.c1:=Fp2.v_inj ha.2.1 hb.2.1 (congrArg Cb.b h)
 have h3:a.c2=b.c2:=Fp2.v_inj ha.2.2 hb.2.2 (congrArg Cb.c h)
 cases a;cases b
 simp only [] at h1 h2 h3
 subst h1 h2 h3
 rfl
section
variable {f0 f1 : Fp2 -> Fp2 -> Fp2} {f2 : Fp2 -> Fp2}
end
theorem addF6_eq (a b:Fp6):addF6 a b=⟨addF2 a.c0 b.c0,addF2 a.c1 b.c1,addF2 a.c2 b.c2⟩:=by
 unfold addF6 addF6_G with6a with6a_G
 rfl
theorem subF6_eq (a b:Fp6):subF6 a b=⟨subF2 a.c0 b.c0,subF2 a.c1 b.c1,subF2 a.c2 b.c2⟩:=by
 unfold subF6 subF6_G with6s with6s_G
 rfl
theorem negF6_eq (a:Fp6):negF6 a=subF6 zeroFp6 a:=by unfold negF6 negF6_G;rfl
theorem upF6_eq (a:Fp6):upF6 a=⟨upF2 a.c2,a.c0,a.c1⟩:=by unfold upF6 upF6_G;rfl
theorem wholeF6_eq (a:Fp6):wholeF6 a=⟨wholeF2 a.c0,wholeF2 a.c1,wholeF2 a.c2⟩:=by unfold wholeF6 wholeF6_G;rfl
theorem lowF6_eq (a:Fp6):lowF6 a=⟨lowF2 a.c0,lowF2 a.c1,lowF2 a.c2⟩:=by unfold lowF6 lowF6_G;rfl
theorem mulF6_eq (a b:Fp6):mulF6 a b=wholeF6 (halfF6 a b):=by unfold mulF6 mulF6_G;rfl
theorem halfF6_G_eq (f0 f1:Fp2->Fp2->Fp2) (f2:Fp2->Fp2) (f3:Nat->Nat->Fp6->Fp6->Fp2->Fp2->Fp2) (a b:Fp6):halfF6_G f0 f1 f2 f3 a b=⟨f1 (f0 a.c0 b.c0) (f2 (f3 1 2 a b (f0 a.c1 b.c1) (f0 a.c2 b.c2))),f1 (f3 0 1 a b (f0 a.c0 b.c0) (f0 a.c1 b.c1)) (f2 (f0 a.c2 b.c2)),f1 (f3 0 2 a b (f0 a.c0 b.c0) (f0 a.c2 b.c2)) (f0 a.c1 b.c1)⟩:=rfl
theorem halfF6_eq (a b:Fp6):halfF6 a b=⟨addF2 (halfF2 a.c0 b.c0) (upF2 (crossF 1 2 a b (halfF2 a.c1 b.c1) (halfF2 a.c2 b.c2))),addF2 (crossF 0 1 a b (halfF2 a.c0 b.c0) (halfF2 a.c1 b.c1)) (upF2 (halfF2 a.c2 b.c2)),addF2 (crossF 0 2 a b (halfF2 a.c0 b.c0) (halfF2 a.c2 b.c2)) (halfF2 a.c1 b.c1)⟩:=halfF6_G_eq halfF2 addF2 upF2 crossF a b
theorem zero_ok6:zeroFp6.ok:=⟨zero_ok2,zero_ok2,zero_ok2⟩
theorem v_zero6:zeroFp6.v=0:=Cb.ext' v_zero2 v_zero2 v_zero2
theorem one_ok6:oneFp6.ok:=⟨one_ok2,zero_ok2,zero_ok2⟩
theorem v_one6:oneFp6.v=1:=Cb.ext' v_one2 v_zero2 v_zero2
theorem add_ok6 {a b:Fp6} (ha:a.ok) (hb:b.ok):(addF6 a b).ok:=by rw [addF6_eq];exact Fp6.mk_ok (add_ok2 ha.1 hb.1) (add_ok2 ha.2.1 hb.2.1) (add_ok2 ha.2.2 hb.2.2)
theorem v_add6 {a b:Fp6} (ha:a.ok) (hb:b.ok):(addF6 a b).v=a.v+b.v:=by rw [addF6_eq];exact Fp6.mk_v (v_add2 ha.1 hb.1) (v_add2 ha.2.1 hb.2.1) (v_add2 ha.2.2 hb.2.2)
theorem sub_ok6 {a b:Fp6} (ha:a.ok) (hb:b.ok):(subF6 a b).ok:=by rw [subF6_eq];exact Fp6.mk_ok (sub_ok2 ha.1 hb.1) (sub_ok2 ha.2.1 hb.2.1) (sub_ok2 ha.2.2 hb.2.2)
theorem v_sub6 {a b:Fp6} (ha:a.ok) (hb:b.ok):(subF6 a b).v=a.v-b.v:=by rw [subF6_eq];exact Fp6.mk_v (v_sub2 ha.1 hb.1) (v_sub2 ha.2.1 hb.2.1) (v_sub2 ha.2.2 hb.2.2)
theorem neg_ok6 {a:Fp6} (ha:a.ok):(negF6 a).ok:=by rw [negF6_eq];exact sub_ok6 zero_ok6 ha
theorem zero_sub' {R:Type} [CR R] (x:R):0-x = -x:=by grind
theorem v_neg6 {a:Fp6} (ha:a.ok):(negF6 a).v = -a.v:=by rw [negF6_eq,v_sub6 zero_ok6 ha,v_zero6];exact zero_sub' _
theorem up_ok6 {a:Fp6} (ha:a.ok):(upF6 a).ok:=by rw [upF6_eq];exact Fp6.mk_ok (up_ok2 ha.2.2) ha.1 ha.2.1
theorem up_cb {K:Type} [CR K] [CP K] (x:Cb K):(⟨0,1,0⟩:Cb K)*x=⟨CP.cr*x.c,x.a,x.b⟩:=Cb.ext'
 (by rw [Cb.mul_a];show 0*x.a+CP.cr*(1*x.c+0*x.b)=_;grind)
 (by rw [Cb.mul_b];show 0*x.b+1*x.a+CP.cr*(0*x.c)=_;grind)
 (by rw [Cb.mul_c];show 0*x.c+1*x.b+0*x.a=_;grind)
theorem v_up6 {a:Fp6} (ha:a.ok):(upF6 a).v=vv*a.v:=by
 have e:vv*a.v=⟨xi*a.c2.v,a.c0.v,a.c1.v⟩:=up_cb a.v
 rw [upF6_eq,e]
 exact Fp6.mk_v (v_up2 ha.2.2) rfl rfl
def rv6:V6:=Cb.of rv2
def ri6:V6:=Cb.of ri2
theorem Cb.of_mul {K:Type} [CR K] [CP K] (x y:K):Cb.of (x*y)=Cb.of x*Cb.of y:=Cb.ext'
 (by rw [Cb.mul_a];show x*y=x*y+CP.cr*(0*0+0*0);grind)
 (by rw [Cb.mul_b];show 0=x*0+0*y+CP.cr*(0*0);grind)
 (by rw [Cb.mul_c];show 0=x*0+0*0+0*y;grind)
theorem Cb.of_times {K:Type} [CR K] [CP K] (k:K) (x:Cb K):Cb.of k*x=⟨k*x.a,k*x.b,k*x.c⟩:=Cb.ext'
 (by rw [Cb.mul_a];show k*x.a+CP.cr*(0*x.c+0*x.b)=_;grind)
 (by rw [Cb.mul_b];show k*x.b+0*x.a+CP.cr*(0*x.c)=_;grind)
 (by rw [Cb.mul_c];show k*x.c+0*x.b+0*x.a=_;grind)
theorem rv_ri6:rv6*ri6=1:=by unfold rv6 ri6;rw [<- Cb.of_mul,rv_ri2];rfl
theorem whole_ok6 {a:Fp6} (ha:a.ok):(wholeF6 a).ok:=by rw [wholeF6_eq];exact Fp6.mk_ok (whole_ok2 ha.1) (whole_ok2 ha.2.1) (whole_ok2 ha.2.2)
theorem v_whole6 {a:Fp6} (ha:a.ok):(wholeF6 a).v=rv6*a.v:=by
 unfold rv6
 rw [wholeF6_eq,Cb.of_times]
 exact Fp6.mk_v (v_whole2 ha.1) (v_whole2 ha.2.1) (v_whole2 ha.2.2)
theorem low_ok6 {a:Fp6} (ha:a.ok):(lowF6 a).ok:=by rw [lowF6_eq];exact Fp6.mk_ok (low_ok2 ha.1) (low_ok2 ha.2.1) (low_ok2 ha.2.2)
theorem v_low6 {a:Fp6} (ha:a.ok):(lowF6 a).v=ri6*a.v:=by
 unfold ri6
 rw [lowF6_eq,Cb.of_times]
 exact Fp6.mk_v (v_low2 ha.1) (v_low2 ha.2.1) (v_low2 ha.2.2)
theorem cross_v {a0 a1 b0 b1:Fp2} (h0:a0.ok) (h1:a1.ok) (k0:b0.ok) (k1:b1.ok):(subF2 (halfF2 (addF2 a0 a1) (addF2 b0 b1)) (addF2 (halfF2 a0 b0) (halfF2 a1 b1))).ok/\(subF2 (halfF2 (addF2 a0 a1) (addF2 b0 b1)) (addF2 (halfF2 a0 b0) (halfF2 a1 b1))).v=ri2*(a0.v*b1.v+a1.v*b0.v):=by
 have e1:=half_ok2 (add_ok2 h0 h1) (add_ok2 k0 k1)
 have e2:=half_ok2 h0 k0
 have e3:=half_ok2 h1 k1
 refine ⟨sub_ok2 e1 (add_ok2 e2 e3),?_⟩
 rw [v_sub2 e1 (add_ok2 e2 e3),v_half2 (add_ok2 h0 h1) (add_ok2 k0 k1),v_add2 e2 e3,v_half2 h0 k0,v_half2 h1 k1,v_add2 h0 h1,v_add2 k0 k1]
 grind
theorem crossF_12 (a b:Fp6) (x y:Fp2):crossF 1 2 a b x y=subF2 (halfF2 (addF2 a.c1 a.c2) (addF2 b.c1 b.c2)) (addF2 x y):=rfl
theorem crossF_01 (a b:Fp6) (x y:Fp2):crossF 0 1 a b x y=subF2 (halfF2 (addF2 a.c0 a.c1) (addF2 b.c0 b.c1)) (addF2 x y):=rfl
theorem crossF_02 (a b:Fp6) (x y:Fp2):crossF 0 2 a b x y=subF2 (halfF2 (addF2 a.c0 a.c2) (addF2 b.c0 b.c2)) (addF2 x y):=rfl
theorem mul_scaled {K:Type} [CR K] [CP K] (k:K) (x y:Cb K):Cb.of k*(x*y)=⟨k*(x.a*y.a)+CP.cr*(k*(x.b*y.c+x.c*y.b)),k*(x.a*y.b+x.b*y.a)+CP.cr*(k*(x.c*y.c)),k*(x.a*y.c+x.c*y.a)+k*(x.b*y.b)⟩:=by
 rw [Cb.of_times]
 exact Cb.ext' (by rw [Cb.mul_a];grind) (by rw [Cb.mul_b];grind) (by rw [Cb.mul_c];grind)
theorem half_v6 {a b:Fp6} (ha:a.ok) (hb:b.ok):(halfF6 a b).ok/\(halfF6 a b).v=ri6*(a.v*b.v):=by
 obtain ⟨p1,p2⟩:=cross_v ha.2.1 ha.2.2 hb.2.1 hb.2.2
 obtain ⟨q1,q2⟩:=cross_v ha.1 ha.2.1 hb.1 hb.2.1
 obtain ⟨r1,r2⟩:=cross_v ha.1 ha.2.2 hb.1 hb.2.2
 have h0:=half_ok2 ha.1 hb.1
 have h1:=half_ok2 ha.2.1 hb.2.1
 have h2:=half_ok2 ha.2.2 hb.2.2
 have e:ri6*(a.v*b.v)=_:=mul_scaled ri2 a.v b.v
 rw [halfF6_eq,e,crossF_12,crossF_01,crossF_02]
 refine ⟨Fp6.mk_ok (add_ok2 h0 (up_ok2 p1)) (add_ok2 q1 (up_ok2 h2)) (add_ok2 r1 h1),Fp6.mk_v ?_ ?_ ?_⟩
 ·rw [v_add2 h0 (up_ok2 p1),v_up2 p1,p2,v_half2 ha.1 hb.1]
  rfl
 ·rw [v_add2 q1 (up_ok2 h2),v_up2 h2,q2,v_half2 ha.2.2 hb.2.2]
  rfl
 ·rw [v_add2 r1 h1,r2,v_half2 ha.2.1 hb.2.1]
  rfl
theorem half_ok6 {a b:Fp6} (ha:a.ok) (hb:b.ok):(halfF6 a b).ok:=(half_v6 ha hb).1
theorem v_half6 {a b:Fp6} (ha:a.ok) (hb:b.ok):(halfF6 a b).v=ri6*(a.v*b.v):=(half_v6 ha hb).2
theorem mul_ok6 {a b:Fp6} (ha:a.ok) (hb:b.ok):(mulF6 a b).ok:=by rw [mulF6_eq];exact whole_ok6 (half_ok6 ha hb)
theorem whole_half {R:Type} [CR R] {r i x y:R} (h:r*i=1):r*(i*(x*y))=x*y:=by grind
theorem v_mul6 {a b:Fp6} (ha:a.ok) (hb:b.ok):(mulF6 a b).v=a.v*b.v:=by
 rw [mulF6_eq,v_whole6 (half_ok6 ha hb),v_half6 ha hb]
 exact whole_half rv_ri6
theorem invF6_no {f0 f1 f3:Fp2->Fp2->Fp2} {f2:Fp2->Fp2} {f4:Fp2->Fp2 × Int} {a:Fp6} {d:Fp2} (hd:f3 (f1 a.c0 (f0 (f1 a.c0 a.c0) (f2 (f1 a.c1 a.c2)))) (f2 (f3 (f1 a.c2 (f0 (f2 (f1 a.c2 a.c2)) (f1 a.c0 a.c1))) (f1 a.c1 (f0 (f1 a.c1 a.c1) (f1 a.c0 a.c2)))))=d) (h:(f4 d).2=7):invF6_G f0 f1 f2 f3 f4 a=(zeroFp6,7):=by
 unfold invF6_G
 rw [hd,h]
 rfl
theorem invF6_yes {f0 f1 f3:Fp2->Fp2->Fp2} {f2:Fp2->Fp2} {f4:Fp2->Fp2 × Int} {a:Fp6} {d:Fp2} (hd:f3 (f1 a.c0 (f0 (f1 a.c0 a.c0) (f2 (f1 a.c1 a.c2)))) (f2 (f3 (f1 a.c2 (f0 (f2 (f1 a.c2 a.c2)) (f1 a.c0 a.c1))) (f1 a.c1 (f0 (f1 a.c1 a.c1) (f1 a.c0 a.c2)))))=d) (h:(f4 d).2=0) :
  invF6_G f0 f1 f2 f3 f4 a=(⟨f1 (f0 (f1 a.c0 a.c0) (f2 (f1 a.c1 a.c2))) (f4 d).1,f1 (f0 (f2 (f1 a.c2 a.c2)) (f1 a.c0 a.c1)) (f4 d).1,f1 (f0 (f1 a.c1 a.c1) (f1 a.c0 a.c2)) (f4 d).1⟩,0):=by
 unfold invF6_G
 rw [hd,h]
 rfl
theorem adj_v {a:Fp6} (ha:a.ok):(subF2 (mulF2 a.c0 a.c0) (upF2 (mulF2 a.c1 a.c2))).ok/\(subF2 (mulF2 a.c0 a.c0) (upF2 (mulF2 a.c1 a.c2))).v=a.v.adj.a /\
  (subF2 (upF2 (mulF2 a.c2 a.c2)) (mulF2 a.c0 a.c1)).ok/\(subF2 (upF2 (mulF2 a.c2 a.c2)) (mulF2 a.c0 a.c1)).v=a.v.adj.b/\(subF2 (mulF2 a.c1 a.c1) (mulF2 a.c0 a.c2)).ok/\(subF2 (mulF2 a.c1 a.c1) (mulF2 a.c0 a.c2)).v=a.v.adj.c:=by
 obtain ⟨h0,h1,h2⟩:=ha
 have m00:=mul_ok2 h0 h0
 have m12:=mul_ok2 h1 h2
 have m22:=mul_ok2 h2 h2
 have m01:=mul_ok2 h0 h1
 have m11:=mul_ok2 h1 h1
 have m02:=mul_ok2 h0 h2
 refine ⟨sub_ok2 m00 (up_ok2 m12),?_,sub_ok2 (up_ok2 m22) m01,?_,sub_ok2 m11 m02,?_⟩
 ·rw [v_sub2 m00 (up_ok2 m12),v_up2 m12,v_mul2 h0 h0,v_mul2 h1 h2]
  rfl
 ·rw [v_sub2 (up_ok2 m22) m01,v_up2 m22,v_mul2 h2 h2,v_mul2 h0 h1]
  rfl
 ·rw [v_sub2 m11 m02,v_mul2 h1 h1,v_mul2 h0 h2]
  rfl
def detF6 (a:Fp6):Fp2:=addF2 (mulF2 a.c0 (subF2 (mulF2 a.c0 a.c0) (upF2 (mulF2 a.c1 a.c2)))) (upF2 (addF2 (mulF2 a.c2 (subF2 (upF2 (mulF2 a.c2 a.c2)) (mulF2 a.c0 a.c1))) (mulF2 a.c1 (subF2 (mulF2 a.c1 a.c1) (mulF2 a.c0 a.c2)))))
theorem det_v {a:Fp6} (ha:a.ok):(detF6 a).ok/\(detF6 a).v=a.v.norm:=by
 obtain ⟨p0,q0,p1,q1,p2,q2⟩:=adj_v ha
 obtain ⟨h0,h1,h2⟩:=ha
 unfold detF6
 generalize subF2 (mulF2 a.c0 a.c0) (upF2 (mulF2 a.c1 a.c2))=x at *
 generalize subF2 (upF2 (mulF2 a.c2 a.c2)) (mulF2 a.c0 a.c1)=y at *
 generalize subF2 (mulF2 a.c1 a.c1) (mulF2 a.c0 a.c2)=z at *
 have m0:=mul_ok2 h0 p0
 have m2:=mul_ok2 h2 p1
 have m1:=mul_ok2 h1 p2
 refine ⟨add_ok2 m0 (up_ok2 (add_ok2 m2 m1)),?_⟩
 rw [v_add2 m0 (up_ok2 (add_ok2 m2 m1)),v_up2 (add_ok2 m2 m1),v_add2 m2 m1,v_mul2 h0 p0,v_mul2 h2 p1,v_mul2 h1 p2,q0,q1,q2]
 rfl
theorem Cb.norm_zero {K:Type} [CR K] [CP K]:(0:Cb K).norm=0:=by
 unfold Cb.norm
 show (0:K)*(0*0-CP.cr*(0*0))+CP.cr*(0*(CP.cr*(0*0)-0*0)+0*(0*0-0*0))=0
 grind
theorem V6.norm_ne {x:V6} (h:x ≠ 0):x.norm ≠ 0:=fun e=>by
 have h1:=Cb.mul_adj x
 have h2:=mul_inv' h
 have h3:x*Fld.inv x=1:=h2
 have h4:=Cb.norm_mul x (Fld.inv x)
 rw [h3,e] at h4
 have h5:(1:V6).norm=1:=by
  unfold Cb.norm
  show (1:V2)*(1*1-CP.cr*(0*0))+CP.cr*(0*(CP.cr*(0*0)-1*0)+0*(0*0-1*0))=1
  generalize (CP.cr:V2)=k
  grind
 rw [h5] at h4
 exact one_ne' (K:=V2) (by rw [h4];exact CR.zero_mul _)
theorem V6.inv_eq {x:V6} (h:x ≠ 0):Fld.inv x=Cb.of (Fld.inv x.norm)*x.adj:=by
 refine (inv_unique' ?_).symm
 have h1:=Cb.mul_adj x
 have h2:Cb.of x.norm*Cb.of (Fld.inv x.norm)=(1:V6):=by rw [<- Cb.of_mul,mul_inv' (V6.norm_ne h)];rfl
 generalize Cb.of (Fld.inv x.norm)=k at *
 rw [<- h1] at h2
 generalize x.adj=y at *
 grind
theorem inv_v6 {a:Fp6} (ha:a.ok):(a.v=0->invF6 a=(zeroFp6,7))/\(a.v ≠ 0->(invF6 a).2=0/\(invF6 a).1.ok/\(invF6 a).1.v=Fld.inv a.v):=by
 obtain ⟨d1,d2⟩:=det_v ha
 obtain ⟨h1,h2⟩:=inv_v2 d1
 rw [d2] at h1 h2
 unfold invF6
 constructor
 ·intro h
  exact invF6_no (d:=detF6 a) rfl (congrArg Prod.snd (h1 (by rw [h];exact Cb.norm_zero)))
 ·intro h
  obtain ⟨i1,i2,i3⟩:=h2 (V6.norm_ne h)
  obtain ⟨p0,q0,p1,q1,p2,q2⟩:=adj_v ha
  rw [invF6_yes (d:=detF6 a) rfl i1]
  simp only []
  refine ⟨trivial,Fp6.mk_ok (mul_ok2 p0 i2) (mul_ok2 p1 i2) (mul_ok2 p2 i2),?_⟩
  rw [V6.inv_eq h,Cb.of_times]
  refine Fp6.mk_v ?_ ?_ ?_
  ·rw [v_mul2 p0 i2,q0,i3];exact CR.mul_comm _ _
  ·rw [v_mul2 p1 i2,q1,i3];exact CR.mul_comm _ _
  ·rw [v_mul2 p2 i2,q2,i3];exact CR.mul_comm _ _
end
section
def Fp12.ok (a:Fp12):Prop:=a.c0.ok/\a.c1.ok
def Fp12.v (a:Fp12):V12:=⟨a.c0.v,a.c1.v⟩
theorem Fp12.v_a (a:Fp12):a.v.a=a.c0.v:=rfl
theorem Fp12.v_b (a:Fp12):a.v.b=a.c1.v:=rfl
theorem Fp12.mk_ok {a b:Fp6} (ha:a.ok) (hb:b.ok):(⟨a,b⟩:Fp12).ok:=⟨ha,hb⟩
theorem Fp12.mk_v {a b:Fp6} {x:V12} (ha:a.v=x.a) (hb:b.v=x.b):(⟨a,b⟩:Fp12).v=x:=Qd.ext' ha hb
theorem Fp12.v_inj {a b:Fp12} (ha:a.ok) (hb:b.ok) (h:a.v=b.v):a=b:=by
 have h1:a.c0=b.c0:=Fp6.v_inj ha.1 hb.1 (congrArg Qd.a h)
 have h2:a.c1=b.c1:=Fp6.v_inj ha.2 hb.2 (congrArg Qd.b h)
 cases a;cases b
 simp only [] at h1 h2
 subst h1 h2
 rfl
theorem fp12Eq_v {a b:Fp12} (ha:a.ok) (hb:b.ok):fp12Eq a b=true <-> a.v=b.v:=⟨fun h=>by rw [(fp12Eq_iff a b).1 h],fun h=>(fp12Eq_iff a b).2 (Fp12.v_inj ha hb h)⟩
theorem conjF12_eq (a:Fp12):conjF12 a=⟨a.c0,negF6 a.c1⟩:=by unfold conjF12 conjF12_G;rfl
theorem wholeF12_eq (a:Fp12):wholeF12 a=⟨wholeF6 a.c0,wholeF6 a.c1⟩:=by unfold wholeF12 wholeF12_G;rfl
theorem lowF12_eq (a:Fp12):lowF12 a=⟨lowF6 a.c0,lowF6 a.c1⟩:=by unfold lowF12 lowF12_G;rfl
theorem halfF12_G_eq (f0 f1 f2:Fp6->Fp6->Fp6) (f3:Fp6->Fp6) (a b:Fp12):halfF12_G f0 f1 f2 f3 a b=⟨f1 (f0 a.c0 b.c0) (f3 (f0 a.c1 b.c1)),f2 (f0 (f1 a.c0 a.c1) (f1 b.c0 b.c1)) (f1 (f0 a.c0 b.c0) (f0 a.c1 b.c1))⟩:=rfl
theorem halfF12_eq (a b:Fp12):halfF12 a b=⟨addF6 (halfF6 a.c0 b.c0) (upF6 (halfF6 a.c1 b.c1)),subF6 (halfF6 (addF6 a.c0 a.c1) (addF6 b.c0 b.c1)) (addF6 (halfF6 a.c0 b.c0) (halfF6 a.c1 b.c1))⟩:=halfF12_G_eq halfF6 addF6 subF6 upF6 a b
theorem oneF12_eq:oneF12=oneFp12:=rfl
theorem one_ok12:oneFp12.ok:=⟨one_ok6,zero_ok6⟩
theorem v_one12:oneFp12.v=1:=Qd.ext' v_one6 v_zero6
theorem conj_ok12 {a:Fp12} (ha:a.ok):(conjF12 a).ok:=by rw [conjF12_eq];exact Fp12.mk_ok ha.1 (neg_ok6 ha.2)
theorem v_conj12 {a:Fp12} (ha:a.ok):(conjF12 a).v=a.v.conj:=by rw [conjF12_eq];exact Fp12.mk_v rfl (v_neg6 ha.2)
def rv12:V12:=Qd.of rv6
def ri12:V12:=Qd.of ri6
theorem rv_ri12:rv12*ri12=1:=by unfold rv12 ri12;rw [<- Qd.of_mul,rv_ri6];rfl
theorem Qd.of_times {K:Type} [CR K] [QP K] (k:K) (x:Qd K):Qd.of k*x=⟨k*x.a,k*x.b⟩:=Qd.ext'
 (by rw [Qd.mul_a];show k*x.a+QP.nr*(0*x.b)=_;grind)
 (by rw [Qd.mul_b];show k*x.b+0*x.a=_;grind)
theorem whole_ok12 {a:Fp12} (ha:a.ok):(wholeF12 a).ok:=by rw [wholeF12_eq];exact Fp12.mk_ok (whole_ok6 ha.1) (whole_ok6 ha.2)
theorem v_whole12 {a:Fp12} (ha:a.ok):(wholeF12 a).v=rv12*a.v:=by
 unfold rv12
 rw [wholeF12_eq,Qd.of_times]
 exact Fp12.mk_v (v_whole6 ha.1) (v_whole6 ha.2)
theorem low_ok12 {a:Fp12} (ha:a.ok):(lowF12 a).ok:=by rw [lowF12_eq];exact Fp12.mk_ok (low_ok6 ha.1) (low_ok6 ha.2)
theorem v_low12 {a:Fp12} (ha:a.ok):(lowF12 a).v=ri12*a.v:=by
 unfold ri12
 rw [lowF12_eq,Qd.of_times]
 exact Fp12.mk_v (v_low6 ha.1) (v_low6 ha.2)
theorem mul_scaled2 {K:Type} [CR K] [QP K] (k:K) (x y:Qd K):Qd.of k*(x*y)=⟨k*(x.a*y.a)+QP.nr*(k*(x.b*y.b)),k*((x.a+x.b)*(y.a+y.b))-(k*(x.a*y.a)+k*(x.b*y.b))⟩:=by
 rw [Qd.of_times]
 exact Qd.ext' (by rw [Qd.mul_a];grind) (by rw [Qd.mul_b];grind)
theorem half_v12 {a b:Fp12} (ha:a.ok) (hb:b.ok):(halfF12 a b).ok/\(halfF12 a b).v=ri12*(a.v*b.v):=by
 have h0:=half_ok6 ha.1 hb.1
 have h1:=half_ok6 ha.2 hb.2
 have s0:=add_ok6 ha.1 ha.2
 have s1:=add_ok6 hb.1 hb.2
 have h2:=half_ok6 s0 s1
 have e:ri12*(a.v*b.v)=_:=mul_scaled2 ri6 a.v b.v
 rw [halfF12_eq,e]
 refine ⟨Fp12.mk_ok (add_ok6 h0 (up_ok6 h1)) (sub_ok6 h2 (add_ok6 h0 h1)),Fp12.mk_v ?_ ?_⟩
 ·rw [v_add6 h0 (up_ok6 h1),v_up6 h1,v_half6 ha.1 hb.1,v_half6 ha.2 hb.2]
  rfl
 ·rw [v_sub6 h2 (add_ok6 h0 h1),v_add6 h0 h1,v_half6 s0 s1,v_add6 ha.1 ha.2,v_add6 hb.1 hb.2,v_half6 ha.1 hb.1,v_half6 ha.2 hb.2]
  rfl
theorem half_ok12 {a b:Fp12} (ha:a.ok) (hb:b.ok):(halfF12 a b).ok:=(half_v12 ha hb).1
theorem v_half12 {a b:Fp12} (ha:a.ok) (hb:b.ok):(halfF12 a b).v=ri12*(a.v*b.v):=(half_v12 ha hb).2
section
variable {f0 f1 : Fp6 -> Fp6 -> Fp6} {f2 f4 : Fp6 -> Fp6} {f3 : Fp6 -> Fp6 × Int} {a : Fp12}
theorem invF12_no (h:(f3 (f0 (f1 a.c0 a.c0) (f2 (f1 a.c1 a.c1)))).2=7):invF12_G f0 f1 f2 f3 f4 a=(zeroFp12,7):=by
 unfold invF12_G
 rw [h]
 rfl
theorem invF12_yes (h:(f3 (f0 (f1 a.c0 a.c0) (f2 (f1 a.c1 a.c1)))).2=0):invF12_G f0 f1 f2 f3 f4 a=(⟨f1 a.c0 (f3 (f0 (f1 a.c0 a.c0) (f2 (f1 a.c1 a.c1)))).1,f4 (f1 a.c1 (f3 (f0 (f1 a.c0 a.c0) (f2 (f1 a.c1 a.c1)))).1)⟩,0):=by
 unfold invF12_G
 rw [h]
 rfl
end
theorem norm_v12 {a:Fp12} (ha:a.ok):(subF6 (mulF6 a.c0 a.c0) (upF6 (mulF6 a.c1 a.c1))).ok/\(subF6 (mulF6 a.c0 a.c0) (upF6 (mulF6 a.c1 a.c1))).v=a.v.norm:=by
 have m0:=mul_ok6 ha.1 ha.1
 have m1:=mul_ok6 ha.2 ha.2
 refine ⟨sub_ok6 m0 (up_ok6 m1),?_⟩
 rw [v_sub6 m0 (up_ok6 m1),v_up6 m1,v_mul6 ha.1 ha.1,v_mul6 ha.2 ha.2]
 rfl
theorem Qd.norm_zero {K:Type} [CR K] [QP K]:(0:Qd K).norm=0:=by
 unfold Qd.norm
 rw [Qd.zero_a,Qd.zero_b]
 grind
theorem Qd.inv_a {K:Type} [Fld K] [QF K] (x:Qd K):(Fld.inv x).a=x.a*Fld.inv x.norm:=rfl
theorem Qd.inv_b {K:Type} [Fld K] [QF K] (x:Qd K):(Fld.inv x).b = -(x.b*Fld.inv x.norm):=rfl
theorem inv_v12 {a:Fp12} (ha:a.ok):(a.v=0->invF12 a=(zeroFp12,7))/\(a.v ≠ 0->(invF12 a).2=0/\(invF12 a).1.ok/\(invF12 a).1.v=Fld.inv a.v):=by
 obtain ⟨d1,d2⟩:=norm_v12 ha
 obtain ⟨h1,h2⟩:=inv_v6 d1
 rw [d2] at h1 h2
 unfold invF12
 constructor
 ·intro h
  exact invF12_no (congrArg Prod.snd (h1 (by rw [h];exact Qd.norm_zero)))
 ·intro h
  obtain ⟨i1,i2,i3⟩:=h2 (Qd.norm_ne h)
  rw [invF12_yes i1]
  simp only []
  refine ⟨trivial,Fp12.mk_ok (mul_ok6 ha.1 i2) (neg_ok6 (mul_ok6 ha.2 i2)),?_⟩
  refine Fp12.mk_v ?_ ?_
  ·rw [v_mul6 ha.1 i2,i3,Qd.inv_a,Fp12.v_a]
  ·rw [v_neg6 (mul_ok6 ha.2 i2),v_mul6 ha.2 i2,i3,Qd.inv_b,Fp12.v_b]
theorem one_mul' {R:Type} [CR R] (x:R):1*x=x:=by grind
theorem whole_low {R:Type} [CR R] {r i x:R} (h:r*i=1):i*(r*x)=x:=by grind
theorem raised_v {a:Fp12} (ha:a.ok) (e:List UInt64):(raisedF a e).ok/\ri12*(raisedF a e).v=(ri12*a.v) ^ eLow e (64*e.length):=by
 have h:=rv_ri12
 unfold raisedF
 rw [oneF12_eq]
 obtain ⟨h1,h2⟩:=powG_v (mF:=halfF12) Fp12.ok (fun x=>ri12*x.v) half_ok12 (fun {a b} ha hb=>by
  show ri12*(halfF12 a b).v=ri12*a.v*(ri12*b.v)
  rw [v_half12 ha hb]
  generalize ri12=i at *
  grind) ha e (64*e.length) (whole_ok12 one_ok12)
 refine ⟨h1,?_⟩
 rw [h2,v_whole12 one_ok12,v_one12,show ri12*(rv12*1)=1 by generalize ri12=i at *;generalize rv12=r at *;grind,one_pow']
 exact one_mul' _
end
set_option maxRecDepth 100000
section
def Fp.w (a:Fp):V1:=ri*a.v
def Fp2.w (a:Fp2):V2:=ri2*a.v
def Fp12.w (a:Fp12):V12:=ri12*a.v
theorem sc_half {R:Type} [CR R] (i x y:R):i*(i*(x*y))=i*x*(i*y):=by grind
theorem sc_add {R:Type} [CR R] (i x y:R):i*(x+y)=i*x+i*y:=by grind
theorem sc_sub {R:Type} [CR R] (i x y:R):i*(x-y)=i*x-i*y:=by grind
theorem sc_neg {R:Type} [CR R] (i x:R):i * -x = -(i*x):=by grind
theorem sc_com {R:Type} [CR R] (i x y:R):i*(x*y)=x*(i*y):=by grind
theorem w_whole1 {a:Fp} (ha:a.ok):(wholeF a).w=a.v:=by
 unfold Fp.w
 rw [v_whole ha,whole_low rv_ri]
theorem w_half2 {a b:Fp2} (ha:a.ok) (hb:b.ok):(halfF2 a b).w=a.w*b.w:=by
 unfold Fp2.w
 rw [v_half2 ha hb,sc_half]
theorem w_add2 {a b:Fp2} (ha:a.ok) (hb:b.ok):(addF2 a b).w=a.w+b.w:=by
 unfold Fp2.w
 rw [v_add2 ha hb,sc_add]
theorem w_sub2 {a b:Fp2} (ha:a.ok) (hb:b.ok):(subF2 a b).w=a.w-b.w:=by
 unfold Fp2.w
 rw [v_sub2 ha hb,sc_sub]
theorem w_neg2 {a:Fp2} (ha:a.ok):(negF2 a).w = -a.w:=by
 unfold Fp2.w
 rw [v_neg2 ha,sc_neg]
theorem w_up2 {a:Fp2} (ha:a.ok):(upF2 a).w=xi*a.w:=by
 unfold Fp2.w
 rw [v_up2 ha,sc_com]
theorem w_conj2 {a:Fp2} (ha:a.ok):(conjF2 a).w=a.w.conj:=by
 unfold Fp2.w
 rw [v_conj2 ha,Qd.conj_mul]
 unfold ri2
 rw [of_conj]
theorem w_whole2 {a:Fp2} (ha:a.ok):(wholeF2 a).w=a.v:=by
 unfold Fp2.w
 rw [v_whole2 ha,whole_low rv_ri2]
theorem w_low2 {a:Fp2} (ha:a.ok):(lowF2 a).v=a.w:=v_low2 ha
theorem w_zero2:zeroFp2.w=0:=by unfold Fp2.w;rw [v_zero2];generalize ri2=i;grind
theorem w_mk2 (a:Fp):(⟨a,zeroFp⟩:Fp2).w=Qd.of a.w:=by
 unfold Fp2.w Fp.w ri2
 rw [low_v,Qd.of_times]
 exact Qd.ext' rfl (show ri*0=(0:V1) by generalize ri=i;grind)
theorem quot_w {a b:Fp2} (ha:a.ok) (hb:b.ok) (h:b.w ≠ 0):(prQuot a b).ok/\(prQuot a b).w=a.w*Fld.inv b.w:=by
 obtain ⟨_,h2,h3⟩:=(inv_v2 (low_ok2 hb)).2 (by rw [w_low2 hb];exact h)
 have e:prQuot a b=halfF2 a (wholeF2 (invF2 (lowF2 b)).1):=rfl
 rw [e]
 exact ⟨half_ok2 ha (whole_ok2 h2),by rw [w_half2 ha (whole_ok2 h2),w_whole2 h2,h3,w_low2 hb]⟩
theorem ri12_mul (z:V12):ri12*z=⟨⟨ri2*z.a.a,ri2*z.a.b,ri2*z.a.c⟩,⟨ri2*z.b.a,ri2*z.b.b,ri2*z.b.c⟩⟩:=by
 unfold ri12
 rw [Qd.of_times]
 unfold ri6
 refine Qd.ext' ?_ ?_
 ·show Cb.of ri2*z.a=_
  generalize ri2=i
  exact Cb.ext' (by rw [Cb.mul_a];show i*z.a.a+CP.cr*(0*z.a.c+0*z.a.b)=i*z.a.a;grind) (by rw [Cb.mul_b];show i*z.a.b+0*z.a.a+CP.cr*(0*z.a.c)=i*z.a.b;grind) (by rw [Cb.mul_c];show i*z.a.c+0*z.a.b+0*z.a.a=i*z.a.c;grind)
 ·show Cb.of ri2*z.b=_
  generalize ri2=i
  exact Cb.ext' (by rw [Cb.mul_a];show i*z.b.a+CP.cr*(0*z.b.c+0*z.b.b)=i*z.b.a;grind) (by rw [Cb.mul_b];show i*z.b.b+0*z.b.a+CP.cr*(0*z.b.c)=i*z.b.b;grind) (by rw [Cb.mul_c];show i*z.b.c+0*z.b.b+0*z.b.a=i*z.b.c;grind)
theorem w_mk12 (a b c d e f:Fp2):(⟨⟨a,b,c⟩,⟨d,e,f⟩⟩:Fp12).w=⟨⟨a.w,b.w,c.w⟩,⟨d.w,e.w,f.w⟩⟩:=by
 unfold Fp12.w
 rw [ri12_mul]
 rfl
theorem w_half12 {a b:Fp12} (ha:a.ok) (hb:b.ok):(halfF12 a b).w=a.w*b.w:=by
 unfold Fp12.w
 rw [v_half12 ha hb,sc_half]
theorem w_conj12 {a:Fp12} (ha:a.ok):(conjF12 a).w=a.w.conj:=by
 unfold Fp12.w
 rw [v_conj12 ha,Qd.conj_mul]
 unfold ri12
 rw [show (Qd.of ri6:V12)=e6 ri6 from rfl,conj_e6]
theorem w_whole12 {a:Fp12} (ha:a.ok):(wholeF12 a).w=a.v:=by
 unfold Fp12.w
 rw [v_whole12 ha,whole_low rv_ri12]
theorem w_low12 {a:Fp12} (ha:a.ok):(lowF12 a).v=a.w:=v_low12 ha
theorem line_w {t:Pg2} {s:Fp2} {p:Pg1} (tx:t.x.ok) (ty:t.y.ok) (hs:s.ok) (px:p.x.ok) (py:p.y.ok):(prLine t s p).ok/\(prLine t s p).w=lnW p.x.w p.y.w s.w t.x.w t.y.w:=by
 have e:prLine t s p=⟨⟨upF2 ⟨p.y,zeroFp⟩,zeroFp2,zeroFp2⟩,⟨zeroFp2,subF2 (halfF2 s t.x) t.y,negF2 (halfF2 s ⟨p.x,zeroFp⟩)⟩⟩:=rfl
 have oy:(⟨p.y,zeroFp⟩:Fp2).ok:=⟨py,zero_ok'⟩
 have ox:(⟨p.x,zeroFp⟩:Fp2).ok:=⟨px,zero_ok'⟩
 have o1:=half_ok2 hs tx
 have o2:=half_ok2 hs ox
 rw [e,w_mk12,w_up2 oy,w_mk2,w_zero2,w_sub2 o1 ty,w_half2 hs tx,w_neg2 o2,w_half2 hs ox,w_mk2]
 exact ⟨⟨⟨up_ok2 oy,zero_ok2,zero_ok2⟩,zero_ok2,sub_ok2 o1 ty,neg_ok2 o2⟩,rfl⟩
theorem on_w {t:Pg2} {s x:Fp2} (tx:t.x.ok) (ty:t.y.ok) (hs:s.ok) (hx:x.ok):(prOn t s x).x.ok/\(prOn t s x).y.ok/\(prOn t s x).x.w=onX s.w t.x.w x.w/\(prOn t s x).y.w=onY s.w t.x.w t.y.w (onX s.w t.x.w x.w):=by
 have e1:(prOn t s x).x=subF2 (subF2 (halfF2 s s) t.x) x:=rfl
 have e2:(prOn t s x).y=subF2 (halfF2 s (subF2 t.x (prOn t s x).x)) t.y:=rfl
 have o1:=half_ok2 hs hs
 have o2:=sub_ok2 o1 tx
 have o3:=sub_ok2 o2 hx
 rw [<- e1] at o3
 have o4:=sub_ok2 tx o3
 have o5:=half_ok2 hs o4
 have w1:(prOn t s x).x.w=onX s.w t.x.w x.w:=by
  rw [e1,w_sub2 o2 hx,w_sub2 o1 tx,w_half2 hs hs]
  rfl
 refine ⟨o3,by rw [e2];exact sub_ok2 o5 ty,w1,?_⟩
 rw [e2,w_sub2 o5 ty,w_half2 hs o4,w_sub2 tx o3,w1]
 rfl
structure RelM (s : Fp12 × Pg2) (S : R3) : Prop where
 of:s.1.ok
 wf:s.1.w=S.1
 ox:s.2.x.ok
 oy:s.2.y.ok
 wx:s.2.x.w=S.2.1
 wy:s.2.y.w=S.2.2
theorem two_self {y:V2} (h:y ≠ 0):y+y ≠ 0:=fun e=>by
 have:(2:V2)*y=0:=by rw [<- e];grind
 exact mul_ne' V2.two_ne h this
theorem relM_two {p:Pg1} (px:p.x.ok) (py:p.y.ok) {s:Fp12 × Pg2} {S:R3} (h:RelM s S) (hy:S.2.2 ≠ 0):RelM (mlTwo halfF2 addF2 prQuot halfF12 prLine prOn p s) (twoV p.x.w p.y.w S):=by
 obtain ⟨f,t⟩:=s
 obtain ⟨F,X,Y⟩:=S
 obtain ⟨of,wf,ox,oy,wx,wy⟩:=h
 simp only [] at of wf ox oy wx wy hy
 have oh:=half_ok2 ox ox
 have oa:=add_ok2 oh oh
 have ob:=add_ok2 oa oh
 have od:=add_ok2 oy oy
 have wd:(addF2 t.y t.y).w=Y+Y:=by rw [w_add2 oy oy,wy]
 obtain ⟨os,ws⟩:=quot_w ob od (by rw [wd];exact two_self hy)
 have wt:(tanF halfF2 addF2 prQuot t).w=tanS X Y:=by
  unfold tanF
  rw [ws,w_add2 oa oh,w_add2 oh oh,w_half2 ox ox,wd,wx]
  rfl
 have ot:(tanF halfF2 addF2 prQuot t).ok:=os
 obtain ⟨ol,wl⟩:=line_w ox oy ot px py
 obtain ⟨nx,ny,mx,my⟩:=on_w ox oy ot ox
 have of2:=half_ok12 of of
 rw [two_eq]
 refine ⟨half_ok12 of2 ol,?_,nx,ny,?_,?_⟩
 ·show (halfF12 (halfF12 f f) (prLine t (tanF halfF2 addF2 prQuot t) p)).w=_
  rw [w_half12 of2 ol,w_half12 of of,wl,wf,wt,wx,wy]
 ·show (prOn t (tanF halfF2 addF2 prQuot t) t.x).x.w=_
  rw [mx,wt,wx]
 ·show (prOn t (tanF halfF2 addF2 prQuot t) t.x).y.w=_
  rw [my,wt,wx,wy]
theorem relM_add {p:Pg1} (px:p.x.ok) (py:p.y.ok) {q:Pg2} (qx:q.x.ok) (qy:q.y.ok) {s:Fp12 × Pg2} {S:R3} (h:RelM s S) (hx:S.2.1 ≠ q.x.w):RelM (mlAdd subF2 prQuot halfF12 prLine prOn p q s) (addV p.x.w p.y.w q.x.w q.y.w S):=by
 obtain ⟨f,t⟩:=s
 obtain ⟨F,X,Y⟩:=S
 obtain ⟨of,wf,ox,oy,wx,wy⟩:=h
 simp only [] at of wf ox oy wx wy hx
 have o1:=sub_ok2 qy oy
 have o2:=sub_ok2 qx ox
 have wd:(subF2 q.x t.x).w=q.x.w-X:=by rw [w_sub2 qx ox,wx]
 obtain ⟨os,ws⟩:=quot_w o1 o2 (by rw [wd];exact fun e=>hx (eq_of_sub e).symm)
 have wt:(chdF subF2 prQuot q t).w=chdS q.x.w q.y.w X Y:=by
  unfold chdF
  rw [ws,wd,w_sub2 qy oy,wy]
  rfl
 have ot:(chdF subF2 prQuot q t).ok:=os
 obtain ⟨ol,wl⟩:=line_w ox oy ot px py
 obtain ⟨nx,ny,mx,my⟩:=on_w ox oy ot qx
 rw [addV_eq]
 refine ⟨half_ok12 of ol,?_,nx,ny,?_,?_⟩
 ·show (halfF12 f (prLine t (chdF subF2 prQuot q t) p)).w=_
  rw [w_half12 of ol,wl,wf,wt,wx,wy]
 ·show (prOn t (chdF subF2 prQuot q t) q.x).x.w=_
  rw [mx,wt,wx]
 ·show (prOn t (chdF subF2 prQuot q t) q.x).y.w=_
  rw [my,wt,wx,wy]
theorem MlOk.y_ne {px py:V1} {h:PtOk px py} {q:Pt V2} {j:Nat} {s:R3} (k:MlOk px py h q j s) (hq:q.on):s.2.2 ≠ 0:=by
 have ho:=mul_on hq j
 rw [k.pt] at ho
 exact Go.Proofs.YtcbplfkeeaecgaaGreat.y_ne ho
theorem MlOk.far {px py:V1} {h:PtOk px py} {qx qy:V2} {j:Nat} {s:R3} (k:MlOk px py h (.aff qx qy) j s) (hq:(Pt.aff qx qy).sub qN) (h1:1<j) (h2:j+1<qN):s.2.1 ≠ qx:=by
 obtain ⟨f,x,y⟩:=s
 obtain ⟨k1,k2,k3⟩:=k
 have k2:(Pt.aff qx qy).mul j = .aff x y:=k2
 have hi:Pt.aff qx qy ≠ .inf:=fun e=>by cases e
 have ho:(Pt.aff x y).on:=by rw [<- k2];exact mul_on hq.1 j
 show x ≠ qx
 intro e
 subst e
 rcases aff_same ho hq.1 with e | e
 ·rw [e] at k2
  obtain ⟨m,rfl⟩ : ∃ m,j=m+1:=⟨j-1,by omega⟩
  have c:=cancel_pt hq.1 (mul_on hq.1 m)
  rw [add_comm_pt hq.1 (mul_on hq.1 m),<- mul_succ_pt,k2,neg_add_pt hq.1] at c
  exact mul_ne_inf hq.1 hi hq.2 (k:=m) (by omega) (by omega) c.symm
 ·have c:(Pt.aff x qy).mul (j+1) = .inf:=by
   rw [mul_succ_pt,k2,e,add_comm_pt ho (neg_on ho),neg_add_pt ho]
  exact mul_ne_inf hq.1 hi hq.2 (k:=j+1) (by omega) h2 c
theorem mill_rel {p:Pg1} (px:p.x.ok) (py:p.y.ok) {q:Pg2} (qx:q.x.ok) (qy:q.y.ok) {h:PtOk p.x.w p.y.w} (hq:(Pt.aff q.x.w q.y.w).sub qN) : ∀ (n:Nat) (s:Fp12 × Pg2) (S:R3),RelM s S->MlOk p.x.w p.y.w h (.aff q.x.w q.y.w) (tN / 2 ^ n) S ->
  RelM (millG halfF2 addF2 subF2 prQuot halfF12 prLine prOn p q n s) (mlV p.x.w p.y.w q.x.w q.y.w n S)
 | 0,s,S,r,k=>r
 | n+1,s,S,r,k=>by
  have hb:=Nat.testBit_eq_decide_div_mod_eq (i:=n) (x:=tN)
  have hj:tN / 2 ^ (n+1)=tN / 2 ^ n / 2:=by rw [Nat.pow_succ,Nat.div_div_eq_div_mul]
  have hle:tN / 2 ^ n<=tN:=Nat.div_le_self _ _
  have hlt:=tN_lt
  have k1:=k.two d_on d_ne hq
  have j1:=k.j1
  have r1:=relM_two px py r (k.y_ne hq.1)
  unfold mlV millG
  rw [show loopN=tN from rfl,hb]
  rw [hj] at k1 j1
  clear hb hj
  generalize hm:tN / 2 ^ n=m at *
  rcases Nat.mod_two_eq_zero_or_one m with e | e
  ·rw [e]
   refine mill_rel (h:=h) px py qx qy hq n _ _ r1 ?_
   rw [hm,show m=m / 2+m / 2 by omega]
   exact k1
  ·rw [e]
   refine mill_rel (h:=h) px py qx qy hq n _ _ (relM_add px py qx qy r1 (k1.far hq (by omega) (by omega))) ?_
   rw [hm,show m=m / 2+m / 2+1 by omega]
   exact k1.add hq (by omega) (by omega)
theorem cx_zero:ch12 0=0:=zero_pow' _ (by decide +kernel)
theorem ne_of_ch {z:V12} (h:ch12 z ^ qN=1):z ≠ 0:=fun e=>by
 rw [e,cx_zero,zero_pow' _ qN_pos] at h
 exact one_ne' (K:=V12) h.symm
theorem top_one:tN / 2 ^ 63=1:=by decide +kernel
theorem one_w:prOne.ok/\prOne.w=1:=by
 have e:prOne=wholeF12 oneFp12:=(show prOne=wholeF12 oneF12 from rfl).trans (by rw [oneF12_eq])
 rw [e]
 exact ⟨whole_ok12 one_ok12,by rw [w_whole12 one_ok12,v_one12]⟩
theorem mill_top {p:Pg1} {q:Pg2} (px:p.x.ok) (py:p.y.ok) (qx:q.x.ok) (qy:q.y.ok) (h:PtOk p.x.w p.y.w) (hq:(Pt.aff q.x.w q.y.w).sub qN) :
  (millG halfF2 addF2 subF2 prQuot halfF12 prLine prOn p q 63 (prOne,q)).1.ok/\ch12 (millG halfF2 addF2 subF2 prQuot halfF12 prLine prOn p q 63 (prOne,q)).1.w=prV (.aff p.x.w p.y.w) (.aff q.x.w q.y.w):=by
 have r0:RelM (prOne,q) (1,q.x.w,q.y.w):=⟨one_w.1,one_w.2,qx,qy,rfl,rfl⟩
 have k0:MlOk p.x.w p.y.w h (.aff q.x.w q.y.w) 1 (1,q.x.w,q.y.w):=⟨Nat.one_pos,mul_one_pt _,by
  rw [show (1:Nat)=0+1 from rfl,Lv_succ,mul_zero_pt,Lv.c_inf]
  show ch12 1=1*1
  rw [cx_one,mOne]⟩
 rw [<- top_one] at k0
 have r:=mill_rel px py qx qy hq 63 (prOne,q) (1,q.x.w,q.y.w) r0 k0
 refine ⟨r.of,?_⟩
 rw [r.wf,prV_ml d_on d_ne h hq]
theorem mill_gen {p p':Pg1} {q q':Pg2} (px:p'.x.ok) (py:p'.y.ok) (qx:q'.x.ok) (qy:q'.y.ok) (w1:p'.x.w=p.x.v) (w2:p'.y.w=p.y.v) (w3:q'.x.w=q.x.v) (w4:q'.y.w=q.y.v) (h:PtOk p.x.v p.y.v) (hq:(Pt.aff q.x.v q.y.v).sub qN) :
  (millG halfF2 addF2 subF2 prQuot halfF12 prLine prOn p' q' 63 (prOne,q')).1.ok/\ch12 (millG halfF2 addF2 subF2 prQuot halfF12 prLine prOn p' q' 63 (prOne,q')).1.w=prV (.aff p.x.v p.y.v) (.aff q.x.v q.y.v):=by
 rw [<- w1,<- w2] at h
 rw [<- w3,<- w4] at hq
 rw [<- w1,<- w2,<- w3,<- w4]
 exact mill_top px py qx qy h hq
theorem miller_w {p:Pg1} {q:Pg2} (px:p.x.ok) (py:p.y.ok) (qx:q.x.ok) (qy:q.y.ok) (h:PtOk p.x.v p.y.v) (hq:(Pt.aff q.x.v q.y.v).sub qN) :
  (millerF p q).ok/\ch12 (millerF p q).w=prV (.aff p.x.v p.y.v) (.aff q.x.v q.y.v):=by
 unfold millerF
 have o1:=whole_ok' px
 have o2:=whole_ok' py
 have o3:=whole_ok2 qx
 have o4:=whole_ok2 qy
 have w1:=w_whole1 px
 have w2:=w_whole1 py
 have w3:=w_whole2 qx
 have w4:=w_whole2 qy
 generalize wholeF p.x=a1 at *
 generalize wholeF p.y=a2 at *
 generalize wholeF2 q.x=a3 at *
 generalize wholeF2 q.y=a4 at *
 exact mill_gen (p':=⟨a1,a2,false⟩) (q':=⟨a3,a4,false⟩) o1 o2 o3 o4 w1 w2 w3 w4 h hq
theorem frob12 (a b c d e f:V2):(⟨⟨a,b,c⟩,⟨d,e,f⟩⟩:V12) ^ pN=⟨⟨a.conj,b.conj*(gg*gg),c.conj*(gg*gg*gg*gg)⟩,⟨d.conj*gg,e.conj*(gg*gg*gg),f.conj*(gg*gg*gg*gg*gg)⟩⟩:=by
 have h1:(⟨⟨a,b,c⟩,⟨d,e,f⟩⟩:V12)=(e2 a+e2 b*(ww*ww)+e2 c*(ww*ww*(ww*ww)))+(e2 d+e2 e*(ww*ww)+e2 f*(ww*ww*(ww*ww)))*ww:=by
  rw [split12 ⟨⟨a,b,c⟩,⟨d,e,f⟩⟩,e6_split,e6_split]
 have h2:(⟨⟨a.conj,b.conj*(gg*gg),c.conj*(gg*gg*gg*gg)⟩,⟨d.conj*gg,e.conj*(gg*gg*gg),f.conj*(gg*gg*gg*gg*gg)⟩⟩:V12)=(e2 a.conj+e2 (b.conj*(gg*gg))*(ww*ww)+e2 (c.conj*(gg*gg*gg*gg))*(ww*ww*(ww*ww)))+(e2 (d.conj*gg)+e2 (e.conj*(gg*gg*gg))*(ww*ww)+e2 (f.conj*(gg*gg*gg*gg*gg))*(ww*ww*(ww*ww)))*ww:=by
  rw [split12 ⟨⟨a.conj,b.conj*(gg*gg),c.conj*(gg*gg*gg*gg)⟩,⟨d.conj*gg,e.conj*(gg*gg*gg),f.conj*(gg*gg*gg*gg*gg)⟩⟩,e6_split,e6_split]
 rw [h1,h2]
 clear h1 h2
 simp only [fb_add,mul_pow',e2_p,ww_p,e2_mul]
 generalize e2 a.conj=a'
 generalize e2 b.conj=b'
 generalize e2 c.conj=c'
 generalize e2 d.conj=d'
 generalize e2 e.conj=e'
 generalize e2 f.conj=f'
 generalize e2 gg=g
 generalize ww=w
 grind
theorem sixth_e:eLow sixthV.list (64*sixthV.list.length)=(pN-1) / 6:=by decide +kernel
theorem xi_fp2:xiFp2.ok/\xiFp2.v=xi:=⟨⟨one_ok',one_ok'⟩,Qd.ext' v_one v_one⟩
theorem turned_g:(wholeF2 (powF2 xiFp2 sixthV.list)).ok/\(wholeF2 (powF2 xiFp2 sixthV.list)).w=gg:=by
 obtain ⟨h1,h2⟩:=pow_v2 xi_fp2.1 sixthV.list
 refine ⟨whole_ok2 h1,?_⟩
 rw [w_whole2 h1,h2,xi_fp2.2,sixth_e]
 rfl
theorem turned_k:(wholeF2 oneFp2).ok/\(wholeF2 oneFp2).w=1:=⟨whole_ok2 one_ok2,by rw [w_whole2 one_ok2,v_one2]⟩
theorem turned_gen {k g:Fp2} (hk:k.ok/\k.w=1) (hg:g.ok/\g.w=gg) {a:Fp12} (ha:a.ok):(turnedG k g conjF2 halfF2 a).ok/\(turnedG k g conjF2 halfF2 a).w=a.w ^ pN:=by
 obtain ⟨⟨a0,a1,a2⟩,⟨b0,b1,b2⟩⟩:=a
 obtain ⟨⟨oa0,oa1,oa2⟩,⟨ob0,ob1,ob2⟩⟩:=ha
 obtain ⟨k0,kw⟩:=hk
 obtain ⟨g0,gw⟩:=hg
 have k1:=half_ok2 k0 g0
 have k2:=half_ok2 k1 g0
 have k3:=half_ok2 k2 g0
 have k4:=half_ok2 k3 g0
 have k5:=half_ok2 k4 g0
 have c0:=conj_ok2 oa0
 have c1:=conj_ok2 oa1
 have c2:=conj_ok2 oa2
 have d0:=conj_ok2 ob0
 have d1:=conj_ok2 ob1
 have d2:=conj_ok2 ob2
 refine ⟨⟨⟨half_ok2 c0 k0,half_ok2 c1 k2,half_ok2 c2 k4⟩,⟨half_ok2 d0 k1,half_ok2 d1 k3,half_ok2 d2 k5⟩⟩,?_⟩
 have e:turnedG k g conjF2 halfF2 ⟨⟨a0,a1,a2⟩,⟨b0,b1,b2⟩⟩=⟨⟨halfF2 (conjF2 a0) k,halfF2 (conjF2 a1) (halfF2 (halfF2 k g) g),halfF2 (conjF2 a2) (halfF2 (halfF2 (halfF2 (halfF2 k g) g) g) g)⟩,⟨halfF2 (conjF2 b0) (halfF2 k g),halfF2 (conjF2 b1) (halfF2 (halfF2 (halfF2 k g) g) g),halfF2 (conjF2 b2) (halfF2 (halfF2 (halfF2 (halfF2 (halfF2 k g) g) g) g) g)⟩⟩:=rfl
 rw [e,w_mk12,w_mk12,frob12,w_half2 c0 k0,w_half2 c1 k2,w_half2 c2 k4,w_half2 d0 k1,w_half2 d1 k3,w_half2 d2 k5,w_conj2 oa0,w_conj2 oa1,w_conj2 oa2,w_conj2 ob0,w_conj2 ob1,w_conj2 ob2,
  w_half2 k4 g0,w_half2 k3 g0,w_half2 k2 g0,w_half2 k1 g0,w_half2 k0 g0,kw,gw,one_mul',mOne]
theorem turned_w {a:Fp12} (ha:a.ok):(turnedF a).ok/\(turnedF a).w=a.w ^ pN:=turned_gen turned_k turned_g ha
theorem third_e:eLow thirdL (64*thirdL.length)=(tN+1)*(tN+1) / 3:=by decide +kernel
theorem pwX_e:eLow pwX (64*pwX.length)=tN:=by decide +kernel
theorem raised_w {a:Fp12} (ha:a.ok) (e:List UInt64):(raisedF a e).ok/\(raisedF a e).w=a.w ^ eLow e (64*e.length):=raised_v ha e
def tE:Nat:=(tN+1)*(tN+1) / 3
theorem power_exp:((pN ^ 6-1)*(pN*pN+1))*(((tE*tN)*pN ^ 6+tE*pN)*(tN*tN+(pN*pN+pN ^ 6)))+((pN ^ 6-1)*(pN*pN+1))=eN+(pN ^ 6*pN ^ 6-1)*(((((pN ^ 6-1)*(pN*pN+1))*(((tE*tN)*pN ^ 6+tE*pN)*(tN*tN+(pN*pN+pN ^ 6)))+((pN ^ 6-1)*(pN*pN+1)))-eN) / (pN ^ 6*pN ^ 6-1)):=by decide +kernel
theorem power_w {a:Fp12} (ha:a.ok) (h0:a.w ≠ 0):(powerF a).ok/\(powerF a).w=ch12 a.w:=by
 obtain ⟨_,i2,i3⟩:=(inv_v12 (low_ok12 ha)).2 (by rw [w_low12 ha];exact h0)
 have oc:=conj_ok12 ha
 have oi:=whole_ok12 i2
 have o0:=half_ok12 oc oi
 have w0:(pw0 invF12 lowF12 wholeF12 conjF12 halfF12 a).w=a.w ^ (pN ^ 6-1):=by
  unfold pw0
  rw [w_half12 oc oi,w_conj12 ha,w_whole12 i2,i3,w_low12 ha,<- V12.p6]
  conv=>lhs;lhs;rw [p6_succ]
  rw [pow_succ',CR.mul_assoc,mul_inv' h0]
  exact mOne _
 have o0:(pw0 invF12 lowF12 wholeF12 conjF12 halfF12 a).ok:=o0
 unfold powerF powerG
 generalize pw0 invF12 lowF12 wholeF12 conjF12 halfF12 a=z at *
 obtain ⟨t1,t2⟩:=turned_w o0
 obtain ⟨t3,t4⟩:=turned_w t1
 have o1:(pw1 turnedF halfF12 z).ok:=half_ok12 t3 o0
 have w1:(pw1 turnedF halfF12 z).w=a.w ^ ((pN ^ 6-1)*(pN*pN+1)):=by
  unfold pw1
  rw [w_half12 t3 o0,t4,t2,w0,<- pow_mul',<- pow_mul',<- pow_add']
  congr 1
 generalize pw1 turnedF halfF12 z=u at *
 clear t1 t2 t3 t4 o0 w0 i2 i3 oc oi
 obtain ⟨r1,r2⟩:=raised_w o1 thirdL
 rw [third_e] at r2
 obtain ⟨r3,r4⟩:=raised_w r1 pwX
 rw [pwX_e] at r4
 obtain ⟨r5,r6⟩:=turned_w r1
 have r7:=conj_ok12 r3
 have o2:(pwA conjF12 turnedF halfF12 raisedF thirdL u).ok:=half_ok12 r7 r5
 have w2:(pwA conjF12 turnedF halfF12 raisedF thirdL u).w=u.w ^ ((tE*tN)*pN ^ 6+tE*pN):=by
  unfold pwA
  rw [w_half12 r7 r5,w_conj12 r3,<- V12.p6,r4,r6,r2,<- pow_mul',<- pow_mul',<- pow_mul',<- pow_add']
  rfl
 generalize pwA conjF12 turnedF halfF12 raisedF thirdL u=v at *
 clear r1 r2 r3 r4 r5 r6 r7
 obtain ⟨s1,s2⟩:=raised_w o2 pwX
 rw [pwX_e] at s2
 obtain ⟨s3,s4⟩:=raised_w s1 pwX
 rw [pwX_e] at s4
 obtain ⟨t1,t2⟩:=turned_w o2
 obtain ⟨t3,t4⟩:=turned_w t1
 have s5:=conj_ok12 o2
 have s6:=half_ok12 t3 s5
 have o3:(pwB conjF12 turnedF halfF12 raisedF v).ok:=half_ok12 s3 s6
 have w3:(pwB conjF12 turnedF halfF12 raisedF v).w=v.w ^ (tN*tN+(pN*pN+pN ^ 6)):=by
  unfold pwB
  rw [w_half12 s3 s6,w_half12 t3 s5,w_conj12 o2,<- V12.p6,s4,s2,t4,t2,<- pow_mul',<- pow_mul',<- pow_add',<- pow_add']
 generalize pwB conjF12 turnedF halfF12 raisedF v=x at *
 refine ⟨half_ok12 o3 o1,?_⟩
 rw [w_half12 o3 o1,w3,w2,w1,<- pow_mul',<- pow_mul',<- pow_add',power_exp,pow_add',pow_mul',fermat_of h0 p12_succ (V12.p12 a.w),one_pow']
 exact mOne _
end
set_option maxRecDepth 100000
section
noncomputable abbrev pdC:List Code:=flat (codeOf Tryz.f66)
def pdT (o:Fp12) (mF:Pg1->Pg2->Fp12) (hF:Fp12->Fp12->Fp12):Table := [(129,K0 rF12.res o),(130,K2 kg1.arg kg2.arg rF12.res mF),(123,Ks2 hF)]
def pdSt (l:List Duo) (f:Fp12) (z:Int):St:=mkSt 32 [(2,ptrV 1),(3,ptrV 2),(7,rwV .duo 0 l),(8,vI (l.length:Int)),(9,vI z)] [rwHE .duo l,own 108 (zeros 72),own 108 (Row.cs f)]
theorem pd_start (o:Fp12) (mF:Pg1->Pg2->Fp12) (hF:Fp12->Fp12->Fp12) (l:List Duo):stageG (En (pdT o mF hF)) 100 (pdC.take 3) (startSt Tryz.f66 [rwV .duo 0 l] [rwHE .duo l]) [2,3,7,8,9] [0,1,2] [(2,.as),(3,.as),(7,.as),(8,.int),(9,.int)] [.as,.as,.as] []=(.vc (0+l.length*38<=(rowsC RK.duo l).length/\0<38) (.leaf (mkSt 32 [(2,.one (.c (.ptr 1 0))),(3,.one (.c (.ptr 2 0))),(7,.one (.c (.slc 0 0 (l.length) 38 (.of 0) false))),(8,.one (.c (.int .i64 ((↑l.length:Int))))),(9,.one (.c (.int .i64 0)))] [.live ⟨false,0,38,(.rows .duo (l:List Duo)),false⟩,.live ⟨true,108,0,(.row [(.lit .u64 0),(.lit .u64 0),(.lit .u64 0),(.lit .u64 0),(.lit .u64 0),(.lit .u64 0),(.lit .u64 0),(.lit .u64 0),(.lit .u64 0),(.lit .u64 0),(.lit .u64 0),(.lit .u64 0),(.lit .u64 0),(.lit .u64 0),(.lit .u64 0),(.lit .u64 0),(.lit .u64 0),(.lit .u64 0),(.lit .u64 0),(.lit .u64 0),(.lit .u64 0),(.lit .u64 0),(.lit .u64 0),(.lit .u64 0),(.lit .u64 0),(.lit .u64 0),(.lit .u64 0),(.lit .u64 0),(.lit .u64 0),(.lit .u64 0),(.lit .u64 0),(.lit .u64 0),(.lit .u64 0),(.lit .u64 0),(.lit .u64 0),(.lit .u64 0),(.lit .u64 0),(.lit .u64 0),(.lit .u64 0),(.lit .u64 0),(.lit .u64 0),(.lit .u64 0),(.lit .u64 0),(.lit .u64 0),(.lit .u64 0),(.lit .u64 0),(.lit .u64 0),(.lit .u64 0),(.lit .u64 0),(.lit .u64 0),(.lit .u64 0),(.lit .u64 0),(.lit .u64 0),(.lit .u64 0),(.lit .u64 0),(.lit .u64 0),(.lit .u64 0),(.lit .u64 0),(.lit .u64 0),(.lit .u64 0),(.lit .u64 0),(.lit .u64 0),(.lit .u64 0),(.lit .u64 0),(.lit .u64 0),(.lit .u64 0),(.lit .u64 0),(.lit .u64 0),(.lit .u64 0),(.lit .u64 0),(.lit .u64 0),(.lit .u64 0)]),false⟩,.live ⟨true,108,0,(.row (Row.cs (o:Fp12))),false⟩]))):=by kernel_rfl
theorem pd_round (o:Fp12) (mF:Pg1->Pg2->Fp12) (hF:Fp12->Fp12->Fp12) (l:List Duo) (f:Fp12) (z:Int):letI za':=(↑l.length:Int);letI zb':=IntKind.i64.wrap (z+1);letI zc':=(Row.cs (f:Fp12));roundT (En (pdT o mF hF)) 300 (loopAt Tryz.f66 0) (pdSt l f z) (same [2,3,7,8,9] [0,1,2])=(.br (decide (z<za')) (.vc ((0<=z/\z<za')/\0+l.length*38<=(rowsC RK.duo l).length/\0<38/\0=0) (.vc (0+z.toNat<l.length) (.br (!((l.getD (0+z.toNat) { p:=pg10,q:=pg20 }).p.inf)) (.br (!((l.getD (0+z.toNat) { p:=pg10,q:=pg20 }).q.inf)) (.leaf ((.normal,mkSt 32 [(2,.one (.c (.ptr 1 0))),(3,.one (.c (.ptr 2 0))),(7,.one (.c (.slc 0 0 (l.length) 38 (.of 0) false))),(8,.one (.c (.int .i64 (za')))),(9,.one (.c (.int .i64 zb')))] [.live ⟨false,0,38,(.rows .duo (l:List Duo)),false⟩,.live ⟨true,108,0,(.row [(.lit .u64 0),(.lit .u64 0),(.lit .u64 0),(.lit .u64 0),(.lit .u64 0),(.lit .u64 0),(.lit .u64 0),(.lit .u64 0),(.lit .u64 0),(.lit .u64 0),(.lit .u64 0),(.lit .u64 0),(.lit .u64 0),(.lit .u64 0),(.lit .u64 0),(.lit .u64 0),(.lit .u64 0),(.lit .u64 0),(.lit .u64 0),(.lit .u64 0),(.lit .u64 0),(.lit .u64 0),(.lit .u64 0),(.lit .u64 0),(.lit .u64 0),(.lit .u64 0),(.lit .u64 0),(.lit .u64 0),(.lit .u64 0),(.lit .u64 0),(.lit .u64 0),(.lit .u64 0),(.lit .u64 0),(.lit .u64 0),(.lit .u64 0),(.lit .u64 0),(.lit .u64 0),(.lit .u64 0),(.lit .u64 0),(.lit .u64 0),(.lit .u64 0),(.lit .u64 0),(.lit .u64 0),(.lit .u64 0),(.lit .u64 0),(.lit .u64 0),(.lit .u64 0),(.lit .u64 0),(.lit .u64 0),(.lit .u64 0),(.lit .u64 0),(.lit .u64 0),(.lit .u64 0),(.lit .u64 0),(.lit .u64 0),(.lit .u64 0),(.lit .u64 0),(.lit .u64 0),(.lit .u64 0),(.lit .u64 0),(.lit .u64 0),(.lit .u64 0),(.lit .u64 0),(.lit .u64 0),(.lit .u64 0),(.lit .u64 0),(.lit .u64 0),(.lit .u64 0),(.lit .u64 0),(.lit .u64 0),(.lit .u64 0),(.lit .u64 0)]),false⟩,.live ⟨true,108,0,(.row (Row.cs (hF f (mF (l.getD (0+z.toNat) { p:=pg10,q:=pg20 }).p (l.getD (0+z.toNat) { p:=pg10,q:=pg20 }).q):Fp12))),false⟩]))) (.leaf ((.normal,mkSt 32 [(2,.one (.c (.ptr 1 0))),(3,.one (.c (.ptr 2 0))),(7,.one (.c (.slc 0 0 (l.length) 38 (.of 0) false))),(8,.one (.c (.int .i64 (za')))),(9,.one (.c (.int .i64 zb')))] [.live ⟨false,0,38,(.rows .duo (l:List Duo)),false⟩,.live ⟨true,108,0,(.row [(.lit .u64 0),(.lit .u64 0),(.lit .u64 0),(.lit .u64 0),(.lit .u64 0),(.lit .u64 0),(.lit .u64 0),(.lit .u64 0),(.lit .u64 0),(.lit .u64 0),(.lit .u64 0),(.lit .u64 0),(.lit .u64 0),(.lit .u64 0),(.lit .u64 0),(.lit .u64 0),(.lit .u64 0),(.lit .u64 0),(.lit .u64 0),(.lit .u64 0),(.lit .u64 0),(.lit .u64 0),(.lit .u64 0),(.lit .u64 0),(.lit .u64 0),(.lit .u64 0),(.lit .u64 0),(.lit .u64 0),(.lit .u64 0),(.lit .u64 0),(.lit .u64 0),(.lit .u64 0),(.lit .u64 0),(.lit .u64 0),(.lit .u64 0),(.lit .u64 0),(.lit .u64 0),(.lit .u64 0),(.lit .u64 0),(.lit .u64 0),(.lit .u64 0),(.lit .u64 0),(.lit .u64 0),(.lit .u64 0),(.lit .u64 0),(.lit .u64 0),(.lit .u64 0),(.lit .u64 0),(.lit .u64 0),(.lit .u64 0),(.lit .u64 0),(.lit .u64 0),(.lit .u64 0),(.lit .u64 0),(.lit .u64 0),(.lit .u64 0),(.lit .u64 0),(.lit .u64 0),(.lit .u64 0),(.lit .u64 0),(.lit .u64 0),(.lit .u64 0),(.lit .u64 0),(.lit .u64 0),(.lit .u64 0),(.lit .u64 0),(.lit .u64 0),(.lit .u64 0),(.lit .u64 0),(.lit .u64 0),(.lit .u64 0),(.lit .u64 0)]),false⟩,.live ⟨true,108,0,(.row zc'),false⟩])))) (.leaf ((.normal,mkSt 32 [(2,.one (.c (.ptr 1 0))),(3,.one (.c (.ptr 2 0))),(7,.one (.c (.slc 0 0 (l.length) 38 (.of 0) false))),(8,.one (.c (.int .i64 (za')))),(9,.one (.c (.int .i64 zb')))] [.live ⟨false,0,38,(.rows .duo (l:List Duo)),false⟩,.live ⟨true,108,0,(.row [(.lit .u64 0),(.lit .u64 0),(.lit .u64 0),(.lit .u64 0),(.lit .u64 0),(.lit .u64 0),(.lit .u64 0),(.lit .u64 0),(.lit .u64 0),(.lit .u64 0),(.lit .u64 0),(.lit .u64 0),(.lit .u64 0),(.lit .u64 0),(.lit .u64 0),(.lit .u64 0),(.lit .u64 0),(.lit .u64 0),(.lit .u64 0),(.lit .u64 0),(.lit .u64 0),(.lit .u64 0),(.lit .u64 0),(.lit .u64 0),(.lit .u64 0),(.lit .u64 0),(.lit .u64 0),(.lit .u64 0),(.lit .u64 0),(.lit .u64 0),(.lit .u64 0),(.lit .u64 0),(.lit .u64 0),(.lit .u64 0),(.lit .u64 0),(.lit .u64 0),(.lit .u64 0),(.lit .u64 0),(.lit .u64 0),(.lit .u64 0),(.lit .u64 0),(.lit .u64 0),(.lit .u64 0),(.lit .u64 0),(.lit .u64 0),(.lit .u64 0),(.lit .u64 0),(.lit .u64 0),(.lit .u64 0),(.lit .u64 0),(.lit .u64 0),(.lit .u64 0),(.lit .u64 0),(.lit .u64 0),(.lit .u64 0),(.lit .u64 0),(.lit .u64 0),(.lit .u64 0),(.lit .u64 0),(.lit .u64 0),(.lit .u64 0),(.lit .u64 0),(.lit .u64 0),(.lit .u64 0),(.lit .u64 0),(.lit .u64 0),(.lit .u64 0),(.lit .u64 0),(.lit .u64 0),(.lit .u64 0),(.lit .u64 0),(.lit .u64 0)]),false⟩,.live ⟨true,108,0,(.row zc'),false⟩])))))) (.leaf ((.exit 0,mkSt 32 [(2,.one (.c (.ptr 1 0))),(3,.one (.c (.ptr 2 0))),(7,.one (.c (.slc 0 0 (l.length) 38 (.of 0) false))),(8,.one (.c (.int .i64 (za')))),(9,.one (.c (.int .i64 (z))))] [.live ⟨false,0,38,(.rows .duo (l:List Duo)),false⟩,.live ⟨true,108,0,(.row [(.lit .u64 0),(.lit .u64 0),(.lit .u64 0),(.lit .u64 0),(.lit .u64 0),(.lit .u64 0),(.lit .u64 0),(.lit .u64 0),(.lit .u64 0),(.lit .u64 0),(.lit .u64 0),(.lit .u64 0),(.lit .u64 0),(.lit .u64 0),(.lit .u64 0),(.lit .u64 0),(.lit .u64 0),(.lit .u64 0),(.lit .u64 0),(.lit .u64 0),(.lit .u64 0),(.lit .u64 0),(.lit .u64 0),(.lit .u64 0),(.lit .u64 0),(.lit .u64 0),(.lit .u64 0),(.lit .u64 0),(.lit .u64 0),(.lit .u64 0),(.lit .u64 0),(.lit .u64 0),(.lit .u64 0),(.lit .u64 0),(.lit .u64 0),(.lit .u64 0),(.lit .u64 0),(.lit .u64 0),(.lit .u64 0),(.lit .u64 0),(.lit .u64 0),(.lit .u64 0),(.lit .u64 0),(.lit .u64 0),(.lit .u64 0),(.lit .u64 0),(.lit .u64 0),(.lit .u64 0),(.lit .u64 0),(.lit .u64 0),(.lit .u64 0),(.lit .u64 0),(.lit .u64 0),(.lit .u64 0),(.lit .u64 0),(.lit .u64 0),(.lit .u64 0),(.lit .u64 0),(.lit .u64 0),(.lit .u64 0),(.lit .u64 0),(.lit .u64 0),(.lit .u64 0),(.lit .u64 0),(.lit .u64 0),(.lit .u64 0),(.lit .u64 0),(.lit .u64 0),(.lit .u64 0),(.lit .u64 0),(.lit .u64 0),(.lit .u64 0)]),false⟩,.live ⟨true,108,0,(.row zc'),false⟩])))):=by kernel_rfl
theorem pd_end (o:Fp12) (mF:Pg1->Pg2->Fp12) (hF:Fp12->Fp12->Fp12) (l:List Duo) (f:Fp12) (z:Int):endT (En (pdT o mF hF)) oF12 100 Tryz.f66 (pdC.drop 4) (pdSt l f z) =
 (.leaf (some ((f,.t)))):=by kernel_rfl
noncomputable abbrev ckC:List Code:=flat (codeOf Tryz.f34)
def ckT (o:Fp12) (mF:Pg1->Pg2->Bool) (pF:List Duo->Fp12) (wF lF:Fp12->Fp12):Table := [(67,K0 rF12.res o),(63,K2 kg1.arg kg2.arg kBool.rs.res mF),(66,K1 (argRw .duo) rF12.res pF),(65,Kw12 wF),(64,Kw12 lF)]
def ckSt (l:List Duo) (z:Int):St:=mkSt 27 [(0,rwV .duo 0 l),(8,rwV .duo 0 l),(9,vI (l.length:Int)),(10,vI z)] [rwHE .duo l]
theorem ck_start (o:Fp12) (mF:Pg1->Pg2->Bool) (pF:List Duo->Fp12) (wF lF:Fp12->Fp12) (l:List Duo):letI za':=0+l.length*38<=(rowsC RK.duo l).length/\0<38;segT (En (ckT o mF pF wF lF)) oB 100 Tryz.f34 (ckC.take 4) (startSt Tryz.f34 [rwV .duo 0 l] [rwHE .duo l]) [0,8,9,10] [0] [(0,.as),(8,.as),(9,.int),(10,.int)] [.as] []=(.vc za' (.br (decide ((↑l.length:Int) > 20)) (.leaf (.inr (some ((false,.t))))) (.vc za' (.leaf (.inl (mkSt 27 [(0,.one (.c (.slc 0 0 (l.length) 38 (.of 0) false))),(8,.one (.c (.slc 0 0 (l.length) 38 (.of 0) false))),(9,.one (.c (.int .i64 ((↑l.length:Int))))),(10,.one (.c (.int .i64 0)))] [.live ⟨false,0,38,(.rows .duo (l:List Duo)),false⟩])))))):=by kernel_rfl
theorem ck_round (o:Fp12) (mF:Pg1->Pg2->Bool) (pF:List Duo->Fp12) (wF lF:Fp12->Fp12) (l:List Duo) (z:Int):letI za':=(↑l.length:Int);iterT (En (ckT o mF pF wF lF)) oB 300 Tryz.f34 [loopAt Tryz.f34 0] (ckSt l z) [0,8,9,10] [0]=(.br (decide (z<za')) (.vc ((0<=z/\z<za')/\0+l.length*38<=(rowsC RK.duo l).length/\0<38/\0=0) (.vc (0+z.toNat<l.length) (.br (!(mF (l.getD (0+z.toNat) { p:=pg10,q:=pg20 }).p (l.getD (0+z.toNat) { p:=pg10,q:=pg20 }).q)) (.leaf (.inr (some ((false,.t))))) (.leaf (.inl ((.normal,mkSt 27 [(0,.one (.c (.slc 0 0 (l.length) 38 (.of 0) false))),(8,.one (.c (.slc 0 0 (l.length) 38 (.of 0) false))),(9,.one (.c (.int .i64 (za')))),(10,.one (.c (.int .i64 (IntKind.i64.wrap (z+1)))))] [.live ⟨false,0,38,(.rows .duo (l:List Duo)),false⟩]))))))) (.leaf (.inl ((.exit 0,mkSt 27 [(0,.one (.c (.slc 0 0 (l.length) 38 (.of 0) false))),(8,.one (.c (.slc 0 0 (l.length) 38 (.of 0) false))),(9,.one (.c (.int .i64 (za')))),(10,.one (.c (.int .i64 (z))))] [.live ⟨false,0,38,(.rows .duo (l:List Duo)),false⟩]))))):=by kernel_rfl
theorem ck_end (o:Fp12) (mF:Pg1->Pg2->Bool) (pF:List Duo->Fp12) (wF lF:Fp12->Fp12) (l:List Duo) (z:Int):letI za':=lF (wF (pF (List.take l.length (List.drop 0 l))));endT (En (ckT o mF pF wF lF)) oB 100 Tryz.f34 (ckC.drop 5) (ckSt l z)=(.vc (0+l.length*38<=(rowsC RK.duo l).length/\0=0/\l.length<1125899906842624/\0=0/\38=38) (.leaf (some ((za'.c0.c0.c0.l0==o.c0.c0.c0.l0 && (za'.c0.c0.c0.l1==o.c0.c0.c0.l1 && (za'.c0.c0.c0.l2==o.c0.c0.c0.l2 && (za'.c0.c0.c0.l3==o.c0.c0.c0.l3 && (za'.c0.c0.c0.l4==o.c0.c0.c0.l4 && (za'.c0.c0.c0.l5==o.c0.c0.c0.l5 && true))))) && (za'.c0.c0.c1.l0==o.c0.c0.c1.l0 && (za'.c0.c0.c1.l1==o.c0.c0.c1.l1 && (za'.c0.c0.c1.l2==o.c0.c0.c1.l2 && (za'.c0.c0.c1.l3==o.c0.c0.c1.l3 && (za'.c0.c0.c1.l4==o.c0.c0.c1.l4 && (za'.c0.c0.c1.l5==o.c0.c0.c1.l5 && true))))) && true) && (za'.c0.c1.c0.l0==o.c0.c1.c0.l0 && (za'.c0.c1.c0.l1==o.c0.c1.c0.l1 && (za'.c0.c1.c0.l2==o.c0.c1.c0.l2 && (za'.c0.c1.c0.l3==o.c0.c1.c0.l3 && (za'.c0.c1.c0.l4==o.c0.c1.c0.l4 && (za'.c0.c1.c0.l5==o.c0.c1.c0.l5 && true))))) && (za'.c0.c1.c1.l0==o.c0.c1.c1.l0 && (za'.c0.c1.c1.l1==o.c0.c1.c1.l1 && (za'.c0.c1.c1.l2==o.c0.c1.c1.l2 && (za'.c0.c1.c1.l3==o.c0.c1.c1.l3 && (za'.c0.c1.c1.l4==o.c0.c1.c1.l4 && (za'.c0.c1.c1.l5==o.c0.c1.c1.l5 && true))))) && true) && (za'.c0.c2.c0.l0==o.c0.c2.c0.l0 && (za'.c0.c2.c0.l1==o.c0.c2.c0.l1 && (za'.c0.c2.c0.l2==o.c0.c2.c0.l2 && (za'.c0.c2.c0.l3==o.c0.c2.c0.l3 && (za'.c0.c2.c0.l4==o.c0.c2.c0.l4 && (za'.c0.c2.c0.l5==o.c0.c2.c0.l5 && true))))) && (za'.c0.c2.c1.l0==o.c0.c2.c1.l0 && (za'.c0.c2.c1.l1==o.c0.c2.c1.l1 && (za'.c0.c2.c1.l2==o.c0.c2.c1.l2 && (za'.c0.c2.c1.l3==o.c0.c2.c1.l3 && (za'.c0.c2.c1.l4==o.c0.c2.c1.l4 && (za'.c0.c2.c1.l5==o.c0.c2.c1.l5 && true))))) && true) && true)) && (za'.c1.c0.c0.l0==o.c1.c0.c0.l0 && (za'.c1.c0.c0.l1==o.c1.c0.c0.l1 && (za'.c1.c0.c0.l2==o.c1.c0.c0.l2 && (za'.c1.c0.c0.l3==o.c1.c0.c0.l3 && (za'.c1.c0.c0.l4==o.c1.c0.c0.l4 && (za'.c1.c0.c0.l5==o.c1.c0.c0.l5 && true))))) && (za'.c1.c0.c1.l0==o.c1.c0.c1.l0 && (za'.c1.c0.c1.l1==o.c1.c0.c1.l1 && (za'.c1.c0.c1.l2==o.c1.c0.c1.l2 && (za'.c1.c0.c1.l3==o.c1.c0.c1.l3 && (za'.c1.c0.c1.l4==o.c1.c0.c1.l4 && (za'.c1.c0.c1.l5==o.c1.c0.c1.l5 && true))))) && true) && (za'.c1.c1.c0.l0==o.c1.c1.c0.l0 && (za'.c1.c1.c0.l1==o.c1.c1.c0.l1 && (za'.c1.c1.c0.l2==o.c1.c1.c0.l2 && (za'.c1.c1.c0.l3==o.c1.c1.c0.l3 && (za'.c1.c1.c0.l4==o.c1.c1.c0.l4 && (za'.c1.c1.c0.l5==o.c1.c1.c0.l5 && true))))) && (za'.c1.c1.c1.l0==o.c1.c1.c1.l0 && (za'.c1.c1.c1.l1==o.c1.c1.c1.l1 && (za'.c1.c1.c1.l2==o.c1.c1.c1.l2 && (za'.c1.c1.c1.l3==o.c1.c1.c1.l3 && (za'.c1.c1.c1.l4==o.c1.c1.c1.l4 && (za'.c1.c1.c1.l5==o.c1.c1.c1.l5 && true))))) && true) && (za'.c1.c2.c0.l0==o.c1.c2.c0.l0 && (za'.c1.c2.c0.l1==o.c1.c2.c0.l1 && (za'.c1.c2.c0.l2==o.c1.c2.c0.l2 && (za'.c1.c2.c0.l3==o.c1.c2.c0.l3 && (za'.c1.c2.c0.l4==o.c1.c2.c0.l4 && (za'.c1.c2.c0.l5==o.c1.c2.c0.l5 && true))))) && (za'.c1.c2.c1.l0==o.c1.c2.c1.l0 && (za'.c1.c2.c1.l1==o.c1.c2.c1.l1 && (za'.c1.c2.c1.l2==o.c1.c2.c1.l2 && (za'.c1.c2.c1.l3==o.c1.c2.c1.l3 && (za'.c1.c2.c1.l4==o.c1.c2.c1.l4 && (za'.c1.c2.c1.l5==o.c1.c2.c1.l5 && true))))) && true) && true)) && true),.t))))):=by kernel_rfl
end
set_option maxRecDepth 100000
section
theorem drop_getD {α:Type} (l:List α) {i:Nat} (h:i<l.length) (d:α):l.drop i=l.getD i d :: l.drop (i+1):=by
 rw [List.drop_eq_getElem_cons h,List.getD_eq_getElem?_getD,List.getElem?_eq_getElem h]
 rfl
section
variable (o : Fp12) (mF : Pg1 -> Pg2 -> Fp12) (hF : Fp12 -> Fp12 -> Fp12)
def pdOne (x:Duo) (f:Fp12):Fp12:=match !x.p.inf with
 | true=>match !x.q.inf with
  | true=>hF f (mF x.p x.q)
  | false=>f
 | false=>f
def prodG:List Duo->Fp12->Fp12
 | [],f=>f
 | x :: l,f=>prodG l (pdOne mF hF x f)
theorem prodG_cons (x:Duo) (l:List Duo) (f:Fp12):prodG mF hF (x :: l) f=prodG mF hF l (pdOne mF hF x f):=rfl
abbrev PdQ (l:List Duo):Type := { s:Nat × Fp12 // s.1<=l.length/\prodG mF hF (l.drop s.1) s.2=prodG mF hF l o }
def pdI (l:List Duo) (s:PdQ o mF hF l):St:=pdSt l s.1.2 (s.1.1:Int)
theorem product_does (hE:EnvOk (En (pdT o mF hF))) (l:List Duo) (hl:l.length<topLen):DoesL (En (pdT o mF hF)) pdC (startSt Tryz.f66 [rwV .duo 0 l] [rwHE .duo l])
  (EndsAs (En (pdT o mF hF)) Tryz.f66 (Reads oF12 (prodG mF hF l o))):=by
 have hl:l.length<1125899906842624:=hl
 refine DoesL.stageG hE 100 3 _ _ _ _ _ (pd_start o mF hF l) ⟨vcLenDuo l,fun _ => ?_⟩
 refine (?_:DoesL _ _ (pdSt l o ((0:Nat):Int)) _)
 refine DoesL.blockLoop (B:=loopAt Tryz.f66 0) (rest:=pdC.drop 4) (id:=0) (by kernel_rfl) (pdI o mF hF l) (fun s=>l.length-s.1.1) ⟨(0,o),Nat.zero_le _,rfl⟩ fun s => ?_
 obtain ⟨⟨i,f⟩,h0,h1⟩:=s
 simp only [] at h0 h1
 refine (?_:Does _ _ (pdSt l f (i:Int)) _)
 refine Does.round hE 300 _ (pd_round o mF hF l f (i:Int)) ⟨fun h => ?_,fun h => ?_⟩
 ·simp only [decide_eq_true_eq] at h
  have hi:i<l.length:=by omega
  refine ⟨vcIdxDuo hi,fun _=>⟨vcGetDuo hi,fun _ => ?_⟩⟩
  have hw:IntKind.i64.wrap ((i:Int)+1)=((i+1:Nat):Int):=(IntWalk.i64_in _ (by omega)).trans (by omega)
  have hd:=drop_getD l hi (⟨pg10,pg20⟩:Duo)
  rw [hd] at h1
  have e0:0+(i:Int).toNat=i:=by omega
  rw [e0,hw]
  rw [prodG_cons] at h1
  unfold pdOne at h1
  generalize l.getD i (⟨pg10,pg20⟩:Duo)=x at *
  refine ⟨fun h2=>⟨fun h3 => ?_,fun h3 => ?_⟩,fun h2 => ?_⟩
  ·rw [h2,h3] at h1
   exact ⟨⟨(i+1,hF f (mF x.p x.q)),hi,h1⟩,by show l.length-(i+1)<l.length-i;omega,rfl⟩
  ·rw [h2,h3] at h1
   exact ⟨⟨(i+1,f),hi,h1⟩,by show l.length-(i+1)<l.length-i;omega,rfl⟩
  ·rw [h2] at h1
   exact ⟨⟨(i+1,f),hi,h1⟩,by show l.length-(i+1)<l.length-i;omega,rfl⟩
 ·simp only [decide_eq_false_iff_not] at h
  obtain rfl:i=l.length:=by omega
  refine ⟨rfl,DoesL.ends hE 100 (pd_end o mF hF l f _) ⟨.t,?_,trivial⟩⟩
  rw [<- h1,List.drop_length]
  rfl
end
def productF (l:List Duo):Fp12:=prodG millerF halfF12 l prOne
theorem product_ok:CallOk Tryz.prog 66 (K1 (argRw .duo) rF12.res productF) :=
 G1 (E:=En (pdT prOne millerF halfF12)) Tryz.func66 (c:=codeOf Tryz.f66) (by kernel_rfl) (bodied Tryz.func66 (by kernel_rfl) (by kernel_rfl)) (inpRw .duo) oF12 productF fun l hl =>
  product_does prOne millerF halfF12 (En_ok (.cons prOne_ok (.cons miller_ok (.cons halfF12_ok .nil)))) l hl
section
variable (o : Fp12) (mF : Pg1 -> Pg2 -> Bool) (pF : List Duo -> Fp12) (wF lF : Fp12 -> Fp12)
def mayAll:List Duo->Bool
 | []=>true
 | x :: l=>match !(mF x.p x.q) with
  | true=>false
  | false=>mayAll l
theorem mayAll_cons (x:Duo) (l:List Duo):mayAll mF (x :: l)=match !(mF x.p x.q) with | true=>false | false=>mayAll mF l:=rfl
def checkG (l:List Duo):Bool:=match decide ((l.length:Int) > 20) with
 | true=>false
 | false=>match mayAll mF l with
  | false=>false
  | true=>fp12Eq (lF (wF (pF l))) o
abbrev CkQ (l:List Duo):Type := { i:Nat // i<=l.length/\mayAll mF (l.drop i)=mayAll mF l }
def ckI (l:List Duo) (i:CkQ mF l):St:=ckSt l (i.1:Int)
theorem check_does (hE:EnvOk (En (ckT o mF pF wF lF))) (l:List Duo) (hl:l.length<topLen):DoesL (En (ckT o mF pF wF lF)) ckC (startSt Tryz.f34 [rwV .duo 0 l] [rwHE .duo l])
  (EndsAs (En (ckT o mF pF wF lF)) Tryz.f34 (Reads oB (checkG o mF pF wF lF l))):=by
 have hl:l.length<1125899906842624:=hl
 refine DoesL.seg hE 100 4 _ _ _ _ _ (ck_start o mF pF wF lF l) ⟨vcLenDuo l,fun _=>⟨fun h => ?_,fun h=>⟨vcLenDuo l,fun _ => ?_⟩⟩⟩
 ·exact ⟨.t,by unfold checkG;rw [h],trivial⟩
 have hc:checkG o mF pF wF lF l=match mayAll mF l with | false=>false | true=>fp12Eq (lF (wF (pF l))) o:=by unfold checkG;rw [h]
 refine (?_:DoesL _ _ (ckSt l ((0:Nat):Int)) _)
 refine DoesL.blockLoopR (B:=loopAt Tryz.f34 0) (rest:=ckC.drop 5) (id:=0) (by kernel_rfl) (ckI mF l) (fun i=>l.length-i.1) ⟨0,Nat.zero_le _,rfl⟩ fun s => ?_
 obtain ⟨i,h0,h1⟩:=s
 refine (?_:DoesL _ _ (ckSt l (i:Int)) _)
 refine DoesL.iter hE 300 _ _ (ck_round o mF pF wF lF l (i:Int)) ⟨fun h => ?_,fun h => ?_⟩
 ·simp only [decide_eq_true_eq] at h
  have hi:i<l.length:=by omega
  refine ⟨vcIdxDuo hi,fun _=>⟨vcGetDuo hi,fun _ => ?_⟩⟩
  have hw:IntKind.i64.wrap ((i:Int)+1)=((i+1:Nat):Int):=(IntWalk.i64_in _ (by omega)).trans (by omega)
  have hd:=drop_getD l hi (⟨pg10,pg20⟩:Duo)
  rw [hd] at h1
  have e0:0+(i:Int).toNat=i:=by omega
  rw [e0,hw]
  rw [mayAll_cons] at h1
  generalize l.getD i (⟨pg10,pg20⟩:Duo)=x at *
  refine ⟨fun h2 => ?_,fun h2 => ?_⟩
  ·rw [h2] at h1
   have h1:false=mayAll mF l:=h1
   exact ⟨.t,by rw [hc,<- h1],trivial⟩
  ·rw [h2] at h1
   exact ⟨⟨i+1,hi,h1⟩,by show l.length-(i+1)<l.length-i;omega,rfl⟩
 ·simp only [decide_eq_false_iff_not] at h
  obtain rfl:i=l.length:=by omega
  rw [List.drop_length] at h1
  have h1:true=mayAll mF l:=h1
  refine ⟨rfl,DoesL.ends hE 100 (ck_end o mF pF wF lF l _) ⟨vcAllDuo hl,fun _=>⟨.t,?_,trivial⟩⟩⟩
  rw [hc,<- h1,wholeTakeDuo rfl]
  rfl
end
def prCheck (l:List Duo):Bool:=checkG oneF12 prMay productF powerF lowF12 l
theorem prCheck_ok:CallOk Tryz.prog 34 (K1 (argRw .duo) kBool.rs.res prCheck) :=
 G1 (E:=En (ckT oneF12 prMay productF powerF lowF12)) Tryz.func34 (c:=codeOf Tryz.f34) (by kernel_rfl) (bodied Tryz.func34 (by kernel_rfl) (by kernel_rfl)) (inpRw .duo) oB prCheck fun l hl =>
  check_does oneF12 prMay productF powerF lowF12 (En_ok (.cons oneF12_ok (.cons prMay_ok (.cons product_ok (.cons power_ok (.cons lowF12_ok .nil)))))) l hl
end
section
theorem jc_zero {X Y Z:V1} (h:Jc X Y Z .inf):Z=0:=h
theorem inG1_def (f0:Pg1->Bool) (f1:Fp->Bool) (f2:Sp1->List UInt64->Sp1) (f3:Pg1->Sp1) (f4:Fr) (a:Pg1):inG1_G f0 f1 f2 f3 f4 a=(f0 a && f1 (f2 (f3 a) f4.list).z):=by
 unfold inG1_G
 cases f0 a <;> rfl
theorem rel1_none {s:Sp1} {p:Pt V1} (h:rel1 s p):zeroG1 s.z=true <-> p = .inf:=by
 rw [m1_zero h.1.2.2]
 constructor
 ·exact h.2.inf_of
 ·intro e
  subst e
  exact jc_zero h.2
theorem in1_iff (a:Pg1):inG1 a=true <-> a.good/\a.pt.mul qN = .inf:=by
 have key:a.good->(zeroG1 (timesG1 (liftG1 a) rLimbs.list).z=true <-> a.pt.mul qN = .inf):=fun hg=>by
  rw [<- rLimbs_val]
  exact rel1_none (times1_pt hg.2 (lift1_rel hg) rLimbs.list)
 unfold inG1
 rw [inG1_def,Bool.and_eq_true,on1_iff]
 exact ⟨fun h=>⟨h.1,(key h.1).1 h.2⟩,fun h=>⟨h.1,(key h.1).2 h.2⟩⟩
theorem two_nat:(⟨2,0,0,0⟩:Fr).nat=2:=by decide +kernel
end
section
theorem jc_zero2 {X Y Z:V2} (h:Jc X Y Z .inf):Z=0:=h
theorem inG2_def (f0:Pg2->Bool) (f1:Fp2->Bool) (f2:Fp6->List UInt64->Fp6) (f3:Pg2->Fp6) (f4:Fr) (a:Pg2):inG2_G f0 f1 f2 f3 f4 a=(f0 a && f1 (f2 (f3 a) f4.list).c2):=by
 unfold inG2_G
 cases f0 a <;> rfl
theorem rel2_none {s:Fp6} {p:Pt V2} (h:rel2 s p):zeroG2 s.c2=true <-> p = .inf:=by
 rw [m2_zero h.1.2.2]
 constructor
 ·exact h.2.inf_of
 ·intro e
  subst e
  exact jc_zero2 h.2
theorem in2_iff (a:Pg2):inG2 a=true <-> a.good/\a.pt.mul qN = .inf:=by
 have key:a.good->(zeroG2 (timesG2 (liftG2 a) rLimbs.list).c2=true <-> a.pt.mul qN = .inf):=fun hg=>by
  rw [<- rLimbs_val]
  exact rel2_none (times2_pt hg.2 (lift2_rel hg) rLimbs.list)
 unfold inG2
 rw [inG2_def,Bool.and_eq_true,on2_iff]
 exact ⟨fun h=>⟨h.1,(key h.1).1 h.2⟩,fun h=>⟨h.1,(key h.1).2 h.2⟩⟩
end
set_option maxRecDepth 100000
section
structure In1P (p : Pg1) : Prop where
 good:p.good
 sub:p.pt.mul qN = .inf
structure In2P (q : Pg2) : Prop where
 good:q.good
 sub:q.pt.mul qN = .inf
theorem In1P.pts {p:Pg1} (h:In1P p):p.pt.sub qN:=⟨h.good.2,h.sub⟩
theorem In2P.pts {q:Pg2} (h:In2P q):q.pt.sub qN:=⟨h.good.2,h.sub⟩
theorem may_in {p:Pg1} {q:Pg2}:prMay p q=true <-> In1P p/\In2P q:=by
 have e:prMay p q=(inG1 p && inG2 q):=by
  have:prMay p q=match inG1 p with | true=>inG2 q | false=>false:=rfl
  rw [this]
  cases inG1 p <;> rfl
 rw [e,Bool.and_eq_true,in1_iff,in2_iff]
 exact ⟨fun h=>⟨⟨h.1.1,h.1.2⟩,⟨h.2.1,h.2.2⟩⟩,fun h=>⟨⟨h.1.good,h.1.sub⟩,⟨h.2.good,h.2.sub⟩⟩⟩
theorem prV_infq (p:Pt V1) {q:Pg2} (h:q.inf=true):prV p q.pt=1:=by rw [pt2_inf h];exact prV_inf2 p
theorem pair_w {p:Pg1} {q:Pg2} (hp:In1P p) (hq:In2P q) (ip:p.inf=false) (iq:q.inf=false):(millerF p q).ok/\ch12 (millerF p q).w=prV p.pt q.pt:=by
 have h1:=hp.pts
 have h2:=hq.pts
 rw [pt1_aff ip] at h1 ⊢
 rw [pt2_aff iq] at h2 ⊢
 have o1:p.x.ok/\p.y.ok:=by
  rcases hp.good.1 with e | e
  ·rw [e] at ip;cases ip
  ·exact e.2
 have o2:q.x.ok/\q.y.ok:=by
  rcases hq.good.1 with e | e
  ·rw [e] at iq;cases iq
  ·exact e.2
 exact miller_w o1.1 o1.2 o2.1 o2.2 (sub_ptOk h1) h2
noncomputable def prL:List Duo->V12
 | []=>1
 | x :: l=>prV x.p.pt x.q.pt*prL l
theorem prL_nil:prL []=1:=rfl
theorem prL_cons (x:Duo) (l:List Duo):prL (x :: l)=prV x.p.pt x.q.pt*prL l:=rfl
theorem prodG_nil (mF:Pg1->Pg2->Fp12) (hF:Fp12->Fp12->Fp12) (f:Fp12):prodG mF hF [] f=f:=rfl
def DuoP (x:Duo):Prop:=In1P x.p/\In2P x.q
theorem pdOne_w {x:Duo} (hx:DuoP x) {f:Fp12} (hf:f.ok):(pdOne millerF halfF12 x f).ok/\ch12 (pdOne millerF halfF12 x f).w=ch12 f.w*prV x.p.pt x.q.pt:=by
 obtain ⟨p,q⟩:=x
 obtain ⟨hp,hq⟩:=hx
 simp only [] at hp hq
 unfold pdOne
 simp only []
 cases ip:p.inf with
 | true=>exact ⟨hf,by rw [pt1_inf ip,prV_inf,mOne];rfl⟩
 | false =>
  cases iq:q.inf with
  | true=>exact ⟨hf,by rw [prV_infq _ iq,mOne];rfl⟩
  | false =>
   obtain ⟨m1,m2⟩:=pair_w hp hq ip iq
   refine ⟨half_ok12 hf m1,?_⟩
   show ch12 (halfF12 f (millerF p q)).w=_
   rw [w_half12 hf m1,cx_mul,m2]
theorem prod_w : ∀ (l:List Duo),(∀ x ∈ l,DuoP x) -> ∀ {f:Fp12},f.ok->(prodG millerF halfF12 l f).ok/\ch12 (prodG millerF halfF12 l f).w=ch12 f.w*prL l
 | [],_,f,hf=>by
  rw [prodG_nil,prL_nil,mOne]
  exact ⟨hf,rfl⟩
 | x :: l,h,f,hf=>by
  obtain ⟨h1,h2⟩:=pdOne_w (h x (List.mem_cons_self ..)) hf
  obtain ⟨h3,h4⟩:=prod_w l (fun y hy=>h y (List.mem_cons_of_mem _ hy)) h1
  rw [prodG_cons]
  refine ⟨h3,?_⟩
  rw [h4,h2,prL_cons,CR.mul_assoc]
theorem prL_q : ∀ l:List Duo,prL l ^ qN=1
 | []=>by rw [prL_nil,one_pow']
 | x :: l=>by
  rw [prL_cons,mul_pow',prV_q,prL_q l,mOne]
theorem product_w {l:List Duo} (h : ∀ x ∈ l,DuoP x):(powerF (productF l)).ok/\(powerF (productF l)).w=prL l:=by
 have k:(productF l).ok/\ch12 (productF l).w=ch12 prOne.w*prL l:=prod_w l h one_w.1
 obtain ⟨h1,h2⟩:=k
 rw [one_w.2,cx_one,one_mul'] at h2
 obtain ⟨h3,h4⟩:=power_w h1 (ne_of_ch (by rw [h2];exact prL_q l))
 exact ⟨h3,h4.trans h2⟩
theorem mayAll_nil (mF:Pg1->Pg2->Bool):mayAll mF []=true:=rfl
theorem mayAll_iff : ∀ l:List Duo,mayAll prMay l=true <-> ∀ x ∈ l,DuoP x
 | []=>⟨fun _ x hx=>(List.not_mem_nil hx).elim,fun _=>mayAll_nil _⟩
 | x :: l=>by
  rw [mayAll_cons]
  cases h:prMay x.p x.q with
  | false =>
   refine ⟨fun e=>Bool.noConfusion (show false=true from e),fun e => ?_⟩
   have:=may_in.2 (e x (List.mem_cons_self ..))
   rw [h] at this
   cases this
  | true =>
   show mayAll prMay l=true <-> _
   rw [mayAll_iff l]
   refine ⟨fun e y hy => ?_,fun e y hy=>e y (List.mem_cons_of_mem _ hy)⟩
   rcases List.mem_cons.1 hy with rfl | hy
   ·exact may_in.1 h
   ·exact e y hy
theorem checkG_in {o:Fp12} {mF:Pg1->Pg2->Bool} {pF:List Duo->Fp12} {wF lF:Fp12->Fp12} {l:List Duo} (h : ¬ ((l.length:Int) > 20)) (hm:mayAll mF l=true):checkG o mF pF wF lF l=fp12Eq (lF (wF (pF l))) o:=by
 unfold checkG
 rw [decide_eq_false h,hm]
theorem prCheck_w {l:List Duo} (hl:l.length<=20) (h : ∀ x ∈ l,DuoP x):prCheck l=true <-> prL l=1:=by
 have e:prCheck l=fp12Eq (lowF12 (powerF (productF l))) oneF12:=by
  unfold prCheck
  exact checkG_in (by omega) ((mayAll_iff l).2 h)
 obtain ⟨h1,h2⟩:=product_w h
 rw [e,oneF12_eq,fp12Eq_v (low_ok12 h1) one_ok12,w_low12 h1,h2,v_one12]
noncomputable def eGen:V12:=prV oneG1.pt oneG2.pt
theorem eGen_q:eGen ^ qN=1:=prV_q _ _
theorem eGen_ne:eGen ≠ 1:=gen_ne
theorem powR_gcd {R:Type} [CR R] (a:R) : ∀ m n:Nat,a ^ m=1->a ^ n=1->a ^ Nat.gcd m n=1:=by
 intro m n
 induction m,n using Nat.gcd.induction with
 | H0 n=>intro _ h;rw [Nat.gcd_zero_left];exact h
 | H1 m n hm ih =>
  intro h1 h2
  rw [Nat.gcd_rec]
  refine ih ?_ h1
  have e:n=m*(n / m)+n % m:=(Nat.div_add_mod n m).symm
  rw [e,pow_add',pow_mul',h1,one_pow',one_mul'] at h2
  exact h2
theorem pow_mod {R:Type} [CR R] {a:R} {m:Nat} (h:a ^ m=1) (n:Nat):a ^ (n % m)=a ^ n:=by
 have e:a ^ n=a ^ (m*(n / m)+n % m):=by rw [Nat.div_add_mod]
 rw [e,pow_add',pow_mul',h,one_pow',one_mul']
theorem eGen_one (k:Nat):eGen ^ k=1 <-> k % qN=0:=by
 constructor
 ·intro h
  have h1:eGen ^ (k % qN)=1:=by rw [pow_mod eGen_q];exact h
  rcases Nat.eq_zero_or_pos (k % qN) with e | e
  ·exact e
  ·exfalso
   have hk:k % qN<qN:=Nat.mod_lt _ qN_pos
   have hg:=powR_gcd eGen qN (k % qN) eGen_q h1
   have hc:Nat.gcd qN (k % qN)=1:=prime_qN.coprime fun hd=>by
    have:=Nat.le_of_dvd e hd
    omega
   rw [hc,pow_one'] at hg
   exact eGen_ne hg
 ·intro h
  rw [<- pow_mod eGen_q,h,pow_zero']
theorem eGen_mul (a b:Nat):prV (oneG1.pt.mul a) (oneG2.pt.mul b)=eGen ^ (a*b):=prV_mul d_on d_ne ⟨gen1_good.2,gen1_order⟩ gen2_good2 a b
end
set_option maxRecDepth 100000
section
instance : NeZero qN := ⟨by decide +kernel⟩
def VR:Type:=Fin qN
def VR.of (n:Nat):VR:=Fin.ofNat qN n
def VR.nat (a:VR):Nat:=Fin.val a
theorem VR.nat_lt (a:VR):a.nat<qN:=Fin.isLt a
theorem VR.nat_of (n:Nat):(VR.of n).nat=n % qN:=rfl
theorem VR.ext {a b:VR} (h:a.nat=b.nat):a=b:=Fin.eq_of_val_eq h
theorem VR.of_nat (a:VR):VR.of a.nat=a:=VR.ext (by rw [VR.nat_of,Nat.mod_eq_of_lt a.nat_lt])
def VR.add (a b:VR):VR:=VR.of (a.nat+b.nat)
def VR.mul (a b:VR):VR:=VR.of (a.nat*b.nat)
def VR.neg (a:VR):VR:=VR.of (qN-a.nat)
def VR.sub (a b:VR):VR:=VR.of (a.nat+(qN-b.nat))
def VR.inv (a:VR):VR:=VR.of (mpow 255 a.nat (qN-2) qN)
theorem one_lt_q:1<qN:=by decide +kernel
theorem VR.one_mod:1 % qN=1:=Nat.mod_eq_of_lt one_lt_q
instance : CR VR where
 add:=VR.add
 mul:=VR.mul
 neg:=VR.neg
 sub:=VR.sub
 z:=VR.of 0
 o:=VR.of 1
 add_zero:=fun a=>VR.ext (by show (a.nat+0 % qN) % qN=a.nat;rw [Nat.zero_mod,Nat.add_zero,Nat.mod_eq_of_lt a.nat_lt])
 add_comm:=fun a b=>VR.ext (by show (a.nat+b.nat) % qN=(b.nat+a.nat) % qN;rw [Nat.add_comm])
 add_assoc:=fun a b c=>VR.ext (by show ((a.nat+b.nat) % qN+c.nat) % qN=(a.nat+(b.nat+c.nat) % qN) % qN;rw [Nat.mod_add_mod,Nat.add_mod_mod,Nat.add_assoc])
 mul_assoc:=fun a b c=>VR.ext (by show ((a.nat*b.nat) % qN*c.nat) % qN=(a.nat*((b.nat*c.nat) % qN)) % qN;rw [Nat.mod_mul_mod,Nat.mul_mod_mod,Nat.mul_assoc])
 mul_comm:=fun a b=>VR.ext (by show (a.nat*b.nat) % qN=(b.nat*a.nat) % qN;rw [Nat.mul_comm])
 mul_one:=fun a=>VR.ext (by show (a.nat*(1 % qN)) % qN=a.nat;rw [VR.one_mod,Nat.mul_one,Nat.mod_eq_of_lt a.nat_lt])
 dist:=fun a b c=>VR.ext (by
  show (a.nat*((b.nat+c.nat) % qN)) % qN=((a.nat*b.nat) % qN+(a.nat*c.nat) % qN) % qN
  rw [Nat.mul_mod_mod,<- Nat.add_mod,Nat.mul_add])
 neg_add:=fun a=>VR.ext (by
  show ((qN-a.nat) % qN+a.nat) % qN=0 % qN
  rw [Nat.mod_add_mod,Nat.sub_add_cancel (Nat.le_of_lt a.nat_lt),Nat.mod_self,Nat.zero_mod])
 sub_eq:=fun a b=>VR.ext (by
  show (a.nat+(qN-b.nat)) % qN=(a.nat+(qN-b.nat) % qN) % qN
  rw [Nat.add_mod_mod])
theorem VR.nat_add (a b:VR):(a+b).nat=(a.nat+b.nat) % qN:=rfl
theorem VR.nat_mul (a b:VR):(a*b).nat=(a.nat*b.nat) % qN:=rfl
theorem VR.nat_zero:(0:VR).nat=0:=Nat.zero_mod _
theorem VR.nat_one:(1:VR).nat=1:=VR.one_mod
theorem VR.nat_pow (a:VR) : ∀ n:Nat,(a ^ n).nat=a.nat ^ n % qN
 | 0=>rfl
 | n+1=>by rw [pow_succ',VR.nat_mul,VR.nat_pow a n,Nat.mod_mul_mod,Nat.pow_succ]
theorem VR.ne_zero {a:VR} (h:a ≠ 0):a.nat ≠ 0:=fun e=>h (VR.ext (by rw [e,VR.nat_zero]))
theorem not_dvdq {a:Nat} (h:a<qN) (h0:a ≠ 0) : ¬ qN ∣ a:=fun hd=>absurd (Nat.le_of_dvd (by omega) hd) (by omega)
theorem two_ltq:2<qN:=by decide +kernel
theorem VR.fermat {a:VR} (h:a ≠ 0):a ^ (qN-1)=1:=VR.ext (by
 rw [VR.nat_pow,VR.nat_one]
 exact Go.Proofs.YtcbplfkeeaecgaaGreat.fermat prime_qN (not_dvdq a.nat_lt (VR.ne_zero h)))
theorem VR.inv_eq (a:VR):VR.inv a=a ^ (qN-2):=VR.ext (by
 show mpow 255 a.nat (qN-2) qN % qN=_
 rw [mpow_eq qN 255 _ _ (by decide +kernel),VR.nat_pow,Nat.mod_mod])
instance : Fld VR where
 inv:=VR.inv
 mul_inv:=fun a h=>by
  rw [VR.inv_eq]
  have:=VR.fermat h
  rw [show qN-1=(qN-2)+1 by have:=two_ltq;omega,pow_succ'] at this
  rw [CR.mul_comm]
  exact this
 one_ne:=fun e=>by
  have:=congrArg VR.nat e
  rw [VR.nat_one,VR.nat_zero] at this
  omega
def Fr.ok (a:Fr):Prop:=a.nat<qN
def Fr.v (a:Fr):VR:=VR.of a.nat
theorem Fr.v_nat {a:Fr} (h:a.ok):a.v.nat=a.nat:=Nat.mod_eq_of_lt h
theorem Fr.v_inj {a b:Fr} (ha:a.ok) (hb:b.ok) (h:a.v=b.v):a=b:=Fr.nat_inj (by rw [<- Fr.v_nat ha,<- Fr.v_nat hb,h])
theorem frEq_v {a b:Fr} (ha:a.ok) (hb:b.ok):frEq a b=true <-> a.v=b.v:=⟨fun h=>by rw [(frEq_iff a b).1 h],fun h=>(frEq_iff a b).2 (Fr.v_inj ha hb h)⟩
theorem mayR_ok' {a:Fr} (h:mayRF a=true):a.ok:=by
 rw [mayRF_nat] at h
 exact (of_decide_eq_true h:a.nat<qN)
theorem mul_okR {a b:Fr} (hb:b.ok):(mulRF a b).ok:=mulRF_lt hb
theorem v_mulR {a b:Fr} (ha:a.ok) (hb:b.ok):(mulRF a b).v=a.v*b.v:=VR.ext (by
 rw [Fr.v_nat (mul_okR hb),VR.nat_mul,Fr.v_nat ha,Fr.v_nat hb,mulRF_nat hb])
theorem zeroFr_ok:zeroFr.ok:=by unfold Fr.ok;decide +kernel
theorem v_zeroFr:zeroFr.v=0:=VR.ext (by decide +kernel)
theorem oneFr_ok:oneFr.ok:=by unfold Fr.ok;decide +kernel
theorem v_oneFr:oneFr.v=1:=VR.ext (by decide +kernel)
noncomputable def gm (x:VR):Pt V1:=oneG1.pt.mul x.nat
noncomputable def hm (x:VR):Pt V2:=oneG2.pt.mul x.nat
noncomputable def em (x:VR):V12:=eGen ^ x.nat
theorem gm_on (x:VR):(gm x).on:=mul_on gen1_good.2 _
theorem gm_add (x y:VR):gm (x+y)=(gm x).add (gm y):=by
 unfold gm
 rw [VR.nat_add,mul_mod_pt gen1_good.2 gen1_order,mul_add_pt gen1_good.2]
theorem gm_mul (x y:VR):gm (x*y)=(gm x).mul y.nat:=by
 unfold gm
 rw [VR.nat_mul,mul_mod_pt gen1_good.2 gen1_order,mul_mul_pt gen1_good.2]
theorem gm_zero:gm 0 = .inf:=by
 unfold gm
 rw [VR.nat_zero,mul_zero_pt]
theorem gm_one:gm 1=oneG1.pt:=by
 unfold gm
 rw [VR.nat_one,mul_one_pt]
theorem gm_neg (x:VR):gm (-x)=(gm x).neg:=by
 refine eq_of_neg_add (gm_on _) (neg_on (gm_on _)) ?_
 have h:=gm_add x (-x)
 have e:x + -x=0:=by grind
 rw [e,gm_zero] at h
 rw [neg_add_neg (gm_on _) (gm_on _),add_comm_pt (gm_on _) (gm_on _),<- h]
 rfl
theorem gm_sub (x:VR):(gm x).sub qN:=sub_mul ⟨gen1_good.2,gen1_order⟩ _
theorem gm_inj {x y:VR} (h:gm x=gm y):x=y:=by
 have e:gm (x-y) = .inf:=by
  have:x-y=x + -y:=CR.sub_eq _ _
  rw [this,gm_add,h,gm_neg,add_comm_pt (gm_on _) (neg_on (gm_on _)),neg_add_pt (gm_on _)]
 have h0:(x-y).nat=0:=by
  rcases Nat.eq_zero_or_pos (x-y).nat with k | k
  ·exact k
  ·exact absurd e (mul_ne_inf gen1_good.2 gen1_ne gen1_order k (x-y).nat_lt)
 have h1:x-y=0:=VR.ext (by rw [h0,VR.nat_zero])
 grind
theorem hm_good (x:VR):Good2 (hm x):=gen2_good2.mul _
theorem hm_one:hm 1=oneG2.pt:=by
 unfold hm
 rw [VR.nat_one,mul_one_pt]
theorem em_add (x y:VR):em (x+y)=em x*em y:=by
 unfold em
 rw [VR.nat_add,pow_mod eGen_q,pow_add']
theorem em_one_iff (x:VR):em x=1 <-> x=0:=by
 unfold em
 rw [eGen_one,Nat.mod_eq_of_lt x.nat_lt]
 exact ⟨fun h=>VR.ext (by rw [h,VR.nat_zero]),fun h=>by rw [h,VR.nat_zero]⟩
theorem prV_gh (x y:VR):prV (gm x) (hm y)=em (x*y):=by
 unfold gm hm em
 rw [eGen_mul,VR.nat_mul,pow_mod eGen_q]
structure At1 (p : Pg1) (x : VR) : Prop where
 good:p.good
 pt:p.pt=gm x
structure At2 (q : Pg2) (x : VR) : Prop where
 good:q.good
 pt:q.pt=hm x
theorem At1.in1 {p:Pg1} {x:VR} (h:At1 p x):In1P p:=⟨h.good,by rw [h.pt];exact (gm_sub x).2⟩
theorem At2.in2 {q:Pg2} {x:VR} (h:At2 q x):In2P q:=⟨h.good,by rw [h.pt];exact (hm_good x).sub.2⟩
theorem At1.eq {p q:Pg1} {x:VR} (h:At1 p x) (k:At1 q x):p=q:=pt1_inj h.good.1 k.good.1 (h.pt.trans k.pt.symm)
theorem At1.inj {p:Pg1} {x y:VR} (h:At1 p x) (k:At1 p y):x=y:=gm_inj (h.pt.symm.trans k.pt)
theorem at1_times {p:Pg1} {x:VR} (h:At1 p x) {k:Fr} (hk:k.ok):At1 (times1R p k) (x*k.v):=by
 obtain ⟨h1,h2⟩:=times1R_pt h.good k
 exact ⟨h1,by rw [h2,h.pt,gm_mul,Fr.v_nat hk]⟩
theorem at1_gen:At1 gen1R 1:=⟨gen1_good,by rw [gm_one];rfl⟩
theorem at2_gen:At2 gen2R 1:=⟨gen2_good,by rw [hm_one];rfl⟩
theorem at1_neg {p:Pg1} {x:VR} (h:At1 p x):At1 (negG1 p) (-x):=by
 obtain ⟨h1,h2⟩:=neg1_pt h.good
 exact ⟨h1,by rw [h2,h.pt,gm_neg]⟩
end
set_option maxRecDepth 100000
section
theorem frZ_ok:frZ.ok:=zeroFr_ok
theorem frZ_v:frZ.v=0:=v_zeroFr
section
variable {aF mF : Fr -> Fr -> Fr} (hA : ∀ {a b : Fr}, a.ok -> b.ok -> (aF a b).ok /\ (aF a b).v = a.v + b.v) (hM : ∀ {a b : Fr}, a.ok -> b.ok -> (mF a b).ok /\ (mF a b).v = a.v * b.v)
include hA hM
end
theorem mulR_v {a b:Fr} (ha:a.ok) (hb:b.ok):(mulRF a b).ok/\(mulRF a b).v=a.v*b.v:=⟨mul_okR hb,v_mulR ha hb⟩
end
set_option maxRecDepth 100000
section
theorem macL_com4 (x y t c:UInt64):macL x y t c=macL y x t c:=by unfold macL;rw [UInt64.mul_comm]
theorem mulHi_com4 (x y:UInt64):mulHi x y=mulHi y x:=UInt64.toNat.inj (by rw [mulHi_nat,mulHi_nat,Nat.mul_comm])
theorem macH_com4 (x y t c:UInt64):macH x y t c=macH y x t c:=by unfold macH;rw [UInt64.mul_comm,mulHi_com4]
theorem mont4B_eq (t0 t1 t2 t3 top:UInt64) (more:Bool):mont4B rLimbs rInv4 t0 t1 t2 t3 top more=round4B t0 t1 t2 t3 top more:=by
 unfold mont4B round4B
 simp only [rmL_eq,rmH_eq,addC_comm t0]
 rfl
theorem mont4R_eq (ai:UInt64) (b:Fr) (t:L5):mont4R rLimbs rInv4 ai b t=round4F b ai t:=by
 unfold mont4R round4F
 rw [mont4B_eq]
 simp only [rmL_eq,rmH_eq,macL_com4 ai,macH_com4 ai]
theorem mont4_halfr (a b:Fr):mont4_4 a b rLimbs=halfrT b a:=by
 unfold mont4_4 mont4_3 mont4_2 mont4_1
 rw [mont4_inv]
 simp only [mont4R_eq]
 rfl
theorem less4T_eq (a:Fr):less4T a=sub4T a rLimbs:=rfl
theorem less4F_eq (a:Fr) (o:UInt64):less4F a o=match decide (o<b2u (decide (a.nat<qN))) with | true=>a | false=>(sub4T a rLimbs).1:=by
 unfold less4F
 rw [less4T_eq,borrow4_iff,rLimbs_nat]
 rfl
theorem less4F_nat {t:Fr} {o:UInt64} (ho:o.toNat<=1) (h:t.nat+r4N*o.toNat<2*qN):(less4F t o).nat=(t.nat+r4N*o.toNat) % qN:=by
 obtain ⟨h1,h2⟩:=reduce4 t o.toNat ho h
 rw [less4F_eq]
 by_cases hl:t.nat<qN
 ·rw [decide_eq_true hl]
  rcases Nat.lt_or_ge o.toNat 1 with h0 | h0
  ·have e0:o.toNat=0:=by omega
   have e:o=0:=UInt64.toNat.inj e0
   subst e
   exact h2 ⟨e0,hl⟩
  ·have e1:o.toNat=1:=by omega
   have e:o=1:=UInt64.toNat.inj e1
   subst e
   exact h1 (.inl e1)
 ·rw [decide_eq_false hl]
  have e:decide (o<b2u false)=false:=decide_eq_false (by
   intro hlt
   have:o.toNat<0:=hlt
   omega)
  rw [e]
  exact h1 (.inr hl)
theorem halfR_nat {a b:Fr} (ha:a.nat<qN):(halfR a b).nat<qN/\(halfR a b).nat*r4N % qN=a.nat*b.nat % qN:=by
 obtain ⟨k,h1,h2⟩:=mont4T_nat b a
 rw [mont4_halfr] at h1 h2
 have h3:=L5.nat_low (halfrT a b)
 have ht:(halfrT a b).t4.toNat<=1:=by
  have hpr:2*qN<r4N:=by decide +kernel
  rcases Nat.lt_or_ge (halfrT a b).t4.toNat 1 with h | h
  ·omega
  ·have:r4N*1<=r4N*(halfrT a b).t4.toNat:=Nat.mul_le_mul_left _ h
   omega
 have e:=less4F_nat (t:=(halfrT a b).low) ht (by omega)
 have e2:(halfR a b).nat=(halfrT a b).nat % qN:=by
  rw [h3]
  exact e
 rw [e2]
 refine ⟨Nat.mod_lt _ qN_pos,?_⟩
 rw [Nat.mod_mul_mod,h1,Nat.add_mul_mod_self_right,Nat.mul_comm]
theorem mulPR_nat {a b:Fr} (ha:a.nat<qN):(mulPR a b).nat=a.nat*b.nat % qN:=by
 obtain ⟨h1,h2⟩:=halfR_nat (b:=b) ha
 obtain ⟨h3,h4⟩:=halfR_nat (a:=halfR a b) (b:=sq4Limbs) h1
 have h3:(mulPR a b).nat<qN:=h3
 have h4:(mulPR a b).nat*r4N % qN=(halfR a b).nat*sq4Limbs.nat % qN:=h4
 rw [<- Nat.mod_eq_of_lt h3]
 refine r4_cancel ?_
 rw [h4,sq4_nat,Nat.mul_mod_mod]
 have e:(halfR a b).nat*(r4N*r4N)=(halfR a b).nat*r4N*r4N:=(Nat.mul_assoc _ _ _).symm
 rw [e,<- Nat.mod_mul_mod,h2,Nat.mod_mul_mod]
theorem mulPR_eq {a b:Fr} (ha:a.nat<qN) (hb:b.nat<qN):mulPR a b=mulRF a b:=Fr.nat_inj (by rw [mulPR_nat ha,mulRF_nat hb])
end
section
abbrev few (xs:List Pg1):Prop:=xs.length<4294967296
end
set_option maxRecDepth 100000
section
def ofRF_G (n:UInt64):Fr:=({ l0:=n,l1:=UInt64.ofNat 0,l2:=UInt64.ofNat 0,l3:=UInt64.ofNat 0 })
def ofRF_T (n:UInt64):Tree (Option (Fr)) :=
 (.leaf (some ({ l0:=n,l1:=UInt64.ofNat 0,l2:=UInt64.ofNat 0,l3:=UInt64.ofNat 0 })))
theorem ofRF_run (n:UInt64):plainRun (En []) (kRow Fr).rs 300 Tryz.f12 [.one (kU64.av n)]=ofRF_T n:=by kernel_rfl
theorem ofRF_sat (n:UInt64):(ofRF_T n).sat fun q=>q=some (ofRF_G n):=(show some _=some _ from rfl)
def ofRF (n:UInt64):Fr:=ofRF_G  n
theorem ofRF_ok:CallOk Tryz.prog 12 (K1 kU64.arg (kRow Fr).rs.res ofRF) :=
 P1 (En_ok .nil) Tryz.func12 (bodied Tryz.func12 (by kernel_rfl) (by kernel_rfl)) 300 kU64 (kRow Fr).rs ofRF (ofRF_run ) (ofRF_sat )
def commG_G (f0:Pg1->Fr->Pg1) (f1:Pg1) (k:Fr):Pg1:=(f0 f1 k)
def commG_T (f0:Pg1->Fr->Pg1) (f1:Pg1) (k:Fr):Tree (Option (Pg1)) :=
 (.leaf (some (f0 f1 k)))
theorem commG_run (f0:Pg1->Fr->Pg1) (f1:Pg1) (k:Fr):plainRun (En [(36,K2 (kRow Pg1).arg (kRow Fr).arg (kRow Pg1).rs.res f0),(22,K0 (kRow Pg1).rs.res f1)]) (kRow Pg1).rs 300 Tryz.f13 [.one ((kRow Fr).av k)]=commG_T f0 f1 k:=by kernel_rfl
theorem commG_sat (f0:Pg1->Fr->Pg1) (f1:Pg1) (k:Fr):(commG_T f0 f1 k).sat fun q=>q=some (commG_G f0 f1 k):=(show some _=some _ from rfl)
def commG (k:Fr):Pg1:=commG_G times1R gen1R k
theorem commG_ok:CallOk Tryz.prog 13 (K1 (kRow Fr).arg (kRow Pg1).rs.res commG) :=
 P1 (En_ok (.cons times1R_ok (.cons gen1R_ok .nil))) Tryz.func13 (bodied Tryz.func13 (by kernel_rfl) (by kernel_rfl)) 300 (kRow Fr) (kRow Pg1).rs commG (commG_run times1R gen1R) (commG_sat times1R gen1R)
def commH_G (f0:Pg2->Fr->Pg2) (f1:Pg2) (k:Fr):Pg2:=(f0 f1 k)
def commH_T (f0:Pg2->Fr->Pg2) (f1:Pg2) (k:Fr):Tree (Option (Pg2)) :=
 (.leaf (some (f0 f1 k)))
theorem commH_run (f0:Pg2->Fr->Pg2) (f1:Pg2) (k:Fr):plainRun (En [(39,K2 (kRow Pg2).arg (kRow Fr).arg (kRow Pg2).rs.res f0),(23,K0 (kRow Pg2).rs.res f1)]) (kRow Pg2).rs 300 Tryz.f15 [.one ((kRow Fr).av k)]=commH_T f0 f1 k:=by kernel_rfl
theorem commH_sat (f0:Pg2->Fr->Pg2) (f1:Pg2) (k:Fr):(commH_T f0 f1 k).sat fun q=>q=some (commH_G f0 f1 k):=(show some _=some _ from rfl)
def commH (k:Fr):Pg2:=commH_G times2R gen2R k
theorem commH_ok:CallOk Tryz.prog 15 (K1 (kRow Fr).arg (kRow Pg2).rs.res commH) :=
 P1 (En_ok (.cons times2R_ok (.cons gen2R_ok .nil))) Tryz.func15 (bodied Tryz.func15 (by kernel_rfl) (by kernel_rfl)) 300 (kRow Fr) (kRow Pg2).rs commH (commH_run times2R gen2R) (commH_sat times2R gen2R)
noncomputable abbrev poC:List Code:=flat (codeOf Tryz.f21)
noncomputable abbrev poE (hF:Fr->Pg2) (oF:UInt64->Fr) (gF:Fr->Pg1) (mF:Fr->Fr->Fr):Env:=En [(15,K1 (kRow Fr).arg kg2.rs.res hF),(12,K1 kU64.arg r4.res oF),(13,K1 (kRow Fr).arg kg1.rs.res gF),(14,Kr2 mF)]
abbrev oPow:Out (List Pg1 × Pg2):=outHd .g1 Pg2 46
def powZ:List Cell := .nils :: (zeros 24 ++ [.ff])
def poSt (x k:Fr) (t:Pg2) (n z:Int) (c:Nat) (l:List Pg1):St:=mkSt 28 [(1,vI n),(2,ptrV 0),(4,ptrV 1),(5,ptrV 2),(6,ptrV 3),(7,vI z)] [own 24 (Row.cs x),own 35 powZ,own 35 (.slc 4 0 c 13 (.of 0) false :: Row.cs t),own 24 (Row.cs k),.live ⟨true,46,13,.rows .g1 l,false⟩]
theorem po_start (hF:Fr->Pg2) (oF:UInt64->Fr) (gF:Fr->Pg1) (mF:Fr->Fr->Fr) (x:Fr) (n:Int):stageN (poE hF oF gF mF) 100 (poC.take 4) (startSt Tryz.f21 [v4 x,vI n] []) [1,2,4,5,6,7] [0,1,2,3] [(1,.as),(2,.as),(4,.as),(5,.as),(6,.as),(7,.int)] [] [] [(2,0,46,.rows .g1)]=(.leaf (mkSt 28 [(1,.one (.c (.int .i64 (n)))),(2,.one (.c (.ptr 0 0))),(4,.one (.c (.ptr 1 0))),(5,.one (.c (.ptr 2 0))),(6,.one (.c (.ptr 3 0))),(7,.one (.c (.int .i64 0)))] [.live ⟨true,24,0,(.row (Row.cs (x:Fr))),false⟩,.live ⟨true,35,0,(.row [.nils,(.lit .u64 0),(.lit .u64 0),(.lit .u64 0),(.lit .u64 0),(.lit .u64 0),(.lit .u64 0),(.lit .u64 0),(.lit .u64 0),(.lit .u64 0),(.lit .u64 0),(.lit .u64 0),(.lit .u64 0),(.lit .u64 0),(.lit .u64 0),(.lit .u64 0),(.lit .u64 0),(.lit .u64 0),(.lit .u64 0),(.lit .u64 0),(.lit .u64 0),(.lit .u64 0),(.lit .u64 0),(.lit .u64 0),(.lit .u64 0),.ff]),false⟩,.live ⟨true,35,0,(.row [(.slc 4 0 0 13 (.of 0) false),(.u64 ((hF x).x.c0.l0)),(.u64 ((hF x).x.c0.l1)),(.u64 ((hF x).x.c0.l2)),(.u64 ((hF x).x.c0.l3)),(.u64 ((hF x).x.c0.l4)),(.u64 ((hF x).x.c0.l5)),(.u64 ((hF x).x.c1.l0)),(.u64 ((hF x).x.c1.l1)),(.u64 ((hF x).x.c1.l2)),(.u64 ((hF x).x.c1.l3)),(.u64 ((hF x).x.c1.l4)),(.u64 ((hF x).x.c1.l5)),(.u64 ((hF x).y.c0.l0)),(.u64 ((hF x).y.c0.l1)),(.u64 ((hF x).y.c0.l2)),(.u64 ((hF x).y.c0.l3)),(.u64 ((hF x).y.c0.l4)),(.u64 ((hF x).y.c0.l5)),(.u64 ((hF x).y.c1.l0)),(.u64 ((hF x).y.c1.l1)),(.u64 ((hF x).y.c1.l2)),(.u64 ((hF x).y.c1.l3)),(.u64 ((hF x).y.c1.l4)),(.u64 ((hF x).y.c1.l5)),(.bool ((hF x).inf))]),false⟩,.live ⟨true,24,0,(.row (Row.cs (oF (UInt64.ofNat 1):Fr))),false⟩,.live ⟨true,46,13,(.rows .g1 ([]:List Pg1)),false⟩])):=by kernel_rfl
theorem po_round (hF:Fr->Pg2) (oF:UInt64->Fr) (gF:Fr->Pg1) (mF:Fr->Fr->Fr) (x k:Fr) (t:Pg2) (n z:Int) (c:Nat) (l:List Pg1):roundP (poE hF oF gF mF) 300 (loopAt Tryz.f21 0) (poSt x k t n z c l) (followingB [1,2,4,5,6,7] [0,1,2,3] [] [2])=(.br (decide (z<n)) (.vc ((0+c*13<=(rowsC RK.g1 l).length/\0=0)/\c+1<=9223372036854775807/\(c+1)*104<=140737488355328) (.leaf ((.normal,mkSt 28 [(1,.one (.c (.int .i64 (n)))),(2,.one (.c (.ptr 0 0))),(4,.one (.c (.ptr 1 0))),(5,.one (.c (.ptr 2 0))),(6,.one (.c (.ptr 3 0))),(7,.one (.c (.int .i64 (IntKind.i64.wrap (z+1)))))] [.live ⟨true,24,0,(.row (Row.cs (x:Fr))),false⟩,.live ⟨true,35,0,(.row [.nils,(.lit .u64 0),(.lit .u64 0),(.lit .u64 0),(.lit .u64 0),(.lit .u64 0),(.lit .u64 0),(.lit .u64 0),(.lit .u64 0),(.lit .u64 0),(.lit .u64 0),(.lit .u64 0),(.lit .u64 0),(.lit .u64 0),(.lit .u64 0),(.lit .u64 0),(.lit .u64 0),(.lit .u64 0),(.lit .u64 0),(.lit .u64 0),(.lit .u64 0),(.lit .u64 0),(.lit .u64 0),(.lit .u64 0),(.lit .u64 0),.ff]),false⟩,.live ⟨true,35,0,(.row [(.slc 4 0 (c+1) 13 (.of 0) false),(.u64 (t.x.c0.l0)),(.u64 (t.x.c0.l1)),(.u64 (t.x.c0.l2)),(.u64 (t.x.c0.l3)),(.u64 (t.x.c0.l4)),(.u64 (t.x.c0.l5)),(.u64 (t.x.c1.l0)),(.u64 (t.x.c1.l1)),(.u64 (t.x.c1.l2)),(.u64 (t.x.c1.l3)),(.u64 (t.x.c1.l4)),(.u64 (t.x.c1.l5)),(.u64 (t.y.c0.l0)),(.u64 (t.y.c0.l1)),(.u64 (t.y.c0.l2)),(.u64 (t.y.c0.l3)),(.u64 (t.y.c0.l4)),(.u64 (t.y.c0.l5)),(.u64 (t.y.c1.l0)),(.u64 (t.y.c1.l1)),(.u64 (t.y.c1.l2)),(.u64 (t.y.c1.l3)),(.u64 (t.y.c1.l4)),(.u64 (t.y.c1.l5)),(.bool (t.inf))]),false⟩,.live ⟨true,24,0,(.row (Row.cs (mF k x:Fr))),false⟩,.live ⟨true,46,13,(.rows .g1 (List.take (mulNn c (13 / 13)) (List.drop 0 l) ++ [gF k]:List Pg1)),false⟩])))) (.leaf ((.exit 0,mkSt 28 [(1,.one (.c (.int .i64 (n)))),(2,.one (.c (.ptr 0 0))),(4,.one (.c (.ptr 1 0))),(5,.one (.c (.ptr 2 0))),(6,.one (.c (.ptr 3 0))),(7,.one (.c (.int .i64 (z))))] [.live ⟨true,24,0,(.row (Row.cs (x:Fr))),false⟩,.live ⟨true,35,0,(.row [.nils,(.lit .u64 0),(.lit .u64 0),(.lit .u64 0),(.lit .u64 0),(.lit .u64 0),(.lit .u64 0),(.lit .u64 0),(.lit .u64 0),(.lit .u64 0),(.lit .u64 0),(.lit .u64 0),(.lit .u64 0),(.lit .u64 0),(.lit .u64 0),(.lit .u64 0),(.lit .u64 0),(.lit .u64 0),(.lit .u64 0),(.lit .u64 0),(.lit .u64 0),(.lit .u64 0),(.lit .u64 0),(.lit .u64 0),(.lit .u64 0),.ff]),false⟩,.live ⟨true,35,0,(.row [(.slc 4 0 (c) 13 (.of 0) false),(.u64 (t.x.c0.l0)),(.u64 (t.x.c0.l1)),(.u64 (t.x.c0.l2)),(.u64 (t.x.c0.l3)),(.u64 (t.x.c0.l4)),(.u64 (t.x.c0.l5)),(.u64 (t.x.c1.l0)),(.u64 (t.x.c1.l1)),(.u64 (t.x.c1.l2)),(.u64 (t.x.c1.l3)),(.u64 (t.x.c1.l4)),(.u64 (t.x.c1.l5)),(.u64 (t.y.c0.l0)),(.u64 (t.y.c0.l1)),(.u64 (t.y.c0.l2)),(.u64 (t.y.c0.l3)),(.u64 (t.y.c0.l4)),(.u64 (t.y.c0.l5)),(.u64 (t.y.c1.l0)),(.u64 (t.y.c1.l1)),(.u64 (t.y.c1.l2)),(.u64 (t.y.c1.l3)),(.u64 (t.y.c1.l4)),(.u64 (t.y.c1.l5)),(.bool (t.inf))]),false⟩,.live ⟨true,24,0,(.row (Row.cs (k:Fr))),false⟩,.live ⟨true,46,13,(.rows .g1 (l:List Pg1)),false⟩])))):=by kernel_rfl
theorem po_end (hF:Fr->Pg2) (oF:UInt64->Fr) (gF:Fr->Pg1) (mF:Fr->Fr->Fr) (x k:Fr) (t:Pg2) (n z:Int) (c:Nat) (l:List Pg1):endT (poE hF oF gF mF) oPow 100 Tryz.f21 (poC.drop 5) (poSt x k t n z c l)=(.leaf (some (((List.take c l,t),(.p (c<=l.length)))))):=by kernel_rfl
end
set_option maxRecDepth 100000
section
section
variable {hF : Fr -> Pg2} {oF : UInt64 -> Fr} {gF : Fr -> Pg1} {mF : Fr -> Fr -> Fr}
def powK (o:Fr) (mF:Fr->Fr->Fr) (x:Fr):Nat->Fr
 | 0=>o
 | n+1=>mF (powK o mF x n) x
theorem powK_succ (o:Fr) (mF:Fr->Fr->Fr) (x:Fr) (n:Nat):powK o mF x (n+1)=mF (powK o mF x n) x:=rfl
def powL (o:Fr) (gF:Fr->Pg1) (mF:Fr->Fr->Fr) (x:Fr) (n:Nat):List Pg1:=(List.range n).map fun i=>gF (powK o mF x i)
theorem powL_len (o:Fr) (gF:Fr->Pg1) (mF:Fr->Fr->Fr) (x:Fr) (n:Nat):(powL o gF mF x n).length=n:=by unfold powL;rw [List.length_map,List.length_range]
theorem powL_succ (o:Fr) (gF:Fr->Pg1) (mF:Fr->Fr->Fr) (x:Fr) (n:Nat):powL o gF mF x (n+1)=powL o gF mF x n ++ [gF (powK o mF x n)]:=by unfold powL;rw [List.range_succ,List.map_append];rfl
theorem po_does (hE:EnvOk (poE hF oF gF mF)) (x:Fr) (n:Nat) (hn:n<65536):DoesL (poE hF oF gF mF) (flat (codeOf Tryz.f21)) (startSt Tryz.f21 [v4 x,vI n] [])
  (EndsAs (poE hF oF gF mF) Tryz.f21 (Reads oPow (powL (oF 1) gF mF x n,hF x))):=by
 have st:=po_start hF oF gF mF x n
 generalize hF x=t at *
 refine DoesL.stageN hE 100 4 _ _ _ _ _ _ st ?_
 refine (?_:DoesL _ _ (poSt x (powK (oF 1) mF x 0) t n ((0:Nat):Int) 0 (powL (oF 1) gF mF x 0)) _)
 refine DoesL.blockLoop (B:=loopAt Tryz.f21 0) (rest:=poC.drop 5) (id:=0) (by kernel_rfl) (fun j : { j:Nat // j<=n }=>poSt x (powK (oF 1) mF x j.1) t n (j.1:Int) j.1 (powL (oF 1) gF mF x j.1)) (fun j=>n-j.1) ⟨0,Nat.zero_le _⟩ fun j => ?_
 obtain ⟨j,hj⟩:=j
 refine (?_:Does _ _ (poSt x (powK (oF 1) mF x j) t n (j:Int) j (powL (oF 1) gF mF x j)) _)
 have hlen:=powL_len (oF 1) gF mF x j
 refine Does.roundP hE 300 _ (po_round hF oF gF mF x (powK (oF 1) mF x j) t n (j:Int) j (powL (oF 1) gF mF x j)) ⟨fun h => ?_,fun h => ?_⟩
 ·simp only [decide_eq_true_eq] at h
  refine ⟨⟨⟨by rw [rowsC_g1,hlen];omega,rfl⟩,by omega,by omega⟩,fun _ => ?_⟩
  refine ⟨⟨j+1,by omega⟩,by show n-(j+1)<n-j;omega,?_⟩
  rw [wrapU j (by omega),wholeAppG1 hlen,<- powL_succ,<- powK_succ (oF 1) mF x j]
  rfl
 ·simp only [decide_eq_false_iff_not] at h
  obtain rfl:j=n:=by omega
  refine ⟨rfl,DoesL.ends hE 100 (po_end hF oF gF mF x _ t _ _ _ _) ?_⟩
  rw [List.take_of_length_le (Nat.le_of_eq hlen)]
  exact ⟨_,rfl,Nat.le_of_eq hlen.symm⟩
end
def fewI (i:Int):Prop:=0<=i/\i<65536
def powsF (x:Fr) (n:Int):List Pg1 × Pg2:=(powL (ofRF 1) commG mulRF x n.toNat,commH x)
theorem powsF_ok:CallOk Tryz.prog 21 (K2 (kRow Fr).arg (kInt.arg.such fewI) oPow.res powsF) :=
 G2 (E:=poE commH ofRF commG mulRF) Tryz.func21 (c:=codeOf Tryz.f21) (by kernel_rfl) (bodied Tryz.func21 (by kernel_rfl) (by kernel_rfl)) (kRow Fr).inp (kInt.inp.such fewI) oPow powsF fun x n _ hn=>by
  obtain ⟨h1,h2⟩:fewI n:=hn.2
  obtain ⟨m,rfl⟩ : ∃ m:Nat,n=(m:Int):=⟨n.toNat,by omega⟩
  exact po_does (En_ok (.cons commH_ok (.cons ofRF_ok (.cons commG_ok (.cons mulR_ok .nil))))) x m (by omega)
abbrev fewP (p:List Pg1 × Pg2):Prop:=few p.1
abbrev aPow:Arg (List Pg1 × Pg2):=(argHd .g1 Pg2).such fewP
abbrev iPow:Inp (List Pg1 × Pg2):=(inpHd .g1 Pg2).such fewP
theorem wholeG1 (f:List Pg1):List.take f.length (List.drop 0 f)=f:=wholeTakeG1 rfl
theorem vcFewG {f:List Pg1} (h:few f):(0+f.length*13<=(rowsC RK.g1 f).length/\0=0/\f.length<1125899906842624/\0=0/\13=13)/\few (List.take f.length (List.drop 0 f)):=by
 rw [wholeG1]
 exact ⟨vcAllG1 (Nat.lt_of_lt_of_le h (by decide)),h⟩
end
set_option maxRecDepth 100000
section
theorem mulPR_v {a b:Fr} (ha:a.ok) (hb:b.ok):(mulPR a b).ok/\(mulPR a b).v=a.v*b.v:=by
 rw [mulPR_eq ha hb]
 exact mulR_v ha hb
section
variable {aF mF : Fr -> Fr -> Fr}
section
variable (hA : ∀ {a b : Fr}, a.ok -> b.ok -> (aF a b).ok /\ (aF a b).v = a.v + b.v) (hM : ∀ {a b : Fr}, a.ok -> b.ok -> (mF a b).ok /\ (mF a b).v = a.v * b.v)
include hA hM
end
end
end
set_option maxRecDepth 100000
section
theorem check_val {a w:Pg1} {q t:Pg2} {A W T:VR} (ha:At1 a A) (hw:At1 w W) (hq:At2 q 1) (ht:At2 t T):prCheck [⟨a,q⟩,⟨negG1 w,t⟩]=true <-> A=W*T:=by
 have hn:=at1_neg hw
 have hd : ∀ x ∈ [(⟨a,q⟩:Duo),⟨negG1 w,t⟩],DuoP x:=fun x hx=>by
  rcases List.mem_cons.1 hx with rfl | hx
  ·exact ⟨ha.in1,hq.in2⟩
  ·rcases List.mem_cons.1 hx with rfl | hx
   ·exact ⟨hn.in1,ht.in2⟩
   ·exact (List.not_mem_nil hx).elim
 rw [prCheck_w (by show 2<=20;decide) hd,prL_cons,prL_cons,prL_nil,mOne]
 simp only []
 rw [ha.pt,hq.pt,hn.pt,ht.pt,prV_gh,prV_gh,<- em_add,em_one_iff]
 constructor
 ·intro h
  have:A*1 + -W*T=A-W*T:=by grind
  rw [this] at h
  grind
 ·intro h
  rw [h]
  grind
end
set_option maxRecDepth 100000
section
theorem commG_def (f0:Pg1->Fr->Pg1) (f1:Pg1) (k:Fr):commG_G f0 f1 k=f0 f1 k:=rfl
theorem commG_eq (k:Fr):commG k=times1R gen1R k:=by unfold commG;exact commG_def _ _ _
theorem commH_def (f0:Pg2->Fr->Pg2) (f1:Pg2) (k:Fr):commH_G f0 f1 k=f0 f1 k:=rfl
theorem commH_eq (k:Fr):commH k=times2R gen2R k:=by unfold commH;exact commH_def _ _ _
theorem VR.one_mul (x:VR):1*x=x:=by grind
theorem at1_comm {k:Fr} (hk:k.ok):At1 (commG k) k.v:=by
 have:=at1_times at1_gen hk
 rw [VR.one_mul,<- commG_eq] at this
 exact this
theorem at2_comm {k:Fr} (hk:k.ok):At2 (commH k) k.v:=by
 obtain ⟨h1,h2⟩:=times2R_pt at2_gen.good k
 rw [commH_eq]
 refine ⟨h1,?_⟩
 rw [h2,at2_gen.pt,hm_one]
 unfold hm
 rw [Fr.v_nat hk]
theorem ofR_one:ofRF 1=oneFr:=rfl
theorem powK_v {x:Fr} (hx:x.ok) : ∀ n,(powK (ofRF 1) mulRF x n).ok/\(powK (ofRF 1) mulRF x n).v=x.v ^ n
 | 0=>by
  show (ofRF 1).ok/\(ofRF 1).v=x.v ^ 0
  rw [ofR_one,pow_zero',v_oneFr]
  exact ⟨oneFr_ok,rfl⟩
 | n+1=>by
  obtain ⟨h1,h2⟩:=powK_v hx n
  obtain ⟨m1,m2⟩:=mulR_v h1 hx
  rw [powK_succ]
  refine ⟨m1,?_⟩
  rw [m2,h2,pow_succ',CR.mul_comm]
theorem powsF_fst (x:Fr) (n:Nat):(powsF x n).1=powL (ofRF 1) commG mulRF x n:=by simp only [powsF,Int.toNat_natCast]
theorem powsF_snd (x:Fr) (n:Nat):(powsF x n).2=commH x:=by simp only [powsF]
theorem getD_range {α:Type} (g:Nat->α) (d:α) {n i:Nat} (hi:i<n):((List.range n).map g).getD i d=g i:=by
 rw [List.getD_eq_getElem?_getD,List.getElem?_map,List.getElem?_range hi]
 rfl
theorem powsF_at {x:Fr} (hx:x.ok) (n:Nat) {i:Nat} (hi:i<n):At1 ((powsF x n).1.getD i pg10) (x.v ^ i):=by
 rw [powsF_fst]
 unfold powL
 rw [getD_range _ pg10 hi]
 obtain ⟨h1,h2⟩:=powK_v hx i
 have:=at1_comm h1
 rw [h2] at this
 exact this
theorem VR.move (c y w z t:VR):c-y+w*z=w*t <-> c-y=w*(t-z):=by
 constructor
 ·intro h
  grind
 ·intro h
  grind
end
set_option maxRecDepth 100000
section
abbrev oMk:Out ((List Pg1 × Pg2) × Int):=outHdT .g1 Pg2 kInt 46
def pwV (i:Nat) (p:List Pg1 × Pg2):AV := .one (.agg (.slc i 0 p.1.length 13 (.of 0) false :: Row.cs p.2))
def ownPw (i:Nat) (p:List Pg1 × Pg2):HE:=own 35 (.slc i 0 p.1.length 13 (.of 0) false :: Row.cs p.2)
noncomputable abbrev mkC:List Code:=flat (codeOf Tryz.f9)
noncomputable abbrev mkE (o2:Pg2) (m2:Pg2->Fr->Pg2) (oF:UInt64->Fr) (o1:Pg1) (m1:Pg1->Fr->Pg1) (mF:Fr->Fr->Fr):Env:=En [(27,K0 kg2.rs.res o2),(26,K2 kg2.arg (kRow Fr).arg kg2.rs.res m2),(28,K1 kU64.arg r4.res oF),(30,K0 kg1.rs.res o1),(29,K2 kg1.arg (kRow Fr).arg kg1.rs.res m1),(31,Kr2 mF)]
def mkS1 (x:Fr) (n:Int):St:=mkSt 40 [(1,vI n),(2,ptrV 0),(4,ptrV 1),(5,vI 0)] [own 24 (Row.cs x),own 35 powZ]
def mkS (x k:Fr) (t:Pg2) (n z:Int) (c:Nat) (l:List Pg1):St:=mkSt 40 [(2,ptrV 0),(4,ptrV 1),(5,vI 0),(6,ptrV 2),(7,ptrV 3),(24,vI n),(25,vI z)] [own 24 (Row.cs x),own 35 powZ,own 35 (.slc 4 0 c 13 (.of 0) false :: Row.cs t),own 24 (Row.cs k),.live ⟨true,46,13,.rows .g1 l,false⟩]
theorem mk_seg (o2:Pg2) (m2:Pg2->Fr->Pg2) (oF:UInt64->Fr) (o1:Pg1) (m1:Pg1->Fr->Pg1) (mF:Fr->Fr->Fr) (x:Fr) (n:Int):letI za':Fp := { l0:=UInt64.ofNat 0,l1:=UInt64.ofNat 0,l2:=UInt64.ofNat 0,l3:=UInt64.ofNat 0,l4:=UInt64.ofNat 0,l5:=UInt64.ofNat 0 };segT (mkE o2 m2 oF o1 m1 mF) oMk 300 Tryz.f9 (mkC.take 2) (startSt Tryz.f9 [v4 x,vI n] []) [1,2,4,5] [0,1] [(1,.as),(2,.as),(4,.as),(5,.int)] [] []=(.br (decide (n<2)) (.leaf (.inr (some (((([],{ x := { c0:=za',c1:=za' },y := { c0:=za',c1:=za' },inf:=false }),1),.t))))) (.br (decide (n > 80)) (.leaf (.inr (some (((([],{ x := { c0:=za',c1:=za' },y := { c0:=za',c1:=za' },inf:=false }),1),.t))))) (.br (frEq (x) ({ l0:=UInt64.ofNat 0,l1:=UInt64.ofNat 0,l2:=UInt64.ofNat 0,l3:=UInt64.ofNat 0 })) (.leaf (.inr (some (((([],{ x := { c0:=za',c1:=za' },y := { c0:=za',c1:=za' },inf:=false }),7),.t))))) (.leaf (.inl (mkSt 40 [(1,.one (.c (.int .i64 (n)))),(2,.one (.c (.ptr 0 0))),(4,.one (.c (.ptr 1 0))),(5,.one (.c (.int .i64 0)))] [.live ⟨true,24,0,(.row (Row.cs (x:Fr))),false⟩,.live ⟨true,35,0,(.row [.nils,(.lit .u64 0),(.lit .u64 0),(.lit .u64 0),(.lit .u64 0),(.lit .u64 0),(.lit .u64 0),(.lit .u64 0),(.lit .u64 0),(.lit .u64 0),(.lit .u64 0),(.lit .u64 0),(.lit .u64 0),(.lit .u64 0),(.lit .u64 0),(.lit .u64 0),(.lit .u64 0),(.lit .u64 0),(.lit .u64 0),(.lit .u64 0),(.lit .u64 0),(.lit .u64 0),(.lit .u64 0),(.lit .u64 0),(.lit .u64 0),.ff]),false⟩])))))):=by kernel_rfl
theorem mk_start (o2:Pg2) (m2:Pg2->Fr->Pg2) (oF:UInt64->Fr) (o1:Pg1) (m1:Pg1->Fr->Pg1) (mF:Fr->Fr->Fr) (x:Fr) (n:Int):stageN (mkE o2 m2 oF o1 m1 mF) 100 ((mkC.drop 2).take 3) (mkS1 x n) [2,4,5,6,7,24,25] [0,1,2,3] [(2,.as),(4,.as),(5,.as),(6,.as),(7,.as),(24,.as),(25,.int)] [] [] [(2,0,46,.rows .g1)]=(.leaf (mkSt 40 [(2,.one (.c (.ptr 0 0))),(4,.one (.c (.ptr 1 0))),(5,.one (.c (.int .i64 0))),(6,.one (.c (.ptr 2 0))),(7,.one (.c (.ptr 3 0))),(24,.one (.c (.int .i64 (n)))),(25,.one (.c (.int .i64 0)))] [.live ⟨true,24,0,(.row (Row.cs (x:Fr))),false⟩,.live ⟨true,35,0,(.row [.nils,(.lit .u64 0),(.lit .u64 0),(.lit .u64 0),(.lit .u64 0),(.lit .u64 0),(.lit .u64 0),(.lit .u64 0),(.lit .u64 0),(.lit .u64 0),(.lit .u64 0),(.lit .u64 0),(.lit .u64 0),(.lit .u64 0),(.lit .u64 0),(.lit .u64 0),(.lit .u64 0),(.lit .u64 0),(.lit .u64 0),(.lit .u64 0),(.lit .u64 0),(.lit .u64 0),(.lit .u64 0),(.lit .u64 0),(.lit .u64 0),.ff]),false⟩,.live ⟨true,35,0,(.row [(.slc 4 0 0 13 (.of 0) false),(.u64 ((m2 o2 x).x.c0.l0)),(.u64 ((m2 o2 x).x.c0.l1)),(.u64 ((m2 o2 x).x.c0.l2)),(.u64 ((m2 o2 x).x.c0.l3)),(.u64 ((m2 o2 x).x.c0.l4)),(.u64 ((m2 o2 x).x.c0.l5)),(.u64 ((m2 o2 x).x.c1.l0)),(.u64 ((m2 o2 x).x.c1.l1)),(.u64 ((m2 o2 x).x.c1.l2)),(.u64 ((m2 o2 x).x.c1.l3)),(.u64 ((m2 o2 x).x.c1.l4)),(.u64 ((m2 o2 x).x.c1.l5)),(.u64 ((m2 o2 x).y.c0.l0)),(.u64 ((m2 o2 x).y.c0.l1)),(.u64 ((m2 o2 x).y.c0.l2)),(.u64 ((m2 o2 x).y.c0.l3)),(.u64 ((m2 o2 x).y.c0.l4)),(.u64 ((m2 o2 x).y.c0.l5)),(.u64 ((m2 o2 x).y.c1.l0)),(.u64 ((m2 o2 x).y.c1.l1)),(.u64 ((m2 o2 x).y.c1.l2)),(.u64 ((m2 o2 x).y.c1.l3)),(.u64 ((m2 o2 x).y.c1.l4)),(.u64 ((m2 o2 x).y.c1.l5)),(.bool ((m2 o2 x).inf))]),false⟩,.live ⟨true,24,0,(.row (Row.cs (oF (UInt64.ofNat 1):Fr))),false⟩,.live ⟨true,46,13,(.rows .g1 ([]:List Pg1)),false⟩])):=by kernel_rfl
theorem mk_round (o2:Pg2) (m2:Pg2->Fr->Pg2) (oF:UInt64->Fr) (o1:Pg1) (m1:Pg1->Fr->Pg1) (mF:Fr->Fr->Fr) (x k:Fr) (t:Pg2) (n z:Int) (c:Nat) (l:List Pg1):roundP (mkE o2 m2 oF o1 m1 mF) 300 (loopAt Tryz.f9 0) (mkS x k t n z c l) (followingB [2,4,5,6,7,24,25] [0,1,2,3] [] [2])=(.br (decide (z<n)) (.vc ((0+c*13<=(rowsC RK.g1 l).length/\0=0)/\c+1<=9223372036854775807/\(c+1)*104<=140737488355328) (.leaf ((.normal,mkSt 40 [(2,.one (.c (.ptr 0 0))),(4,.one (.c (.ptr 1 0))),(5,.one (.c (.int .i64 0))),(6,.one (.c (.ptr 2 0))),(7,.one (.c (.ptr 3 0))),(24,.one (.c (.int .i64 (n)))),(25,.one (.c (.int .i64 (IntKind.i64.wrap (z+1)))))] [.live ⟨true,24,0,(.row (Row.cs (x:Fr))),false⟩,.live ⟨true,35,0,(.row [.nils,(.lit .u64 0),(.lit .u64 0),(.lit .u64 0),(.lit .u64 0),(.lit .u64 0),(.lit .u64 0),(.lit .u64 0),(.lit .u64 0),(.lit .u64 0),(.lit .u64 0),(.lit .u64 0),(.lit .u64 0),(.lit .u64 0),(.lit .u64 0),(.lit .u64 0),(.lit .u64 0),(.lit .u64 0),(.lit .u64 0),(.lit .u64 0),(.lit .u64 0),(.lit .u64 0),(.lit .u64 0),(.lit .u64 0),(.lit .u64 0),.ff]),false⟩,.live ⟨true,35,0,(.row [(.slc 4 0 (c+1) 13 (.of 0) false),(.u64 (t.x.c0.l0)),(.u64 (t.x.c0.l1)),(.u64 (t.x.c0.l2)),(.u64 (t.x.c0.l3)),(.u64 (t.x.c0.l4)),(.u64 (t.x.c0.l5)),(.u64 (t.x.c1.l0)),(.u64 (t.x.c1.l1)),(.u64 (t.x.c1.l2)),(.u64 (t.x.c1.l3)),(.u64 (t.x.c1.l4)),(.u64 (t.x.c1.l5)),(.u64 (t.y.c0.l0)),(.u64 (t.y.c0.l1)),(.u64 (t.y.c0.l2)),(.u64 (t.y.c0.l3)),(.u64 (t.y.c0.l4)),(.u64 (t.y.c0.l5)),(.u64 (t.y.c1.l0)),(.u64 (t.y.c1.l1)),(.u64 (t.y.c1.l2)),(.u64 (t.y.c1.l3)),(.u64 (t.y.c1.l4)),(.u64 (t.y.c1.l5)),(.bool (t.inf))]),false⟩,.live ⟨true,24,0,(.row (Row.cs (mF k x:Fr))),false⟩,.live ⟨true,46,13,(.rows .g1 (List.take (mulNn c (13 / 13)) (List.drop 0 l) ++ [m1 o1 k]:List Pg1)),false⟩])))) (.leaf ((.exit 1,mkSt 40 [(2,.one (.c (.ptr 0 0))),(4,.one (.c (.ptr 1 0))),(5,.one (.c (.int .i64 0))),(6,.one (.c (.ptr 2 0))),(7,.one (.c (.ptr 3 0))),(24,.one (.c (.int .i64 (n)))),(25,.one (.c (.int .i64 (z))))] [.live ⟨true,24,0,(.row (Row.cs (x:Fr))),false⟩,.live ⟨true,35,0,(.row [.nils,(.lit .u64 0),(.lit .u64 0),(.lit .u64 0),(.lit .u64 0),(.lit .u64 0),(.lit .u64 0),(.lit .u64 0),(.lit .u64 0),(.lit .u64 0),(.lit .u64 0),(.lit .u64 0),(.lit .u64 0),(.lit .u64 0),(.lit .u64 0),(.lit .u64 0),(.lit .u64 0),(.lit .u64 0),(.lit .u64 0),(.lit .u64 0),(.lit .u64 0),(.lit .u64 0),(.lit .u64 0),(.lit .u64 0),(.lit .u64 0),.ff]),false⟩,.live ⟨true,35,0,(.row [(.slc 4 0 (c) 13 (.of 0) false),(.u64 (t.x.c0.l0)),(.u64 (t.x.c0.l1)),(.u64 (t.x.c0.l2)),(.u64 (t.x.c0.l3)),(.u64 (t.x.c0.l4)),(.u64 (t.x.c0.l5)),(.u64 (t.x.c1.l0)),(.u64 (t.x.c1.l1)),(.u64 (t.x.c1.l2)),(.u64 (t.x.c1.l3)),(.u64 (t.x.c1.l4)),(.u64 (t.x.c1.l5)),(.u64 (t.y.c0.l0)),(.u64 (t.y.c0.l1)),(.u64 (t.y.c0.l2)),(.u64 (t.y.c0.l3)),(.u64 (t.y.c0.l4)),(.u64 (t.y.c0.l5)),(.u64 (t.y.c1.l0)),(.u64 (t.y.c1.l1)),(.u64 (t.y.c1.l2)),(.u64 (t.y.c1.l3)),(.u64 (t.y.c1.l4)),(.u64 (t.y.c1.l5)),(.bool (t.inf))]),false⟩,.live ⟨true,24,0,(.row (Row.cs (k:Fr))),false⟩,.live ⟨true,46,13,(.rows .g1 (l:List Pg1)),false⟩])))):=by kernel_rfl
theorem mk_end (o2:Pg2) (m2:Pg2->Fr->Pg2) (oF:UInt64->Fr) (o1:Pg1) (m1:Pg1->Fr->Pg1) (mF:Fr->Fr->Fr) (x k:Fr) (t:Pg2) (n z:Int) (c:Nat) (l:List Pg1):endT (mkE o2 m2 oF o1 m1 mF) oMk 100 Tryz.f9 (mkC.drop 6) (mkS x k t n z c l)=(.leaf (some ((((List.take c l,t),0),(.p (c<=l.length)))))):=by kernel_rfl
noncomputable abbrev sdC:List Code:=flat (codeOf Tryz.f32)
noncomputable abbrev sdE (i1:Pg1->Bool) (i2:Pg2->Bool):Env:=En [(61,K1 kg1.arg kBool.rs.res i1),(62,K1 kg2.arg kBool.rs.res i2)]
def sdS (p:List Pg1 × Pg2) (b:Bool) (z:Int):St:=mkSt 32 [(1,ptrV 1),(2,vI 0),(3,.one (kBool.av b)),(10,rwV .g1 0 p.1),(11,vI (p.1.length:Int)),(12,vI z)] [rwHE .g1 p.1,ownPw 0 p]
theorem sd_start (i1:Pg1->Bool) (i2:Pg2->Bool) (p:List Pg1 × Pg2):stageG (sdE i1 i2) 100 (sdC.take 3) (startSt Tryz.f32 [pwV 0 p] [rwHE .g1 p.1]) [1,2,3,10,11,12] [0,1] [(1,.as),(2,.int),(3,.bool),(10,.as),(11,.as),(12,.int)] [.as,.as] []=(.vc (0+p.fst.length*13<=(rowsC RK.g1 p.fst).length/\0<13) (.leaf (mkSt 32 [(1,.one (.c (.ptr 1 0))),(2,.one (.c (.int .i64 0))),(3,.one (.c (.bool (p.snd.inf)))),(10,.one (.c (.slc 0 0 (p.fst.length) 13 (.of 0) false))),(11,.one (.c (.int .i64 ((↑p.fst.length:Int))))),(12,.one (.c (.int .i64 0)))] [.live ⟨false,0,13,(.rows .g1 (p.fst:List Pg1)),false⟩,.live ⟨true,35,0,(.row [(.slc 0 0 (p.fst.length) 13 (.of 0) false),(.u64 (p.snd.x.c0.l0)),(.u64 (p.snd.x.c0.l1)),(.u64 (p.snd.x.c0.l2)),(.u64 (p.snd.x.c0.l3)),(.u64 (p.snd.x.c0.l4)),(.u64 (p.snd.x.c0.l5)),(.u64 (p.snd.x.c1.l0)),(.u64 (p.snd.x.c1.l1)),(.u64 (p.snd.x.c1.l2)),(.u64 (p.snd.x.c1.l3)),(.u64 (p.snd.x.c1.l4)),(.u64 (p.snd.x.c1.l5)),(.u64 (p.snd.y.c0.l0)),(.u64 (p.snd.y.c0.l1)),(.u64 (p.snd.y.c0.l2)),(.u64 (p.snd.y.c0.l3)),(.u64 (p.snd.y.c0.l4)),(.u64 (p.snd.y.c0.l5)),(.u64 (p.snd.y.c1.l0)),(.u64 (p.snd.y.c1.l1)),(.u64 (p.snd.y.c1.l2)),(.u64 (p.snd.y.c1.l3)),(.u64 (p.snd.y.c1.l4)),(.u64 (p.snd.y.c1.l5)),(.bool (p.snd.inf))]),false⟩]))):=by kernel_rfl
theorem sd_round (i1:Pg1->Bool) (i2:Pg2->Bool) (p:List Pg1 × Pg2) (b:Bool) (z:Int):letI za':=(↑p.fst.length:Int);letI zb':=p.fst.length;letI zc':=p.fst.getD (0+z.toNat) pg10;letI zd':=p.snd.x.c0.l0;letI ze':=p.snd.x.c0.l1;letI zf':=p.snd.x.c0.l2;letI zg':=p.snd.x.c0.l3;letI zh':=p.snd.x.c0.l4;letI zi':=p.snd.x.c0.l5;letI zj':=p.snd.x.c1.l0;letI zk':=p.snd.x.c1.l1;letI zl':=p.snd.x.c1.l2;letI zm':=p.snd.x.c1.l3;letI zn':=p.snd.x.c1.l4;letI zo':=p.snd.x.c1.l5;letI zp':=p.snd.y.c0.l0;letI zq':=p.snd.y.c0.l1;letI zr':=p.snd.y.c0.l2;letI zs':=p.snd.y.c0.l3;letI zt':=p.snd.y.c0.l4;letI zu':=p.snd.y.c0.l5;letI zv':=p.snd.y.c1.l0;letI zw':=p.snd.y.c1.l1;letI zx':=p.snd.y.c1.l2;letI zy':=p.snd.y.c1.l3;letI zz':=p.snd.y.c1.l4;letI z0':=p.snd.y.c1.l5;letI z1':=IntKind.i64.wrap (z+1);iterL (sdE i1 i2) oI 300 Tryz.f32 [loopAt Tryz.f32 0] (sdS p b z) [1,2,3,10,11,12] [0,1] [(1,.as),(2,.as),(3,.bool),(10,.as),(11,.as),(12,.as)] [.as,.as]=(.br (decide (z<za')) (.vc ((0<=z/\z<za')/\0+p.fst.length*13<=(rowsC RK.g1 p.fst).length/\0<13/\0=0) (.vc (0+z.toNat<p.fst.length) (.br (!(i1 zc')) (.leaf (.inr (some ((6,.t))))) (.br (b) (.leaf (.inl ((.normal,mkSt 32 [(1,.one (.c (.ptr 1 0))),(2,.one (.c (.int .i64 0))),(3,.one (.c (.bool (true)))),(10,.one (.c (.slc 0 0 zb' 13 (.of 0) false))),(11,.one (.c (.int .i64 (za')))),(12,.one (.c (.int .i64 z1')))] [.live ⟨false,0,13,(.rows .g1 (p.fst:List Pg1)),false⟩,.live ⟨true,35,0,(.row [(.slc 0 0 zb' 13 (.of 0) false),(.u64 zd'),(.u64 ze'),(.u64 zf'),(.u64 zg'),(.u64 zh'),(.u64 zi'),(.u64 zj'),(.u64 zk'),(.u64 zl'),(.u64 zm'),(.u64 zn'),(.u64 zo'),(.u64 zp'),(.u64 zq'),(.u64 zr'),(.u64 zs'),(.u64 zt'),(.u64 zu'),(.u64 zv'),(.u64 zw'),(.u64 zx'),(.u64 zy'),(.u64 zz'),(.u64 z0'),(.bool (p.snd.inf))]),false⟩])))) (.leaf (.inl ((.normal,mkSt 32 [(1,.one (.c (.ptr 1 0))),(2,.one (.c (.int .i64 0))),(3,.one (.c (.bool (zc'.inf)))),(10,.one (.c (.slc 0 0 zb' 13 (.of 0) false))),(11,.one (.c (.int .i64 (za')))),(12,.one (.c (.int .i64 z1')))] [.live ⟨false,0,13,(.rows .g1 (p.fst:List Pg1)),false⟩,.live ⟨true,35,0,(.row [(.slc 0 0 zb' 13 (.of 0) false),(.u64 zd'),(.u64 ze'),(.u64 zf'),(.u64 zg'),(.u64 zh'),(.u64 zi'),(.u64 zj'),(.u64 zk'),(.u64 zl'),(.u64 zm'),(.u64 zn'),(.u64 zo'),(.u64 zp'),(.u64 zq'),(.u64 zr'),(.u64 zs'),(.u64 zt'),(.u64 zu'),(.u64 zv'),(.u64 zw'),(.u64 zx'),(.u64 zy'),(.u64 zz'),(.u64 z0'),(.bool (p.snd.inf))]),false⟩])))))))) (.leaf (.inl ((.exit 0,mkSt 32 [(1,.one (.c (.ptr 1 0))),(2,.one (.c (.int .i64 0))),(3,.one (.c (.bool (b)))),(10,.one (.c (.slc 0 0 zb' 13 (.of 0) false))),(11,.one (.c (.int .i64 (za')))),(12,.one (.c (.int .i64 (z))))] [.live ⟨false,0,13,(.rows .g1 (p.fst:List Pg1)),false⟩,.live ⟨true,35,0,(.row [(.slc 0 0 zb' 13 (.of 0) false),(.u64 zd'),(.u64 ze'),(.u64 zf'),(.u64 zg'),(.u64 zh'),(.u64 zi'),(.u64 zj'),(.u64 zk'),(.u64 zl'),(.u64 zm'),(.u64 zn'),(.u64 zo'),(.u64 zp'),(.u64 zq'),(.u64 zr'),(.u64 zs'),(.u64 zt'),(.u64 zu'),(.u64 zv'),(.u64 zw'),(.u64 zx'),(.u64 zy'),(.u64 zz'),(.u64 z0'),(.bool (p.snd.inf))]),false⟩]))))):=by kernel_rfl
theorem sd_end (i1:Pg1->Bool) (i2:Pg2->Bool) (p:List Pg1 × Pg2) (b:Bool) (z:Int):endT (sdE i1 i2) oI 100 Tryz.f32 (sdC.drop 4) (sdS p b z) =
 (.br (!(i2 p.snd))
  (.leaf (some ((6,.t))))
  (.br (b)
   (.leaf (some ((7,.t))))
   (.leaf (some ((0,.t)))))):=by kernel_rfl
noncomputable abbrev sckC:List Code:=flat (codeOf Tryz.f11)
noncomputable abbrev sckE (sF:List Pg1 × Pg2->Int) (o1:Pg1) (eF:Pg1->Pg1->Bool) (o2:Pg2) (nF:Pg1->Pg1) (cF:List Duo->Bool):Env:=En [(32,K1 aPow kInt.rs.res sF),(30,K0 kg1.rs.res o1),(33,K2 kg1.arg kg1.arg kBool.rs.res eF),(27,K0 kg2.rs.res o2),(35,K1 kg1.arg kg1.rs.res nF),(34,K1 (argRw .duo) kBool.rs.res cF)]
def sckS (p:List Pg1 × Pg2) (z:Int):St:=mkSt 54 [(1,ptrV 1),(2,vI 0),(4,vI z)] [rwHE .g1 p.1,ownPw 0 p]
theorem sck_start (sF:List Pg1 × Pg2->Int) (o1:Pg1) (eF:Pg1->Pg1->Bool) (o2:Pg2) (nF:Pg1->Pg1) (cF:List Duo->Bool) (p:List Pg1 × Pg2):letI za':=0+p.fst.length*13<=(rowsC RK.g1 p.fst).length/\0<13;letI zb':=List.drop 0 p.fst;letI zc':=(↑p.fst.length:Int);segT (sckE sF o1 eF o2 nF cF) oI 300 Tryz.f11 (sckC.take 9) (startSt Tryz.f11 [pwV 0 p] [rwHE .g1 p.1]) [1,2,4] [0,1] [(1,.as),(2,.int),(4,.int)] [.as,.as] []=(.vc za' (.br (decide (zc'<2)) (.leaf (.inr (some ((1,.t))))) (.vc za' (.br (decide (zc' > 80)) (.leaf (.inr (some ((1,.t))))) (.vc ((0+p.fst.length*13<=(rowsC RK.g1 p.fst).length/\0=0/\p.fst.length<1125899906842624/\0=0/\13=13)/\fewP (List.take p.fst.length zb',p.snd)) (.br (sF (List.take p.fst.length zb',p.snd) != 0) (.leaf (.inr (some ((sF (List.take p.fst.length zb',p.snd),.t))))) (.vc (0<p.fst.length/\0+p.fst.length*13<=(rowsC RK.g1 p.fst).length/\0<13/\0=0) (.vc (0<p.fst.length) (.br (!(eF (p.fst.getD 0 pg10) o1)) (.leaf (.inr (some ((9,.t))))) (.leaf (.inl (mkSt 54 [(1,.one (.c (.ptr 1 0))),(2,.one (.c (.int .i64 0))),(4,.one (.c (.int .i64 1)))] [.live ⟨false,0,13,(.rows .g1 (p.fst:List Pg1)),false⟩,.live ⟨true,35,0,(.row [(.slc 0 0 (p.fst.length) 13 (.of 0) false),(.u64 (p.snd.x.c0.l0)),(.u64 (p.snd.x.c0.l1)),(.u64 (p.snd.x.c0.l2)),(.u64 (p.snd.x.c0.l3)),(.u64 (p.snd.x.c0.l4)),(.u64 (p.snd.x.c0.l5)),(.u64 (p.snd.x.c1.l0)),(.u64 (p.snd.x.c1.l1)),(.u64 (p.snd.x.c1.l2)),(.u64 (p.snd.x.c1.l3)),(.u64 (p.snd.x.c1.l4)),(.u64 (p.snd.x.c1.l5)),(.u64 (p.snd.y.c0.l0)),(.u64 (p.snd.y.c0.l1)),(.u64 (p.snd.y.c0.l2)),(.u64 (p.snd.y.c0.l3)),(.u64 (p.snd.y.c0.l4)),(.u64 (p.snd.y.c0.l5)),(.u64 (p.snd.y.c1.l0)),(.u64 (p.snd.y.c1.l1)),(.u64 (p.snd.y.c1.l2)),(.u64 (p.snd.y.c1.l3)),(.u64 (p.snd.y.c1.l4)),(.u64 (p.snd.y.c1.l5)),(.bool (p.snd.inf))]),false⟩])))))))))))):=by kernel_rfl
theorem sck_round (sF:List Pg1 × Pg2->Int) (o1:Pg1) (eF:Pg1->Pg1->Bool) (o2:Pg2) (nF:Pg1->Pg1) (cF:List Duo->Bool) (p:List Pg1 × Pg2) (z:Int):letI za':=(↑p.fst.length:Int);letI zb':=rowsC RK.g1 p.fst;letI zc':=IntKind.i64.wrap (z-1);iterT (sckE sF o1 eF o2 nF cF) oI 300 Tryz.f11 [loopAt Tryz.f11 0] (sckS p z) [1,2,4] [0,1]=(.vc (0+p.fst.length*13<=zb'.length/\0<13) (.br (decide (z<za')) (.vc ((0<=z/\z<za')/\0+p.fst.length*13<=zb'.length/\0<13/\0=0) (.vc (0+z.toNat<p.fst.length) (.vc ((0<=IntKind.i64.wrap (z-1)/\IntKind.i64.wrap (z-1)<za')/\0+p.fst.length*13<=zb'.length/\0<13/\0=0) (.vc (0+zc'.toNat<p.fst.length) (.br (!(cF [{ p:=p.fst.getD (0+z.toNat) pg10,q:=o2 },{ p:=nF (p.fst.getD (0+zc'.toNat) pg10),q:=p.snd }])) (.leaf (.inr (some ((9,.t))))) (.leaf (.inl ((.normal,mkSt 54 [(1,.one (.c (.ptr 1 0))),(2,.one (.c (.int .i64 0))),(4,.one (.c (.int .i64 (IntKind.i64.wrap (z+1)))))] [.live ⟨false,0,13,(.rows .g1 (p.fst:List Pg1)),false⟩,.live ⟨true,35,0,(.row [(.slc 0 0 (p.fst.length) 13 (.of 0) false),(.u64 (p.snd.x.c0.l0)),(.u64 (p.snd.x.c0.l1)),(.u64 (p.snd.x.c0.l2)),(.u64 (p.snd.x.c0.l3)),(.u64 (p.snd.x.c0.l4)),(.u64 (p.snd.x.c0.l5)),(.u64 (p.snd.x.c1.l0)),(.u64 (p.snd.x.c1.l1)),(.u64 (p.snd.x.c1.l2)),(.u64 (p.snd.x.c1.l3)),(.u64 (p.snd.x.c1.l4)),(.u64 (p.snd.x.c1.l5)),(.u64 (p.snd.y.c0.l0)),(.u64 (p.snd.y.c0.l1)),(.u64 (p.snd.y.c0.l2)),(.u64 (p.snd.y.c0.l3)),(.u64 (p.snd.y.c0.l4)),(.u64 (p.snd.y.c0.l5)),(.u64 (p.snd.y.c1.l0)),(.u64 (p.snd.y.c1.l1)),(.u64 (p.snd.y.c1.l2)),(.u64 (p.snd.y.c1.l3)),(.u64 (p.snd.y.c1.l4)),(.u64 (p.snd.y.c1.l5)),(.bool (p.snd.inf))]),false⟩]))))))))) (.leaf (.inl ((.exit 0,mkSt 54 [(1,.one (.c (.ptr 1 0))),(2,.one (.c (.int .i64 0))),(4,.one (.c (.int .i64 (z))))] [.live ⟨false,0,13,(.rows .g1 (p.fst:List Pg1)),false⟩,.live ⟨true,35,0,(.row [(.slc 0 0 (p.fst.length) 13 (.of 0) false),(.u64 (p.snd.x.c0.l0)),(.u64 (p.snd.x.c0.l1)),(.u64 (p.snd.x.c0.l2)),(.u64 (p.snd.x.c0.l3)),(.u64 (p.snd.x.c0.l4)),(.u64 (p.snd.x.c0.l5)),(.u64 (p.snd.x.c1.l0)),(.u64 (p.snd.x.c1.l1)),(.u64 (p.snd.x.c1.l2)),(.u64 (p.snd.x.c1.l3)),(.u64 (p.snd.x.c1.l4)),(.u64 (p.snd.x.c1.l5)),(.u64 (p.snd.y.c0.l0)),(.u64 (p.snd.y.c0.l1)),(.u64 (p.snd.y.c0.l2)),(.u64 (p.snd.y.c0.l3)),(.u64 (p.snd.y.c0.l4)),(.u64 (p.snd.y.c0.l5)),(.u64 (p.snd.y.c1.l0)),(.u64 (p.snd.y.c1.l1)),(.u64 (p.snd.y.c1.l2)),(.u64 (p.snd.y.c1.l3)),(.u64 (p.snd.y.c1.l4)),(.u64 (p.snd.y.c1.l5)),(.bool (p.snd.inf))]),false⟩])))))):=by kernel_rfl
theorem sck_end (sF:List Pg1 × Pg2->Int) (o1:Pg1) (eF:Pg1->Pg1->Bool) (o2:Pg2) (nF:Pg1->Pg1) (cF:List Duo->Bool) (p:List Pg1 × Pg2) (z:Int):endT (sckE sF o1 eF o2 nF cF) oI 100 Tryz.f11 (sckC.drop 10) (sckS p z) =
 (.leaf (some ((0,.t)))):=by kernel_rfl
noncomputable abbrev smeC:List Code:=flat (codeOf Tryz.f10)
def smeS (p q:List Pg1 × Pg2) (z:Int):St:=mkSt 38 [(2,ptrV 2),(3,ptrV 3),(4,.one (kBool.av false)),(5,vI z)] [rwHE .g1 p.1,rwHE .g1 q.1,ownPw 0 p,ownPw 1 q]
theorem sme_start (p q:List Pg1 × Pg2):segT (En []) oB 300 Tryz.f10 (smeC.take 4) (startSt Tryz.f10 [pwV 0 p,pwV 1 q] [rwHE .g1 p.1,rwHE .g1 q.1]) [2,3,4,5] [0,1,2,3] [(2,.as),(3,.as),(4,.bool),(5,.int)] [.as,.as,.as,.as] []=(.vc (0+p.fst.length*13<=(rowsC RK.g1 p.fst).length/\0<13) (.vc (0+q.fst.length*13<=(rowsC RK.g1 q.fst).length/\0<13) (.br ((↑p.fst.length:Int) != (↑q.fst.length:Int)) (.leaf (.inr (some ((false,.t))))) (.br (!(pg2Eq (p.snd) (q.snd))) (.leaf (.inr (some ((false,.t))))) (.leaf (.inl (mkSt 38 [(2,.one (.c (.ptr 2 0))),(3,.one (.c (.ptr 3 0))),(4,.one (.c (.bool (false)))),(5,.one (.c (.int .i64 0)))] [.live ⟨false,0,13,(.rows .g1 (p.fst:List Pg1)),false⟩,.live ⟨false,0,13,(.rows .g1 (q.fst:List Pg1)),false⟩,.live ⟨true,35,0,(.row [(.slc 0 0 (p.fst.length) 13 (.of 0) false),(.u64 (p.snd.x.c0.l0)),(.u64 (p.snd.x.c0.l1)),(.u64 (p.snd.x.c0.l2)),(.u64 (p.snd.x.c0.l3)),(.u64 (p.snd.x.c0.l4)),(.u64 (p.snd.x.c0.l5)),(.u64 (p.snd.x.c1.l0)),(.u64 (p.snd.x.c1.l1)),(.u64 (p.snd.x.c1.l2)),(.u64 (p.snd.x.c1.l3)),(.u64 (p.snd.x.c1.l4)),(.u64 (p.snd.x.c1.l5)),(.u64 (p.snd.y.c0.l0)),(.u64 (p.snd.y.c0.l1)),(.u64 (p.snd.y.c0.l2)),(.u64 (p.snd.y.c0.l3)),(.u64 (p.snd.y.c0.l4)),(.u64 (p.snd.y.c0.l5)),(.u64 (p.snd.y.c1.l0)),(.u64 (p.snd.y.c1.l1)),(.u64 (p.snd.y.c1.l2)),(.u64 (p.snd.y.c1.l3)),(.u64 (p.snd.y.c1.l4)),(.u64 (p.snd.y.c1.l5)),(.bool (p.snd.inf))]),false⟩,.live ⟨true,35,0,(.row [(.slc 1 0 (q.fst.length) 13 (.of 0) false),(.u64 (q.snd.x.c0.l0)),(.u64 (q.snd.x.c0.l1)),(.u64 (q.snd.x.c0.l2)),(.u64 (q.snd.x.c0.l3)),(.u64 (q.snd.x.c0.l4)),(.u64 (q.snd.x.c0.l5)),(.u64 (q.snd.x.c1.l0)),(.u64 (q.snd.x.c1.l1)),(.u64 (q.snd.x.c1.l2)),(.u64 (q.snd.x.c1.l3)),(.u64 (q.snd.x.c1.l4)),(.u64 (q.snd.x.c1.l5)),(.u64 (q.snd.y.c0.l0)),(.u64 (q.snd.y.c0.l1)),(.u64 (q.snd.y.c0.l2)),(.u64 (q.snd.y.c0.l3)),(.u64 (q.snd.y.c0.l4)),(.u64 (q.snd.y.c0.l5)),(.u64 (q.snd.y.c1.l0)),(.u64 (q.snd.y.c1.l1)),(.u64 (q.snd.y.c1.l2)),(.u64 (q.snd.y.c1.l3)),(.u64 (q.snd.y.c1.l4)),(.u64 (q.snd.y.c1.l5)),(.bool (q.snd.inf))]),false⟩]))))))):=by kernel_rfl
theorem sme_round (p q:List Pg1 × Pg2) (z:Int):letI za':=(↑p.fst.length:Int);iterT (En []) oB 300 Tryz.f10 [loopAt Tryz.f10 0] (smeS p q z) [2,3,4,5] [0,1,2,3]=(.vc (0+p.fst.length*13<=(rowsC RK.g1 p.fst).length/\0<13) (.br (decide (z<za')) (.vc ((0<=z/\z<za')/\0+p.fst.length*13<=(rowsC RK.g1 p.fst).length/\0<13/\0=0) (.vc (0+z.toNat<p.fst.length) (.vc ((0<=z/\z<(↑q.fst.length:Int))/\0+q.fst.length*13<=(rowsC RK.g1 q.fst).length/\0<13/\0=0) (.vc (0+z.toNat<q.fst.length) (.br (!(pg1Eq (p.fst.getD (0+z.toNat) pg10) (q.fst.getD (0+z.toNat) pg10))) (.leaf (.inr (some ((false,.t))))) (.leaf (.inl ((.normal,mkSt 38 [(2,.one (.c (.ptr 2 0))),(3,.one (.c (.ptr 3 0))),(4,.one (.c (.bool (false)))),(5,.one (.c (.int .i64 (IntKind.i64.wrap (z+1)))))] [.live ⟨false,0,13,(.rows .g1 (p.fst:List Pg1)),false⟩,.live ⟨false,0,13,(.rows .g1 (q.fst:List Pg1)),false⟩,.live ⟨true,35,0,(.row [(.slc 0 0 (p.fst.length) 13 (.of 0) false),(.u64 (p.snd.x.c0.l0)),(.u64 (p.snd.x.c0.l1)),(.u64 (p.snd.x.c0.l2)),(.u64 (p.snd.x.c0.l3)),(.u64 (p.snd.x.c0.l4)),(.u64 (p.snd.x.c0.l5)),(.u64 (p.snd.x.c1.l0)),(.u64 (p.snd.x.c1.l1)),(.u64 (p.snd.x.c1.l2)),(.u64 (p.snd.x.c1.l3)),(.u64 (p.snd.x.c1.l4)),(.u64 (p.snd.x.c1.l5)),(.u64 (p.snd.y.c0.l0)),(.u64 (p.snd.y.c0.l1)),(.u64 (p.snd.y.c0.l2)),(.u64 (p.snd.y.c0.l3)),(.u64 (p.snd.y.c0.l4)),(.u64 (p.snd.y.c0.l5)),(.u64 (p.snd.y.c1.l0)),(.u64 (p.snd.y.c1.l1)),(.u64 (p.snd.y.c1.l2)),(.u64 (p.snd.y.c1.l3)),(.u64 (p.snd.y.c1.l4)),(.u64 (p.snd.y.c1.l5)),(.bool (p.snd.inf))]),false⟩,.live ⟨true,35,0,(.row [(.slc 1 0 (q.fst.length) 13 (.of 0) false),(.u64 (q.snd.x.c0.l0)),(.u64 (q.snd.x.c0.l1)),(.u64 (q.snd.x.c0.l2)),(.u64 (q.snd.x.c0.l3)),(.u64 (q.snd.x.c0.l4)),(.u64 (q.snd.x.c0.l5)),(.u64 (q.snd.x.c1.l0)),(.u64 (q.snd.x.c1.l1)),(.u64 (q.snd.x.c1.l2)),(.u64 (q.snd.x.c1.l3)),(.u64 (q.snd.x.c1.l4)),(.u64 (q.snd.x.c1.l5)),(.u64 (q.snd.y.c0.l0)),(.u64 (q.snd.y.c0.l1)),(.u64 (q.snd.y.c0.l2)),(.u64 (q.snd.y.c0.l3)),(.u64 (q.snd.y.c0.l4)),(.u64 (q.snd.y.c0.l5)),(.u64 (q.snd.y.c1.l0)),(.u64 (q.snd.y.c1.l1)),(.u64 (q.snd.y.c1.l2)),(.u64 (q.snd.y.c1.l3)),(.u64 (q.snd.y.c1.l4)),(.u64 (q.snd.y.c1.l5)),(.bool (q.snd.inf))]),false⟩]))))))))) (.leaf (.inl ((.exit 0,mkSt 38 [(2,.one (.c (.ptr 2 0))),(3,.one (.c (.ptr 3 0))),(4,.one (.c (.bool (false)))),(5,.one (.c (.int .i64 (z))))] [.live ⟨false,0,13,(.rows .g1 (p.fst:List Pg1)),false⟩,.live ⟨false,0,13,(.rows .g1 (q.fst:List Pg1)),false⟩,.live ⟨true,35,0,(.row [(.slc 0 0 (p.fst.length) 13 (.of 0) false),(.u64 (p.snd.x.c0.l0)),(.u64 (p.snd.x.c0.l1)),(.u64 (p.snd.x.c0.l2)),(.u64 (p.snd.x.c0.l3)),(.u64 (p.snd.x.c0.l4)),(.u64 (p.snd.x.c0.l5)),(.u64 (p.snd.x.c1.l0)),(.u64 (p.snd.x.c1.l1)),(.u64 (p.snd.x.c1.l2)),(.u64 (p.snd.x.c1.l3)),(.u64 (p.snd.x.c1.l4)),(.u64 (p.snd.x.c1.l5)),(.u64 (p.snd.y.c0.l0)),(.u64 (p.snd.y.c0.l1)),(.u64 (p.snd.y.c0.l2)),(.u64 (p.snd.y.c0.l3)),(.u64 (p.snd.y.c0.l4)),(.u64 (p.snd.y.c0.l5)),(.u64 (p.snd.y.c1.l0)),(.u64 (p.snd.y.c1.l1)),(.u64 (p.snd.y.c1.l2)),(.u64 (p.snd.y.c1.l3)),(.u64 (p.snd.y.c1.l4)),(.u64 (p.snd.y.c1.l5)),(.bool (p.snd.inf))]),false⟩,.live ⟨true,35,0,(.row [(.slc 1 0 (q.fst.length) 13 (.of 0) false),(.u64 (q.snd.x.c0.l0)),(.u64 (q.snd.x.c0.l1)),(.u64 (q.snd.x.c0.l2)),(.u64 (q.snd.x.c0.l3)),(.u64 (q.snd.x.c0.l4)),(.u64 (q.snd.x.c0.l5)),(.u64 (q.snd.x.c1.l0)),(.u64 (q.snd.x.c1.l1)),(.u64 (q.snd.x.c1.l2)),(.u64 (q.snd.x.c1.l3)),(.u64 (q.snd.x.c1.l4)),(.u64 (q.snd.x.c1.l5)),(.u64 (q.snd.y.c0.l0)),(.u64 (q.snd.y.c0.l1)),(.u64 (q.snd.y.c0.l2)),(.u64 (q.snd.y.c0.l3)),(.u64 (q.snd.y.c0.l4)),(.u64 (q.snd.y.c0.l5)),(.u64 (q.snd.y.c1.l0)),(.u64 (q.snd.y.c1.l1)),(.u64 (q.snd.y.c1.l2)),(.u64 (q.snd.y.c1.l3)),(.u64 (q.snd.y.c1.l4)),(.u64 (q.snd.y.c1.l5)),(.bool (q.snd.inf))]),false⟩])))))):=by kernel_rfl
theorem sme_end (p q:List Pg1 × Pg2) (z:Int):endT (En []) oB 100 Tryz.f10 (smeC.drop 5) (smeS p q z) =
 (.leaf (some ((true,.t)))):=by kernel_rfl
end
set_option maxRecDepth 100000
section
section
variable {o2 : Pg2} {m2 : Pg2 -> Fr -> Pg2} {oF : UInt64 -> Fr} {o1 : Pg1} {m1 : Pg1 -> Fr -> Pg1} {mF : Fr -> Fr -> Fr}
theorem mk_loop (hE:EnvOk (mkE o2 m2 oF o1 m1 mF)) (x:Fr) (n:Nat) (hn:n<65536):DoesL (mkE o2 m2 oF o1 m1 mF) (mkC.drop 2) (mkS1 x n)
  (EndsAs (mkE o2 m2 oF o1 m1 mF) Tryz.f9 (Reads oMk ((powL (oF 1) (m1 o1) mF x n,m2 o2 x),0))):=by
 have st:=mk_start o2 m2 oF o1 m1 mF x n
 generalize m2 o2 x=t at *
 refine DoesL.stageN hE 100 3 _ _ _ _ _ _ st ?_
 refine (?_:DoesL _ _ (mkS x (powK (oF 1) mF x 0) t n ((0:Nat):Int) 0 (powL (oF 1) (m1 o1) mF x 0)) _)
 refine DoesL.blockLoop (B:=loopAt Tryz.f9 0) (rest:=mkC.drop 6) (id:=1) (by kernel_rfl) (fun j : { j:Nat // j<=n }=>mkS x (powK (oF 1) mF x j.1) t n (j.1:Int) j.1 (powL (oF 1) (m1 o1) mF x j.1)) (fun j=>n-j.1) ⟨0,Nat.zero_le _⟩ fun j => ?_
 obtain ⟨j,hj⟩:=j
 refine (?_:Does _ _ (mkS x (powK (oF 1) mF x j) t n (j:Int) j (powL (oF 1) (m1 o1) mF x j)) _)
 have hlen:=powL_len (oF 1) (m1 o1) mF x j
 refine Does.roundP hE 300 _ (mk_round o2 m2 oF o1 m1 mF x (powK (oF 1) mF x j) t n (j:Int) j (powL (oF 1) (m1 o1) mF x j)) ⟨fun h => ?_,fun h => ?_⟩
 ·simp only [decide_eq_true_eq] at h
  refine ⟨⟨⟨by rw [rowsC_g1,hlen];omega,rfl⟩,by omega,by omega⟩,fun _ => ?_⟩
  refine ⟨⟨j+1,by omega⟩,by show n-(j+1)<n-j;omega,?_⟩
  rw [wrapU j (by omega),wholeAppG1 hlen]
  show _=mkS x (powK (oF 1) mF x (j+1)) t n ((j+1:Nat):Int) (j+1) (powL (oF 1) (m1 o1) mF x (j+1))
  rw [powL_succ,powK_succ (oF 1) mF x j]
  rfl
 ·simp only [decide_eq_false_iff_not] at h
  obtain rfl:j=n:=by omega
  refine ⟨rfl,DoesL.ends hE 100 (mk_end o2 m2 oF o1 m1 mF x _ t _ _ _ _) ?_⟩
  rw [List.take_of_length_le (Nat.le_of_eq hlen)]
  exact ⟨_,rfl,Nat.le_of_eq hlen.symm⟩
end
def mkG (o2:Pg2) (m2:Pg2->Fr->Pg2) (oF:UInt64->Fr) (o1:Pg1) (m1:Pg1->Fr->Pg1) (mF:Fr->Fr->Fr) (x:Fr) (n:Int):(List Pg1 × Pg2) × Int :=
 match decide (n<2) with
 | true=>(([],pg20),1)
 | false=>match decide (n > 80) with
  | true=>(([],pg20),1)
  | false=>match frEq x frZ with
   | true=>(([],pg20),7)
   | false=>((powL (oF 1) (m1 o1) mF x n.toNat,m2 o2 x),0)
def makeF (x:Fr) (n:Int):(List Pg1 × Pg2) × Int:=mkG oneG2 mulG2 ofPR oneG1 mulG1 mulPR x n
theorem mk_does {o2:Pg2} {m2:Pg2->Fr->Pg2} {oF:UInt64->Fr} {o1:Pg1} {m1:Pg1->Fr->Pg1} {mF:Fr->Fr->Fr} (hE:EnvOk (mkE o2 m2 oF o1 m1 mF)) (x:Fr) (n:Int):DoesL (mkE o2 m2 oF o1 m1 mF) (flat (codeOf Tryz.f9)) (startSt Tryz.f9 [v4 x,vI n] [])
  (EndsAs (mkE o2 m2 oF o1 m1 mF) Tryz.f9 (Reads oMk (mkG o2 m2 oF o1 m1 mF x n))):=by
 refine DoesL.seg hE 300 2 _ _ _ _ _ (mk_seg o2 m2 oF o1 m1 mF x n) ⟨fun h => ?_,fun h=>⟨fun h2 => ?_,fun h2=>⟨fun h3 => ?_,fun h3 => ?_⟩⟩⟩
 ·exact ⟨.t,by unfold mkG;rw [h];rfl,trivial⟩
 ·exact ⟨.t,by unfold mkG;rw [h,h2];rfl,trivial⟩
 ·exact ⟨.t,by unfold mkG;rw [h,h2,show frEq x frZ=true from h3];rfl,trivial⟩
 ·have e:mkG o2 m2 oF o1 m1 mF x n=((powL (oF 1) (m1 o1) mF x n.toNat,m2 o2 x),0):=by unfold mkG;rw [h,h2,show frEq x frZ=false from h3]
  rw [e]
  simp only [decide_eq_false_iff_not] at h h2
  obtain ⟨m,rfl⟩ : ∃ m:Nat,n=(m:Int):=⟨n.toNat,by omega⟩
  exact mk_loop hE x m (by omega)
theorem makeF_ok:CallOk Tryz.prog 9 (K2 (kRow Fr).arg kInt.arg oMk.res makeF) :=
 G2 (E:=mkE oneG2 mulG2 ofPR oneG1 mulG1 mulPR) Tryz.func9 (c:=codeOf Tryz.f9) (by kernel_rfl) (bodied Tryz.func9 (by kernel_rfl) (by kernel_rfl)) (kRow Fr).inp kInt.inp oMk makeF fun x n _ _ =>
  mk_does (En_ok (.cons oneG2_ok (.cons mulG2_ok (.cons ofPR_ok (.cons oneG1_ok (.cons mulG1_ok (.cons mulPR_ok .nil))))))) x n
def sdL (i1:Pg1->Bool):List Pg1->Bool->Option Bool
 | [],b=>some b
 | x :: l,b=>match !(i1 x) with
  | true=>none
  | false=>sdL i1 l (match b with | true=>true | false=>x.inf)
theorem sdL_cons (i1:Pg1->Bool) (x:Pg1) (l:List Pg1) (b:Bool):sdL i1 (x :: l) b=match !(i1 x) with
  | true=>none
  | false=>sdL i1 l (match b with | true=>true | false=>x.inf):=rfl
def sdK (x b:Bool):Int:=match x with
 | true=>6
 | false=>match b with
  | true=>7
  | false=>0
def sdG (i1:Pg1->Bool) (i2:Pg2->Bool) (p:List Pg1 × Pg2):Int :=
 match sdL i1 p.1 p.2.inf with
 | none=>6
 | some b=>sdK (!(i2 p.2)) b
theorem sdG_of {i1:Pg1->Bool} {i2:Pg2->Bool} {p:List Pg1 × Pg2} {b:Bool} (h:sdL i1 p.1 p.2.inf=some b):sdG i1 i2 p=sdK (!(i2 p.2)) b:=by
 unfold sdG
 rw [h]
def sidesF (p:List Pg1 × Pg2):Int:=sdG inG1 inG2 p
abbrev SdQ (i1:Pg1->Bool) (p:List Pg1 × Pg2):Type := { q:Nat × Bool // q.1<=p.1.length/\sdL i1 p.1 p.2.inf=sdL i1 (p.1.drop q.1) q.2 }
theorem sd_does {i1:Pg1->Bool} {i2:Pg2->Bool} (hE:EnvOk (sdE i1 i2)) (p:List Pg1 × Pg2) (hl:p.1.length<1125899906842624):DoesL (sdE i1 i2) (flat (codeOf Tryz.f32)) (startSt Tryz.f32 [pwV 0 p] [rwHE .g1 p.1])
  (EndsAs (sdE i1 i2) Tryz.f32 (Reads oI (sdG i1 i2 p))):=by
 refine DoesL.stageG hE 100 3 _ _ _ _ _ (sd_start i1 i2 p) ⟨vcLenG1 p.1,fun _ => ?_⟩
 refine (?_:DoesL _ _ (sdS p p.2.inf ((0:Nat):Int)) _)
 refine DoesL.blockLoopR (B:=loopAt Tryz.f32 0) (rest:=sdC.drop 4) (id:=0) (by kernel_rfl) (fun i:SdQ i1 p=>sdS p i.1.2 (i.1.1:Int)) (fun i=>p.1.length-i.1.1) ⟨(0,p.2.inf),Nat.zero_le _,rfl⟩ fun s => ?_
 obtain ⟨⟨i,b⟩,h0,h1⟩:=s
 have h0:i<=p.1.length:=h0
 have h1:sdL i1 p.1 p.2.inf=sdL i1 (p.1.drop i) b:=h1
 refine (?_:DoesL _ _ (sdS p b (i:Int)) _)
 refine DoesL.iterL hE 300 _ _ _ _ (sd_round i1 i2 p b (i:Int)) ⟨fun h => ?_,fun h => ?_⟩
 ·simp only [decide_eq_true_eq] at h
  have hi:i<p.1.length:=by omega
  have hw:IntKind.i64.wrap ((i:Int)+1)=((i+1:Nat):Int):=(IntWalk.i64_in _ (by omega)).trans (by omega)
  refine ⟨vcIdxG1 hi,fun _=>⟨vcGetG1 hi,fun _=>⟨fun h2 => ?_,fun h2 => ?_⟩⟩⟩
  ·rw [zeroN] at h2
   rw [drop_getD p.1 hi pg10,sdL_cons,h2] at h1
   have h1:sdL i1 p.1 p.2.inf=none:=h1
   exact ⟨.t,by unfold sdG;rw [h1],trivial⟩
  ·rw [zeroN] at h2
   rw [drop_getD p.1 hi pg10,sdL_cons,h2] at h1
   rw [zeroN,hw]
   refine ⟨fun h3 => ?_,fun h3 => ?_⟩
   ·have h3:b=true:=h3
    subst h3
    exact ⟨⟨(i+1,true),hi,h1⟩,by show p.1.length-(i+1)<p.1.length-i;omega,rfl⟩
   ·have h3:b=false:=h3
    subst h3
    exact ⟨⟨(i+1,(p.1.getD i pg10).inf),hi,h1⟩,by show p.1.length-(i+1)<p.1.length-i;omega,rfl⟩
 ·simp only [decide_eq_false_iff_not] at h
  obtain rfl:i=p.1.length:=by omega
  rw [List.drop_length] at h1
  have h1:sdL i1 p.1 p.2.inf=some b:=h1
  refine ⟨rfl,DoesL.ends hE 100 (sd_end i1 i2 p b _) ⟨fun h2 => ?_,fun h2=>⟨fun h3 => ?_,fun h3 => ?_⟩⟩⟩
  ·exact ⟨.t,by rw [sdG_of h1,h2];rfl,trivial⟩
  ·exact ⟨.t,by rw [sdG_of h1,h2,show b=true from h3];rfl,trivial⟩
  ·exact ⟨.t,by rw [sdG_of h1,h2,show b=false from h3];rfl,trivial⟩
theorem sidesF_ok:CallOk Tryz.prog 32 (K1 aPow kInt.rs.res sidesF) :=
 G1 (E:=sdE inG1 inG2) Tryz.func32 (c:=codeOf Tryz.f32) (by kernel_rfl) (bodied Tryz.func32 (by kernel_rfl) (by kernel_rfl)) iPow oI sidesF fun p hp =>
  sd_does (En_ok (.cons inG1_ok (.cons inG2_ok .nil))) p hp.1
def sckL (o2:Pg2) (nF:Pg1->Pg1) (cF:List Duo->Bool) (t:Pg2):List Pg1->Bool
 | a :: b :: l=>match !(cF [⟨b,o2⟩,⟨nF a,t⟩]) with
  | true=>false
  | false=>sckL o2 nF cF t (b :: l)
 | _=>true
theorem sckL_cons (o2:Pg2) (nF:Pg1->Pg1) (cF:List Duo->Bool) (t:Pg2) (a b:Pg1) (l:List Pg1):sckL o2 nF cF t (a :: b :: l)=match !(cF [⟨b,o2⟩,⟨nF a,t⟩]) with
  | true=>false
  | false=>sckL o2 nF cF t (b :: l):=rfl
def sckG (sF:List Pg1 × Pg2->Int) (o1:Pg1) (eF:Pg1->Pg1->Bool) (o2:Pg2) (nF:Pg1->Pg1) (cF:List Duo->Bool) (p:List Pg1 × Pg2):Int :=
 match decide ((p.1.length:Int)<2) with
 | true=>1
 | false=>match decide ((p.1.length:Int) > 80) with
  | true=>1
  | false=>match sF p != 0 with
   | true=>sF p
   | false=>match !(eF (p.1.getD 0 pg10) o1) with
    | true=>9
    | false=>match sckL o2 nF cF p.2 p.1 with
     | true=>0
     | false=>9
def checkF (p:List Pg1 × Pg2):Int:=sckG sidesF oneG1 eqG1 oneG2 negG1 prCheck p
theorem powEta (p:List Pg1 × Pg2):(List.take p.1.length (List.drop 0 p.1),p.2)=p:=by rw [wholeG1]
theorem vcPow {p:List Pg1 × Pg2} (h:few p.1):(0+p.fst.length*13<=(rowsC RK.g1 p.fst).length/\0=0/\p.fst.length<1125899906842624/\0=0/\13=13)/\fewP (List.take p.fst.length (List.drop 0 p.fst),p.snd):=vcFewG h
abbrev SckQ (o2:Pg2) (nF:Pg1->Pg1) (cF:List Duo->Bool) (p:List Pg1 × Pg2):Type := { i:Nat // i<p.1.length/\sckL o2 nF cF p.2 p.1=sckL o2 nF cF p.2 (p.1.drop i) }
theorem sck_does {sF:List Pg1 × Pg2->Int} {o1:Pg1} {eF:Pg1->Pg1->Bool} {o2:Pg2} {nF:Pg1->Pg1} {cF:List Duo->Bool} (hE:EnvOk (sckE sF o1 eF o2 nF cF)) (p:List Pg1 × Pg2) (hl:few p.1):DoesL (sckE sF o1 eF o2 nF cF) (flat (codeOf Tryz.f11)) (startSt Tryz.f11 [pwV 0 p] [rwHE .g1 p.1])
  (EndsAs (sckE sF o1 eF o2 nF cF) Tryz.f11 (Reads oI (sckG sF o1 eF o2 nF cF p))):=by
 refine DoesL.seg hE 300 9 _ _ _ _ _ (sck_start sF o1 eF o2 nF cF p) ⟨vcLenG1 p.1,fun _=>⟨fun h => ?_,fun h=>⟨vcLenG1 p.1,fun _=>⟨fun h2 => ?_,fun h2=>⟨vcPow hl,fun _ => ?_⟩⟩⟩⟩⟩
 ·exact ⟨.t,by unfold sckG;rw [h],trivial⟩
 ·exact ⟨.t,by unfold sckG;rw [h,h2],trivial⟩
 ·rw [powEta]
  have h2':=h2
  have h':=h
  simp only [decide_eq_false_iff_not] at h' h2'
  have h0:0<p.1.length:=by omega
  refine ⟨fun h3 => ?_,fun h3=>⟨⟨h0,(vcLenG1 p.1).1,by decide,rfl⟩,fun _=>⟨h0,fun _=>⟨fun h4 => ?_,fun h4 => ?_⟩⟩⟩⟩
  ·exact ⟨.t,by unfold sckG;rw [h,h2,h3],trivial⟩
  ·exact ⟨.t,by unfold sckG;rw [h,h2,h3,h4],trivial⟩
  ·have e:sckG sF o1 eF o2 nF cF p=match sckL o2 nF cF p.2 p.1 with | true=>0 | false=>9:=by unfold sckG;rw [h,h2,h3,h4]
   rw [e]
   refine (?_:DoesL _ _ (sckS p ((0+1:Nat):Int)) _)
   refine DoesL.blockLoopR (B:=loopAt Tryz.f11 0) (rest:=sckC.drop 10) (id:=0) (by kernel_rfl) (fun i:SckQ o2 nF cF p=>sckS p ((i.1+1:Nat):Int)) (fun i=>p.1.length-i.1) ⟨0,h0,rfl⟩ fun s => ?_
   obtain ⟨i,k0,k1⟩:=s
   refine (?_:DoesL _ _ (sckS p ((i+1:Nat):Int)) _)
   refine DoesL.iter hE 300 _ _ (sck_round sF o1 eF o2 nF cF p ((i+1:Nat):Int)) ⟨vcLenG1 p.1,fun _=>⟨fun q => ?_,fun q => ?_⟩⟩
   ·simp only [decide_eq_true_eq] at q
    have hi:i+1<p.1.length:=by omega
    have hw:IntKind.i64.wrap (((i+1:Nat):Int)+1)=((i+1+1:Nat):Int):=(IntWalk.i64_in _ (by omega)).trans (by omega)
    have hw2:IntKind.i64.wrap (((i+1:Nat):Int)-1)=((i:Nat):Int):=(IntWalk.i64_in _ (by omega)).trans (by omega)
    rw [hw2,hw,zeroN,zeroN]
    rw [drop_getD p.1 k0 pg10,drop_getD p.1 hi pg10,sckL_cons] at k1
    refine ⟨vcIdxG1 hi,fun _=>⟨hi,fun _=>⟨vcIdxG1 k0,fun _=>⟨k0,fun _=>⟨fun q2 => ?_,fun q2 => ?_⟩⟩⟩⟩⟩
    ·rw [q2] at k1
     have k1:sckL o2 nF cF p.2 p.1=false:=k1
     exact ⟨.t,by rw [k1],trivial⟩
    ·rw [q2] at k1
     exact ⟨⟨i+1,hi,by rw [k1,drop_getD p.1 hi pg10]⟩,by show p.1.length-(i+1)<p.1.length-i;omega,rfl⟩
   ·simp only [decide_eq_false_iff_not] at q
    have hi:i+1=p.1.length:=by omega
    rw [drop_getD p.1 k0 pg10,hi,List.drop_length] at k1
    have k1:sckL o2 nF cF p.2 p.1=true:=k1
    refine ⟨rfl,DoesL.ends hE 100 (sck_end sF o1 eF o2 nF cF p _) ?_⟩
    exact ⟨.t,by rw [k1],trivial⟩
theorem checkF_ok:CallOk Tryz.prog 11 (K1 aPow kInt.rs.res checkF) :=
 G1 (E:=sckE sidesF oneG1 eqG1 oneG2 negG1 prCheck) Tryz.func11 (c:=codeOf Tryz.f11) (by kernel_rfl) (bodied Tryz.func11 (by kernel_rfl) (by kernel_rfl)) iPow oI checkF fun p hp =>
  sck_does (En_ok (.cons sidesF_ok (.cons oneG1_ok (.cons eqG1_ok (.cons oneG2_ok (.cons negG1_ok (.cons prCheck_ok .nil))))))) p hp.2
def smL:List Pg1->List Pg1->Bool
 | a :: l,b :: m=>match !(pg1Eq a b) with
  | true=>false
  | false=>smL l m
 | _,_=>true
theorem smL_cons (a b:Pg1) (l m:List Pg1):smL (a :: l) (b :: m)=match !(pg1Eq a b) with
  | true=>false
  | false=>smL l m:=rfl
def sameF (p q:List Pg1 × Pg2):Bool :=
 match (p.1.length:Int) != (q.1.length:Int) with
 | true=>false
 | false=>match !(pg2Eq p.2 q.2) with
  | true=>false
  | false=>smL p.1 q.1
abbrev SmQ (p q:List Pg1 × Pg2):Type := { i:Nat // i<=p.1.length/\smL p.1 q.1=smL (p.1.drop i) (q.1.drop i) }
theorem sameF_ok:CallOk Tryz.prog 10 (K2 aPow aPow kBool.rs.res sameF) :=
 G2 (E:=En []) Tryz.func10 (c:=codeOf Tryz.f10) (by kernel_rfl) (bodied Tryz.func10 (by kernel_rfl) (by kernel_rfl)) iPow iPow oB sameF fun p q hp hq=>by
  have hE:EnvOk (En []):=En_ok .nil
  have hl:p.1.length<1125899906842624:=hp.1
  refine DoesL.seg hE 300 4 _ _ _ _ _ (sme_start p q) ⟨vcLenG1 p.1,fun _=>⟨vcLenG1 q.1,fun _=>⟨fun h => ?_,fun h=>⟨fun h2 => ?_,fun h2 => ?_⟩⟩⟩⟩
  ·exact ⟨.t,by unfold sameF;rw [h],trivial⟩
  ·exact ⟨.t,by unfold sameF;rw [h,h2],trivial⟩
  ·have e:sameF p q=smL p.1 q.1:=by unfold sameF;rw [h,h2]
   rw [e]
   have hlen:p.1.length=q.1.length:=by
    simp only [bne_eq_false_iff_eq] at h
    omega
   refine (?_:DoesL _ _ (smeS p q ((0:Nat):Int)) _)
   refine DoesL.blockLoopR (B:=loopAt Tryz.f10 0) (rest:=smeC.drop 5) (id:=0) (by kernel_rfl) (fun i:SmQ p q=>smeS p q (i.1:Int)) (fun i=>p.1.length-i.1) ⟨0,Nat.zero_le _,rfl⟩ fun s => ?_
   obtain ⟨i,k0,k1⟩:=s
   refine (?_:DoesL _ _ (smeS p q (i:Int)) _)
   refine DoesL.iter hE 300 _ _ (sme_round p q (i:Int)) ⟨vcLenG1 p.1,fun _=>⟨fun z => ?_,fun z => ?_⟩⟩
   ·simp only [decide_eq_true_eq] at z
    have hi:i<p.1.length:=by omega
    have hj:i<q.1.length:=by omega
    have hw:IntKind.i64.wrap ((i:Int)+1)=((i+1:Nat):Int):=(IntWalk.i64_in _ (by omega)).trans (by omega)
    rw [zeroN,hw]
    rw [drop_getD p.1 hi pg10,drop_getD q.1 hj pg10,smL_cons] at k1
    refine ⟨vcIdxG1 hi,fun _=>⟨hi,fun _=>⟨vcIdxG1 hj,fun _=>⟨hj,fun _=>⟨fun z2 => ?_,fun z2 => ?_⟩⟩⟩⟩⟩
    ·rw [z2] at k1
     have k1:smL p.1 q.1=false:=k1
     exact ⟨.t,by rw [k1],trivial⟩
    ·rw [z2] at k1
     exact ⟨⟨i+1,hi,k1⟩,by show p.1.length-(i+1)<p.1.length-i;omega,rfl⟩
   ·simp only [decide_eq_false_iff_not] at z
    obtain rfl:i=p.1.length:=by omega
    rw [List.drop_length] at k1
    have k1:smL p.1 q.1=true:=k1
    refine ⟨rfl,DoesL.ends hE 100 (sme_end p q _) ?_⟩
    exact ⟨.t,by rw [k1],trivial⟩
end
set_option maxRecDepth 100000
section
theorem At2.eq {p q:Pg2} {x:VR} (h:At2 p x) (k:At2 q x):p=q:=pt2_inj h.good.1 k.good.1 (h.pt.trans k.pt.symm)
theorem at1_one':At1 oneG1 1:=⟨gen1_good,by rw [gm_one]⟩
theorem at2_one':At2 oneG2 1:=⟨gen2_good,by rw [hm_one]⟩
theorem at1_mulp {k:Fr} (hk:k.ok):At1 (mulG1 oneG1 k) k.v:=by
 obtain ⟨h1,h2⟩:=mul1_pt gen1_good k
 refine ⟨h1,?_⟩
 rw [h2]
 unfold gm
 rw [Fr.v_nat hk]
theorem at2_mulp {k:Fr} (hk:k.ok):At2 (mulG2 oneG2 k) k.v:=by
 obtain ⟨h1,h2⟩:=mul2_pt gen2_good k
 refine ⟨h1,?_⟩
 rw [h2]
 unfold hm
 rw [Fr.v_nat hk]
theorem at1_finite {p:Pg1} {x:VR} (h:At1 p x) (hx:x ≠ 0):p.inf=false:=by
 cases e:p.inf with
 | false=>rfl
 | true =>
  have h1:=pt1_inf e
  rw [h.pt,<- gm_zero] at h1
  exact absurd (gm_inj h1) hx
theorem at2_finite {q:Pg2} {x:VR} (h:At2 q x) (hx:x ≠ 0):q.inf=false:=by
 cases e:q.inf with
 | false=>rfl
 | true =>
  have h1:=prV_infq (gm 1) e
  rw [h.pt,prV_gh,em_one_iff] at h1
  have h2:x=0:=by
   generalize x=y at h1
   grind
  exact absurd h2 hx
theorem ofP_one:ofPR 1=oneFr:=rfl
theorem powK_vP {x:Fr} (hx:x.ok) : ∀ n,(powK (ofPR 1) mulPR x n).ok/\(powK (ofPR 1) mulPR x n).v=x.v ^ n
 | 0=>by
  show (ofPR 1).ok/\(ofPR 1).v=x.v ^ 0
  rw [ofP_one,pow_zero',v_oneFr]
  exact ⟨oneFr_ok,rfl⟩
 | n+1=>by
  obtain ⟨h1,h2⟩:=powK_vP hx n
  obtain ⟨m1,m2⟩:=mulPR_v h1 hx
  rw [powK_succ]
  refine ⟨m1,?_⟩
  rw [m2,h2,pow_succ',CR.mul_comm]
def mkP (x:Fr) (n:Nat):List Pg1 × Pg2:=(powL (ofPR 1) (mulG1 oneG1) mulPR x n,mulG2 oneG2 x)
theorem mkP_snd (x:Fr) (n:Nat):(mkP x n).2=mulG2 oneG2 x:=by simp only [mkP]
theorem mkP_fst (x:Fr) (n:Nat):(mkP x n).1=powL (ofPR 1) (mulG1 oneG1) mulPR x n:=by simp only [mkP]
theorem mkP_len (x:Fr) (n:Nat):(mkP x n).1.length=n:=by unfold mkP;exact powL_len _ _ _ _ _
theorem makeF_pow {x:Fr} (h0:frEq x frZ=false) {n:Nat} (h2:2<=n) (h80:n<=80):makeF x (n:Int)=(mkP x n,0):=by
 unfold makeF mkG
 rw [decide_eq_false (show ¬ ((n:Int)<2) by omega),decide_eq_false (show ¬ ((n:Int) > 80) by omega),h0]
 rfl
theorem mkP_eq {x:Fr} (hx:x.ok) (n:Nat):mkP x n=powsF x n:=by
 have h1:(mkP x n).1=(powsF x n).1:=by
  rw [powsF_fst,mkP_fst]
  unfold powL
  refine List.map_congr_left fun i _ => ?_
  obtain ⟨a1,a2⟩:=powK_vP hx i
  obtain ⟨b1,b2⟩:=powK_v hx i
  have c1:=at1_mulp a1
  have c2:=at1_comm b1
  rw [a2] at c1
  rw [b2] at c2
  exact c1.eq c2
 have h2:(mkP x n).2=(powsF x n).2:=by
  rw [powsF_snd,mkP_snd]
  exact (at2_mulp hx).eq (at2_comm hx)
 exact Prod.ext h1 h2
theorem smL_self : ∀ l:List Pg1,smL l l=true
 | []=>rfl
 | a :: l=>by
  rw [smL_cons,(pg1Eq_iff _ _).2 rfl]
  exact smL_self l
theorem sameF_self (p:List Pg1 × Pg2):sameF p p=true:=by
 unfold sameF
 rw [show ((p.1.length:Int) != (p.1.length:Int))=false by simp,(pg2Eq_iff _ _).2 rfl]
 exact smL_self p.1
theorem sdL_all {i1:Pg1->Bool} : ∀ {l:List Pg1},(∀ x ∈ l,i1 x=true/\x.inf=false)->sdL i1 l false=some false
 | [],_=>rfl
 | x :: l,h=>by
  obtain ⟨h1,h2⟩:=h x (List.mem_cons_self ..)
  rw [sdL_cons,h1,h2]
  exact sdL_all fun y hy=>h y (List.mem_cons_of_mem _ hy)
theorem mem_getD {α:Type} {l:List α} {x:α} (d:α) (h:x ∈ l) : ∃ i,i<l.length/\l.getD i d=x:=by
 obtain ⟨i,hi,e⟩:=List.getElem_of_mem h
 exact ⟨i,hi,by rw [List.getD_eq_getElem?_getD,List.getElem?_eq_getElem hi];exact e⟩
theorem sides_pow {p:List Pg1 × Pg2} {t:VR} (ht:t ≠ 0) (hG : ∀ i,i<p.1.length->At1 (p.1.getD i pg10) (t ^ i)) (hT:At2 p.2 t):sidesF p=0:=by
 unfold sidesF
 rw [sdG_of (b:=false) (by
  rw [at2_finite hT ht]
  refine sdL_all fun x hx => ?_
  obtain ⟨i,hi,rfl⟩:=mem_getD pg10 hx
  exact ⟨(in1_iff _).2 ⟨(hG i hi).good,(hG i hi).in1.sub⟩,at1_finite (hG i hi) (pow_ne' ht i)⟩),(in2_iff _).2 ⟨hT.good,hT.in2.sub⟩]
 rfl
theorem sckL_pow {t:VR} {T:Pg2} (hT:At2 T t) : ∀ (l:List Pg1) (k:Nat),(∀ i,i<l.length->At1 (l.getD i pg10) (t ^ (k+i)))->sckL oneG2 negG1 prCheck T l=true
 | [],_,_=>rfl
 | [_],_,_=>rfl
 | a :: b :: l,k,h=>by
  have ha:=h 0 (by simp)
  have hb:=h 1 (by simp)
  have ha:At1 a (t ^ k):=ha
  have hb:At1 b (t ^ (k+1)):=hb
  have hc:=(check_val hb ha at2_one' hT).2 (pow_succ' t k)
  rw [sckL_cons,hc]
  exact sckL_pow hT (b :: l) (k+1) fun i hi=>by
   have:=h (i+1) (by simp only [List.length_cons] at hi ⊢;omega)
   rw [show k+(i+1)=k+1+i by omega] at this
   exact this
theorem check_pow {p:List Pg1 × Pg2} {t:VR} (ht:t ≠ 0) (hG : ∀ i,i<p.1.length->At1 (p.1.getD i pg10) (t ^ i)) (hT:At2 p.2 t) (h2:2<=p.1.length) (h80:p.1.length<=80):checkF p=0:=by
 have hs:=sides_pow ht hG hT
 have h0:=hG 0 (by omega)
 rw [pow_zero'] at h0
 have he:eqG1 (p.1.getD 0 pg10) oneG1=true:=by
  rw [eqG1_eq]
  exact (pg1Eq_iff _ _).2 (h0.eq at1_one')
 unfold checkF sckG
 rw [decide_eq_false (show ¬ ((p.1.length:Int)<2) by omega),decide_eq_false (show ¬ ((p.1.length:Int) > 80) by omega),hs,he,sckL_pow hT p.1 0 fun i hi=>by rw [Nat.zero_add];exact hG i hi]
 rfl
theorem fr_ne_zero {x:Fr} (hx:x.ok) (h:frEq x frZ=false):x.v ≠ 0:=fun e=>by
 rw [(frEq_v hx frZ_ok).2 (by rw [e,frZ_v])] at h
 cases h
theorem check_mkP {x:Fr} (hx:x.ok) (h:frEq x frZ=false) {n:Nat} (h2:2<=n) (h80:n<=80):checkF (mkP x n)=0:=by
 have hl:=mkP_len x n
 refine check_pow (t:=x.v) (fr_ne_zero hx h) (fun i hi => ?_) (by rw [mkP_snd];exact at2_mulp hx) (by omega) (by omega)
 rw [mkP_eq hx]
 exact powsF_at hx n (by omega)
end
set_option maxRecDepth 100000
section
def begun17_T (f0:Fr->Int->(List Pg1 × Pg2) × Int) (f1:Pg1) (f2:Pg2) (f3:List Pg1 × Pg2->Int):Tree (Option ((Bool) × Pr)):=letI za':=(f0 { l0:=UInt64.ofNat 1,l1:=UInt64.ofNat 0,l2:=UInt64.ofNat 0,l3:=UInt64.ofNat 0 } 2);letI zb':=rowsC RK.g1 za'.fst.fst;letI zc':=List.drop 0 za'.fst.fst;
 (.br (za'.snd==0) (.vc (0+za'.fst.fst.length*13<=zb'.length/\0<13) (.br ((↑za'.fst.fst.length:Int)==2) (.vc (1<za'.fst.fst.length/\0+za'.fst.fst.length*13<=zb'.length/\0<13/\0=0) (.vc (1<za'.fst.fst.length) (.br (pg1Eq (za'.fst.fst.getD 1 pg10) (f1)) (.br (pg2Eq (za'.fst.snd) (f2)) (.vc ((0+za'.fst.fst.length*13<=zb'.length/\0=0/\za'.fst.fst.length<1125899906842624/\0=0/\13=13)/\fewP (List.take za'.fst.fst.length zc',za'.fst.snd)) (.leaf (some ((f3 (List.take za'.fst.fst.length zc',za'.fst.snd)==0,.t))))) (.leaf (some ((false,.t))))) (.leaf (some ((false,.t))))))) (.leaf (some ((false,.t)))))) (.leaf (some ((false,.t)))))
theorem begun17_run (f0:Fr->Int->(List Pg1 × Pg2) × Int) (f1:Pg1) (f2:Pg2) (f3:List Pg1 × Pg2->Int):endT (Ens [(9,K2 (kRow Fr).arg kInt.arg oMk.res f0),(22,K0 (kRow Pg1).rs.res f1),(23,K0 (kRow Pg2).rs.res f2),(11,K1 aPow kInt.rs.res f3)] [9]) kBool.rs.out 300 Tryz.f7 (flat (codeOf Tryz.f7)) (startSt Tryz.f7 [] [])=begun17_T f0 f1 f2 f3:=by kernel_rfl
def begun17  : Bool:=(begun17_T makeF gen1R gen2R checkF ).outD false
theorem begun17_ok' (h:(begun17_T makeF gen1R gen2R checkF).full=true/\(begun17_T makeF gen1R gen2R checkF).okAll):CallOk Tryz.prog 7 (K0  kBool.rs.out.res begun17) :=
 Go.Proofs.YtcbplfkeeaecgaaGreat.G0 (E:=Ens [(9,K2 (kRow Fr).arg kInt.arg oMk.res makeF),(22,K0 (kRow Pg1).rs.res gen1R),(23,K0 (kRow Pg2).rs.res gen2R),(11,K1 aPow kInt.rs.res checkF)] [9]) Tryz.func7 (c:=codeOf Tryz.f7) (by kernel_rfl) (bodied Tryz.func7 (by kernel_rfl) (by kernel_rfl)) kBool.rs.out begun17 (DoesL.outs (Ens_ok (.cons makeF_ok (.cons gen1R_ok (.cons gen2R_ok (.cons checkF_ok .nil))))) 300 false (begun17_run makeF gen1R gen2R checkF ) h.1 h.2)
theorem begun17_L {P:Fr->Int->(List Pg1 × Pg2) × Int} {o1:Pg1} {o2:Pg2} {K:List Pg1 × Pg2->Int} (h:(P ⟨UInt64.ofNat 1,UInt64.ofNat 0,UInt64.ofNat 0,UInt64.ofNat 0⟩ 2).1.1.length=2):(begun17_T P o1 o2 K).okAll:=by
 have hf:few (P ⟨UInt64.ofNat 1,UInt64.ofNat 0,UInt64.ofNat 0,UInt64.ofNat 0⟩ 2).1.1:=by
  show List.length _<4294967296
  rw [h]
  decide
 exact ⟨fun _=>⟨vcLenG1 _,fun _=>⟨⟨by rw [h];decide,(vcLenG1 _).1,by decide,rfl⟩,by rw [h];decide,fun _=>⟨fun _=>⟨vcFewG hf,trivial⟩,fun _=>trivial⟩,fun _=>trivial⟩,fun _=>trivial⟩,fun _=>trivial⟩
theorem makeF_one:(makeF ⟨UInt64.ofNat 1,UInt64.ofNat 0,UInt64.ofNat 0,UInt64.ofNat 0⟩ 2).1.1.length=2:=by
 unfold makeF mkG
 rw [decide_eq_false (show ¬ ((2:Int)<2) by omega),decide_eq_false (show ¬ ((2:Int) > 80) by omega),show frEq ⟨UInt64.ofNat 1,UInt64.ofNat 0,UInt64.ofNat 0,UInt64.ofNat 0⟩ frZ=false from by decide]
 exact powL_len _ _ _ _ _
theorem begun17_ok:CallOk Tryz.prog 7 (K0 kBool.rs.res begun17):=begun17_ok' ⟨rfl,begun17_L makeF_one⟩
end
set_option maxRecDepth 100000
section
theorem cond_and7 (a b:Bool):cond a b false=(a && b):=by cases a <;> rfl
def fr1':Fr:=⟨UInt64.ofNat 1,UInt64.ofNat 0,UInt64.ofNat 0,UInt64.ofNat 0⟩
theorem begun17_G (P:Fr->Int->(List Pg1 × Pg2) × Int) (o1:Pg1) (o2:Pg2) (K:List Pg1 × Pg2->Int):(begun17_T P o1 o2 K).outD false =
  ((P fr1' 2).2==0 && (((P fr1' 2).1.1.length:Int)==2 && (pg1Eq ((P fr1' 2).1.1.getD 1 pg10) o1 && (pg2Eq (P fr1' 2).1.2 o2 && K (List.take (P fr1' 2).1.1.length (List.drop 0 (P fr1' 2).1.1),(P fr1' 2).1.2)==0)))):=by
 unfold begun17_T
 simp only [outD_br,outD_vc,outD_leaf,cond_and7]
 rfl
theorem fr1_ok:fr1'.ok:=oneFr_ok
theorem fr1_v:fr1'.v=1:=v_oneFr
theorem fr1_nz:frEq fr1' frZ=false:=by decide
theorem begun17_true:begun17=true:=by
 unfold begun17
 rw [begun17_G]
 have e:=makeF_pow fr1_nz (n:=2) (by decide) (by decide)
 rw [show ((2:Nat):Int)=2 from rfl] at e
 rw [e]
 dsimp only
 have hl:=mkP_len fr1' 2
 have hp:At1 ((mkP fr1' 2).1.getD 1 pg10) (fr1'.v ^ 1):=by
  rw [mkP_eq fr1_ok]
  exact powsF_at fr1_ok 2 (by decide)
 rw [fr1_v,one_pow'] at hp
 have ht:=at2_mulp fr1_ok
 rw [fr1_v] at ht
 rw [powEta,check_mkP fr1_ok fr1_nz (by decide) (by decide),hl,(pg1Eq_iff _ _).2 (hp.eq at1_gen),mkP_snd,(pg2Eq_iff _ _).2 (ht.eq at2_gen)]
 rfl
end
section
theorem cutF_idem (xs:List UInt64):cutF (cutF xs)=cutF xs:=by
 have h1:=cutN_top xs xs.length
 have h2:=cutF_length xs
 unfold cutF at h2 ⊢
 generalize hn:cutN xs xs.length=n at *
 have h3:cutN (xs.take n) (xs.take n).length=n:=by
  rw [h2]
  cases n with
  | zero=>rfl
  | succ k =>
   unfold cutN
   rw [atF_take xs (Nat.lt_succ_self k),if_neg (by simpa using h1 (Nat.succ_pos k))]
 rw [h3,List.take_take,Nat.min_self]
def Normal (xs:List UInt64):Prop:=cutF xs=xs
theorem normal_len {xs:List UInt64} (h:Normal xs) {k:Nat} (hk:valL xs<W64 ^ k):xs.length<=k:=by
 rcases Nat.lt_or_ge k xs.length with h1 | h1
 ·have h2:=cut_lower xs (by rw [h];omega)
  rw [h] at h2
  have h3:W64 ^ k<=W64 ^ (xs.length-1):=Nat.pow_le_pow_right (by decide) (by omega)
  omega
 ·exact h1
theorem okW {xs:List UInt64} (h:xs.length<1125899906842624):0+xs.length<=xs.length/\xs.length<1125899906842624/\True/\True:=⟨by omega,h,trivial,trivial⟩
end
end Go.Proofs.YtcbplfkeeaecgaaGreat
namespace Go.Proofs.YtcbplfkeeaecgaaGreat
theorem atF_set_eq {xs:List UInt64} {n:Nat} (h:n<xs.length) (v:UInt64):atF (xs.set n v) n=v:=by
 unfold atF
 rw [List.getD_eq_getElem?_getD,List.getElem?_set_self h]
 rfl
theorem atF_rep (n j:Nat):atF (List.replicate n 0) j=0:=by
 unfold atF
 rw [List.getD_eq_getElem?_getD,List.getElem?_replicate]
 split <;> rfl
end Go.Proofs.YtcbplfkeeaecgaaGreat
namespace Go.Proofs.YtcbplfkeeaecgaaGreat
open Go.RowKit
section
def unblock:Code->Code
 | .block _ c=>c
 | c=>c
end
section
abbrev Kr (F:List UInt64->Fp):Contract:=K1 aL oF.res F
end
section
abbrev aB:Arg (List UInt8):=argSl eU8
abbrev iB:Inp (List UInt8):=inpSl eU8
noncomputable abbrev cut2C:List Code:=flat (codeOf Tryz.f184)
def cut2St (xs:List UInt64) (z:Int):St:=mkSt 23 [(0,inV 0 xs),(3,vI z)] [inHE eU64 xs]
theorem cut2_start (xs:List UInt64):stageG (En []) 100 (cut2C.take 2) (startSt Tryz.f184 [iL.av 0 xs] [inHE eU64 xs]) [0,3] [0] [(0,.as),(3,.int)] [] []=(.vc (0+xs.length*1<=(List.map EK.u64.cell xs).length/\0<1) (.leaf (mkSt 23 [(0,.one (.c (.slc 0 0 (xs.length) 1 (.of 0) false))),(3,.one (.c (.int .i64 ((↑xs.length:Int)))))] [.live ⟨false,0,1,(.elts .u64 (xs:List UInt64)),false⟩]))):=by kernel_rfl
theorem cut2_round (xs:List UInt64) (z:Int):letI za':=IntKind.i64.wrap (z-1);roundT (En []) 100 (loopAt Tryz.f184 0) (cut2St xs z) (same [0,3] [0])=(.br (decide (z > 0)) (.vc ((0<=IntKind.i64.wrap (z-1)/\IntKind.i64.wrap (z-1)<(↑xs.length:Int))/\0+xs.length*1<=(List.map EK.u64.cell xs).length/\0<1) (.vc (0+za'.toNat*1<xs.length) (.br (xs.getD (0+za'.toNat*1) 0==UInt64.ofNat 0) (.leaf ((.normal,mkSt 23 [(0,.one (.c (.slc 0 0 (xs.length) 1 (.of 0) false))),(3,.one (.c (.int .i64 za')))] [.live ⟨false,0,1,(.elts .u64 (xs:List UInt64)),false⟩]))) (.leaf ((.exit 0,mkSt 23 [(0,.one (.c (.slc 0 0 (xs.length) 1 (.of 0) false))),(3,.one (.c (.int .i64 (z))))] [.live ⟨false,0,1,(.elts .u64 (xs:List UInt64)),false⟩])))))) (.leaf ((.exit 0,mkSt 23 [(0,.one (.c (.slc 0 0 (xs.length) 1 (.of 0) false))),(3,.one (.c (.int .i64 (z))))] [.live ⟨false,0,1,(.elts .u64 (xs:List UInt64)),false⟩])))):=by kernel_rfl
theorem cut2_end (xs:List UInt64) (z:Int):endT (En []) oL 100 Tryz.f184 (cut2C.drop 3) (cut2St xs z)=(.vc (0<=z/\0<=z.toNat/\z.toNat<=xs.length/\0+xs.length*1<=(List.map EK.u64.cell xs).length/\0<1/\(0=0 \/ 0<z.toNat)/\0=0/\1=1) (.vc (0+(z.toNat-0)<=xs.length/\0+(z.toNat-0)<=9223372036854775807/\(0+(z.toNat-0))*8<=140737488355328) (.leaf (some ((List.take (0+(z.toNat-0)) ([]++List.take (z.toNat-0) (List.drop 0 xs)),(.p (0+(z.toNat-0)<=([]++List.take (z.toNat-0) (List.drop 0 xs)).length)))))))):=by kernel_rfl
noncomputable abbrev takC:List Code:=flat (codeOf Tryz.f146)
def takSt (b:List UInt8) (out:List UInt64) (i:Int):St:=mkSt 41 [(0,.one (.c (.slc 0 0 b.length 1 (.of 0) false))),(3,slV 1 out),(12,.one (.c (.slc 0 0 b.length 1 (.of 0) false))),(13,vI b.length),(14,vI i)] [inHE eU8 b,ownL out]
noncomputable abbrev takE (cF:List UInt64->List UInt64):Env:=Ens [(184,K1 aLt rL cF)] [184]
theorem tak_start (cF:List UInt64->List UInt64) (b:List UInt8):letI za':=(IntKind.i64.wrap ((↑b.length:Int).tdiv 8)+1);letI zb':=0+b.length*1<=(List.map EK.u8.cell b).length/\0<1;letI zc':=IntKind.i64.wrap za';stageG (takE cF) 100 (takC.take 3) (startSt Tryz.f146 [iB.av 0 b] [inHE eU8 b]) [0,3,12,13,14] [0,1] [(0,.as),(3,.as),(12,.as),(13,.int),(14,.int)] [] []=(.vc zb' (.vc (0<=IntKind.i64.wrap za'/\IntKind.i64.wrap za'<=IntKind.i64.wrap za'/\(↑8:Int)*IntKind.i64.wrap za'<=281474976710656/\IntKind.i64.wrap za'<1125899906842624) (.vc zb' (.leaf (mkSt 41 [(0,.one (.c (.slc 0 0 (b.length) 1 (.of 0) false))),(3,.one (.c (.slc 1 0 (zc'.toNat) 1 (.of 0) false))),(12,.one (.c (.slc 0 0 (b.length) 1 (.of 0) false))),(13,.one (.c (.int .i64 ((↑b.length:Int))))),(14,.one (.c (.int .i64 0)))] [.live ⟨false,0,1,(.elts .u8 (b:List UInt8)),false⟩,.live ⟨true,22,1,(.elts .u64 (List.replicate zc'.toNat 0:List UInt64)),false⟩]))))):=by kernel_rfl
theorem tak_round (cF:List UInt64->List UInt64) (b:List UInt8) (out:List UInt64) (i:Int):letI za':=(IntKind.i64.wrap (IntKind.i64.wrap ((↑b.length:Int)-1)-i));letI zb':=((0<=IntKind.i64.wrap (za'.tdiv 8)/\IntKind.i64.wrap (za'.tdiv 8)<(↑out.length:Int))/\0+out.length*1<=(List.map EK.u64.cell out).length/\0<1);letI zc':=IntKind.i64.wrap (za'.tdiv 8);letI zd':=(↑b.length:Int);letI ze':=0+zc'.toNat*1<out.length;letI zf':=List.map EK.u8.cell b;roundT (takE cF) 100 (loopAt Tryz.f146 0) (takSt b out i) (same [0,3,12,13,14] [0,1])=(.br (decide (i<zd')) (.vc ((0<=i/\i<zd')/\0+b.length*1<=zf'.length/\0<1) (.vc (0+i.toNat*1<b.length) (.vc (0+b.length*1<=zf'.length/\0<1) (.vc zb' (.vc ze' (.vc zb' (.vc ze' (.leaf ((.normal,mkSt 41 [(0,.one (.c (.slc 0 0 (b.length) 1 (.of 0) false))),(3,.one (.c (.slc 1 0 (out.length) 1 (.of 0) false))),(12,.one (.c (.slc 0 0 (b.length) 1 (.of 0) false))),(13,.one (.c (.int .i64 (zd')))),(14,.one (.c (.int .i64 (IntKind.i64.wrap (i+1)))))] [.live ⟨false,0,1,(.elts .u8 (b:List UInt8)),false⟩,.live ⟨true,22,1,(.elts .u64 (out.set (0+zc'.toNat*1) (out.getD (0+zc'.toNat*1) 0 ||| shlU (b.getD (0+i.toNat*1) 0).toUInt64 (↑(UInt64.ofNat (IntKind.i64.wrap (8*za'.tmod 8) % 18446744073709551616).toNat).toNat:Int)):List UInt64)),false⟩])))))))))) (.leaf ((.exit 0,mkSt 41 [(0,.one (.c (.slc 0 0 (b.length) 1 (.of 0) false))),(3,.one (.c (.slc 1 0 (out.length) 1 (.of 0) false))),(12,.one (.c (.slc 0 0 (b.length) 1 (.of 0) false))),(13,.one (.c (.int .i64 (zd')))),(14,.one (.c (.int .i64 (i))))] [.live ⟨false,0,1,(.elts .u8 (b:List UInt8)),false⟩,.live ⟨true,22,1,(.elts .u64 (out:List UInt64)),false⟩])))):=by kernel_rfl
theorem tak_end (cF:List UInt64->List UInt64) (b:List UInt8) (out:List UInt64) (i:Int):letI za':=List.take out.length (List.drop 0 out);endT (takE cF) oL 100 Tryz.f146 (takC.drop 4) (takSt b out i)=(.vc ((0+out.length<=out.length/\out.length<1125899906842624/\0=0/\1=1)/\tiny za') (.leaf (some ((List.take (cF za').length (cF za'),(.p ((cF za').length<=(cF za').length))))))):=by kernel_rfl
end
end Go.Proofs.YtcbplfkeeaecgaaGreat
namespace Go.Proofs.YtcbplfkeeaecgaaGreat
def bAt (b:List UInt8) (j:Nat):UInt8:=b.getD j 0
def bval (b:List UInt8):Nat->Nat
 | 0=>0
 | n+1=>bval b n+(bAt b (b.length-1-n)).toNat*256 ^ n
theorem valAt_set_le (xs:List UInt64) (n:Nat) (v:UInt64) : ∀ {m:Nat},m<=n->valAt (xs.set n v) m=valAt xs m
 | 0,_=>rfl
 | m+1,h=>by
  simp only [valAt]
  rw [valAt_set_le xs n v (m:=m) (by omega),set_get xs n v (by omega)]
theorem valAt_set {xs:List UInt64} {n:Nat} (h:n<xs.length) (v:UInt64) : ∀ {m:Nat},n<m->valAt (xs.set n v) m+(atF xs n).toNat*W64 ^ n=valAt xs m+v.toNat*W64 ^ n
 | 0,h1=>by omega
 | m+1,h1=>by
  simp only [valAt]
  rcases Nat.lt_or_ge n m with h2 | h2
  ·have ih:=valAt_set h v h2
   rw [set_get xs n v (by omega)]
   omega
  ·have e:m=n:=by omega
   subst e
   rw [valAt_set_le xs m v (Nat.le_refl _),atF_set_eq h]
   omega
theorem valAt_split (xs:List UInt64) (q:Nat) : ∀ {m:Nat},q<m -> ∃ r,valAt xs m=valAt xs q+(atF xs q).toNat*W64 ^ q+r*W64 ^ (q+1)
 | 0,h=>by omega
 | m+1,h=>by
  rcases Nat.lt_or_ge q m with h2 | h2
  ·obtain ⟨r,hr⟩:=valAt_split xs q h2
   refine ⟨r+(atF xs m).toNat*W64 ^ (m-(q+1)),?_⟩
   simp only [valAt]
   rw [hr,Nat.add_mul,Nat.mul_assoc,<- Nat.pow_add,show m-(q+1)+(q+1)=m by omega]
   omega
  ·have e:m=q:=by omega
   subst e
   exact ⟨0,by simp only [valAt];omega⟩
theorem byte_pow (k:Nat):256 ^ k=256 ^ (k % 8)*W64 ^ (k / 8):=by
 have h:=Nat.mod_add_div k 8
 calc 256 ^ k=256 ^ (k % 8+8*(k / 8)):=by rw [h]
  _=256 ^ (k % 8)*(256 ^ 8) ^ (k / 8):=by rw [Nat.pow_add,Nat.pow_mul]
  _=_:=rfl
theorem shl8_nat (c:UInt8) {s:Nat} (hs:s<8):(shlU c.toUInt64 ((8*s:Nat):Int)).toNat=c.toNat*256 ^ s:=by
 have hc:=c.toNat_lt
 unfold shlU
 rw [Int.toNat_natCast,Nat.min_eq_left (by omega),UInt64.toNat_ofNat',Nat.pow_mul]
 have h1:(c.toUInt64).toNat=c.toNat:=rfl
 rw [h1]
 show c.toNat*256 ^ s % 18446744073709551616=_
 have h2:256 ^ s<=256 ^ 7:=Nat.pow_le_pow_right (by decide) (by omega)
 have h3:c.toNat*256 ^ s<=255*256 ^ 7:=Nat.mul_le_mul (by omega) h2
 exact Nat.mod_eq_of_lt (Nat.lt_of_le_of_lt h3 (by decide))
theorem valAt_rep (n:Nat) : ∀ m,valAt (List.replicate n 0) m=0
 | 0=>rfl
 | m+1=>by
  simp only [valAt]
  rw [valAt_rep n m,atF_rep]
  simp
def takAt (b:List UInt8):Nat->List UInt64
 | 0=>List.replicate (b.length / 8+1) 0
 | i+1=>(takAt b i).set ((b.length-1-i) / 8) (atF (takAt b i) ((b.length-1-i) / 8) ||| shlU (bAt b i).toUInt64 ((8*((b.length-1-i) % 8):Nat):Int))
theorem takAt_len (b:List UInt8) : ∀ i,(takAt b i).length=b.length / 8+1
 | 0=>by simp only [takAt,List.length_replicate]
 | i+1=>by simp only [takAt,List.length_set,takAt_len b i]
theorem or_add {x y:UInt64} {s:Nat} (hs:s<8) {c:Nat} (hy:y.toNat=c*256 ^ s) (hc:c<256) {m:Nat} (hx:x.toNat=m*256 ^ (s+1)):(x ||| y).toNat=x.toNat+y.toNat:=by
 rw [UInt64.toNat_or]
 have h2:(256:Nat) ^ (s+1)=2 ^ (8*(s+1)):=by rw [Nat.pow_mul]
 have hlt:y.toNat<2 ^ (8*(s+1)):=by
  rw [<- h2,hy,Nat.pow_succ,Nat.mul_comm (256 ^ s)]
  exact Nat.mul_lt_mul_of_pos_right hc (Nat.pow_pos (by decide))
 rw [hx,h2,Nat.mul_comm m]
 exact (Nat.two_pow_add_eq_or_of_lt hlt m).symm
theorem takAt_val (b:List UInt8) : ∀ i,i<=b.length->valAt (takAt b i) (b.length / 8+1)+bval b (b.length-i)=bval b b.length /\ ∃ m,valAt (takAt b i) (b.length / 8+1)=m*256 ^ (b.length-i)
 | 0,_=>by
  rw [show takAt b 0=List.replicate (b.length / 8+1) 0 from rfl,valAt_rep]
  exact ⟨by rw [Nat.zero_add,Nat.sub_zero],0,by rw [Nat.zero_mul]⟩
 | i+1,hi=>by
  obtain ⟨ih,m,hm⟩:=takAt_val b i (by omega)
  have hl:=takAt_len b i
  obtain ⟨k,hk⟩ : ∃ k,b.length-1-i=k:=⟨_,rfl⟩
  have hk1:b.length-i=k+1:=by omega
  have hk2:b.length-(i+1)=k:=by omega
  have hk3:b.length-1-k=i:=by omega
  have hq:k / 8<b.length / 8+1:=by omega
  have hs:k % 8<8:=Nat.mod_lt _ (by decide)
  rw [hk1] at ih hm
  simp only [bval] at ih
  rw [hk3] at ih
  rw [hk2]
  simp only [takAt]
  rw [hk]
  have e:=valAt_set (xs:=takAt b i) (n:=k / 8) (by omega) (atF (takAt b i) (k / 8) ||| shlU (bAt b i).toUInt64 ((8*(k % 8):Nat):Int)) hq
  obtain ⟨r,hr⟩:=valAt_split (takAt b i) (k / 8) hq
  have hvl:=valAt_lt (takAt b i) (k / 8)
  have hW:0<W64 ^ (k / 8):=Nat.pow_pos (by decide)
  have hpow:256 ^ (k+1)=256 ^ (k % 8+1)*W64 ^ (k / 8):=by rw [Nat.pow_succ,byte_pow k,Nat.mul_right_comm,<- Nat.pow_succ]
  have h0:valAt (takAt b i) (k / 8)=0/\(atF (takAt b i) (k / 8)).toNat+r*W64=m*256 ^ (k % 8+1):=by
   rw [hm,hpow,show W64 ^ (k / 8+1)=W64*W64 ^ (k / 8) by rw [Nat.pow_succ,Nat.mul_comm],<- Nat.mul_assoc m,<- Nat.mul_assoc r,Nat.add_assoc,<- Nat.add_mul] at hr
   have h1:=congrArg (· % W64 ^ (k / 8)) hr
   simp only [Nat.mul_mod_left,Nat.add_mul_mod_self_right,Nat.mod_eq_of_lt hvl] at h1
   refine ⟨h1.symm,?_⟩
   rw [<- h1,Nat.zero_add] at hr
   exact (Nat.eq_of_mul_eq_mul_right hW hr).symm
  obtain ⟨n,hn⟩ : ∃ n,(atF (takAt b i) (k / 8)).toNat=n*256 ^ (k % 8+1):=by
   have hd:256 ^ (k % 8+1) ∣ W64:=⟨256 ^ (7-k % 8),by rw [<- Nat.pow_add,show k % 8+1+(7-k % 8)=8 by omega];rfl⟩
   have h1:256 ^ (k % 8+1) ∣ (atF (takAt b i) (k / 8)).toNat:=(Nat.dvd_add_left (Nat.dvd_trans hd (Nat.dvd_mul_left _ r))).1 ⟨m,by rw [h0.2,Nat.mul_comm]⟩
   obtain ⟨n,hn⟩:=h1
   exact ⟨n,by rw [hn,Nat.mul_comm]⟩
  have hsum:=or_add hs (shl8_nat (bAt b i) hs) (bAt b i).toNat_lt hn
  rw [hsum,shl8_nat _ hs,Nat.add_mul,Nat.mul_assoc _ (256 ^ (k % 8)),<- byte_pow] at e
  refine ⟨by omega,m*256+(bAt b i).toNat,?_⟩
  rw [hm] at e
  rw [Nat.add_mul,Nat.mul_assoc,Nat.mul_comm 256,<- Nat.pow_succ]
  generalize m*256 ^ (k+1)=X at *
  generalize (bAt b i).toNat*256 ^ k=Z at *
  generalize (atF (takAt b i) (k / 8)).toNat*W64 ^ (k / 8)=Y at *
  clear ih hm hr h0 hn hsum hpow hvl hW
  omega
def takF (b:List UInt8):List UInt64:=cutF (takAt b b.length)
theorem takF_val (b:List UInt8):valL (takF b)=bval b b.length:=by
 have h:=(takAt_val b b.length (Nat.le_refl _)).1
 rw [Nat.sub_self] at h
 unfold takF
 rw [valL_cut]
 unfold valL
 rw [takAt_len]
 exact h
end Go.Proofs.YtcbplfkeeaecgaaGreat
namespace Go.Proofs.YtcbplfkeeaecgaaGreat
open Go.RowKit
section
theorem cut2_split:cut2C.drop 2 = .block 0 (.loop (loopAt Tryz.f184 0)) :: cut2C.drop 3:=by kernel_rfl
theorem cut2_ok:CallOk Tryz.prog 184 (K1 aLt rL cutF) :=
 G1 (E:=En []) Tryz.func184 (c:=codeOf Tryz.f184) (by kernel_rfl) (bodied Tryz.func184 (by kernel_rfl) (by kernel_rfl)) iLt oL cutF fun xs hx=>by
  have hx:xs.length<4294967296:=hx.2
  refine DoesL.stageG (En_ok .nil) 100 2 [0,3] [0] [(0,.as),(3,.int)] [] [] (cut2_start xs) ⟨⟨by rw [u64_len];omega,by decide⟩,fun _ => ?_⟩
  refine DoesL.blockLoop cut2_split (fun n:CutOk xs=>cut2St xs (n.1:Int)) (fun n=>n.1) ⟨xs.length,Nat.le_refl _,rfl⟩ fun n => ?_
  obtain ⟨n,h1,h2⟩:=n
  refine Does.round (En_ok .nil) 100 _ (cut2_round xs n) ⟨fun h => ?_,fun h => ?_⟩
  ·simp only [decide_eq_true_eq] at h
   obtain ⟨m,rfl⟩ : ∃ m,n=m+1:=⟨n-1,by omega⟩
   have hw:IntKind.i64.wrap (((m+1:Nat):Int)-1)=(m:Int):=by rw [IntWalk.i64_in _ (by omega)];omega
   rw [hw]
   refine ⟨⟨⟨by omega,by omega⟩,by rw [u64_len];omega,by decide⟩,fun _=>⟨by omega,fun _=>⟨fun h3 => ?_,fun h3 => ?_⟩⟩⟩
   ·refine ⟨⟨m,by omega,?_⟩,by show m<m+1;omega,rfl⟩
    rw [<- h2]
    have:atF xs m=0:=by
     simp only [beq_iff_eq,Nat.zero_add,Nat.mul_one,Int.toNat_natCast] at h3
     exact h3
    simp only [cutN,if_pos this]
   ·refine ⟨rfl,DoesL.ends (En_ok .nil) 100 (cut2_end xs ((m+1:Nat):Int)) ⟨?_,fun _=>⟨?_,fun _=>reads_p ?_ ?_⟩⟩⟩
    ·rw [u64_len,Int.toNat_natCast];exact ⟨by omega,by omega,by omega,by omega,by decide,.inl rfl,rfl,rfl⟩
    ·rw [Int.toNat_natCast];omega
    ·simp only [Int.toNat_natCast,Nat.zero_add,Nat.sub_zero,List.drop_zero,List.nil_append,List.take_take,Nat.min_self]
     unfold cutF
     rw [<- h2]
     have:atF xs m ≠ 0:=by
      simp only [beq_eq_false_iff_ne,Nat.zero_add,Nat.mul_one,Int.toNat_natCast] at h3
      exact h3
     simp only [cutN,if_neg this]
    ·simp only [Int.toNat_natCast,Nat.zero_add,Nat.sub_zero,List.drop_zero,List.nil_append,List.length_take]
     omega
  ·simp only [decide_eq_false_iff_not] at h
   obtain rfl:n=0:=by omega
   refine ⟨rfl,DoesL.ends (En_ok .nil) 100 (cut2_end xs 0) ⟨?_,fun _=>⟨?_,fun _=>reads_p ?_ ?_⟩⟩⟩
   ·rw [u64_len];exact ⟨by omega,by omega,by simp,by omega,by decide,.inl rfl,rfl,rfl⟩
   ·simp
   ·unfold cutF
    rw [<- h2]
    simp [cutN]
   ·simp
abbrev littleB (xs:List UInt8):Prop:=xs.length<16777216
abbrev aBs:Arg (List UInt8):=aB.such littleB
abbrev iBs:Inp (List UInt8):=iB.such littleB
theorem u8_len (xs:List UInt8):(List.map EK.u8.cell xs).length=xs.length:=List.length_map _
theorem vcLenB (xs:List UInt8):0+xs.length*1<=(List.map EK.u8.cell xs).length/\0<1:=⟨by rw [u8_len];omega,by decide⟩
theorem vcIdxB {xs:List UInt8} {n:Nat} (h:n<xs.length):((0:Int)<=(n:Int)/\(n:Int)<(xs.length:Int))/\0+xs.length*1<=(List.map EK.u8.cell xs).length/\0<1:=⟨⟨by omega,by omega⟩,vcLenB xs⟩
theorem vcGetB {xs:List UInt8} {n:Nat} (h:n<xs.length):0+((n:Int)).toNat*1<xs.length:=by rw [Int.toNat_natCast];omega
theorem getB (xs:List UInt8) (n:Nat):xs.getD (0+((n:Int)).toNat*1) 0=bAt xs n:=by rw [Int.toNat_natCast,Nat.zero_add,Nat.mul_one];rfl
theorem tdiv8 (n:Nat):((n:Int)).tdiv 8=((n / 8:Nat):Int):=by rw [Int.tdiv_eq_ediv_of_nonneg (by omega)];omega
theorem tmod8 (n:Nat):((n:Int)).tmod 8=((n % 8:Nat):Int):=by rw [Int.tmod_eq_emod_of_nonneg (by omega)];omega
theorem i64_nat {n:Nat} (h:n<9223372036854775808):IntKind.i64.wrap (n:Int)=(n:Int):=IntWalk.i64_in _ (by omega)
theorem back_nat {l i:Nat} (h:i<l) (hl:l<9223372036854775808):IntKind.i64.wrap (IntKind.i64.wrap ((l:Int)-1)-(i:Int))=((l-1-i:Nat):Int):=by
 rw [IntWalk.i64_in ((l:Int)-1) (by omega),IntWalk.i64_in _ (by omega)]
 omega
theorem shift_nat (k:Nat):IntKind.i64.wrap (8*((k % 8:Nat):Int))=((8*(k % 8):Nat):Int):=by
 rw [IntWalk.i64_in _ (by omega)]
 omega
theorem uint_nat {n:Nat} (h:n<18446744073709551616):(((UInt64.ofNat (((n:Int) % 18446744073709551616).toNat)).toNat:Nat):Int)=(n:Int):=by
 rw [UInt64.toNat_ofNat']
 omega
theorem tak_ok:CallOk Tryz.prog 146 (K1 aBs rL takF) :=
 G1 (E:=takE cutF) Tryz.func146 (c:=codeOf Tryz.f146) (by kernel_rfl) (bodied Tryz.func146 (by kernel_rfl) (by kernel_rfl)) iBs oL takF fun b hb=>by
  have hb:b.length<16777216:=hb.2
  have hE:EnvOk (takE cutF):=Ens_ok (.cons cut2_ok .nil)
  refine DoesL.stageG hE 100 3 _ _ _ _ _ (tak_start cutF b) ?_
  have hw:IntKind.i64.wrap (IntKind.i64.wrap ((b.length:Int).tdiv 8)+1)=((b.length / 8+1:Nat):Int):=by
   rw [tdiv8,i64_nat (by omega),IntWalk.i64_in _ (by omega)]
   omega
  rw [hw]
  refine ⟨vcLenB b,fun _=>⟨⟨by omega,by omega,by omega,by omega⟩,fun _=>⟨vcLenB b,fun _ => ?_⟩⟩⟩
  rw [Int.toNat_natCast]
  have h0:=takAt_len b 0
  refine (?_:DoesL _ _ (mkSt 41 [(0,.one (.c (.slc 0 0 b.length 1 (.of 0) false))),(3,.one (.c (.slc 1 0 (b.length / 8+1) 1 (.of 0) false))),(12,.one (.c (.slc 0 0 b.length 1 (.of 0) false))),(13,vI b.length),(14,vI 0)] [inHE eU8 b,ownL (takAt b 0)]) _)
  rw [<- h0]
  refine (?_:DoesL _ _ (takSt b (takAt b 0) ((0:Nat):Int)) _)
  refine DoesL.blockLoop (B:=loopAt Tryz.f146 0) (rest:=takC.drop 4) (id:=0) (by kernel_rfl) (fun i : { i:Nat // i<=b.length }=>takSt b (takAt b i.1) (i.1:Int)) (fun i=>b.length-i.1) ⟨0,Nat.zero_le _⟩ fun i => ?_
  obtain ⟨i,hi⟩:=i
  have hl:=takAt_len b i
  show Does _ _ (takSt b (takAt b i) (i:Int)) _
  refine Does.round hE 100 _ (tak_round cutF b (takAt b i) (i:Int)) ⟨fun h => ?_,fun h => ?_⟩
  ·simp only [decide_eq_true_eq] at h
   have hi':i<b.length:=by omega
   rw [back_nat hi' (by omega),tdiv8,tmod8,i64_nat (by omega),shift_nat,uint_nat (by omega),wrap_succ i (by omega)]
   have hq:(b.length-1-i) / 8<(takAt b i).length:=by omega
   refine ⟨vcIdxB hi',fun _=>⟨vcGetB hi',fun _=>⟨vcLenB b,fun _=>⟨vcIdx hq,fun _=>⟨vcGet hq,fun _=>⟨vcIdx hq,fun _=>⟨vcGet hq,fun _ => ?_⟩⟩⟩⟩⟩⟩⟩
   refine ⟨⟨i+1,hi'⟩,by show b.length-(i+1)<b.length-i;omega,?_⟩
   rw [getZ,getB,Int.toNat_natCast,Nat.zero_add,Nat.mul_one]
   have e:(takAt b (i+1)).length=(takAt b i).length:=by rw [takAt_len,takAt_len]
   show _=takSt b (takAt b (i+1)) ((i+1:Nat):Int)
   unfold takSt slV
   rw [e]
   rfl
  ·simp only [decide_eq_false_iff_not] at h
   obtain rfl:i=b.length:=by omega
   refine ⟨rfl,DoesL.ends hE 100 (tak_end cutF b _ _) ?_⟩
   simp only [whole]
   refine ⟨⟨okW (by omega),by show (takAt b _).length<_;omega⟩,fun _=>reads_p ?_ (Nat.le_refl _)⟩
   rw [List.take_length]
   rfl
end
section
abbrev rBI:Res (List UInt8 × Int):=resSl2 eU8 5
abbrev oBI:Out (List UInt8 × Int):=outSl2 eU8 5
abbrev rB:Res (List UInt8):=resSl eU8 5
abbrev oBl:Out (List UInt8):=outSl eU8 5
def ownB (xs:List UInt8):HE := .live ⟨true,5,1,.elts .u8 xs,false⟩
def slB (i:Nat) (xs:List UInt8):AV := .one (.c (.slc i 0 xs.length 1 (.of 0) false))
noncomputable abbrev putE (cF:List UInt64->List UInt64):Env:=Ens [(184,K1 aLt rL cF)] [184]
noncomputable abbrev putC:List Code:=flat (codeOf Tryz.f159)
noncomputable abbrev putB:Code:=loopAt Tryz.f159 0
noncomputable abbrev putI:Code:=loopAt Tryz.f159 1
noncomputable abbrev putD:Code:=match nth (flat putB) 2 with | some c=>unblock c | none => .skip
theorem putB_split:(flat putB).drop 2 = .block 1 putD :: (flat putB).drop 3:=by kernel_rfl
theorem putB_last:((flat putB).drop 3).drop 1 = []:=by kernel_rfl
theorem putD_split:(flat putD).drop 2 = .block 2 (.loop putI) :: []:=by kernel_rfl
def putSt (a:List UInt64) (n:Int) (out:List UInt8) (i:Int):St:=mkSt 60 [(1,vI n),(6,slB 1 out),(22,slV 0 a),(23,vI a.length),(24,vI i)] [ownL a,ownB out]
def putIn (a:List UInt64) (n:Int) (out:List UInt8) (i:Int) (x:UInt64) (k:Int):St:=mkSt 60 [(1,vI n),(6,slB 1 out),(7,vI i),(8,.one (.c (.u64 x))),(22,slV 0 a),(23,vI a.length),(24,vI i),(29,vI k)] [ownL a,ownB out]
theorem put_start (cF:List UInt64->List UInt64) (a:List UInt64) (n:Int):letI za':=List.take a.length (List.drop 0 a);segT (putE cF) oBI 100 Tryz.f159 (putC.take 6) (startSt Tryz.f159 [iL.av 0 a,vI n] [inHE eU64 a]) [1,6,22,23,24] [1,2] [(1,.as),(6,.as),(22,.as),(23,.int),(24,.int)] [] []=(.vc ((0+a.length<=a.length/\a.length<1125899906842624/\0=0/\1=1)/\tiny za') (.br (decide (n<0)) (.leaf (.inr (some ((([],8),.t))))) (.br (decide (n > 192)) (.leaf (.inr (some ((([],8),.t))))) (.vc (0<=n/\n<=n/\(↑1:Int)*n<=281474976710656/\n<1125899906842624) (.vc (0+(cF za').length*1<=(List.map EK.u64.cell (cF za')).length/\0<1) (.leaf (.inl (mkSt 60 [(1,.one (.c (.int .i64 (n)))),(6,.one (.c (.slc 1 0 (n.toNat) 1 (.of 0) false))),(22,.one (.c (.slc 0 0 ((cF za').length) 1 (.of 0) false))),(23,.one (.c (.int .i64 ((↑(cF za').length:Int))))),(24,.one (.c (.int .i64 0)))] [.live ⟨true,22,1,(.elts .u64 (cF za':List UInt64)),false⟩,.live ⟨true,5,1,(.elts .u8 (List.replicate n.toNat 0:List UInt8)),false⟩])))))))):=by kernel_rfl
theorem put_head (cF:List UInt64->List UInt64) (a:List UInt64) (n:Int) (out:List UInt8) (i:Int):letI za':=(↑a.length:Int);partT (putE cF) 100 ((flat putB).take 2) (putSt a n out i) (following [1,6,22,23,24] [0,1] [])=(.br (decide (i<za')) (.leaf ((.normal,mkSt 60 [(1,.one (.c (.int .i64 (n)))),(6,.one (.c (.slc 1 0 (out.length) 1 (.of 0) false))),(22,.one (.c (.slc 0 0 (a.length) 1 (.of 0) false))),(23,.one (.c (.int .i64 (za')))),(24,.one (.c (.int .i64 (i))))] [.live ⟨true,22,1,(.elts .u64 (a:List UInt64)),false⟩,.live ⟨true,5,1,(.elts .u8 (out:List UInt8)),false⟩]))) (.leaf ((.exit 0,mkSt 60 [(1,.one (.c (.int .i64 (n)))),(6,.one (.c (.slc 1 0 (out.length) 1 (.of 0) false))),(22,.one (.c (.slc 0 0 (a.length) 1 (.of 0) false))),(23,.one (.c (.int .i64 (za')))),(24,.one (.c (.int .i64 (i))))] [.live ⟨true,22,1,(.elts .u64 (a:List UInt64)),false⟩,.live ⟨true,5,1,(.elts .u8 (out:List UInt8)),false⟩])))):=by kernel_rfl
theorem put_in (cF:List UInt64->List UInt64) (a:List UInt64) (n:Int) (out:List UInt8) (i:Int):stageG (putE cF) 100 ((flat putD).take 2) (putSt a n out i) [1,6,7,8,22,23,24,29] [0,1] [(1,.as),(6,.as),(7,.as),(8,.as),(22,.as),(23,.as),(24,.as),(29,.int)] [] []=(.vc ((0<=i/\i<(↑a.length:Int))/\0+a.length*1<=(List.map EK.u64.cell a).length/\0<1) (.vc (0+i.toNat*1<a.length) (.leaf (mkSt 60 [(1,.one (.c (.int .i64 (n)))),(6,.one (.c (.slc 1 0 (out.length) 1 (.of 0) false))),(7,.one (.c (.int .i64 (i)))),(8,.one (.c (.u64 (a.getD (0+i.toNat*1) 0)))),(22,.one (.c (.slc 0 0 (a.length) 1 (.of 0) false))),(23,.one (.c (.int .i64 ((↑a.length:Int))))),(24,.one (.c (.int .i64 (i)))),(29,.one (.c (.int .i64 0)))] [.live ⟨true,22,1,(.elts .u64 (a:List UInt64)),false⟩,.live ⟨true,5,1,(.elts .u8 (out:List UInt8)),false⟩])))):=by kernel_rfl
theorem put_round (cF:List UInt64->List UInt64) (a:List UInt64) (n:Int) (out:List UInt8) (i:Int) (x:UInt64) (k:Int):letI za':=IntKind.i64.wrap (IntKind.i64.wrap (n-1)-IntKind.i64.wrap (8*i))-k;letI zb':=(shrU x (↑(UInt64.ofNat (IntKind.i64.wrap (8*k) % 18446744073709551616).toNat).toNat:Int));letI zc':=((0<=IntKind.i64.wrap za'/\IntKind.i64.wrap za'<(↑out.length:Int))/\0+out.length*1<=(List.map EK.u8.cell out).length/\0<1);letI zd':=((↑a.length:Int));letI ze':=(out.set (0+(IntKind.i64.wrap za').toNat*1) zb'.toUInt8:List UInt8);letI zf':=IntKind.i64.wrap (k+1);letI zg':=0+(IntKind.i64.wrap za').toNat*1<out.length;letI zh':=decide (IntKind.i64.wrap za' >= 0);iterT (putE cF) oBI 100 Tryz.f159 [putI] (putIn a n out i x k) [1,6,7,8,22,23,24,29] [0,1]=(.br (decide (k<8)) (.br (decide (IntKind.i64.wrap za'<0)) (.br (zb'.toUInt8 != UInt8.ofNat 0) (.leaf (.inr (some ((([],8),.t))))) (.br zh' (.vc zc' (.vc zg' (.leaf (.inl ((.normal,mkSt 60 [(1,.one (.c (.int .i64 (n)))),(6,.one (.c (.slc 1 0 (out.length) 1 (.of 0) false))),(7,.one (.c (.int .i64 (i)))),(8,.one (.c (.u64 (x)))),(22,.one (.c (.slc 0 0 (a.length) 1 (.of 0) false))),(23,.one (.c (.int .i64 zd'))),(24,.one (.c (.int .i64 (i)))),(29,.one (.c (.int .i64 zf')))] [.live ⟨true,22,1,(.elts .u64 (a:List UInt64)),false⟩,.live ⟨true,5,1,(.elts .u8 ze'),false⟩])))))) (.leaf (.inl ((.normal,mkSt 60 [(1,.one (.c (.int .i64 (n)))),(6,.one (.c (.slc 1 0 (out.length) 1 (.of 0) false))),(7,.one (.c (.int .i64 (i)))),(8,.one (.c (.u64 (x)))),(22,.one (.c (.slc 0 0 (a.length) 1 (.of 0) false))),(23,.one (.c (.int .i64 zd'))),(24,.one (.c (.int .i64 (i)))),(29,.one (.c (.int .i64 zf')))] [.live ⟨true,22,1,(.elts .u64 (a:List UInt64)),false⟩,.live ⟨true,5,1,(.elts .u8 (out:List UInt8)),false⟩])))))) (.br zh' (.vc zc' (.vc zg' (.leaf (.inl ((.normal,mkSt 60 [(1,.one (.c (.int .i64 (n)))),(6,.one (.c (.slc 1 0 (out.length) 1 (.of 0) false))),(7,.one (.c (.int .i64 (i)))),(8,.one (.c (.u64 (x)))),(22,.one (.c (.slc 0 0 (a.length) 1 (.of 0) false))),(23,.one (.c (.int .i64 zd'))),(24,.one (.c (.int .i64 (i)))),(29,.one (.c (.int .i64 zf')))] [.live ⟨true,22,1,(.elts .u64 (a:List UInt64)),false⟩,.live ⟨true,5,1,(.elts .u8 ze'),false⟩])))))) (.leaf (.inl ((.normal,mkSt 60 [(1,.one (.c (.int .i64 (n)))),(6,.one (.c (.slc 1 0 (out.length) 1 (.of 0) false))),(7,.one (.c (.int .i64 (i)))),(8,.one (.c (.u64 (x)))),(22,.one (.c (.slc 0 0 (a.length) 1 (.of 0) false))),(23,.one (.c (.int .i64 zd'))),(24,.one (.c (.int .i64 (i)))),(29,.one (.c (.int .i64 zf')))] [.live ⟨true,22,1,(.elts .u64 (a:List UInt64)),false⟩,.live ⟨true,5,1,(.elts .u8 (out:List UInt8)),false⟩])))))) (.leaf (.inl ((.exit 2,mkSt 60 [(1,.one (.c (.int .i64 (n)))),(6,.one (.c (.slc 1 0 (out.length) 1 (.of 0) false))),(7,.one (.c (.int .i64 (i)))),(8,.one (.c (.u64 (x)))),(22,.one (.c (.slc 0 0 (a.length) 1 (.of 0) false))),(23,.one (.c (.int .i64 zd'))),(24,.one (.c (.int .i64 (i)))),(29,.one (.c (.int .i64 (k))))] [.live ⟨true,22,1,(.elts .u64 (a:List UInt64)),false⟩,.live ⟨true,5,1,(.elts .u8 (out:List UInt8)),false⟩]))))):=by kernel_rfl
theorem put_next (cF:List UInt64->List UInt64) (a:List UInt64) (n:Int) (out:List UInt8) (i:Int) (x:UInt64) (k:Int):partT (putE cF) 100 (((flat putB).drop 3).take 1) (putIn a n out i x k) (following [1,6,22,23,24] [0,1] [])=(.leaf ((.normal,mkSt 60 [(1,.one (.c (.int .i64 (n)))),(6,.one (.c (.slc 1 0 (out.length) 1 (.of 0) false))),(22,.one (.c (.slc 0 0 (a.length) 1 (.of 0) false))),(23,.one (.c (.int .i64 ((↑a.length:Int))))),(24,.one (.c (.int .i64 (IntKind.i64.wrap (i+1)))))] [.live ⟨true,22,1,(.elts .u64 (a:List UInt64)),false⟩,.live ⟨true,5,1,(.elts .u8 (out:List UInt8)),false⟩]))):=by kernel_rfl
theorem put_end (cF:List UInt64->List UInt64) (a:List UInt64) (n:Int) (out:List UInt8) (i:Int):endT (putE cF) oBI 100 Tryz.f159 (putC.drop 7) (putSt a n out i) =
 (.leaf (some (((List.take out.length out,0),(.p (out.length<=out.length)))))):=by kernel_rfl
noncomputable abbrev rputE (cF:List UInt64->List UInt64) (lF:List UInt64->Nat->UInt64):Env:=Ens [(137,K1 aLc rL cF),(136,K2 aL argNat kU64.rs.res lF)] [137]
noncomputable abbrev rputC:List Code:=flat (codeOf Tryz.f158)
def rputSt (a:List UInt64) (n i:Int):St:=mkSt 59 [(0,slV 0 a),(1,vI n),(6,vI i)] [ownL a]
def rputTo (a:List UInt64) (n:Int) (out:List UInt8) (i:Int):St:=mkSt 59 [(0,slV 0 a),(1,vI n),(7,slB 1 out),(8,vI i)] [ownL a,ownB out]
theorem rput_start (cF:List UInt64->List UInt64) (lF:List UInt64->Nat->UInt64) (a:List UInt64) (n:Int):letI za':=List.take a.length (List.drop 0 a);segT (rputE cF lF) oBI 100 Tryz.f158 (rputC.take 5) (startSt Tryz.f158 [iL.av 0 a,vI n] [inHE eU64 a]) [0,1,6] [1] [(0,.as),(1,.as),(6,.as)] [] []=(.vc ((0+a.length<=a.length/\a.length<1125899906842624/\0=0/\1=1)/\short za') (.br (decide (n<0)) (.leaf (.inr (some ((([],8),.t))))) (.br (decide (n > 192)) (.leaf (.inr (some ((([],8),.t))))) (.leaf (.inl (mkSt 59 [(0,.one (.c (.slc 0 0 ((cF za').length) 1 (.of 0) false))),(1,.one (.c (.int .i64 (n)))),(6,.one (.c (.int .i64 (n))))] [.live ⟨true,22,1,(.elts .u64 (cF za':List UInt64)),false⟩])))))):=by kernel_rfl
theorem rput_round (cF:List UInt64->List UInt64) (lF:List UInt64->Nat->UInt64) (a:List UInt64) (n i:Int):letI za':=IntKind.i64.wrap (i.tdiv 8);letI zb':=List.map EK.u64.cell a;iterT (rputE cF lF) oBI 100 Tryz.f158 [loopAt Tryz.f158 0] (rputSt a n i) [0,1,6] [0]=(.vc (0+a.length*1<=zb'.length/\0<1) (.br (decide (i<IntKind.i64.wrap (8*(↑a.length:Int)))) (.vc ((0<=IntKind.i64.wrap (i.tdiv 8)/\IntKind.i64.wrap (i.tdiv 8)<(↑a.length:Int))/\0+a.length*1<=zb'.length/\0<1) (.vc (0+za'.toNat*1<a.length) (.vc (0<=IntKind.i64.wrap (8*i.tmod 8)) (.br ((shrU (a.getD (0+za'.toNat*1) 0) (IntKind.i64.wrap (8*i.tmod 8))).toUInt8 != UInt8.ofNat 0) (.leaf (.inr (some ((([],8),.t))))) (.leaf (.inl ((.normal,mkSt 59 [(0,.one (.c (.slc 0 0 (a.length) 1 (.of 0) false))),(1,.one (.c (.int .i64 (n)))),(6,.one (.c (.int .i64 (IntKind.i64.wrap (i+1)))))] [.live ⟨true,22,1,(.elts .u64 (a:List UInt64)),false⟩])))))))) (.leaf (.inl ((.exit 0,mkSt 59 [(0,.one (.c (.slc 0 0 (a.length) 1 (.of 0) false))),(1,.one (.c (.int .i64 (n)))),(6,.one (.c (.int .i64 (i))))] [.live ⟨true,22,1,(.elts .u64 (a:List UInt64)),false⟩])))))):=by kernel_rfl
theorem rput_mid (cF:List UInt64->List UInt64) (lF:List UInt64->Nat->UInt64) (a:List UInt64) (n i:Int):stageG (rputE cF lF) 100 ((rputC.drop 6).take 2) (rputSt a n i) [0,1,7,8] [0,1] [(0,.as),(1,.as),(7,.as),(8,.int)] [] []=(.vc (0<=n/\n<=n/\(↑1:Int)*n<=281474976710656/\n<1125899906842624) (.leaf (mkSt 59 [(0,.one (.c (.slc 0 0 (a.length) 1 (.of 0) false))),(1,.one (.c (.int .i64 (n)))),(7,.one (.c (.slc 1 0 (n.toNat) 1 (.of 0) false))),(8,.one (.c (.int .i64 0)))] [.live ⟨true,22,1,(.elts .u64 (a:List UInt64)),false⟩,.live ⟨true,5,1,(.elts .u8 (List.replicate n.toNat 0:List UInt8)),false⟩]))):=by kernel_rfl
theorem rput_fill (cF:List UInt64->List UInt64) (lF:List UInt64->Nat->UInt64) (a:List UInt64) (n:Int) (out:List UInt8) (i:Int):letI za':=IntKind.i64.wrap (n-1)-i;letI zb':=IntKind.i64.wrap za';roundT (rputE cF lF) 100 (loopAt Tryz.f158 1) (rputTo a n out i) (same [0,1,7,8] [0,1])=(.br (decide (i<n)) (.vc ((0+a.length<=a.length/\a.length<1125899906842624/\0=0/\1=1)/\0<=IntKind.i64.wrap (i.tdiv 8)) (.vc (0<=IntKind.i64.wrap (8*i.tmod 8)) (.vc ((0<=IntKind.i64.wrap za'/\IntKind.i64.wrap za'<(↑out.length:Int))/\0+out.length*1<=(List.map EK.u8.cell out).length/\0<1) (.vc (0+zb'.toNat*1<out.length) (.leaf ((.normal,mkSt 59 [(0,.one (.c (.slc 0 0 (a.length) 1 (.of 0) false))),(1,.one (.c (.int .i64 (n)))),(7,.one (.c (.slc 1 0 (out.length) 1 (.of 0) false))),(8,.one (.c (.int .i64 (IntKind.i64.wrap (i+1)))))] [.live ⟨true,22,1,(.elts .u64 (a:List UInt64)),false⟩,.live ⟨true,5,1,(.elts .u8 (out.set (0+zb'.toNat*1) (shrU (lF (List.take a.length (List.drop 0 a)) (IntKind.i64.wrap (i.tdiv 8)).toNat) (IntKind.i64.wrap (8*i.tmod 8))).toUInt8:List UInt8)),false⟩]))))))) (.leaf ((.exit 2,mkSt 59 [(0,.one (.c (.slc 0 0 (a.length) 1 (.of 0) false))),(1,.one (.c (.int .i64 (n)))),(7,.one (.c (.slc 1 0 (out.length) 1 (.of 0) false))),(8,.one (.c (.int .i64 (i))))] [.live ⟨true,22,1,(.elts .u64 (a:List UInt64)),false⟩,.live ⟨true,5,1,(.elts .u8 (out:List UInt8)),false⟩])))):=by kernel_rfl
theorem rput_end (cF:List UInt64->List UInt64) (lF:List UInt64->Nat->UInt64) (a:List UInt64) (n:Int) (out:List UInt8) (i:Int):endT (rputE cF lF) oBI 100 Tryz.f158 (rputC.drop 9) (rputTo a n out i)=(.leaf (some (((List.take out.length out,0),(.p (out.length<=out.length)))))):=by kernel_rfl
end
section
def byteAt (a:List UInt64) (j:Nat):UInt8:=(shrU (atF a (j / 8)) ((8*(j % 8):Nat):Int)).toUInt8
def fillB (a:List UInt64) (n g:Nat):List UInt8:=(List.range n).map fun t=>if n-1-t<g then byteAt a (n-1-t) else 0
def fullB (a:List UInt64) (n:Nat):List UInt8:=(List.range n).map fun t=>byteAt a (n-1-t)
def overB (a:List UInt64) (n:Nat):Nat->Bool
 | 0=>false
 | g+1=>overB a n g || (decide (n<=g) && (byteAt a g != 0))
def putO (a:List UInt64) (n:Nat):List UInt8 × Int:=match overB a n (8*a.length) with
 | true=>([],8)
 | false=>(fullB a n,0)
def putF (a:List UInt64) (z:Int):List UInt8 × Int:=if z<0 then ([],8) else if z > 192 then ([],8) else putO (cutF a) z.toNat
theorem fillB_len (a:List UInt64) (n g:Nat):(fillB a n g).length=n:=by unfold fillB;rw [List.length_map,List.length_range]
theorem fullB_len (a:List UInt64) (n:Nat):(fullB a n).length=n:=by unfold fullB;rw [List.length_map,List.length_range]
theorem fillB_zero (a:List UInt64) (n:Nat):List.replicate n 0=fillB a n 0:=by
 refine List.ext_getElem (by rw [List.length_replicate,fillB_len]) fun j h1 h2 => ?_
 simp [fillB]
theorem fillB_set (a:List UInt64) {n g:Nat} (h:g<n):(fillB a n g).set (n-1-g) (byteAt a g)=fillB a n (g+1):=by
 refine List.ext_getElem (by rw [List.length_set,fillB_len,fillB_len]) fun j h1 h2 => ?_
 rw [fillB_len] at h2
 rw [List.getElem_set]
 simp only [fillB,List.getElem_map,List.getElem_range]
 by_cases e:n-1-g=j
 ·rw [if_pos e,if_pos (by omega),show n-1-j=g by omega]
 ·rw [if_neg e]
  by_cases h3:n-1-j<g
  ·rw [if_pos h3,if_pos (by omega)]
  ·rw [if_neg h3,if_neg (by omega)]
theorem fillB_more (a:List UInt64) {n g:Nat} (h:n<=g):fillB a n (g+1)=fillB a n g:=by
 refine List.ext_getElem (by rw [fillB_len,fillB_len]) fun j h1 h2 => ?_
 rw [fillB_len] at h2
 simp only [fillB,List.getElem_map,List.getElem_range]
 rw [if_pos (by omega),if_pos (by omega)]
theorem fillB_all (a:List UInt64) {n g:Nat} (h:n<=g):fillB a n g=fullB a n:=by
 refine List.ext_getElem (by rw [fillB_len,fullB_len]) fun j h1 h2 => ?_
 rw [fullB_len] at h2
 simp only [fillB,fullB,List.getElem_map,List.getElem_range]
 rw [if_pos (by omega)]
theorem byteAt_out (a:List UInt64) {j:Nat} (h:8*a.length<=j):byteAt a j=0:=by
 unfold byteAt
 rw [atF_out (by omega)]
 unfold shrU
 rw [show (0:UInt64).toNat=0 from rfl,Nat.zero_div]
 rfl
theorem fillB_end (a:List UInt64) (n:Nat):fillB a n (8*a.length)=fullB a n:=by
 refine List.ext_getElem (by rw [fillB_len,fullB_len]) fun j h1 h2 => ?_
 simp only [fillB,fullB,List.getElem_map,List.getElem_range]
 split
 ·rfl
 ·rw [byteAt_out a (by omega)]
theorem overB_mono {a:List UInt64} {n:Nat} : ∀ {g h:Nat},g<=h->overB a n g=true->overB a n h=true
 | g,0,hl,he=>by rw [show g=0 by omega] at he;exact he
 | g,h+1,hl,he=>by
  rcases Nat.lt_or_ge g (h+1) with h1 | h1
  ·simp only [overB]
   rw [overB_mono (h:=h) (by omega) he,Bool.true_or]
  ·rw [show h+1=g by omega];exact he
theorem overB_low {a:List UInt64} {n:Nat} : ∀ {g:Nat},g<=n->overB a n g=false
 | 0,_=>rfl
 | g+1,h=>by
  simp only [overB]
  rw [overB_low (g:=g) (by omega),decide_eq_false (by omega)]
  rfl
theorem overB_yes {a:List UInt64} {n g:Nat} (h:n<=g) (hb:(byteAt a g != 0)=true) (hg:g<8*a.length):putO a n=([],8):=by
 have h1:overB a n (g+1)=true:=by simp only [overB];rw [hb,decide_eq_true h];simp
 unfold putO
 rw [overB_mono (by omega) h1]
theorem overB_no {a:List UInt64} {n g:Nat} (h:overB a n g=false) (hb:(byteAt a g != 0)=false):overB a n (g+1)=false:=by
 simp only [overB]
 rw [h,hb]
 simp
theorem overB_in {a:List UInt64} {n g:Nat} (h:overB a n g=false) (hg:g<n):overB a n (g+1)=false:=overB_low (by omega)
theorem putO_done {a:List UInt64} {n:Nat} (h:overB a n (8*a.length)=false):putO a n=(fullB a n,0):=by
 unfold putO
 rw [h]
theorem byte_in (a:List UInt64) (i:Nat) {k:Nat} (hk:k<8):byteAt a (8*i+k)=(shrU (atF a i) ((8*k:Nat):Int)).toUInt8:=by
 unfold byteAt
 rw [show (8*i+k) / 8=i by omega,show (8*i+k) % 8=k by omega]
end
section
theorem to_nat (m i k:Nat) (hm:m<=192) (hi:i<4611686018427387904 / 64) (hk:k<=8):IntKind.i64.wrap (IntKind.i64.wrap (IntKind.i64.wrap ((m:Int)-1)-IntKind.i64.wrap (8*(i:Int)))-(k:Int))=(m:Int)-1-(8*i+k:Nat):=by
 rw [IntWalk.i64_in ((m:Int)-1) (by omega),IntWalk.i64_in (8*(i:Int)) (by omega),IntWalk.i64_in ((m:Int)-1-8*(i:Int)) (by omega),IntWalk.i64_in _ (by omega)]
 omega
theorem shift8 {k:Nat} (hk:k<8):(((UInt64.ofNat ((IntKind.i64.wrap (8*(k:Int))) % 18446744073709551616).toNat).toNat:Nat):Int)=((8*k:Nat):Int):=by
 rw [IntWalk.i64_in _ (by omega),UInt64.toNat_ofNat']
 omega
theorem putIn_eq (a:List UInt64) (n:Int) (out l:List UInt8) (i:Int) (x:UInt64) (k:Int) (h:l.length=out.length):mkSt 60 [(1,vI n),(6,.one (.c (.slc 1 0 out.length 1 (.of 0) false))),(7,vI i),(8,.one (.c (.u64 x))),(22,slV 0 a),(23,vI a.length),(24,vI i),(29,vI k)] [ownL a,ownB l]=putIn a n l i x k:=by
 unfold putIn slB
 rw [h]
abbrev PIn (a:List UInt64) (m i:Nat):Type := { k:Nat // k<=8/\overB a m (8*i+k)=false }
theorem put_limb {a:List UInt64} {m i:Nat} (hm:m<=192) (hi:i<a.length) (hbig:a.length<4294967296) {R:X × St->Prop} (hR : ∀ s,EndsAs (putE cutF) Tryz.f159 (Reads oBI (putO a m)) (.ret,s)->R (.ret,s))
  (hov:overB a m (8*i)=false)
  (h:overB a m (8*(i+1))=false -> ∀ x k,DoesL (putE cutF) ((flat putB).drop 3) (putIn a (m:Int) (fillB a m (8*(i+1))) (i:Int) x k) R):DoesL (putE cutF) ((flat putB).drop 2) (putSt a (m:Int) (fillB a m (8*i)) (i:Int)) R:=by
 have hE:EnvOk (putE cutF):=Ens_ok (.cons cut2_ok .nil)
 rw [putB_split]
 show Does _ (.block 1 putD) _ (ThenX R fun s=>DoesL _ ((flat putB).drop 3) s R)
 refine Does.block (Does.flat putD ?_)
 refine DoesL.stageG hE 100 2 _ _ _ _ _ (put_in cutF a (m:Int) (fillB a m (8*i)) (i:Int)) ⟨vcIdx hi,fun _=>⟨vcGet hi,fun _ => ?_⟩⟩
 rw [getZ]
 refine (?_:DoesL _ _ (putIn a (m:Int) (fillB a m (8*i+0)) (i:Int) (atF a i) ((0:Nat):Int)) _)
 refine DoesL.blockLoop (B:=putI) (rest := []) (id:=2) putD_split (fun q:PIn a m i=>putIn a (m:Int) (fillB a m (8*i+q.1)) (i:Int) (atF a i) (q.1:Int)) (fun q=>8-q.1) ⟨0,Nat.zero_le _,hov⟩ fun q => ?_
 obtain ⟨k,hk,ho⟩:=q
 show Does _ _ (putIn a (m:Int) (fillB a m (8*i+k)) (i:Int) (atF a i) (k:Int)) _
 refine Does.of1 (DoesL.partR (x:=putO a m) hE 100 1 _ _ (fun s hs => ?_) (put_round cutF a (m:Int) (fillB a m (8*i+k)) (i:Int) (atF a i) (k:Int)) ?_)
 ·exact hR s hs
 rw [to_nat m i k hm (by omega) hk]
 have hl:=fillB_len a m (8*i+k)
 refine ⟨fun h1 => ?_,fun h1 => ?_⟩
 ·simp only [decide_eq_true_eq] at h1
  have hk':k<8:=by omega
  rw [shift8 hk',<- byte_in a i hk',wrap_succ k (by omega)]
  refine ⟨fun h2 => ?_,fun h2 => ?_⟩
  ·simp only [decide_eq_true_eq] at h2
   refine ⟨fun h3 => ?_,fun h3=>⟨fun h4 => ?_,fun h4 => ?_⟩⟩
   ·exact ⟨.t,by rw [overB_yes (by omega) h3 (by omega)],trivial⟩
   ·simp only [ge_iff_le,decide_eq_true_eq] at h4
    omega
   ·refine ⟨_,Wk.refl _,⟨k+1,hk',overB_no ho h3⟩,by show 8-(k+1)<8-k;omega,?_⟩
    show _=putIn a (m:Int) (fillB a m (8*i+k+1)) (i:Int) (atF a i) ((k+1:Nat):Int)
    rw [fillB_more a (by omega)]
    rfl
  ·simp only [decide_eq_false_iff_not] at h2
   have hg:8*i+k<m:=by omega
   have hto:(m:Int)-1-((8*i+k:Nat):Int)=((m-1-(8*i+k):Nat):Int):=by omega
   rw [hto]
   have hlt:m-1-(8*i+k)<(fillB a m (8*i+k)).length:=by omega
   refine ⟨fun _=>⟨vcIdxB hlt,fun _=>⟨vcGetB hlt,fun _ => ?_⟩⟩,fun h4 => ?_⟩
   ·refine ⟨_,Wk.refl _,⟨k+1,hk',overB_in ho hg⟩,by show 8-(k+1)<8-k;omega,?_⟩
    show _=putIn a (m:Int) (fillB a m (8*i+k+1)) (i:Int) (atF a i) ((k+1:Nat):Int)
    rw [<- fillB_set a hg,<- putIn_eq a _ (fillB a m (8*i+k)) _ _ _ _ (by rw [List.length_set]),Int.toNat_natCast,Nat.zero_add,Nat.mul_one]
    rfl
   ·simp only [ge_iff_le,decide_eq_false_iff_not] at h4
    omega
 ·simp only [decide_eq_false_iff_not] at h1
  obtain rfl:k=8:=by omega
  have ho:overB a m (8*(i+1))=false:=ho
  exact ⟨rfl,_,Wk.refl _,h ho (atF a i) ((8:Nat):Int)⟩
theorem put_ok:CallOk Tryz.prog 159 (K2 aLt kInt.arg rBI putF) :=
 G2 (E:=putE cutF) Tryz.func159 (c:=codeOf Tryz.f159) (by kernel_rfl) (bodied Tryz.func159 (by kernel_rfl) (by kernel_rfl)) iLt kInt.inp oBI putF fun a0 z ha _=>by
  have ha:a0.length<4294967296:=ha.2
  have hE:EnvOk (putE cutF):=Ens_ok (.cons cut2_ok .nil)
  refine DoesL.seg hE 100 6 _ _ _ _ _ (put_start cutF a0 z) ?_
  simp only [whole]
  refine ⟨⟨okW (by omega),ha⟩,fun _=>⟨fun h => ?_,fun h=>⟨fun h2 => ?_,fun h2 => ?_⟩⟩⟩
  ·simp only [decide_eq_true_eq] at h
   exact ⟨.t,by unfold putF;rw [if_pos h],trivial⟩
  ·simp only [decide_eq_true_eq] at h2
   exact ⟨.t,by unfold putF;rw [if_neg (by omega),if_pos h2],trivial⟩
  simp only [decide_eq_false_iff_not] at h h2
  obtain ⟨m,rfl⟩ : ∃ m:Nat,z=(m:Int):=⟨z.toNat,by omega⟩
  have hm:m<=192:=by omega
  have hres:putF a0 (m:Int)=putO (cutF a0) m:=by unfold putF;rw [if_neg (by omega),if_neg (by omega),Int.toNat_natCast]
  rw [hres]
  have hal:(cutF a0).length<4294967296:=Nat.lt_of_le_of_lt (cutF_len a0) ha
  generalize cutF a0=a at *
  refine ⟨⟨by omega,by omega,by omega,by omega⟩,fun _=>⟨vcLen a,fun _ => ?_⟩⟩
  rw [Int.toNat_natCast,fillB_zero a m]
  refine (?_:DoesL _ _ (mkSt 60 [(1,vI m),(6,.one (.c (.slc 1 0 m 1 (.of 0) false))),(22,slV 0 a),(23,vI a.length),(24,vI ((0:Nat):Int))] [ownL a,ownB (fillB a m (8*0))]) _)
  have e0:mkSt 60 [(1,vI m),(6,.one (.c (.slc 1 0 m 1 (.of 0) false))),(22,slV 0 a),(23,vI a.length),(24,vI ((0:Nat):Int))] [ownL a,ownB (fillB a m (8*0))]=putSt a (m:Int) (fillB a m (8*0)) ((0:Nat):Int):=by
   unfold putSt slB
   rw [fillB_len]
  rw [e0]
  refine DoesL.blockLoop (B:=putB) (rest:=putC.drop 7) (id:=0) (by kernel_rfl) (fun i : { i:Nat // i<=a.length/\overB a m (8*i)=false }=>putSt a (m:Int) (fillB a m (8*i.1)) (i.1:Int)) (fun i=>a.length-i.1) ⟨0,Nat.zero_le _,rfl⟩ fun i => ?_
  obtain ⟨i,hi,hov⟩:=i
  show Does _ _ (putSt a (m:Int) (fillB a m (8*i)) (i:Int)) _
  refine Does.flat putB ?_
  refine DoesL.part hE 100 2 _ (put_head cutF a (m:Int) (fillB a m (8*i)) (i:Int)) ⟨fun h => ?_,fun h => ?_⟩
  ·simp only [decide_eq_true_eq] at h
   have hi':i<a.length:=by omega
   refine put_limb hm hi' hal (fun s hs=>hs) hov fun hov2 x k => ?_
   refine DoesL.part hE 100 1 _ (put_next cutF a (m:Int) _ (i:Int) x k) ?_
   rw [wrap_succ i (by omega)]
   simp only [putB_last]
   exact ⟨_,Wk.refl _,⟨i+1,hi',hov2⟩,by show a.length-(i+1)<a.length-i;omega,rfl⟩
  ·simp only [decide_eq_false_iff_not] at h
   obtain rfl:i=a.length:=by omega
   refine ⟨rfl,DoesL.ends hE 100 (put_end cutF a _ _ _) (reads_p ?_ (Nat.le_refl _))⟩
   rw [List.take_length,putO_done hov,fillB_end]
theorem rput_ok:CallOk Tryz.prog 158 (K2 aLt kInt.arg rBI putF) :=
 G2 (E:=rputE cutF atF) Tryz.func158 (c:=codeOf Tryz.f158) (by kernel_rfl) (bodied Tryz.func158 (by kernel_rfl) (by kernel_rfl)) iLt kInt.inp oBI putF fun a0 z ha _=>by
  have ha:a0.length<4294967296:=ha.2
  have hE:EnvOk (rputE cutF atF):=Ens_ok (.cons cut_ok (.cons limb_ok .nil))
  refine DoesL.seg hE 100 5 _ _ _ _ _ (rput_start cutF atF a0 z) ?_
  simp only [whole]
  refine ⟨⟨okW (by omega),by show a0.length<_;omega⟩,fun _=>⟨fun h => ?_,fun h=>⟨fun h2 => ?_,fun h2 => ?_⟩⟩⟩
  ·simp only [decide_eq_true_eq] at h
   exact ⟨.t,by unfold putF;rw [if_pos h],trivial⟩
  ·simp only [decide_eq_true_eq] at h2
   exact ⟨.t,by unfold putF;rw [if_neg (by omega),if_pos h2],trivial⟩
  simp only [decide_eq_false_iff_not] at h h2
  obtain ⟨m,rfl⟩ : ∃ m:Nat,z=(m:Int):=⟨z.toNat,by omega⟩
  have hm:m<=192:=by omega
  have hres:putF a0 (m:Int)=putO (cutF a0) m:=by unfold putF;rw [if_neg (by omega),if_neg (by omega),Int.toNat_natCast]
  rw [hres]
  have hal:(cutF a0).length<4294967296:=Nat.lt_of_le_of_lt (cutF_len a0) ha
  generalize cutF a0=a at *
  refine (?_:DoesL _ _ (rputSt a (m:Int) (m:Int)) _)
  refine DoesL.blockLoopR (B:=loopAt Tryz.f158 0) (rest:=rputC.drop 6) (id:=0) (by kernel_rfl) (fun g : { g:Nat // m<=g/\g<=max m (8*a.length)/\overB a m g=false }=>rputSt a (m:Int) (g.1:Int)) (fun g=>max m (8*a.length)-g.1) ⟨m,Nat.le_refl _,by omega,overB_low (Nat.le_refl _)⟩ fun g => ?_
  obtain ⟨g,hg1,hg2,hov⟩:=g
  refine DoesL.iter hE 100 _ _ (rput_round cutF atF a (m:Int) (g:Int)) ?_
  have hw:IntKind.i64.wrap (8*(a.length:Int))=((8*a.length:Nat):Int):=by rw [IntWalk.i64_in _ (by omega)];omega
  rw [hw]
  refine ⟨vcLen a,fun _=>⟨fun h1 => ?_,fun h1 => ?_⟩⟩
  ·simp only [decide_eq_true_eq] at h1
   have hg:g<8*a.length:=by omega
   rw [tdiv8,tmod8,i64_nat (by omega),shift_nat,wrap_succ g (by omega),getZ]
   have hq:g / 8<a.length:=by omega
   refine ⟨vcIdx hq,fun _=>⟨vcGet hq,fun _=>⟨by omega,fun _=>⟨fun h3 => ?_,fun h3 => ?_⟩⟩⟩⟩
   ·exact ⟨.t,by rw [overB_yes hg1 h3 hg],trivial⟩
   ·exact ⟨⟨g+1,by omega,by omega,overB_no hov h3⟩,by show max m (8*a.length)-(g+1)<max m (8*a.length)-g;omega,rfl⟩
  ·simp only [decide_eq_false_iff_not] at h1
   refine ⟨rfl,?_⟩
   have hov2:overB a m (8*a.length)=false:=by
    cases hb:overB a m (8*a.length) with
    | false=>rfl
    | true=>rw [overB_mono (by omega) hb] at hov;exact hov
   rw [putO_done hov2]
   refine DoesL.stageG hE 100 2 _ _ _ _ _ (rput_mid cutF atF a (m:Int) (g:Int)) ⟨⟨by omega,by omega,by omega,by omega⟩,fun _ => ?_⟩
   rw [Int.toNat_natCast,fillB_zero a m]
   have e0:mkSt 59 [(0,slV 0 a),(1,vI m),(7,.one (.c (.slc 1 0 m 1 (.of 0) false))),(8,vI ((0:Nat):Int))] [ownL a,ownB (fillB a m 0)]=rputTo a (m:Int) (fillB a m 0) ((0:Nat):Int):=by
    unfold rputTo slB
    rw [fillB_len]
   refine (?_:DoesL _ _ (mkSt 59 [(0,slV 0 a),(1,vI m),(7,.one (.c (.slc 1 0 m 1 (.of 0) false))),(8,vI ((0:Nat):Int))] [ownL a,ownB (fillB a m 0)]) _)
   rw [e0]
   refine DoesL.blockLoop (B:=loopAt Tryz.f158 1) (rest:=rputC.drop 9) (id:=2) (by kernel_rfl) (fun i : { i:Nat // i<=m }=>rputTo a (m:Int) (fillB a m i.1) (i.1:Int)) (fun i=>m-i.1) ⟨0,Nat.zero_le _⟩ fun i => ?_
   obtain ⟨i,hi⟩:=i
   have hl:=fillB_len a m i
   show Does _ _ (rputTo a (m:Int) (fillB a m i) (i:Int)) _
   refine Does.round hE 100 _ (rput_fill cutF atF a (m:Int) (fillB a m i) (i:Int)) ⟨fun h4 => ?_,fun h4 => ?_⟩
   ·simp only [decide_eq_true_eq] at h4
    have hi':i<m:=by omega
    rw [tdiv8,tmod8,i64_nat (by omega),shift_nat,back_nat hi' (by omega),wrap_succ i (by omega),Int.toNat_natCast,whole]
    have hlt:m-1-i<(fillB a m i).length:=by omega
    refine ⟨⟨okL' (by omega),by omega⟩,fun _=>⟨by omega,fun _=>⟨vcIdxB hlt,fun _=>⟨vcGetB hlt,fun _ => ?_⟩⟩⟩⟩
    refine ⟨⟨i+1,hi'⟩,by show m-(i+1)<m-i;omega,?_⟩
    show _=rputTo a (m:Int) (fillB a m (i+1)) ((i+1:Nat):Int)
    rw [<- fillB_set a hi',Int.toNat_natCast,Nat.zero_add,Nat.mul_one]
    unfold rputTo slB
    rw [List.length_set]
    rfl
   ·simp only [decide_eq_false_iff_not] at h4
    obtain rfl:i=m:=by omega
    refine ⟨rfl,DoesL.ends hE 100 (rput_end cutF atF a _ _ _) (reads_p ?_ (Nat.le_refl _))⟩
    rw [List.take_length,fillB_all a (Nat.le_refl _)]
end
section
theorem whole8 (xs:List UInt8):List.take xs.length (List.drop 0 xs)=xs:=by rw [List.drop_zero,List.take_length]
theorem okWB {xs:List UInt8} (h:xs.length<1125899906842624):0+xs.length<=xs.length/\xs.length<1125899906842624/\True/\True:=⟨by omega,h,trivial,trivial⟩
abbrev oFI:Out (Fp × Int):=rFI.out
theorem fof_run (xs:List UInt64):letI za':=List.take xs.length (List.drop 0 xs);letI zb':=UInt64.ofNat 0;endT (En []) oF 100 Tryz.f145 (flat (codeOf Tryz.f145)) (startSt Tryz.f145 [iL.av 0 xs] [inHE eU64 xs])=(.vc (0+xs.length<=xs.length) (.leaf (some (({ l0:=pickC (Nat.blt 0 xs.length) (za'.getD 0 0) zb',l1:=pickC (Nat.blt 1 xs.length) (za'.getD 1 0) zb',l2:=pickC (Nat.blt 2 xs.length) (za'.getD 2 0) zb',l3:=pickC (Nat.blt 3 xs.length) (za'.getD 3 0) zb',l4:=pickC (Nat.blt 4 xs.length) (za'.getD 4 0) zb',l5:=pickC (Nat.blt 5 xs.length) (za'.getD 5 0) zb' },.t))))):=by kernel_rfl
abbrev Kput (F:List UInt64->Int->List UInt8 × Int):Contract:=K2 aLt kInt.arg rBI F
theorem fput_run (pF:List UInt64->Int->List UInt8 × Int) (a:Fp):letI za':=pF [a.l0,a.l1,a.l2,a.l3,a.l4,a.l5] 48;endT (Ens [(159,Kput pF)] [159]) oBl 100 Tryz.f100 (flat (codeOf Tryz.f100)) (startSt Tryz.f100 [vF a] [])=(.vc (tiny [a.l0,a.l1,a.l2,a.l3,a.l4,a.l5]) (.leaf (some ((List.take za'.fst.length za'.fst,(.p (za'.fst.length<=za'.fst.length))))))):=by kernel_rfl
theorem rfput_run (pF:List UInt64->Int->List UInt8 × Int) (a:Fp):letI za':=pF [a.l0,a.l1,a.l2,a.l3,a.l4,a.l5] 48;endT (Ens [(158,Kput pF)] [158]) oBl 100 Tryz.f97 (flat (codeOf Tryz.f97)) (startSt Tryz.f97 [vF a] [])=(.vc (tiny [a.l0,a.l1,a.l2,a.l3,a.l4,a.l5]) (.leaf (some ((List.take za'.fst.length za'.fst,(.p (za'.fst.length<=za'.fst.length))))))):=by kernel_rfl
abbrev Ktk (F:List UInt8->List UInt64):Contract:=K1 aBs rL F
theorem ftake_run (tF:List UInt8->List UInt64) (oF':List UInt64->Fp) (mF:Fp->Bool) (b:List UInt8):letI za':Fp := { l0:=UInt64.ofNat 0,l1:=UInt64.ofNat 0,l2:=UInt64.ofNat 0,l3:=UInt64.ofNat 0,l4:=UInt64.ofNat 0,l5:=UInt64.ofNat 0 };letI zb':=List.take b.length (List.drop 0 b);letI zc':=0+b.length*1<=(List.map EK.u8.cell b).length/\0<1;letI zd':=List.take (tF zb').length (List.drop 0 (tF zb'));endT (Ens [(146,Ktk tF),(145,Kr oF'),(147,Kfb mF)] [146]) oFI 100 Tryz.f88 (flat (codeOf Tryz.f88)) (startSt Tryz.f88 [iB.av 0 b] [inHE eU8 b])=(.vc zc' (.br (decide ((↑b.length:Int)<48)) (.leaf (some (((za',2),.t)))) (.vc zc' (.br (decide ((↑b.length:Int) > 48)) (.leaf (some (((za',8),.t)))) (.vc ((0+b.length<=b.length/\b.length<1125899906842624/\0=0/\1=1)/\littleB zb') (.vc (0+(tF zb').length<=(tF zb').length/\(tF zb').length<1125899906842624/\0=0/\1=1) (.br (!(mF (oF' zd'))) (.leaf (some (((za',4),.t)))) (.leaf (some (((oF' zd',0),.t))))))))))):=by kernel_rfl
abbrev Kfput (F:Fp->List UInt8):Contract:=K1 (kRow Fp).arg rB F
abbrev Kftake (F:List UInt8->Fp × Int):Contract:=K1 aBs rFI.res F
theorem fof_ok:CallOk Tryz.prog 145 (Kr ofL) :=
 G1 (E:=En []) Tryz.func145 (c:=codeOf Tryz.f145) (by kernel_rfl) (bodied Tryz.func145 (by kernel_rfl) (by kernel_rfl)) iL oF ofL fun xs hx=>by
  refine DoesL.ends (En_ok .nil) 100 (fof_run xs) ⟨by omega,fun _=>reads_t ?_⟩
  rw [pick_at,pick_at,pick_at,pick_at,pick_at,pick_at]
  rfl
def fputF (a:Fp):List UInt8:=(putF a.list 48).1
theorem fput_ok:CallOk Tryz.prog 100 (Kfput fputF) :=
 G1 (E:=Ens [(159,Kput putF)] [159]) Tryz.func100 (c:=codeOf Tryz.f100) (by kernel_rfl) (bodied Tryz.func100 (by kernel_rfl) (by kernel_rfl)) (kRow Fp).inp oBl fputF fun a _=>by
  refine DoesL.ends (Ens_ok (.cons put_ok .nil)) 100 (fput_run putF a) ⟨?_,fun _=>reads_p ?_ (Nat.le_refl _)⟩
  ·show a.list.length<_;rw [fp_short];decide
  ·rw [List.take_length];rfl
theorem rfput_ok:CallOk Tryz.prog 97 (Kfput fputF) :=
 G1 (E:=Ens [(158,Kput putF)] [158]) Tryz.func97 (c:=codeOf Tryz.f97) (by kernel_rfl) (bodied Tryz.func97 (by kernel_rfl) (by kernel_rfl)) (kRow Fp).inp oBl fputF fun a _=>by
  refine DoesL.ends (Ens_ok (.cons rput_ok .nil)) 100 (rfput_run putF a) ⟨?_,fun _=>reads_p ?_ (Nat.le_refl _)⟩
  ·show a.list.length<_;rw [fp_short];decide
  ·rw [List.take_length];rfl
def takeG (n:Nat) (x:Fp) (m:Bool):Fp × Int:=match decide ((n:Int)<48) with
 | true=>(zeroFp,2)
 | false=>match decide ((n:Int) > 48) with
  | true=>(zeroFp,8)
  | false=>match !m with
   | true=>(zeroFp,4)
   | false=>(x,0)
def ftakeF (b:List UInt8):Fp × Int:=takeG b.length (ofL (takF b)) (mayF (ofL (takF b)))
theorem takF_len (b:List UInt8):(takF b).length<=b.length / 8+1:=by
 have h:=cutF_len (takAt b b.length)
 rw [takAt_len] at h
 exact h
theorem ftake_ok:CallOk Tryz.prog 88 (Kftake ftakeF) :=
 G1 (E:=Ens [(146,Ktk takF),(145,Kr ofL),(147,Kfb mayF)] [146]) Tryz.func88 (c:=codeOf Tryz.f88) (by kernel_rfl) (bodied Tryz.func88 (by kernel_rfl) (by kernel_rfl)) iBs oFI ftakeF fun b hb=>by
  have hb:b.length<16777216:=hb.2
  have hl:=takF_len b
  refine DoesL.ends (Ens_ok (.cons tak_ok (.cons fof_ok (.cons may_ok .nil)))) 100 (ftake_run takF ofL mayF b) ?_
  simp only [whole,whole8]
  refine ⟨vcLenB b,fun _=>⟨fun h1=>reads_t ?_,fun h1=>⟨vcLenB b,fun _=>⟨fun h2=>reads_t ?_,fun h2=>⟨⟨okWB (by omega),hb⟩,fun _=>⟨okW (by omega),fun _=>⟨fun h3=>reads_t ?_,fun h3=>reads_t ?_⟩⟩⟩⟩⟩⟩⟩
  ·unfold ftakeF takeG;rw [h1];rfl
  ·unfold ftakeF takeG;rw [h1,h2];rfl
  ·unfold ftakeF takeG;rw [h1,h2,h3];rfl
  ·unfold ftakeF takeG;rw [h1,h2,h3]
end
end Go.Proofs.YtcbplfkeeaecgaaGreat
