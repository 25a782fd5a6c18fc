/- Texts of the proof, joined. -/
import Init
set_option linter.unusedSectionVars false
set_option linter.unusedSimpArgs false
set_option linter.unusedVariables false
namespace Go.Proofs.YtgpafcehehaiiaaGreat
abbrev aj5 {C:Type->Type} {A:Type} (_:C A):Type->Type:=C
abbrev GR:Type->Type:=aj5 Dyadic.instCommRing
class CR (R : Type) extends Add R, Mul R, Neg R, Sub R where
 z:R
 o:R
 add_zero : ∀ a:R,a+z=a
 add_comm : ∀ a b:R,a+b=b+a
 add_assoc : ∀ a b c:R,a+b+c=a+(b+c)
 mul_assoc : ∀ a b c:R,a*b*c=a*(b*c)
 mul_comm : ∀ a b:R,a*b=b*a
 mul_one : ∀ a:R,a*o=a
 dist : ∀ a b c:R,a*(b+c)=a*b+a*c
 neg_add : ∀ a:R, -a+a=z
 sub_eq : ∀ a b:R,a-b=a + -b
namespace CR
variable {R : Type} [CR R]
def nat:Nat->R
 | 0=>z
 | 1=>o
 | n+2=>nat (n+1)+o
def int:Int->R
 | .ofNat n=>nat n
 | .negSucc n => - nat (n+1)
def pow (a:R):Nat->R
 | 0=>o
 | n+1=>pow a n*a
theorem nat_succ : ∀ n:Nat,(nat (n+1):R)=nat n+o
 | 0=>by show o=z+o;rw [add_comm,add_zero]
 | n+1=>rfl
theorem right_dist (a b c:R):(a+b)*c=a*c+b*c:=by rw [mul_comm,dist,mul_comm c,mul_comm c]
theorem abJ {a b c:R} (h:a+c=b+c):a=b:=by
 have h2:(a+c) + -c=(b+c) + -c:=by rw [h]
 rw [add_assoc,add_assoc,add_comm c,neg_add,add_zero,add_zero] at h2
 exact h2
theorem zero_add (a:R):z+a=a:=by rw [add_comm,add_zero]
theorem zero_mul (a:R):z*a=z:=by
 apply abJ (c:=z*a)
 rw [<- right_dist,add_zero,zero_add]
theorem mul_zero (a:R):a*z=z:=by rw [mul_comm,zero_mul]
theorem ra {a b:R} (h:a+b=z) : -b=a:=abJ (c:=b) (by rw [neg_add,h])
theorem neg_neg (a:R) : - -a=a:=ra (by rw [add_comm,neg_add])
theorem neg_mul (a b:R) : -a*b = -(a*b):=(ra (by rw [<- right_dist,neg_add,zero_mul])).symm
theorem XH : -(z:R)=z:=ra (by rw [add_zero])
theorem int_neg : ∀ i:Int,(int (-i):R) = - int i
 | .ofNat 0=>by show z = -z;rw [XH]
 | .ofNat (n+1)=>rfl
 | .negSucc n=>by show nat (n+1) = - - nat (n+1);rw [neg_neg]
end CR
instance {R : Type} [CR R] (n : Nat) : OfNat R n := ⟨CR.nat n⟩
instance {R : Type} [CR R] : NatCast R := ⟨CR.nat⟩
instance {R : Type} [CR R] : IntCast R := ⟨CR.int⟩
instance {R : Type} [CR R] : HPow R Nat R := ⟨CR.pow⟩
instance {R : Type} [CR R] : SMul Nat R := ⟨fun n a => CR.nat n * a⟩
instance {R : Type} [CR R] : SMul Int R := ⟨fun n a => CR.int n * a⟩
instance grOf {R : Type} [CR R] : GR R where
 add_zero:=fun a=>CR.add_zero a
 add_comm:=CR.add_comm
 add_assoc:=CR.add_assoc
 mul_assoc:=CR.mul_assoc
 mul_one:=fun a=>CR.mul_one a
 one_mul:=fun a=>by show CR.nat 1*a=a;rw [CR.mul_comm];exact CR.mul_one a
 left_distrib:=CR.dist
 right_distrib:=CR.right_dist
 zero_mul:=CR.zero_mul
 mul_zero:=CR.mul_zero
 pow_zero:=fun _=>rfl
 pow_succ:=fun _ _=>rfl
 ofNat_succ:=fun n=>CR.nat_succ n
 neg_add_cancel:=CR.neg_add
 sub_eq_add_neg:=CR.sub_eq
 neg_zsmul:=fun i a=>by show CR.int (-i)*a = -(CR.int i*a);rw [CR.int_neg,CR.neg_mul]
 intCast_neg:=CR.int_neg
 mul_comm:=CR.mul_comm
section
variable {R : Type} [CR R]
theorem bu (a:R):a ^ 0=1:=rfl
theorem aq (a:R) (n:Nat):a ^ (n+1)=a ^ n*a:=rfl
theorem eI (a:R):a ^ 1=a:=by rw [aq,bu];grind
theorem bq : ∀ n:Nat,(1:R) ^ n=1
 | 0=>rfl
 | n+1=>by rw [aq,bq n];grind
theorem cu (a:R) (m:Nat) : ∀ n:Nat,a ^ (m+n)=a ^ m*a ^ n
 | 0=>by rw [Nat.add_zero,bu];grind
 | n+1=>by rw [<- Nat.add_assoc,aq,cu a m n,aq];grind
theorem aY (a b:R) : ∀ n:Nat,(a*b) ^ n=a ^ n*b ^ n
 | 0=>by simp only [bu];grind
 | n+1=>by simp only [aq,aY a b n];grind
theorem aE (a:R) (m:Nat) : ∀ n:Nat,a ^ (m*n)=(a ^ m) ^ n
 | 0=>by rw [Nat.mul_zero,bu,bu]
 | n+1=>by rw [Nat.mul_succ,cu,aE a m n,aq]
theorem lS : ∀ n:Nat,0<n->(0:R) ^ n=0
 | n+1,_=>by rw [aq];grind
end
class Fld (K : Type) extends CR K where
 inv:K->K
 mul_inv : ∀ a:K,a ≠ 0->a*inv a=1
 one_ne:(1:K) ≠ 0
section
variable {K : Type} [Fld K]
theorem bl {a:K} (h:a ≠ 0):a*Fld.inv a=1:=Fld.mul_inv a h
theorem cL:(1:K) ≠ 0:=Fld.one_ne
theorem aD {a b:K} (h:a*b=0):a=0 \/ b=0:=by
 by_cases ha:a=0
 ·exact .inl ha
 ·refine .inr ?_
  have:=bl ha
  grind
theorem aG {a b:K} (ha:a ≠ 0) (hb:b ≠ 0):a*b ≠ 0:=fun h=>(aD h).elim ha hb
theorem gG {a b c:K} (hc:c ≠ 0) (h:a*c=b*c):a=b:=by
 have:=bl hc
 grind
theorem ow {a b:K} (h:a*b=1):b=Fld.inv a:=by
 have ha:a ≠ 0:=fun e=>by
  have:=cL (K:=K)
  grind
 have:=bl ha
 grind
theorem OA {a:K} (h:a ≠ 0) : ∀ n:Nat,a ^ n ≠ 0
 | 0=>cL
 | n+1=>aG (OA h n) h
theorem E6 {a b:K} (h:a*a=b*b):a=b \/ a = -b:=by
 have:(a-b)*(a+b)=0:=by grind
 rcases aD this with h1 | h1
 ·exact .inl (by grind)
 ·exact .inr (by grind)
end
end Go.Proofs.YtgpafcehehaiiaaGreat
namespace Go.Proofs.YtgpafcehehaiiaaGreat
class Crv (K : Type) [Fld K] where
 b:K
 two:(2:K) ≠ 0
 no : ∀ x:K,x*x*x+b ≠ 0
inductive Pt (K : Type) where
 | inf
 | aff (x y:K)
section
variable {K : Type} [Fld K] [Crv K]
def Pt.on:Pt K->Prop
 | .inf=>True
 | .aff x y=>y*y=x*x*x+Crv.b
open Classical in
noncomputable def dd (x1 y1 x2 y2:K):K:=if x1=x2 then 3*x1*x1*Fld.inv (2*y1) else (y2-y1)*Fld.inv (x2-x1)
open Classical in
noncomputable def Pt.add:Pt K->Pt K->Pt K
 | .inf,q=>q
 | .aff x y,.inf => .aff x y
 | .aff x1 y1,.aff x2 y2=>if x1=x2/\y1 = -y2 then .inf else
   .aff (dd x1 y1 x2 y2*dd x1 y1 x2 y2-x1-x2) (dd x1 y1 x2 y2*(x1-(dd x1 y1 x2 y2*dd x1 y1 x2 y2-x1-x2))-y1)
open Classical in
theorem lM (x1 y1 x2 y2:K):(Pt.aff x1 y1).add (.aff x2 y2)=if x1=x2/\y1 = -y2 then .inf else
  .aff (dd x1 y1 x2 y2*dd x1 y1 x2 y2-x1-x2) (dd x1 y1 x2 y2*(x1-(dd x1 y1 x2 y2*dd x1 y1 x2 y2-x1-x2))-y1):=rfl
def Pt.neg:Pt K->Pt K
 | .inf => .inf
 | .aff x y => .aff x (-y)
theorem y_ne {x y:K} (h:y*y=x*x*x+Crv.b):y ≠ 0:=fun e=>Crv.no x (by rw [<- h,e];exact CR.mul_zero _)
theorem jP {x y:K} (h:y*y=x*x*x+Crv.b):y ≠ -y:=fun e=>by
 have h1:(2:K)*y=0:=by grind
 exact aG Crv.two (y_ne h) h1
structure Ln (l m x1 x2 x3 : K) : Prop where
 s1:l*l=x1+x2+x3
 s2:2*(l*m) = -(x1*x2+x2*x3+x3*x1)
 s3:m*m=Crv.b+x1*x2*x3
theorem Ln.swap {l m x1 x2 x3:K} (h:Ln l m x1 x2 x3):Ln l m x2 x1 x3:=⟨by rw [h.s1];grind,by rw [h.s2];grind,by rw [h.s3];grind⟩
theorem Ln.turn {l m x1 x2 x3:K} (h:Ln l m x1 x2 x3):Ln l m x2 x3 x1:=⟨by rw [h.s1];grind,by rw [h.s2];grind,by rw [h.s3];grind⟩
theorem Ln.neg {l m x1 x2 x3:K} (h:Ln l m x1 x2 x3):Ln (-l) (-m) x1 x2 x3:=⟨by rw [<- h.s1];grind,by rw [<- h.s2];grind,by rw [<- h.s3];grind⟩
theorem Ln.on {l m x1 x2 x3:K} (h:Ln l m x1 x2 x3):(l*x3+m)*(l*x3+m)=x3*x3*x3+Crv.b:=by
 have h1:=h.s1
 have h2:=h.s2
 have h3:=h.s3
 have e:(l*x3+m)*(l*x3+m)=l*l*(x3*x3)+2*(l*m)*x3+m*m:=by grind
 rw [e,h1,h2,h3]
 grind
theorem Ln.all {l m x1 x2 x3 x:K} (h:Ln l m x1 x2 x3) (hx:(l*x+m)*(l*x+m)=x*x*x+Crv.b):x=x1 \/ x=x2 \/ x=x3:=by
 have h1:=h.s1
 have h2:=h.s2
 have h3:=h.s3
 have e:(l*x+m)*(l*x+m)=l*l*(x*x)+2*(l*m)*x+m*m:=by grind
 rw [e,h1,h2,h3] at hx
 have:(x-x1)*((x-x2)*(x-x3))=0:=by grind
 rcases aD this with k | k
 ·exact .inl (by grind)
 ·rcases aD k with k | k
  ·exact .inr (.inl (by grind))
  ·exact .inr (.inr (by grind))
theorem aeA {x1 y1 x2 y2:K} (h1:y1*y1=x1*x1*x1+Crv.b) (h2:y2*y2=x2*x2*x2+Crv.b) (hn : ¬ (x1=x2/\y1 = -y2)) :
  ∃ m,y1=dd x1 y1 x2 y2*x1+m/\y2=dd x1 y1 x2 y2*x2+m/\Ln (dd x1 y1 x2 y2) m x1 x2 (dd x1 y1 x2 y2*dd x1 y1 x2 y2-x1-x2):=by
 unfold dd
 by_cases hx:x1=x2
 ·subst hx
  rw [if_pos rfl]
  have hy:y1=y2:=by
   rcases E6 (h1.trans h2.symm) with e | e
   ·exact e
   ·exact absurd ⟨rfl,e⟩ hn
  subst hy
  have hi:=bl (aG Crv.two (y_ne h1))
  generalize Fld.inv (2*y1)=i at *
  generalize hl:3*x1*x1*i=l at *
  have hl2:l*(2*y1)=3*x1*x1:=by rw [<- hl];grind
  refine ⟨y1-l*x1,by grind,by grind,by grind,?_,?_⟩
  ·have:2*(l*(y1-l*x1))=l*(2*y1)-2*(l*l)*x1:=by grind
   rw [this,hl2]
   grind
  ·have:(y1-l*x1)*(y1-l*x1)=y1*y1-l*(2*y1)*x1+l*l*x1*x1:=by grind
   rw [this,hl2,h1]
   grind
 ·rw [if_neg hx]
  have hd:x2-x1 ≠ 0:=fun e=>hx (by grind)
  have hi:=bl hd
  generalize Fld.inv (x2-x1)=i at *
  generalize hl:(y2-y1)*i=l at *
  have hl2:l*(x2-x1)=y2-y1:=by rw [<- hl];grind
  have hy2:y2=l*x2+(y1-l*x1):=by grind
  have s2:2*(l*(y1-l*x1)) = -(x1*x2+x2*(l*l-x1-x2)+(l*l-x1-x2)*x1):=by
   apply gG hd
   have e1:2*(l*(y1-l*x1))*(x2-x1)=2*(l*(x2-x1))*(y1-l*x1):=by grind
   rw [e1,hl2]
   have e2:y2*y2-y1*y1=x2*x2*x2-x1*x1*x1:=by rw [h1,h2];grind
   grind
  refine ⟨y1-l*x1,by grind,hy2,by grind,s2,?_⟩
  have:(y1-l*x1)*(y1-l*x1)=y1*y1-2*(l*(y1-l*x1))*x1-l*l*x1*x1:=by grind
  rw [this,s2,h1]
  grind
theorem JX (x y z:K):x+y+z-x-y=z:=by grind
theorem S5 (l m x y:K):l*(x-y)-(l*x+m) = -(l*y+m):=by grind
theorem fu {l m x1 y1 x2 y2 x3:K} (h:Ln l m x1 x2 x3) (h1:y1=l*x1+m) (h2:y2=l*x2+m):(Pt.aff x1 y1).add (Pt.aff x2 y2) = .aff x3 (-(l*x3+m)):=by
 have o1:y1*y1=x1*x1*x1+Crv.b:=by rw [h1];exact h.turn.on
 have hn : ¬ (x1=x2/\y1 = -y2):=fun e=>by
  have:y2=y1:=by rw [h1,h2,e.1]
  rw [this] at e
  exact jP o1 e.2
 have hs:dd x1 y1 x2 y2=l:=by
  unfold dd
  by_cases hx:x1=x2
  ·rw [if_pos hx]
   have hi:=bl (aG Crv.two (y_ne o1))
   generalize Fld.inv (2*y1)=i at *
   have hq:3*x1*x1=l*(2*y1):=by
    have e:l*(2*y1)=2*(l*l)*x1+2*(l*m):=by rw [h1];grind
    rw [e,h.s1,h.s2,hx]
    grind
   rw [hq]
   grind
  ·rw [if_neg hx]
   have hi:=bl (a:=x2-x1) (fun e=>hx (by grind))
   generalize Fld.inv (x2-x1)=i at *
   rw [h1,h2]
   grind
 have h3:=h.s1
 rw [lM,if_neg hn,hs]
 have e3:l*l-x1-x2=x3:=by rw [h3];exact JX x1 x2 x3
 rw [e3,h1]
 congr 1
 exact S5 l m x1 x3
theorem bC {x1 y1 x2 y2:K} (h1:(Pt.aff x1 y1).on) (h2:(Pt.aff x2 y2).on):(x1=x2/\y1 = -y2/\(Pt.aff x1 y1).add (Pt.aff x2 y2) = .inf) \/
  ∃ l m x3,Ln l m x1 x2 x3/\y1=l*x1+m/\y2=l*x2+m/\(Pt.aff x1 y1).add (Pt.aff x2 y2) = .aff x3 (-(l*x3+m)):=by
 by_cases h:x1=x2/\y1 = -y2
 ·left
  refine ⟨h.1,h.2,?_⟩
  rw [lM,if_pos h]
 ·right
  obtain ⟨m,e1,e2,e3⟩:=aeA h1 h2 h
  exact ⟨_,m,_,e3,e1,e2,fu e3 e1 e2⟩
theorem bZ (p:Pt K):Pt.inf.add p=p:=by cases p <;> rfl
theorem cn (p:Pt K):p.add .inf=p:=by cases p <;> rfl
theorem kC (p:Pt K):p.neg.neg=p:=by
 cases p with
 | inf=>rfl
 | aff x y =>
  show Pt.aff x (- -y)=_
  rw [show - -y=y by grind]
theorem b8 {p:Pt K} (h:p.on):p.neg.on:=by
 cases p with
 | inf=>trivial
 | aff x y =>
  show -y * -y=_
  rw [<- show y*y=_ from h]
  grind
theorem bN {p q:Pt K} (hp:p.on) (hq:q.on):(p.add q).on:=by
 cases p with
 | inf=>rw [bZ];exact hq
 | aff x1 y1 =>
  cases q with
  | inf=>exact hp
  | aff x2 y2 =>
   rcases bC hp hq with ⟨_,_,e⟩ | ⟨l,m,x3,h,_,_,e⟩
   ·rw [e];trivial
   ·rw [e]
    exact b8 (p := .aff x3 (l*x3+m)) h.on
theorem aB {p q:Pt K} (hp:p.on) (hq:q.on):p.add q=q.add p:=by
 cases p with
 | inf=>rw [bZ,cn]
 | aff x1 y1 =>
  cases q with
  | inf=>rw [bZ,cn]
  | aff x2 y2 =>
   rcases bC hp hq with ⟨h1,h2,e⟩ | ⟨l,m,x3,h,h1,h2,e⟩
   ·rw [e]
    rcases bC hq hp with ⟨_,_,e'⟩ | ⟨l,m,x3,h,k1,k2,_⟩
    ·rw [e']
    ·exfalso
     have:y2=y1:=by rw [k1,k2,h1]
     rw [this] at h2
     exact jP hp h2
   ·rw [e,fu h.swap h2 h1]
theorem bE {p:Pt K} (hp:p.on):p.neg.add p = .inf:=by
 cases p with
 | inf=>rfl
 | aff x y =>
  show (Pt.aff x (-y)).add (.aff x y)=_
  rw [lM,if_pos ⟨rfl,rfl⟩]
theorem ad9 {p q:Pt K} (hp:p.on) (hq:q.on):(p.add q).neg=p.neg.add q.neg:=by
 cases p with
 | inf=>rw [bZ];show q.neg=Pt.inf.add q.neg;rw [bZ]
 | aff x1 y1 =>
  cases q with
  | inf=>show _=(Pt.aff x1 y1).neg.add .inf;rw [cn,cn]
  | aff x2 y2 =>
   rcases bC hp hq with ⟨h1,h2,e⟩ | ⟨l,m,x3,h,h1,h2,e⟩
   ·rw [e]
    have hq':(Pt.aff x2 y2)=(Pt.aff x1 y1).neg:=by
     show _=Pt.aff x1 (-y1)
     rw [h1,h2,show - -y2=y2 by grind]
    rw [hq',kC,bE hp]
    rfl
   ·rw [e]
    have e2:(Pt.aff x1 (-y1)).add (.aff x2 (-y2)) = .aff x3 (-(-l*x3 + -m)):=fu h.neg (by rw [h1];grind) (by rw [h2];grind)
    show Pt.aff x3 (- -(l*x3+m))=(Pt.aff x1 (-y1)).add (.aff x2 (-y2))
    rw [e2]
    congr 1
    grind
theorem iU {p r:Pt K} (hp:p.on) (hr:r.on):p.neg.add (p.add r)=r:=by
 cases p with
 | inf=>show Pt.inf.add _=_;rw [bZ,bZ]
 | aff x1 y1 =>
  cases r with
  | inf=>rw [cn];exact bE hp
  | aff x2 y2 =>
   rcases bC hp hr with ⟨h1,h2,e⟩ | ⟨l,m,x3,h,h1,h2,e⟩
   ·rw [e,cn]
    show Pt.aff x1 (-y1)=_
    rw [h1,h2,show - -y2=y2 by grind]
   ·rw [e]
    have:=fu (y1 := -y1) (y2 := -(l*x3+m)) h.neg.turn.turn.swap (by rw [h1];grind) (by grind)
    show (Pt.aff x1 (-y1)).add _=_
    rw [show (Pt.aff x1 (-y1)).add (.aff x3 (-(l*x3+m))) = .aff x2 (-(-l*x2 + -m)) from this,h2]
    congr 1
    grind
theorem aeW {l m k n x1 x2 a:K} (h:Ln l m x1 x2 a) (ha:k*a+n = -(l*a+m)):x1*x1+(a+l*k)*x1+(l*n+k*m+a*(a+l*k)) + -(l+k)*(l*x1+m)=0:=by
 have hn:n = -(l*a+m)-k*a:=by grind
 have h1:=h.s1
 have h2:=h.s2
 have e:x1*x1+(a+l*k)*x1+(l*n+k*m+a*(a+l*k)) + -(l+k)*(l*x1+m)=x1*x1+a*x1+a*a-l*l*(a+x1)-2*(l*m):=by rw [hn];grind
 rw [e,h1,h2]
 grind
theorem dT {l m k n x1 x2 a y:K} (h:Ln l m x1 x2 a) (ha:k*a+n = -(l*a+m)) (hy:y=l*x1+m):x1*x1+(a+l*k)*x1+(l*n+k*m+a*(a+l*k)) + -(l+k)*y=0:=by rw [hy];exact aeW h ha
theorem bG {l m k n x1 x2 a y:K} (h:Ln k n x1 x2 a) (ha:k*a+n = -(l*a+m)) (hy:y=k*x1+n):x1*x1+(a+l*k)*x1+(l*n+k*m+a*(a+l*k)) + -(l+k)*y=0:=by
 have:=dT (l:=k) (m:=n) (k:=l) (n:=m) h (by rw [ha];grind) hy
 grind
theorem qw {l m k n x1 x2 x3 x4 a:K} (h:Ln l m x1 x2 a) (h':Ln k n a x3 x4):x4=(l+k)*(l+k)-2*(a+l*k)-x1-x2-x3:=by
 have h1:=h.s1
 have h2:=h'.s1
 have e:(l+k)*(l+k)-2*(a+l*k)=l*l+k*k-2*a:=by grind
 rw [e,h1,h2]
 grind
theorem Cv {p q r p' q' r' x4 y4 x5 y5:K} (hp:p=p') (hq:q=q') (hr:r=r') (hx:x4=x5)
  (h4:x4*x4+p*x4+q + -r*y4=0) (h5:x5*x5+p'*x5+q' + -r'*y5=0) (hn:r ≠ 0):y4=y5:=by
 subst hp hq hr hx
 have:r*(y4-y5)=0:=by grind
 rcases aD this with e | e
 ·exact absurd e hn
 ·grind
theorem uO (k x1 x2 x3:K):k-x1-x2-x3=k-x2-x3-x1:=by grind
theorem fU {p q r p' q' r' x y:K} (f:x*x+p*x+q + -r*y=0) (g:x*x+p'*x+q' + -r'*y=0):(p-p')*x+(q-q')-(r-r')*y=0:=by grind
theorem Hx {p q r l m x1 y1 x2 y2:K} (w1:p*x1+q-r*y1=0) (w2:p*x2+q-r*y2=0) (h1:y1=l*x1+m) (h2:y2=l*x2+m):(x1-x2)*(p-r*l)=0:=by grind
theorem mG {p q r l m x1 y1 x3 y3:K} (w1:p*x1+q-r*y1=0) (w3:p*x3+q-r*y3=0) (h1:y1=l*x1+m) (v:p-r*l=0):r*(y3-(l*x3+m))=0:=by grind
theorem aA {a b:K} (h:a-b=0):a=b:=by grind
theorem QI {a b:K} (h:a=b):a-b=0:=by grind
theorem mY {p r l:K} (v:p-r*l=0) (h:r=0):p=0:=by grind
theorem lb {p q r x y:K} (w:p*x+q-r*y=0) (h:r=0) (h2:p=0):q=0:=by grind
theorem Bv {p q r x1 y1 x2 y2:K} (f1:x1*x1+p*x1+q + -r*y1=0) (f2:x2*x2+p*x2+q + -r*y2=0) (h:r=0):(x1-x2)*(x1+x2+p)=0:=by grind
theorem Wi {p x1 x2 x3:K} (h1:x1+x2+p=0) (h2:x1+x3+p=0):x2-x3=0:=by grind
theorem Uq {l1 m1 l2 m2 l3 m3 l4 m4 x1 x2 x3 xA xB x4 x5:K} {y1 y2 y3:K} (o3:y3*y3=x3*x3*x3+Crv.b)
  (hA:Ln l1 m1 x1 x2 xA) (hB:Ln l2 m2 x2 x3 xB) (hC:Ln l3 m3 xA x3 x4) (hD:Ln l4 m4 xB x1 x5)
  (a1:y1=l1*x1+m1) (a2:y2=l1*x2+m1) (b2:y2=l2*x2+m2) (b3:y3=l2*x3+m2) (cA:l3*xA+m3 = -(l1*xA+m1)) (c3:y3=l3*x3+m3) (dB:l4*xB+m4 = -(l2*xB+m2)) (d1:y1=l4*x1+m4)
  (n12:x1 ≠ x2) (n13:x1 ≠ x3) (n23:x2 ≠ x3) (nA : ¬ (x3=xA/\y3=l1*xA+m1)):x4=x5/\l3*x4+m3=l4*x5+m4:=by
 have f1:=dT hA cA a1
 have f2:=dT hA.swap cA a2
 have f3:=bG hC.turn cA c3
 have f4:=bG hC.turn.swap cA rfl
 have g2:=dT hB dB b2
 have g3:=dT hB.swap dB b3
 have g1:=bG hD.turn dB d1
 have g5:=bG hD.turn.swap dB rfl
 have e4:=qw hA hC
 have e5:=qw hB hD
 have d12:x1-x2 ≠ 0:=fun e=>n12 (aA e)
 have d13:x1-x3 ≠ 0:=fun e=>n13 (aA e)
 have d23:x2-x3 ≠ 0:=fun e=>n23 (aA e)
 have w1:=fU f1 g1
 have w2:=fU f2 g2
 have w3:=fU f3 g3
 have v:=(aD (Hx w1 w2 a1 a2)).resolve_left d12
 have hr0:(l1+l3)-(l2+l4)=0:=by
  rcases aD (mG w1 w3 a1 v) with e | e
  ·exact e
  ·exfalso
   have e3:=aA e
   rw [e3] at o3
   rcases hA.all o3 with k | k | k
   ·exact n13 k.symm
   ·exact n23 k.symm
   ·exact nA ⟨k,by rw [e3,k]⟩
 have hp0:=mY v hr0
 have hq0:=lb w1 hr0 hp0
 have hpe:=aA hp0
 have hqe:=aA hq0
 have hre:=aA hr0
 have hx:x4=x5:=by
  rw [e4,e5,hpe,hre]
  exact uO _ _ _ _
 refine ⟨hx,Cv hpe hqe hre hx f4 g5 fun e0 => ?_⟩
 have z1:=(aD (Bv f1 f2 e0)).resolve_left d12
 have z2:=(aD (Bv f1 f3 e0)).resolve_left d13
 exact d23 (Wi z1 z2)
theorem pP {l m k xA x1:K} (s1:l*l=x1+x1+xA):2*x1+(xA+l*k)-(l+k)*l=0:=by
 have e:2*x1+(xA+l*k)-(l+k)*l=2*x1+xA-l*l:=by grind
 rw [e,s1]
 grind
theorem w7 {l m y x xA:K} (h:Ln l m x x xA) (hy:y=l*x+m):2*y*l=3*x*x:=by
 have e:2*y*l=2*(l*l)*x+2*(l*m):=by rw [hy];grind
 rw [e,h.s1,h.s2]
 grind
theorem aiB {l k x y xB yB:K} (h2:yB=l*(xB-x)+y) (h4 : -yB=k*(xB-x)+y):(l+k)*(x-xB)=2*y:=by grind
theorem abI {l x y xB yB:K} (h2:yB=l*(xB-x)+y):l*(x-xB)=y-yB:=by grind
theorem aiA {l k d u v:K} (h:l*d=u) (g:k*d=v):l*k*(d*d)=u*v:=by rw [<- h,<- g];grind
theorem aiz {x y xB yB b:K} (o:y*y=x*x*x+b) (oB:yB*yB=xB*xB*xB+b):(y-yB)*(y - -yB)=(x-xB)*(x*x+x*xB+xB*xB):=by
 have e:(y-yB)*(y - -yB)=y*y-yB*yB:=by grind
 rw [e,o,oB]
 grind
theorem aiy {c d u v:K} (h:c*(d*d)=u) (g:u=d*v):d*(c*d-v)=0:=by grind
theorem aix (s c d x xB:K):d*(2*x+(xB+c)-s)=d*(2*x+xB)+c*d-s*d:=by grind
theorem aiw (x xB:K):(x-xB)*(2*x+xB)+(x*x+x*xB+xB*xB)-3*x*x=0:=by grind
theorem aiv (s d l1:K):s*l1*d=s*d*l1:=by grind
theorem vd {l k l1 x y xB yB b:K} (o:y*y=x*x*x+b) (oB:yB*yB=xB*xB*xB+b) (t:2*y*l1=3*x*x) (h2:yB=l*(xB-x)+y) (h4 : -yB=k*(xB-x)+y) (n:x-xB ≠ 0):2*x+(xB+l*k)-(l+k)*l1=0:=by
 have e4:=aiy (aiA (abI h2) (abI h4)) (aiz o oB)
 have e5:=aA ((aD e4).resolve_left n)
 have e7:(x-xB)*(2*x+(xB+l*k)-(l+k)*l1)=0:=by
  rw [aix,aiv (l+k) (x-xB) l1,e5,aiB h2 h4,t]
  exact aiw x xB
 exact (aD e7).resolve_left n
theorem BF {x p p' r r' l:K} (h:2*x+p-r*l=0) (g:2*x+p'-r'*l=0):(p-p')-(r-r')*l=0:=by grind
theorem GP {p q r l x1 y1 x3 y3:K} (f1:x1*x1+p*x1+q + -r*y1=0) (f3:x3*x3+p*x3+q + -r*y3=0) (d:2*x1+p-r*l=0) (h:r=0):(x1-x3)*(x1-x3)=0:=by grind
theorem pq {l m x xB y:K} (h:y=l*x+m):l*xB+m=l*(xB-x)+y:=by grind
theorem He {l1 m1 l2 m2 l3 m3 l4 m4 x1 x3 xA xB x4 x5:K} {y1 y3:K} (o1:y1*y1=x1*x1*x1+Crv.b) (o3:y3*y3=x3*x3*x3+Crv.b)
  (hA:Ln l1 m1 x1 x1 xA) (hB:Ln l2 m2 x1 x3 xB) (hC:Ln l3 m3 xA x3 x4) (hD:Ln l4 m4 xB x1 x5)
  (a1:y1=l1*x1+m1) (b1:y1=l2*x1+m2) (b3:y3=l2*x3+m2) (cA:l3*xA+m3 = -(l1*xA+m1)) (c3:y3=l3*x3+m3) (dB:l4*xB+m4 = -(l2*xB+m2)) (d1:y1=l4*x1+m4)
  (n13:x1 ≠ x3) (n1B:x1 ≠ xB) (nA : ¬ (x3=xA/\y3=l1*xA+m1)):x4=x5/\l3*x4+m3=l4*x5+m4:=by
 have f1:=dT hA cA a1
 have f3:=bG hC.turn cA c3
 have f4:=bG hC.turn.swap cA rfl
 have g3:=dT hB.swap dB b3
 have g1:=bG hD.turn dB d1
 have g5:=bG hD.turn.swap dB rfl
 have e4:=qw hA hC
 have e5:=qw hB hD
 have d1B:x1-xB ≠ 0:=fun e=>n1B (aA e)
 have d13:x1-x3 ≠ 0:=fun e=>n13 (aA e)
 have fd:=pP (m:=m1) (k:=l3) hA.s1
 have gd:=vd o1 hB.on (w7 hA a1) (pq b1) (by rw [<- dB];exact pq d1) d1B
 have w1:=fU f1 g1
 have w3:=fU f3 g3
 have v:=BF fd gd
 have hr0:(l1+l3)-(l2+l4)=0:=by
  rcases aD (mG w1 w3 a1 v) with e | e
  ·exact e
  ·exfalso
   have e3:=aA e
   rw [e3] at o3
   rcases hA.all o3 with k | k | k
   ·exact n13 k.symm
   ·exact n13 k.symm
   ·exact nA ⟨k,by rw [e3,k]⟩
 have hp0:=mY v hr0
 have hq0:=lb w1 hr0 hp0
 have hpe:=aA hp0
 have hqe:=aA hq0
 have hre:=aA hr0
 have hx:x4=x5:=by
  rw [e4,e5,hpe,hre]
  exact uO _ _ _ _
 refine ⟨hx,Cv hpe hqe hre hx f4 g5 fun e0 => ?_⟩
 exact aG d13 d13 (GP f1 f3 fd e0)
theorem ag2 {x y1 y2:K} (h1:y1*y1=x*x*x+Crv.b) (h2:y2*y2=x*x*x+Crv.b):y1=y2 \/ y1 = -y2:=E6 (h1.trans h2.symm)
theorem aaS {x y1 y2:K} (h:y1 = -y2):Pt.aff x y2=(Pt.aff x y1).neg:=by
 show _=Pt.aff x (-y1)
 rw [h,show - -y2=y2 by grind]
theorem CO {x1 y1 x2 y2 x3 y3:K} (h1:(Pt.aff x1 y1).on) (h2:(Pt.aff x2 y2).on) (h3:(Pt.aff x3 y3).on) (n13:x1 ≠ x3) (n23:x2 ≠ x3) :
  ((Pt.aff x1 y1).add (.aff x2 y2)).add (.aff x3 y3)=(Pt.aff x1 y1).add ((Pt.aff x2 y2).add (.aff x3 y3)):=by
 rcases bC h1 h2 with ⟨e1,e2,e⟩ | ⟨l1,m1,xA,hA,a1,a2,eA⟩
 ·rw [e,bZ]
  subst e1
  have hq:Pt.aff x1 y2=(Pt.aff x1 y1).neg:=aaS e2
  rw [hq]
  have:=iU (b8 h1) h3
  rw [kC] at this
  exact this.symm
 rcases bC h2 h3 with ⟨e1,_,_⟩ | ⟨l2,m2,xB,hB,b2,b3,eB⟩
 ·exact absurd e1 n23
 have oA:(Pt.aff xA (-(l1*xA+m1))).on:=b8 (p := .aff xA (l1*xA+m1)) hA.on
 have oB:(Pt.aff xB (-(l2*xB+m2))).on:=b8 (p := .aff xB (l2*xB+m2)) hB.on
 rw [eA,eB]
 rcases bC oA h3 with ⟨e1,e2,e⟩ | ⟨l3,m3,x4,hC,cA,c3,eC⟩
 ·
  rw [e]
  subst e1
  have e3:y3=l1*xA+m1:=by grind
  have:=fu hA.turn a2 e3
  rw [this] at eB
  rw [<- eB,<- a1]
  show _=(Pt.aff x1 y1).add (Pt.aff x1 y1).neg
  rw [aB h1 (b8 h1),bE h1]
 rcases bC h1 oB with ⟨e1,e2,e⟩ | ⟨l4,m4,x5,hD,d1,dB,eD⟩
 ·exfalso
  subst e1
  have e3:y1=l2*x1+m2:=by grind
  have k:=fu hB.turn.turn e3 b2
  rw [eA] at k
  injection k with k1 k2
  have e4:y3=l1*xA+m1:=by rw [b3,<- k1];grind
  have e5 : -(l1*xA+m1)=l1*xA+m1:=by
   have:l3*xA+m3=l3*x3+m3:=by rw [k1]
   rw [cA,this,<- c3,e4]
  exact jP hA.on e5.symm
 rw [eC,eD]
 have nA : ¬ (x3=xA/\y3=l1*xA+m1):=fun e=>by
  have:y3 = -(l1*xA+m1):=by rw [cA,<- e.1];exact c3
  exact jP hA.on (e.2.symm.trans this)
 by_cases n12:x1=x2
 ·subst n12
  have e12:y1=y2:=by rw [a1,a2]
  subst e12
  have n1B:x1 ≠ xB:=fun e=>by
   subst e
   exact jP h1 (d1.trans (dB.symm.trans (by rw [<- b2])))
  obtain ⟨k1,k2⟩:=He h1 h3 hA hB hC hD.swap a1 b2 b3 cA.symm c3 dB.symm d1 n13 n1B nA
  rw [k2,k1]
 ·obtain ⟨k1,k2⟩:=Uq h3 hA hB hC hD.swap a1 a2 b2 b3 cA.symm c3 dB.symm d1 n12 n13 n23 nA
  rw [k2,k1]
theorem k7 {x y1 y2:K} (h1:(Pt.aff x y1).on) (h2:(Pt.aff x y2).on):Pt.aff x y1 = .aff x y2 \/ Pt.aff x y2=(Pt.aff x y1).neg:=by
 rcases ag2 h1 h2 with e | e
 ·exact .inl (by rw [e])
 ·exact .inr (aaS e)
theorem aX {p q r:Pt K} (hp:p.on) (hq:q.on) (hr:r.on):(p.add q).add r=p.add (q.add r):=by
 cases p with
 | inf=>rw [bZ,bZ]
 | aff x1 y1 =>
  cases q with
  | inf=>rw [cn,bZ]
  | aff x2 y2 =>
   cases r with
   | inf=>rw [cn,cn]
   | aff x3 y3 =>
    by_cases n13:x1=x3
    ·subst n13
     rcases k7 hp hr with e | e
     ·rw [<- e,aB hq hp,aB (bN hp hq) hp]
     ·rw [e,aB (bN hp hq) (b8 hp),iU hp hq,aB hq (b8 hp)]
      have:=iU (b8 hp) hq
      rw [kC] at this
      exact this.symm
    ·by_cases n23:x2=x3
     ·subst n23
      rcases k7 hq hr with e | e
      ·
       rw [<- e]
       have k:=CO hq hq hp (fun e=>n13 e.symm) (fun e=>n13 e.symm)
       rw [aB (bN hp hq) hq,aB hp hq,<- k,aB (bN hq hq) hp]
      ·rw [e,aB hq (b8 hq),bE hq,cn,aB (bN hp hq) (b8 hq),aB hp hq,iU hq hp]
     ·exact CO hp hq hr n13 n23
noncomputable def Pt.mul (n:Nat) (p:Pt K):Pt K:=match n with
 | 0 => .inf
 | n+1=>(Pt.mul n p).add p
theorem cN (p:Pt K):p.mul 0 = .inf:=rfl
theorem aJ (p:Pt K) (n:Nat):p.mul (n+1)=(p.mul n).add p:=rfl
theorem eT (p:Pt K):p.mul 1=p:=by rw [aJ,cN,bZ]
theorem ci {p:Pt K} (hp:p.on) : ∀ n,(p.mul n).on
 | 0=>trivial
 | n+1=>bN (ci hp n) hp
theorem cW {p:Pt K} (hp:p.on) (m:Nat) : ∀ n,p.mul (m+n)=(p.mul m).add (p.mul n)
 | 0=>by rw [Nat.add_zero,cN,cn]
 | n+1=>by rw [<- Nat.add_assoc,aJ,cW hp m n,aJ,aX (ci hp m) (ci hp n) hp]
theorem gq : ∀ n,(Pt.inf:Pt K).mul n = .inf
 | 0=>rfl
 | n+1=>by rw [aJ,gq n,bZ]
theorem dc {p q:Pt K} (hp:p.on) (hq:q.on) : ∀ n,(p.add q).mul n=(p.mul n).add (q.mul n)
 | 0=>rfl
 | n+1=>by
  have a:=ci hp n
  have b:=ci hq n
  rw [aJ,dc hp hq n,aJ,aJ,aX a b (bN hp hq),<- aX b hp hq,aB b hp,aX hp b hq,<- aX a hp (bN b hq)]
theorem iy {p:Pt K} (hp:p.on) (m:Nat) : ∀ n,p.mul (m*n)=(p.mul m).mul n
 | 0=>by rw [Nat.mul_zero,cN,cN]
 | n+1=>by rw [Nat.mul_succ,cW hp,iy hp m n,aJ]
theorem xP {p:Pt K} (hp:p.on) : ∀ n,p.neg.mul n=(p.mul n).neg
 | 0=>rfl
 | n+1=>by rw [aJ,xP hp n,aJ,ad9 (ci hp n) hp]
theorem lv {p q:Pt K} (hp:p.on) (hq:q.on) (h:p.neg.add q = .inf):p=q:=by
 have k:=iU (b8 hp) hq
 rw [kC,h,cn] at k
 exact k
theorem rb {p:Pt K} (hp:p.on) {r:Nat} (h:p.mul r = .inf) (n:Nat):p.mul (n % r)=p.mul n:=by
 have e:p.mul n=p.mul (r*(n / r)+n % r):=by rw [Nat.div_add_mod]
 rw [e,cW hp,iy hp,h,gq,bZ]
end
end Go.Proofs.YtgpafcehehaiiaaGreat
namespace Go.Proofs.YtgpafcehehaiiaaGreat
section
variable {K : Type} [Fld K] [Crv K]
def Pj (X Y Z:K):Pt K->Prop
 | .inf=>X=0/\Z=0/\Y ≠ 0
 | .aff x y=>Z ≠ 0/\X=x*Z/\Y=y*Z
def rx (b X1 Y1 Z1 X2 Y2 Z2:K):K:=(X1*Y2+X2*Y1)*(Y1*Y2-3*b*(Z1*Z2))-(Y1*Z2+Y2*Z1)*(3*b*(X1*Z2+X2*Z1))
def ry (b X1 Y1 Z1 X2 Y2 Z2:K):K:=(Y1*Y2-3*b*(Z1*Z2))*(Y1*Y2+3*b*(Z1*Z2))+3*b*(X1*Z2+X2*Z1)*(3*(X1*X2))
def rz (b X1 Y1 Z1 X2 Y2 Z2:K):K:=(Y1*Y2+3*b*(Z1*Z2))*(Y1*Z2+Y2*Z1)+3*(X1*X2)*(X1*Y2+X2*Y1)
theorem V8 (b x1 y1 z1 x2 y2 z2:K):rx b (x1*z1) (y1*z1) z1 (x2*z2) (y2*z2) z2=(z1*z2)*(z1*z2)*rx b x1 y1 1 x2 y2 1:=by unfold rx;grind
theorem V7 (b x1 y1 z1 x2 y2 z2:K):ry b (x1*z1) (y1*z1) z1 (x2*z2) (y2*z2) z2=(z1*z2)*(z1*z2)*ry b x1 y1 1 x2 y2 1:=by unfold ry;grind
theorem V5 (b x1 y1 z1 x2 y2 z2:K):rz b (x1*z1) (y1*z1) z1 (x2*z2) (y2*z2) z2=(z1*z2)*(z1*z2)*rz b x1 y1 1 x2 y2 1:=by unfold rz;grind
theorem ac8 {b x1 y1 x2 y2:K} (h1:y1*y1=x1*x1*x1+b) (h2:y2*y2=x2*x2*x2+b) :
  rz b x1 y1 1 x2 y2 1=y1*((x1-x2)*(x1-x2)*(x1-x2))-(y1+y2)*((2*x1+x2)*((x1-x2)*(x1-x2))-(y1+y2)*(y1+y2)):=by
 unfold rz
 grind
theorem ag5 {b x1 y1 x2 y2:K} (h1:y1*y1=x1*x1*x1+b) (h2:y2*y2=x2*x2*x2+b) :
  ((y2-y1)*(y2-y1)-(x1+x2)*((x2-x1)*(x2-x1)))*rz b x1 y1 1 x2 y2 1=(x2-x1)*(x2-x1)*rx b x1 y1 1 x2 y2 1:=by
 unfold rz rx
 grind
theorem ag4 {b x1 y1 x2 y2:K} (h1:y1*y1=x1*x1*x1+b) (h2:y2*y2=x2*x2*x2+b) :
  ((y2-y1)*((2*x1+x2)*((x2-x1)*(x2-x1))-(y2-y1)*(y2-y1))-y1*((x2-x1)*(x2-x1)*(x2-x1)))*rz b x1 y1 1 x2 y2 1=(x2-x1)*(x2-x1)*(x2-x1)*ry b x1 y1 1 x2 y2 1:=by
 unfold rz ry
 grind
theorem V4 {b x y:K} (h:y*y=x*x*x+b):rz b x y 1 x y 1=8*(y*y*y):=by
 unfold rz
 grind
theorem acr {x1 y1 x2 y2:K} (h1:(Pt.aff x1 y1).on) (h2:(Pt.aff x2 y2).on) (hx:x1 ≠ x2) : ∃ u v,(Pt.aff x1 y1).add (.aff x2 y2) = .aff u v/\(Pt.aff u v).on /\
  u*((x2-x1)*(x2-x1))=(y2-y1)*(y2-y1)-(x1+x2)*((x2-x1)*(x2-x1)) /\
  v*((x2-x1)*(x2-x1)*(x2-x1))=(y2-y1)*((2*x1+x2)*((x2-x1)*(x2-x1))-(y2-y1)*(y2-y1))-y1*((x2-x1)*(x2-x1)*(x2-x1)):=by
 have hd:x2-x1 ≠ 0:=fun e=>hx (aA e).symm
 have hi:=bl hd
 have ho:=bN h1 h2
 rw [lM,if_neg (fun e=>hx e.1)] at ho ⊢
 unfold dd at ho ⊢
 rw [if_neg hx] at ho ⊢
 generalize Fld.inv (x2-x1)=i at *
 have hl:(y2-y1)*i*(x2-x1)=y2-y1:=by
  have:(y2-y1)*i*(x2-x1)=(y2-y1)*((x2-x1)*i):=by grind
  rw [this,hi]
  exact CR.mul_one _
 generalize (y2-y1)*i=l at *
 refine ⟨_,_,rfl,ho,?_,?_⟩
 ·rw [<- hl]
  clear ho hi hl hd
  grind
 ·rw [<- hl]
  clear ho hi hl hd
  grind
theorem Of {x y:K} (h:(Pt.aff x y).on) : ∃ u v,(Pt.aff x y).add (.aff x y) = .aff u v/\(Pt.aff u v).on/\u*(4*(y*y))=9*(x*x)*(x*x)-2*x*(4*(y*y)) /\
  v*(8*(y*y*y))=3*(x*x)*(3*x*(4*(y*y))-9*(x*x)*(x*x))-y*(8*(y*y*y)):=by
 have hd:2*y ≠ 0:=aG Crv.two (y_ne h)
 have hi:=bl hd
 have ho:=bN h h
 rw [lM,if_neg (fun e=>jP h e.2)] at ho ⊢
 unfold dd at ho ⊢
 rw [if_pos rfl] at ho ⊢
 generalize Fld.inv (2*y)=i at *
 have hl:3*x*x*i*(2*y)=3*x*x:=by
  have:3*x*x*i*(2*y)=3*x*x*(2*y*i):=by grind
  rw [this,hi]
  exact CR.mul_one _
 generalize 3*x*x*i=l at *
 have h9:9*(x*x)*(x*x)=(3*x*x)*(3*x*x):=by clear ho hi hl hd h;grind
 have h3:3*(x*x)=3*x*x:=by clear ho hi hl hd h h9;grind
 refine ⟨_,_,rfl,ho,?_,?_⟩
 ·rw [h9,<- hl]
  clear ho hi hl hd h h9 h3
  grind
 ·rw [h9,h3,<- hl]
  clear ho hi hl hd h h9 h3
  grind
theorem Pj.scale {X Y Z k:K} {p:Pt K} (h:Pj X Y Z p) (hk:k ≠ 0):Pj (k*X) (k*Y) (k*Z) p:=by
 cases p with
 | inf =>
  obtain ⟨h1,h2,h3⟩:=h
  exact ⟨by rw [h1];exact CR.mul_zero _,by rw [h2];exact CR.mul_zero _,aG hk h3⟩
 | aff x y =>
  obtain ⟨h1,h2,h3⟩:=h
  exact ⟨aG hk h1,by rw [h2];clear h1 h2 h3 hk;grind,by rw [h3];clear h1 h2 h3 hk;grind⟩
theorem Zj:(8:K) ≠ 0:=by
 have:(8:K)=2*2*2:=by grind
 rw [this]
 exact aG (aG Crv.two Crv.two) Crv.two
theorem PG {y:K} (h:y ≠ 0):8*(y*y*y) ≠ 0:=aG Zj (aG (aG h h) h)
theorem opp_ring {b x y:K}:rx b x (-y) 1 x y 1=0/\rz b x (-y) 1 x y 1=0:=by unfold rx rz;exact ⟨by grind,by grind⟩
theorem ajG {b x y:K} (h:y*y=x*x*x+b):ry b x (-y) 1 x y 1=3*(x*x)*(3*x*(4*(y*y))-9*(x*x)*(x*x))-y*(8*(y*y*y)):=by unfold ry;grind
theorem acN {b x y:K} (h:y*y=x*x*x+b):(9*(x*x)*(x*x)-2*x*(4*(y*y)))*(2*y)=rx b x y 1 x y 1:=by unfold rx;grind
theorem acM {b x y:K} (h:y*y=x*x*x+b):3*(x*x)*(3*x*(4*(y*y))-9*(x*x)*(x*x))-y*(8*(y*y*y))=ry b x y 1 x y 1:=by unfold ry;grind
theorem MA (u y:K):u*(8*(y*y*y))=u*(4*(y*y))*(2*y):=by grind
theorem aj3 {u d n z X:K} (h:u*(d*d)=n) (g:n*z=d*d*X) (hd:d ≠ 0):X=u*z:=by
 apply gG (aG hd hd)
 rw [CR.mul_comm X,<- g,<- h]
 clear h g hd
 grind
theorem aj2 {v d n z Y:K} (h:v*(d*d*d)=n) (g:n*z=d*d*d*Y) (hd:d ≠ 0):Y=v*z:=by
 apply gG (aG (aG hd hd) hd)
 rw [CR.mul_comm Y,<- g,<- h]
 clear h g hd
 grind
theorem TP (x1 y1 x2 y2:K):y1*((x1-x2)*(x1-x2)*(x1-x2))-(y1+y2)*((2*x1+x2)*((x1-x2)*(x1-x2))-(y1+y2)*(y1+y2))=(-y2-y1)*((2*x1+x2)*((x2-x1)*(x2-x1))-(-y2-y1)*(-y2-y1))-y1*((x2-x1)*(x2-x1)*(x2-x1)):=by grind
theorem acZ {x1 y1 x2 y2:K} (h1:(Pt.aff x1 y1).on) (h2:(Pt.aff x2 y2).on):Pj (rx Crv.b x1 y1 1 x2 y2 1) (ry Crv.b x1 y1 1 x2 y2 1) (rz Crv.b x1 y1 1 x2 y2 1) ((Pt.aff x1 y1).add (.aff x2 y2)):=by
 by_cases hx:x1=x2
 ·subst hx
  obtain ⟨u,v,e,o,hu,hv⟩:=Of h2
  rcases k7 h2 h1 with e1 | e1
  ·have e1:y2=y1:=by injection e1
   subst e1
   rw [e]
   have hz:=V4 (b:=Crv.b) h2
   refine ⟨by rw [hz];exact PG (y_ne h2),?_,?_⟩
   ·rw [hz,MA,hu]
    exact (acN h2).symm
   ·rw [hz,hv]
    exact (acM h2).symm
  ·have e2:y1 = -y2:=by injection e1
   subst e2
   have k:(Pt.aff x1 (-y2)).add (.aff x1 y2) = .inf:=bE h2
   rw [k]
   refine ⟨opp_ring.1,opp_ring.2,?_⟩
   rw [ajG h2,<- hv]
   exact aG (y_ne o) (PG (y_ne h2))
 ·obtain ⟨u,v,e,o,hu,hv⟩:=acr h1 h2 hx
  have hd:x2-x1 ≠ 0:=fun e=>hx (aA e).symm
  rw [e]
  refine ⟨?_,aj3 hu (ag5 h1 h2) hd,aj2 hv (ag4 h1 h2) hd⟩
  obtain ⟨u',v',e',o',_,hv'⟩:=acr h1 (b8 h2) hx
  rw [ac8 h1 h2,TP,<- hv']
  exact aG (y_ne o') (aG (aG hd hd) hd)
theorem QG (b Y X2 Y2 Z2:K):rx b 0 Y 0 X2 Y2 Z2=Y*Y*Y2*X2/\ry b 0 Y 0 X2 Y2 Z2=Y*Y*Y2*Y2/\rz b 0 Y 0 X2 Y2 Z2=Y*Y*Y2*Z2:=by unfold rx ry rz;exact ⟨by grind,by grind,by grind⟩
theorem QE (b Y X2 Y2 Z2:K):rx b X2 Y2 Z2 0 Y 0=Y*Y*Y2*X2/\ry b X2 Y2 Z2 0 Y 0=Y*Y*Y2*Y2/\rz b X2 Y2 Z2 0 Y 0=Y*Y*Y2*Z2:=by unfold rx ry rz;exact ⟨by grind,by grind,by grind⟩
theorem Pj.y_ne {X Y Z:K} {p:Pt K} (hp:p.on) (h:Pj X Y Z p):Y ≠ 0:=by
 cases p with
 | inf=>exact h.2.2
 | aff x y=>rw [h.2.2];exact aG (Go.Proofs.YtgpafcehehaiiaaGreat.y_ne hp) h.1
theorem pQ {X1 Y1 Z1 X2 Y2 Z2:K} {p q:Pt K} (hp:p.on) (hq:q.on) (h:Pj X1 Y1 Z1 p) (g:Pj X2 Y2 Z2 q):Pj (rx Crv.b X1 Y1 Z1 X2 Y2 Z2) (ry Crv.b X1 Y1 Z1 X2 Y2 Z2) (rz Crv.b X1 Y1 Z1 X2 Y2 Z2) (p.add q):=by
 cases p with
 | inf =>
  obtain ⟨h1,h2,h3⟩:=h
  subst h1 h2
  obtain ⟨e1,e2,e3⟩:=QG (Crv.b:K) Y1 X2 Y2 Z2
  rw [e1,e2,e3,bZ]
  exact g.scale (aG (aG h3 h3) (g.y_ne hq))
 | aff x1 y1 =>
  cases q with
  | inf =>
   obtain ⟨h1,h2,h3⟩:=g
   subst h1 h2
   obtain ⟨e1,e2,e3⟩:=QE (Crv.b:K) Y2 X1 Y1 Z1
   rw [e1,e2,e3,cn]
   exact h.scale (aG (aG h3 h3) (h.y_ne hp))
  | aff x2 y2 =>
   obtain ⟨h1,h2,h3⟩:=h
   obtain ⟨g1,g2,g3⟩:=g
   subst h2 h3 g2 g3
   rw [V8,V7,V5]
   exact (acZ hp hq).scale (aG (aG h1 g1) (aG h1 g1))
def Jc (X Y Z:K):Pt K->Prop
 | .inf=>Z=0
 | .aff x y=>Z ≠ 0/\X=x*(Z*Z)/\Y=y*(Z*Z*Z)
theorem Jc.inf_of {X Y Z:K} {p:Pt K} (h:Jc X Y Z p) (hz:Z=0):p = .inf:=by
 cases p with
 | inf=>rfl
 | aff x y=>exact absurd hz h.1
theorem Jc.aff_of {X Y Z:K} {p:Pt K} (h:Jc X Y Z p) (hz:Z ≠ 0) : ∃ x y,p = .aff x y/\X=x*(Z*Z)/\Y=y*(Z*Z*Z):=by
 cases p with
 | inf=>exact absurd h hz
 | aff x y=>exact ⟨x,y,rfl,h.2⟩
def jx (X Y:K):K:=3*(X*X)*(3*(X*X))-8*(X*(Y*Y))
def jy (X Y:K):K:=3*(X*X)*(4*(X*(Y*Y))-jx X Y)-8*(Y*Y*(Y*Y))
def jz (Y Z:K):K:=2*(Y*Z)
theorem ajP {x y Z u:K} (hu:u*(4*(y*y))=9*(x*x)*(x*x)-2*x*(4*(y*y))):jx (x*(Z*Z)) (y*(Z*Z*Z))=u*(jz (y*(Z*Z*Z)) Z*jz (y*(Z*Z*Z)) Z):=by
 have e:u*(jz (y*(Z*Z*Z)) Z*jz (y*(Z*Z*Z)) Z)=u*(4*(y*y))*(Z*Z*Z*Z*Z*Z*Z*Z):=by unfold jz;clear hu;grind
 rw [e,hu]
 unfold jx
 clear hu e
 grind
theorem ajO {x y Z v:K} (hv:v*(8*(y*y*y))=3*(x*x)*(3*x*(4*(y*y))-9*(x*x)*(x*x))-y*(8*(y*y*y))):jy (x*(Z*Z)) (y*(Z*Z*Z))=v*(jz (y*(Z*Z*Z)) Z*jz (y*(Z*Z*Z)) Z*jz (y*(Z*Z*Z)) Z):=by
 have e:v*(jz (y*(Z*Z*Z)) Z*jz (y*(Z*Z*Z)) Z*jz (y*(Z*Z*Z)) Z)=v*(8*(y*y*y))*(Z*Z*Z*Z*(Z*Z*Z*Z)*(Z*Z*Z*Z)):=by unfold jz;clear hv;grind
 rw [e,hv]
 unfold jy jx
 clear hv e
 grind
theorem Bw {X Y Z:K} {p:Pt K} (hp:p.on) (h:Jc X Y Z p):Jc (jx X Y) (jy X Y) (jz Y Z) (p.add p):=by
 cases p with
 | inf =>
  show jz Y Z=0
  unfold jz
  rw [show Z=0 from h]
  grind
 | aff x y =>
  obtain ⟨h1,h2,h3⟩:=h
  subst h2 h3
  obtain ⟨u,v,e,o,hu,hv⟩:=Of hp
  rw [e]
  exact ⟨aG Crv.two (aG (aG (y_ne hp) (aG (aG h1 h1) h1)) h1),ajP hu,ajO hv⟩
def px (X1 Y1 Z1 X2 Y2 Z2:K):K:=(Y2*(Z1*Z1*Z1)-Y1*(Z2*Z2*Z2))*(Y2*(Z1*Z1*Z1)-Y1*(Z2*Z2*Z2))-(X2*(Z1*Z1)-X1*(Z2*Z2))*(X2*(Z1*Z1)-X1*(Z2*Z2))*(X2*(Z1*Z1)-X1*(Z2*Z2))-2*(X1*(Z2*Z2)*((X2*(Z1*Z1)-X1*(Z2*Z2))*(X2*(Z1*Z1)-X1*(Z2*Z2))))
def py (X1 Y1 Z1 X2 Y2 Z2:K):K:=(Y2*(Z1*Z1*Z1)-Y1*(Z2*Z2*Z2))*(X1*(Z2*Z2)*((X2*(Z1*Z1)-X1*(Z2*Z2))*(X2*(Z1*Z1)-X1*(Z2*Z2)))-px X1 Y1 Z1 X2 Y2 Z2)-Y1*(Z2*Z2*Z2)*((X2*(Z1*Z1)-X1*(Z2*Z2))*(X2*(Z1*Z1)-X1*(Z2*Z2))*(X2*(Z1*Z1)-X1*(Z2*Z2)))
def pz (X1 Z1 X2 Z2:K):K:=Z1*Z2*(X2*(Z1*Z1)-X1*(Z2*Z2))
theorem ajf (x1 x2 Z1 Z2:K):x2*(Z2*Z2)*(Z1*Z1)-x1*(Z1*Z1)*(Z2*Z2)=(x2-x1)*(Z1*Z2*(Z1*Z2)):=by grind
theorem akp (y1 y2 Z1 Z2:K):y2*(Z2*Z2*Z2)*(Z1*Z1*Z1)-y1*(Z1*Z1*Z1)*(Z2*Z2*Z2)=(y2-y1)*(Z1*Z2*(Z1*Z2)*(Z1*Z2)):=by grind
theorem Ig {X1 Y1 Z1 X2 Y2 Z2:K} {p q:Pt K} (hp:p.on) (hq:q.on) (h:Jc X1 Y1 Z1 p) (g:Jc X2 Y2 Z2 q) (hz1:Z1 ≠ 0) (hz2:Z2 ≠ 0) (hh:X2*(Z1*Z1)-X1*(Z2*Z2) ≠ 0) :
  Jc (px X1 Y1 Z1 X2 Y2 Z2) (py X1 Y1 Z1 X2 Y2 Z2) (pz X1 Z1 X2 Z2) (p.add q):=by
 obtain ⟨x1,y1,rfl,e1,e2⟩:=h.aff_of hz1
 obtain ⟨x2,y2,rfl,e3,e4⟩:=g.aff_of hz2
 subst e1 e2 e3 e4
 have hx:x1 ≠ x2:=fun e=>hh (by rw [ajf,e];grind)
 obtain ⟨u,v,e,o,hu,hv⟩:=acr hp hq hx
 rw [e]
 unfold px py pz px
 rw [ajf,akp]
 have hz:=aG hz1 hz2
 generalize hm:Z1*Z2=m at *
 have k1:x1*(Z1*Z1)*(Z2*Z2)=x1*(m*m):=by rw [<- hm];grind
 have k2:y1*(Z1*Z1*Z1)*(Z2*Z2*Z2)=y1*(m*m*m):=by rw [<- hm];grind
 rw [k1,k2]
 have hd:x2-x1 ≠ 0:=fun e=>hx (aA e).symm
 refine ⟨aG hz (aG hd (aG hz hz)),?_,?_⟩
 ·have e:u*(m*((x2-x1)*(m*m))*(m*((x2-x1)*(m*m))))=u*((x2-x1)*(x2-x1))*(m*m*m*m*m*m):=by clear hu hv;grind
  rw [e,hu]
  clear hu hv
  grind
 ·have e:v*(m*((x2-x1)*(m*m))*(m*((x2-x1)*(m*m)))*(m*((x2-x1)*(m*m))))=v*((x2-x1)*(x2-x1)*(x2-x1))*(m*m*m*m*m*m*m*m*m):=by clear hu hv;grind
  rw [e,hv]
  clear hu hv
  grind
theorem BW {X1 Y1 Z1 X2 Y2 Z2:K} {p q:Pt K} (hp:p.on) (hq:q.on) (h:Jc X1 Y1 Z1 p) (g:Jc X2 Y2 Z2 q) (hz1:Z1 ≠ 0) (hz2:Z2 ≠ 0) (hh:X2*(Z1*Z1)-X1*(Z2*Z2)=0) :
  (Y2*(Z1*Z1*Z1)-Y1*(Z2*Z2*Z2)=0->q=p)/\(Y2*(Z1*Z1*Z1)-Y1*(Z2*Z2*Z2) ≠ 0->p.add q = .inf):=by
 obtain ⟨x1,y1,rfl,e1,e2⟩:=h.aff_of hz1
 obtain ⟨x2,y2,rfl,e3,e4⟩:=g.aff_of hz2
 subst e1 e2 e3 e4
 have hz:=aG hz1 hz2
 rw [ajf] at hh
 have hx:x2=x1:=aA ((aD hh).resolve_right (aG hz hz))
 subst hx
 rw [akp]
 constructor
 ·intro e
  rw [aA ((aD e).resolve_right (aG (aG hz hz) hz))]
 ·intro e
  rcases k7 hq hp with k | k
  ·injection k with _ k
   exact absurd (by rw [k];grind) e
  ·rw [k]
   exact bE hq
end
end Go.Proofs.YtgpafcehehaiiaaGreat
namespace Go.Proofs.YtgpafcehehaiiaaGreat
class QP (K : Type) [CR K] where
 nr:K
class CP (K : Type) [CR K] where
 cr:K
structure Qd (K : Type) where
 a:K
 b:K
structure Cb (K : Type) where
 a:K
 b:K
 c:K
section
variable {K : Type} [CR K] [QP K]
theorem Qd.ext' {x y:Qd K} (h:x.a=y.a) (h2:x.b=y.b):x=y:=by
 cases x;cases y
 simp_all
instance : CR (Qd K) where
 z:=⟨0,0⟩
 o:=⟨1,0⟩
 add:=fun x y=>⟨x.a+y.a,x.b+y.b⟩
 mul:=fun x y=>⟨x.a*y.a+QP.nr*(x.b*y.b),x.a*y.b+x.b*y.a⟩
 neg:=fun x=>⟨-x.a, -x.b⟩
 sub:=fun x y=>⟨x.a-y.a,x.b-y.b⟩
 add_zero:=fun x=>Qd.ext' (show x.a+0=x.a by grind) (show x.b+0=x.b by grind)
 add_comm:=fun x y=>Qd.ext' (show x.a+y.a=y.a+x.a by grind) (show x.b+y.b=y.b+x.b by grind)
 add_assoc:=fun x y w=>Qd.ext' (show x.a+y.a+w.a=x.a+(y.a+w.a) by grind) (show x.b+y.b+w.b=x.b+(y.b+w.b) by grind)
 mul_assoc:=fun x y w=>Qd.ext'
  (show (x.a*y.a+QP.nr*(x.b*y.b))*w.a+QP.nr*((x.a*y.b+x.b*y.a)*w.b)=x.a*(y.a*w.a+QP.nr*(y.b*w.b))+QP.nr*(x.b*(y.a*w.b+y.b*w.a)) by grind)
  (show (x.a*y.a+QP.nr*(x.b*y.b))*w.b+(x.a*y.b+x.b*y.a)*w.a=x.a*(y.a*w.b+y.b*w.a)+x.b*(y.a*w.a+QP.nr*(y.b*w.b)) by grind)
 mul_comm:=fun x y=>Qd.ext' (show x.a*y.a+QP.nr*(x.b*y.b)=y.a*x.a+QP.nr*(y.b*x.b) by grind) (show x.a*y.b+x.b*y.a=y.a*x.b+y.b*x.a by grind)
 mul_one:=fun x=>Qd.ext' (show x.a*1+QP.nr*(x.b*0)=x.a by grind) (show x.a*0+x.b*1=x.b by grind)
 dist:=fun x y w=>Qd.ext' (show x.a*(y.a+w.a)+QP.nr*(x.b*(y.b+w.b))=(x.a*y.a+QP.nr*(x.b*y.b))+(x.a*w.a+QP.nr*(x.b*w.b)) by grind)
  (show x.a*(y.b+w.b)+x.b*(y.a+w.a)=(x.a*y.b+x.b*y.a)+(x.a*w.b+x.b*w.a) by grind)
 neg_add:=fun x=>Qd.ext' (show -x.a+x.a=0 by grind) (show -x.b+x.b=0 by grind)
 sub_eq:=fun x y=>Qd.ext' (show x.a-y.a=x.a + -y.a by grind) (show x.b-y.b=x.b + -y.b by grind)
theorem Qd.add_a (x y:Qd K):(x+y).a=x.a+y.a:=rfl
theorem Qd.add_b (x y:Qd K):(x+y).b=x.b+y.b:=rfl
theorem Qd.mul_a (x y:Qd K):(x*y).a=x.a*y.a+QP.nr*(x.b*y.b):=rfl
theorem Qd.mul_b (x y:Qd K):(x*y).b=x.a*y.b+x.b*y.a:=rfl
theorem Qd.sub_a (x y:Qd K):(x-y).a=x.a-y.a:=rfl
theorem Qd.sub_b (x y:Qd K):(x-y).b=x.b-y.b:=rfl
theorem Qd.zero_a:(0:Qd K).a=0:=rfl
theorem Qd.zero_b:(0:Qd K).b=0:=rfl
def Qd.conj (x:Qd K):Qd K:=⟨x.a, -x.b⟩
def Qd.norm (x:Qd K):K:=x.a*x.a-QP.nr*(x.b*x.b)
def Qd.of (x:K):Qd K:=⟨x,0⟩
theorem Qd.norm_mul (x y:Qd K):(x*y).norm=x.norm*y.norm:=by
 unfold Qd.norm
 rw [Qd.mul_a,Qd.mul_b]
 grind
theorem Qd.mul_conj (x:Qd K):x*x.conj=Qd.of x.norm:=Qd.ext' (by rw [Qd.mul_a];unfold Qd.conj Qd.of Qd.norm;grind) (by rw [Qd.mul_b];unfold Qd.conj Qd.of;grind)
theorem Qd.conj_mul (x y:Qd K):(x*y).conj=x.conj*y.conj:=Qd.ext' (by rw [Qd.mul_a];unfold Qd.conj;rw [Qd.mul_a];grind) (by rw [Qd.mul_b];unfold Qd.conj;simp only [];rw [Qd.mul_b];grind)
theorem Qd.conj_add (x y:Qd K):(x+y).conj=x.conj+y.conj:=Qd.ext' rfl (by show -(x.b+y.b) = -x.b + -y.b;grind)
theorem Qd.of_mul (x y:K):Qd.of (x*y)=Qd.of x*Qd.of y:=Qd.ext' (by rw [Qd.mul_a];unfold Qd.of;grind) (by rw [Qd.mul_b];unfold Qd.of;grind)
end
class QF (K : Type) [Fld K] extends QP K where
 no : ∀ x:K,x*x ≠ nr
section
variable {K : Type} [Fld K] [QF K]
theorem Qd.norm_ne {x:Qd K} (h:x ≠ 0):x.norm ≠ 0:=fun e=>by
 unfold Qd.norm at e
 by_cases hb:x.b=0
 ·have ha:x.a ≠ 0:=fun ha=>h (Qd.ext' ha hb)
  exact aG ha ha (by rw [hb] at e;grind)
 ·have hi:=bl hb
  exact QF.no (x.a*Fld.inv x.b) (by grind)
instance : Fld (Qd K) where
 inv:=fun x=>⟨x.a*Fld.inv x.norm, -(x.b*Fld.inv x.norm)⟩
 mul_inv:=fun x h=>by
  have hn:=bl (Qd.norm_ne h)
  refine Qd.ext' ?_ ?_
  ·show x.a*(x.a*Fld.inv x.norm)+QP.nr*(x.b * -(x.b*Fld.inv x.norm))=1
   have:x.norm=x.a*x.a-QP.nr*(x.b*x.b):=rfl
   grind
  ·show x.a * -(x.b*Fld.inv x.norm)+x.b*(x.a*Fld.inv x.norm)=0
   grind
 one_ne:=fun h=>cL (K:=K) (congrArg Qd.a h)
end
section
variable {K : Type} [CR K] [CP K]
theorem Cb.ext' {x y:Cb K} (h:x.a=y.a) (h2:x.b=y.b) (h3:x.c=y.c):x=y:=by
 cases x;cases y
 simp_all
instance : CR (Cb K) where
 z:=⟨0,0,0⟩
 o:=⟨1,0,0⟩
 add:=fun x y=>⟨x.a+y.a,x.b+y.b,x.c+y.c⟩
 mul:=fun x y=>⟨x.a*y.a+CP.cr*(x.b*y.c+x.c*y.b),x.a*y.b+x.b*y.a+CP.cr*(x.c*y.c),x.a*y.c+x.b*y.b+x.c*y.a⟩
 neg:=fun x=>⟨-x.a, -x.b, -x.c⟩
 sub:=fun x y=>⟨x.a-y.a,x.b-y.b,x.c-y.c⟩
 add_zero:=fun x=>Cb.ext' (show x.a+0=x.a by grind) (show x.b+0=x.b by grind) (show x.c+0=x.c by grind)
 add_comm:=fun x y=>Cb.ext' (show x.a+y.a=y.a+x.a by grind) (show x.b+y.b=y.b+x.b by grind) (show x.c+y.c=y.c+x.c by grind)
 add_assoc:=fun x y w=>Cb.ext' (show x.a+y.a+w.a=x.a+(y.a+w.a) by grind) (show x.b+y.b+w.b=x.b+(y.b+w.b) by grind) (show x.c+y.c+w.c=x.c+(y.c+w.c) by grind)
 mul_assoc:=fun x y w=>Cb.ext'
  (show (x.a*y.a+CP.cr*(x.b*y.c+x.c*y.b))*w.a+CP.cr*((x.a*y.b+x.b*y.a+CP.cr*(x.c*y.c))*w.c+(x.a*y.c+x.b*y.b+x.c*y.a)*w.b)=x.a*(y.a*w.a+CP.cr*(y.b*w.c+y.c*w.b))+CP.cr*(x.b*(y.a*w.c+y.b*w.b+y.c*w.a)+x.c*(y.a*w.b+y.b*w.a+CP.cr*(y.c*w.c))) by grind)
  (show (x.a*y.a+CP.cr*(x.b*y.c+x.c*y.b))*w.b+(x.a*y.b+x.b*y.a+CP.cr*(x.c*y.c))*w.a+CP.cr*((x.a*y.c+x.b*y.b+x.c*y.a)*w.c)=x.a*(y.a*w.b+y.b*w.a+CP.cr*(y.c*w.c))+x.b*(y.a*w.a+CP.cr*(y.b*w.c+y.c*w.b))+CP.cr*(x.c*(y.a*w.c+y.b*w.b+y.c*w.a)) by grind)
  (show (x.a*y.a+CP.cr*(x.b*y.c+x.c*y.b))*w.c+(x.a*y.b+x.b*y.a+CP.cr*(x.c*y.c))*w.b+(x.a*y.c+x.b*y.b+x.c*y.a)*w.a=x.a*(y.a*w.c+y.b*w.b+y.c*w.a)+x.b*(y.a*w.b+y.b*w.a+CP.cr*(y.c*w.c))+x.c*(y.a*w.a+CP.cr*(y.b*w.c+y.c*w.b)) by grind)
 mul_comm:=fun x y=>Cb.ext' (show x.a*y.a+CP.cr*(x.b*y.c+x.c*y.b)=y.a*x.a+CP.cr*(y.b*x.c+y.c*x.b) by grind) (show x.a*y.b+x.b*y.a+CP.cr*(x.c*y.c)=y.a*x.b+y.b*x.a+CP.cr*(y.c*x.c) by grind) (show x.a*y.c+x.b*y.b+x.c*y.a=y.a*x.c+y.b*x.b+y.c*x.a by grind)
 mul_one:=fun x=>Cb.ext' (show x.a*1+CP.cr*(x.b*0+x.c*0)=x.a by grind) (show x.a*0+x.b*1+CP.cr*(x.c*0)=x.b by grind) (show x.a*0+x.b*0+x.c*1=x.c by grind)
 dist:=fun x y w=>Cb.ext' (show x.a*(y.a+w.a)+CP.cr*(x.b*(y.c+w.c)+x.c*(y.b+w.b))=(x.a*y.a+CP.cr*(x.b*y.c+x.c*y.b))+(x.a*w.a+CP.cr*(x.b*w.c+x.c*w.b)) by grind)
  (show x.a*(y.b+w.b)+x.b*(y.a+w.a)+CP.cr*(x.c*(y.c+w.c))=(x.a*y.b+x.b*y.a+CP.cr*(x.c*y.c))+(x.a*w.b+x.b*w.a+CP.cr*(x.c*w.c)) by grind)
  (show x.a*(y.c+w.c)+x.b*(y.b+w.b)+x.c*(y.a+w.a)=(x.a*y.c+x.b*y.b+x.c*y.a)+(x.a*w.c+x.b*w.b+x.c*w.a) by grind)
 neg_add:=fun x=>Cb.ext' (show -x.a+x.a=0 by grind) (show -x.b+x.b=0 by grind) (show -x.c+x.c=0 by grind)
 sub_eq:=fun x y=>Cb.ext' (show x.a-y.a=x.a + -y.a by grind) (show x.b-y.b=x.b + -y.b by grind) (show x.c-y.c=x.c + -y.c by grind)
theorem Cb.mul_a (x y:Cb K):(x*y).a=x.a*y.a+CP.cr*(x.b*y.c+x.c*y.b):=rfl
theorem Cb.mul_b (x y:Cb K):(x*y).b=x.a*y.b+x.b*y.a+CP.cr*(x.c*y.c):=rfl
theorem Cb.mul_c (x y:Cb K):(x*y).c=x.a*y.c+x.b*y.b+x.c*y.a:=rfl
def Cb.adj (x:Cb K):Cb K:=⟨x.a*x.a-CP.cr*(x.b*x.c),CP.cr*(x.c*x.c)-x.a*x.b,x.b*x.b-x.a*x.c⟩
def Cb.norm (x:Cb K):K:=x.a*(x.a*x.a-CP.cr*(x.b*x.c))+CP.cr*(x.c*(CP.cr*(x.c*x.c)-x.a*x.b)+x.b*(x.b*x.b-x.a*x.c))
def Cb.of (x:K):Cb K:=⟨x,0,0⟩
theorem Cb.mul_adj (x:Cb K):x*x.adj=Cb.of x.norm:=Cb.ext' (by rw [Cb.mul_a];unfold Cb.adj Cb.of Cb.norm;grind) (by rw [Cb.mul_b];unfold Cb.adj Cb.of;grind) (by rw [Cb.mul_c];unfold Cb.adj Cb.of;grind)
theorem Cb.adj_adj (x:Cb K):x.adj.adj=⟨x.norm*x.a,x.norm*x.b,x.norm*x.c⟩:=Cb.ext' (by unfold Cb.adj Cb.norm;grind) (by unfold Cb.adj Cb.norm;grind) (by unfold Cb.adj Cb.norm;grind)
theorem Cb.norm_mul (x y:Cb K):(x*y).norm=x.norm*y.norm:=by
 unfold Cb.norm
 rw [Cb.mul_a,Cb.mul_b,Cb.mul_c]
 grind
end
class CF (K : Type) [Fld K] extends CP K where
 no : ∀ x:K,x*x*x ≠ cr
section
variable {K : Type} [Fld K] [CF K]
theorem Cb.adj_ne {x:Cb K} (h:x.adj=0):x=0:=by
 have h0:x.a*x.a-CP.cr*(x.b*x.c)=0:=congrArg Cb.a h
 have h1:CP.cr*(x.c*x.c)-x.a*x.b=0:=congrArg Cb.b h
 have h2:x.b*x.b-x.a*x.c=0:=congrArg Cb.c h
 by_cases hc:x.c=0
 ·have hb:x.b=0:=(aD (show x.b*x.b=0 by grind)).elim id id
  have ha:x.a=0:=(aD (show x.a*x.a=0 by grind)).elim id id
  exact Cb.ext' ha hb hc
 ·have hi:=bl hc
  exact (CF.no (x.b*Fld.inv x.c) (by grind)).elim
theorem Cb.norm_ne {x:Cb K} (h:x ≠ 0):x.norm ≠ 0:=fun e=>h (Cb.adj_ne (Cb.adj_ne (by
 rw [Cb.adj_adj,e]
 exact Cb.ext' (show (0:K)*x.a=0 by grind) (show (0:K)*x.b=0 by grind) (show (0:K)*x.c=0 by grind))))
instance : Fld (Cb K) where
 inv:=fun x=>⟨x.adj.a*Fld.inv x.norm,x.adj.b*Fld.inv x.norm,x.adj.c*Fld.inv x.norm⟩
 mul_inv:=fun x h=>by
  have hn:=bl (Cb.norm_ne h)
  have ha:=congrArg Cb.a (Cb.mul_adj x)
  have hb:=congrArg Cb.b (Cb.mul_adj x)
  have hc:=congrArg Cb.c (Cb.mul_adj x)
  rw [Cb.mul_a] at ha
  rw [Cb.mul_b] at hb
  rw [Cb.mul_c] at hc
  have ha:x.a*x.adj.a+CP.cr*(x.b*x.adj.c+x.c*x.adj.b)=x.norm:=ha
  have hb:x.a*x.adj.b+x.b*x.adj.a+CP.cr*(x.c*x.adj.c)=0:=hb
  have hc:x.a*x.adj.c+x.b*x.adj.b+x.c*x.adj.a=0:=hc
  generalize x.adj=t at *
  generalize x.norm=n at *
  refine Cb.ext' ?_ ?_ ?_
  ·show x.a*(t.a*Fld.inv n)+CP.cr*(x.b*(t.c*Fld.inv n)+x.c*(t.b*Fld.inv n))=1
   grind
  ·show x.a*(t.b*Fld.inv n)+x.b*(t.a*Fld.inv n)+CP.cr*(x.c*(t.c*Fld.inv n))=0
   grind
  ·show x.a*(t.c*Fld.inv n)+x.b*(t.b*Fld.inv n)+x.c*(t.a*Fld.inv n)=0
   grind
 one_ne:=fun h=>cL (K:=K) (congrArg Cb.a h)
end
end Go.Proofs.YtgpafcehehaiiaaGreat
namespace Go.Proofs.YtgpafcehehaiiaaGreat
theorem i5 {R:Type} [CR R] (a:R):a*1=a:=CR.mul_one a
section
variable {K : Type} [Fld K] [Crv K]
theorem Ze {l1 m1 l2 m2 l3 m3 l4 m4 x1 x2 x3 xA xB x4 x5:K} {y1 y2 y3:K} (o3:y3*y3=x3*x3*x3+Crv.b)
  (hA:Ln l1 m1 x1 x2 xA) (hB:Ln l2 m2 x2 x3 xB) (hC:Ln l3 m3 xA x3 x4) (hD:Ln l4 m4 xB x1 x5)
  (a1:y1=l1*x1+m1) (a2:y2=l1*x2+m1) (b2:y2=l2*x2+m2) (b3:y3=l2*x3+m2) (cA:l3*xA+m3 = -(l1*xA+m1)) (c3:y3=l3*x3+m3) (dB:l4*xB+m4 = -(l2*xB+m2)) (d1:y1=l4*x1+m4)
  (n12:x1 ≠ x2) (n13:x1 ≠ x3) (n23:x2 ≠ x3) (nA : ¬ (x3=xA/\y3=l1*xA+m1)):xA+l1*l3=xB+l2*l4/\(l1*m3+l3*m1+xA*(xA+l1*l3)=l2*m4+l4*m2+xB*(xB+l2*l4))/\l1+l3=l2+l4:=by
 have f1:=dT hA cA a1
 have f2:=dT hA.swap cA a2
 have f3:=bG hC.turn cA c3
 have f4:=bG hC.turn.swap cA rfl
 have g2:=dT hB dB b2
 have g3:=dT hB.swap dB b3
 have g1:=bG hD.turn dB d1
 have g5:=bG hD.turn.swap dB rfl
 have e4:=qw hA hC
 have e5:=qw hB hD
 have d12:x1-x2 ≠ 0:=fun e=>n12 (aA e)
 have d13:x1-x3 ≠ 0:=fun e=>n13 (aA e)
 have d23:x2-x3 ≠ 0:=fun e=>n23 (aA e)
 have w1:=fU f1 g1
 have w2:=fU f2 g2
 have w3:=fU f3 g3
 have v:=(aD (Hx w1 w2 a1 a2)).resolve_left d12
 have hr0:(l1+l3)-(l2+l4)=0:=by
  rcases aD (mG w1 w3 a1 v) with e | e
  ·exact e
  ·exfalso
   have e3:=aA e
   rw [e3] at o3
   rcases hA.all o3 with k | k | k
   ·exact n13 k.symm
   ·exact n23 k.symm
   ·exact nA ⟨k,by rw [e3,k]⟩
 have hp0:=mY v hr0
 have hq0:=lb w1 hr0 hp0
 have hpe:=aA hp0
 have hqe:=aA hq0
 have hre:=aA hr0
 exact ⟨hpe,hqe,hre⟩
theorem Mp {l1 m1 l2 m2 l3 m3 l4 m4 x1 x3 xA xB x4 x5:K} {y1 y3:K} (o1:y1*y1=x1*x1*x1+Crv.b) (o3:y3*y3=x3*x3*x3+Crv.b)
  (hA:Ln l1 m1 x1 x1 xA) (hB:Ln l2 m2 x1 x3 xB) (hC:Ln l3 m3 xA x3 x4) (hD:Ln l4 m4 xB x1 x5)
  (a1:y1=l1*x1+m1) (b1:y1=l2*x1+m2) (b3:y3=l2*x3+m2) (cA:l3*xA+m3 = -(l1*xA+m1)) (c3:y3=l3*x3+m3) (dB:l4*xB+m4 = -(l2*xB+m2)) (d1:y1=l4*x1+m4)
  (n13:x1 ≠ x3) (n1B:x1 ≠ xB) (nA : ¬ (x3=xA/\y3=l1*xA+m1)):xA+l1*l3=xB+l2*l4/\(l1*m3+l3*m1+xA*(xA+l1*l3)=l2*m4+l4*m2+xB*(xB+l2*l4))/\l1+l3=l2+l4:=by
 have f1:=dT hA cA a1
 have f3:=bG hC.turn cA c3
 have f4:=bG hC.turn.swap cA rfl
 have g3:=dT hB.swap dB b3
 have g1:=bG hD.turn dB d1
 have g5:=bG hD.turn.swap dB rfl
 have e4:=qw hA hC
 have e5:=qw hB hD
 have d1B:x1-xB ≠ 0:=fun e=>n1B (aA e)
 have d13:x1-x3 ≠ 0:=fun e=>n13 (aA e)
 have fd:=pP (m:=m1) (k:=l3) hA.s1
 have gd:=vd o1 hB.on (w7 hA a1) (pq b1) (by rw [<- dB];exact pq d1) d1B
 have w1:=fU f1 g1
 have w3:=fU f3 g3
 have v:=BF fd gd
 have hr0:(l1+l3)-(l2+l4)=0:=by
  rcases aD (mG w1 w3 a1 v) with e | e
  ·exact e
  ·exfalso
   have e3:=aA e
   rw [e3] at o3
   rcases hA.all o3 with k | k | k
   ·exact n13 k.symm
   ·exact n13 k.symm
   ·exact nA ⟨k,by rw [e3,k]⟩
 have hp0:=mY v hr0
 have hq0:=lb w1 hr0 hp0
 have hpe:=aA hp0
 have hqe:=aA hq0
 have hre:=aA hr0
 exact ⟨hpe,hqe,hre⟩
structure Lv (K M : Type) [Fld K] [Crv K] [CR M] where
 S:K->K->M
 F:K->K->K->M
 four : ∀ l m k n a,(l*a+m)*(l*a+m)=a*a*a+Crv.b->k*a+n = -(l*a+m)->S l m*S k n=F (a+l*k) (l*n+k*m+a*(a+l*k)) (l+k)
 opp : ∀ l m,S l m*S (-l) (-m)=1
variable {M : Type} [CR M] (v : Lv K M)
open Classical in
noncomputable def Lv.c:Pt K->Pt K->M
 | .aff x1 y1,.aff x2 y2=>if x1=x2/\y1 = -y2 then 1 else v.S (dd x1 y1 x2 y2) (y1-dd x1 y1 x2 y2*x1)
 | _,_=>1
theorem Lv.c_inf (p:Pt K):v.c .inf p=1:=by cases p <;> rfl
theorem Lv.c_inf' (p:Pt K):v.c p .inf=1:=by cases p <;> rfl
open Classical in
theorem Lv.c_opp {x1 y1 x2 y2:K} (h1:x1=x2) (h2:y1 = -y2):v.c (.aff x1 y1) (.aff x2 y2)=1:=by
 show (if x1=x2/\y1 = -y2 then (1:M) else _)=1
 rw [if_pos ⟨h1,h2⟩]
open Classical in
theorem Lv.c_ln {l m x1 y1 x2 y2 x3:K} (h:Ln l m x1 x2 x3) (h1:y1=l*x1+m) (h2:y2=l*x2+m):v.c (.aff x1 y1) (.aff x2 y2)=v.S l m:=by
 have o1:y1*y1=x1*x1*x1+Crv.b:=by rw [h1];exact h.turn.on
 have hn : ¬ (x1=x2/\y1 = -y2):=fun e=>by
  have:y2=y1:=by rw [h1,h2,e.1]
  rw [this] at e
  exact jP o1 e.2
 have hs:dd x1 y1 x2 y2=l:=by
  unfold dd
  by_cases hx:x1=x2
  ·rw [if_pos hx]
   have hi:=bl (aG Crv.two (y_ne o1))
   generalize Fld.inv (2*y1)=i at *
   have hq:3*x1*x1=l*(2*y1):=by
    have e:l*(2*y1)=2*(l*l)*x1+2*(l*m):=by rw [h1];grind
    rw [e,h.s1,h.s2,hx]
    grind
   rw [hq]
   grind
  ·rw [if_neg hx]
   have hi:=bl (a:=x2-x1) (fun e=>hx (by grind))
   generalize Fld.inv (x2-x1)=i at *
   rw [h1,h2]
   grind
 show (if x1=x2/\y1 = -y2 then (1:M) else v.S (dd x1 y1 x2 y2) (y1-dd x1 y1 x2 y2*x1))=_
 rw [if_neg hn,hs,h1,show l*x1+m-l*x1=m by grind]
theorem Lv.c_comm {p q:Pt K} (hp:p.on) (hq:q.on):v.c p q=v.c q p:=by
 cases p with
 | inf=>rw [v.c_inf,v.c_inf']
 | aff x1 y1 =>
  cases q with
  | inf=>rw [v.c_inf,v.c_inf']
  | aff x2 y2 =>
   rcases bC hp hq with ⟨h1,h2,_⟩ | ⟨l,m,x3,h,h1,h2,_⟩
   ·rw [v.c_opp h1 h2,v.c_opp h1.symm (by rw [h2];grind)]
   ·rw [v.c_ln h h1 h2,v.c_ln h.swap h2 h1]
theorem Lv.coc_aff {x1 y1 x2 y2 x3 y3:K} (h1:(Pt.aff x1 y1).on) (h2:(Pt.aff x2 y2).on) (h3:(Pt.aff x3 y3).on) (n13:x1 ≠ x3) (n23:x2 ≠ x3) :
  v.c (.aff x1 y1) (.aff x2 y2)*v.c ((Pt.aff x1 y1).add (.aff x2 y2)) (.aff x3 y3)=v.c (.aff x2 y2) (.aff x3 y3)*v.c (.aff x1 y1) ((Pt.aff x2 y2).add (.aff x3 y3)):=by
 rcases bC h2 h3 with ⟨e1,_,_⟩ | ⟨l2,m2,xB,hB,b2,b3,eB⟩
 ·exact absurd e1 n23
 have oB:(Pt.aff xB (-(l2*xB+m2))).on:=b8 (p := .aff xB (l2*xB+m2)) hB.on
 rw [eB,v.c_ln hB b2 b3]
 rcases bC h1 h2 with ⟨e1,e2,e⟩ | ⟨l1,m1,xA,hA,a1,a2,eA⟩
 ·rw [e,v.c_inf,v.c_opp e1 e2]
  subst e1
  have k:v.c (.aff x1 y1) (.aff xB (-(l2*xB+m2)))=v.S (-l2) (-m2):=v.c_ln hB.neg.turn.turn.swap (by rw [e2,b2];grind) (by grind)
  rw [k,v.opp]
  exact CR.mul_one _
 have oA:(Pt.aff xA (-(l1*xA+m1))).on:=b8 (p := .aff xA (l1*xA+m1)) hA.on
 rw [eA,v.c_ln hA a1 a2]
 rcases bC oA h3 with ⟨e1,e2,e⟩ | ⟨l3,m3,x4,hC,cA,c3,eC⟩
 ·rw [v.c_opp e1 e2]
  subst e1
  have e3:y3=l1*xA+m1:=by grind
  have k:=fu hA.turn a2 e3
  have k2:=v.c_ln hA.turn a2 e3
  rw [v.c_ln hB b2 b3] at k2
  rw [eB] at k
  injection k with k3 k4
  rw [k2,v.c_opp (x1:=x1) k3.symm (by rw [k4,a1];grind)]
 rcases bC h1 oB with ⟨e1,e2,e⟩ | ⟨l4,m4,x5,hD,d1,dB,eD⟩
 ·exfalso
  subst e1
  have e3:y1=l2*x1+m2:=by grind
  have k:=fu hB.turn.turn e3 b2
  rw [eA] at k
  injection k with k1 k2
  have e4:y3=l1*xA+m1:=by rw [b3,<- k1];grind
  have e5 : -(l1*xA+m1)=l1*xA+m1:=by
   have:l3*xA+m3=l3*x3+m3:=by rw [k1]
   rw [cA,this,<- c3,e4]
  exact jP hA.on e5.symm
 rw [v.c_ln hC cA c3,v.c_ln hD d1 dB]
 have nA : ¬ (x3=xA/\y3=l1*xA+m1):=fun e=>by
  have:y3 = -(l1*xA+m1):=by rw [cA,<- e.1];exact c3
  exact jP hA.on (e.2.symm.trans this)
 rw [v.four l1 m1 l3 m3 xA hA.on cA.symm,v.four l2 m2 l4 m4 xB hB.on dB.symm]
 by_cases n12:x1=x2
 ·subst n12
  have e12:y1=y2:=by rw [a1,a2]
  subst e12
  have n1B:x1 ≠ xB:=fun e=>by
   subst e
   exact jP h1 (d1.trans (dB.symm.trans (by rw [<- b2])))
  obtain ⟨k1,k2,k3⟩:=Mp h1 h3 hA hB hC hD.swap a1 b2 b3 cA.symm c3 dB.symm d1 n13 n1B nA
  rw [k2,k1,k3]
 ·obtain ⟨k1,k2,k3⟩:=Ze h3 hA hB hC hD.swap a1 a2 b2 b3 cA.symm c3 dB.symm d1 n12 n13 n23 nA
  rw [k2,k1,k3]
theorem Lv.coc_gen {p q r:Pt K} (hp:p.on) (hq:q.on) (hr:r.on) (h1 : ∀ x y z,p = .aff x y->r ≠ .aff x z) (h2 : ∀ x y z,q = .aff x y->r ≠ .aff x z) :
  v.c p q*v.c (p.add q) r=v.c q r*v.c p (q.add r):=by
 cases p with
 | inf=>rw [bZ,v.c_inf,v.c_inf];grind
 | aff x1 y1 =>
  cases q with
  | inf=>rw [cn,bZ,v.c_inf,v.c_inf']
  | aff x2 y2 =>
   cases r with
   | inf=>rw [cn,v.c_inf',v.c_inf'];grind
   | aff x3 y3=>exact v.coc_aff hp hq hr (fun e=>h1 x1 y1 y3 rfl (by rw [e])) (fun e=>h2 x2 y2 y3 rfl (by rw [e]))
def apart (p r:Pt K):Prop := ∀ x y z,p = .aff x y->r ≠ .aff x z
theorem Lv.c_unit (p q:Pt K) : ∃ i,v.c p q*i=1:=by
 cases p with
 | inf=>exact ⟨1,by rw [v.c_inf];exact CR.mul_one _⟩
 | aff x1 y1 =>
  cases q with
  | inf=>exact ⟨1,by rw [v.c_inf'];exact CR.mul_one _⟩
  | aff x2 y2 =>
   unfold Lv.c
   simp only
   split
   ·exact ⟨1,CR.mul_one _⟩
   ·exact ⟨_,v.opp _ _⟩
theorem FU {R:Type} [CR R] {a b c i:R} (h:c*i=1) (e:a*c=b*c):a=b:=by
 have h1:a*(c*i)=b*(c*i):=by rw [<- CR.mul_assoc,e,CR.mul_assoc]
 rw [h] at h1
 exact (CR.mul_one _).symm.trans (h1.trans (CR.mul_one _))
theorem kZ {n:Nat} {p d:Pt K} (hp:p.on) (hd:d.on) (h:p.mul n = .inf) (hn:d.mul n ≠ .inf):apart p d:=by
 intro x y z e1 e2
 subst e1 e2
 rcases k7 hp hd with e | e
 ·rw [<- e] at hn;exact hn h
 ·rw [e,xP hp,h] at hn;exact hn rfl
theorem Lv.coc {n:Nat} {d:Pt K} (hd:d.on) (hn:d.mul n ≠ .inf) {p q r:Pt K} (hp:p.on) (hq:q.on) (hr:r.on) (kp:p.mul n = .inf) (kq:q.mul n = .inf) (kr:r.mul n = .inf) :
  v.c p q*v.c (p.add q) r=v.c q r*v.c p (q.add r):=by
 have opq:=bN hp hq
 have oqr:=bN hq hr
 have ord:=bN hr hd
 have kpq:(p.add q).mul n = .inf:=by rw [dc hp hq,kp,kq];rfl
 have kqr:(q.add r).mul n = .inf:=by rw [dc hq hr,kq,kr];rfl
 have nrd:(r.add d).mul n ≠ .inf:=by rw [dc hr hd,kr,bZ];exact hn
 have a1:=kZ hp hd kp hn
 have a2:=kZ hq hd kq hn
 have a3:=kZ hr hd kr hn
 have a4:=kZ opq hd kpq hn
 have a5:=kZ oqr hd kqr hn
 have a6:=kZ hp ord kp nrd
 have a7:=kZ hq ord kq nrd
 have e1:=v.coc_gen hq hr hd a2 a3
 have e2:=v.coc_gen hp oqr hd a1 a5
 have e3:=v.coc_gen opq hr hd a4 a3
 have e4:=v.coc_gen hp hq ord a6 a7
 rw [aX hq hr hd] at e2
 rw [aX hp hq hr] at e3
 obtain ⟨i,hne⟩:=v.c_unit (p.add (q.add r)) d
 generalize v.c (p.add (q.add r)) d=z at *
 generalize v.c p q=c1 at *
 generalize v.c (p.add q) r=c2 at *
 generalize v.c q r=c3 at *
 generalize v.c p (q.add r)=c4 at *
 generalize v.c r d=c5 at *
 generalize v.c (q.add r) d=c6 at *
 generalize v.c q (r.add d)=c7 at *
 generalize v.c p (q.add (r.add d))=c8 at *
 generalize v.c (p.add q) (r.add d)=c9 at *
 apply FU hne
 have f1:c1*c2*z=c5*(c7*c8):=by
  have:c1*c2*z=c1*(c2*z):=by grind
  rw [this,e3,<- e4]
  grind
 have f2:c3*c4*z=c5*(c7*c8):=by
  have:c3*c4*z=c3*(c4*z):=by grind
  rw [this,e2]
  have:c3*(c6*c8)=(c3*c6)*c8:=by grind
  rw [this,e1]
  grind
 rw [f1,f2]
noncomputable def Lv.f (q:Pt K):Nat->M
 | 0=>1
 | n+1=>Lv.f q n*v.c (q.mul n) q
section
variable {n : Nat} {d : Pt K} (hd : d.on) (hn : d.mul n ≠ .inf)
def Pt.sub (n:Nat) (p:Pt K):Prop:=p.on/\p.mul n = .inf
include hd hn in
theorem Lv.coc' {p q r:Pt K} (hp:p.sub n) (hq:q.sub n) (hr:r.sub n):v.c p q*v.c (p.add q) r=v.c q r*v.c p (q.add r):=v.coc hd hn hp.1 hq.1 hr.1 hp.2 hq.2 hr.2
theorem xc {p q:Pt K} (hp:p.sub n) (hq:q.sub n):(p.add q).sub n:=⟨bN hp.1 hq.1,by rw [dc hp.1 hq.1,hp.2,hq.2];rfl⟩
theorem sub_mul {p:Pt K} (hp:p.sub n) (k:Nat):(p.mul k).sub n:=⟨ci hp.1 k,by rw [<- iy hp.1,Nat.mul_comm,iy hp.1,hp.2,gq]⟩
include hd hn in
theorem Lv.inter {a b x y:Pt K} (ha:a.sub n) (hb:b.sub n) (hx:x.sub n) (hy:y.sub n) :
  v.c a b*v.c x y*v.c (a.add b) (x.add y)=v.c a x*v.c b y*v.c (a.add x) (b.add y):=by
 have e1:=v.coc' hd hn (xc ha hb) hx hy
 have e2:=v.coc' hd hn ha hb hx
 have e3:=v.coc' hd hn ha hx hb
 have e4:=v.coc' hd hn (xc ha hx) hb hy
 rw [v.c_comm hb.1 hx.1,aB hb.1 hx.1] at e2
 have e5:(a.add b).add x=(a.add x).add b:=by rw [aX ha.1 hb.1 hx.1,aB hb.1 hx.1,aX ha.1 hx.1 hb.1]
 rw [e5] at e1
 have e6:v.c a b*v.c (a.add b) x=v.c a x*v.c (a.add x) b:=e2.trans e3.symm
 generalize v.c a b=c1 at *
 generalize v.c x y=c2 at *
 generalize v.c (a.add b) (x.add y)=c3 at *
 generalize v.c a x=c4 at *
 generalize v.c b y=c5 at *
 generalize v.c (a.add x) (b.add y)=c6 at *
 generalize v.c (a.add b) x=c7 at *
 generalize v.c ((a.add x).add b) y=c8 at *
 generalize v.c (a.add x) b=c9 at *
 have:c1*c2*c3=c1*(c2*c3):=by grind
 rw [this,<- e1]
 have:c1*(c7*c8)=(c1*c7)*c8:=by grind
 rw [this,e6]
 have:c4*c9*c8=c4*(c9*c8):=by grind
 rw [this,e4]
 grind
include hd hn in
theorem Lv.f_add {q:Pt K} (hq:q.sub n) (j:Nat) : ∀ k,v.f q (j+k)=v.f q j*v.f q k*v.c (q.mul j) (q.mul k)
 | 0=>by
  show v.f q j=v.f q j*1*v.c (q.mul j) (q.mul 0)
  rw [cN,v.c_inf']
  grind
 | k+1=>by
  have ih:=Lv.f_add hq j k
  have e:=v.coc' hd hn (sub_mul hq j) (sub_mul hq k) hq
  show v.f q (j+k)*v.c (q.mul (j+k)) q=v.f q j*(v.f q k*v.c (q.mul k) q)*v.c (q.mul j) (q.mul (k+1))
  rw [ih,cW hq.1,aJ]
  generalize v.c (q.mul j) (q.mul k)=c1 at *
  generalize v.c ((q.mul j).add (q.mul k)) q=c2 at *
  generalize v.c (q.mul k) q=c3 at *
  generalize v.c (q.mul j) ((q.mul k).add q)=c4 at *
  have:v.f q j*v.f q k*c1*c2=v.f q j*v.f q k*(c1*c2):=by grind
  rw [this,e]
  grind
include hd hn in
theorem Lv.f_sum {p q:Pt K} (hp:p.sub n) (hq:q.sub n) : ∀ k,v.f (p.add q) k*v.c p q ^ k=v.f p k*v.f q k*v.c (p.mul k) (q.mul k)
 | 0=>by
  show (1:M)*v.c p q ^ 0=1*1*v.c (p.mul 0) (q.mul 0)
  rw [cN,cN,v.c_inf,bu]
  grind
 | k+1=>by
  have ih:=Lv.f_sum hp hq k
  have e:=v.inter hd hn (sub_mul hp k) (sub_mul hq k) hp hq
  show v.f (p.add q) k*v.c ((p.add q).mul k) (p.add q)*v.c p q ^ (k+1)=v.f p k*v.c (p.mul k) p*(v.f q k*v.c (q.mul k) q)*v.c (p.mul (k+1)) (q.mul (k+1))
  rw [dc hp.1 hq.1,aJ,aJ,aq]
  generalize v.c (p.mul k) (q.mul k)=c1 at *
  generalize v.c ((p.mul k).add (q.mul k)) (p.add q)=c2 at *
  generalize v.c (p.mul k) p=c3 at *
  generalize v.c (q.mul k) q=c4 at *
  generalize v.c ((p.mul k).add p) ((q.mul k).add q)=c5 at *
  generalize v.c p q=c6 at *
  generalize v.f (p.add q) k=g1 at *
  generalize v.f p k=g2 at *
  generalize v.f q k=g3 at *
  generalize c6 ^ k=c7 at *
  have:g1*c2*(c7*c6)=(g1*c7)*(c6*c2):=by grind
  rw [this,ih]
  have:g2*g3*c1*(c6*c2)=g2*g3*(c1*c6*c2):=by grind
  rw [this,e]
  grind
end
end
end Go.Proofs.YtgpafcehehaiiaaGreat
namespace Go.Proofs.YtgpafcehehaiiaaGreat
theorem BC {R:Type} [CR R] (a d x1 x2 x3:R):(a*x1+d)*(a*x2+d)*(a*x3+d)=a*a*a*(x1*x2*x3)+a*a*d*(x1*x2+x2*x3+x3*x1)+a*d*d*(x1+x2+x3)+d*d*d:=by grind
theorem Kt {R:Type} [CR R] (l m k n b:R):(l-k)*(l-k)*(l-k)*(m*m-b)+(l-k)*(l-k)*(m-n)*(-(2*(l*m)))+(l-k)*(m-n)*(m-n)*(l*l)=(l-k)*(l-k)*(l-k)*(n*n-b)+(l-k)*(l-k)*(m-n)*(-(2*(k*n)))+(l-k)*(m-n)*(m-n)*(k*k):=by grind
theorem Ks {R:Type} [CR R] (a d z1 z2 z3 z4 z5 z6:R) (p:a*a*a*z1+a*a*d*(-z3)+a*d*d*z5=a*a*a*z2+a*a*d*(-z4)+a*d*d*z6) :
  -a * -a * -a*z2 + -a * -a * -d*(-z4) + -a * -d * -d*z6 + -d * -d * -d = -(a*a*a*z1+a*a*d*(-z3)+a*d*d*z5+d*d*d):=by
 rw [p]
 clear p
 grind
theorem ajx {R:Type} [CR R] {b l m x1 x2 x3 k n u1 u2 u3:R} (s1:l*l=x1+x2+x3) (s2:2*(l*m) = -(x1*x2+x2*x3+x3*x1)) (s3:m*m=b+x1*x2*x3)
  (t1:k*k=u1+u2+u3) (t2:2*(k*n) = -(u1*u2+u2*u3+u3*u1)) (t3:n*n=b+u1*u2*u3) :
  ((k*u1+n)-l*u1-m)*((k*u2+n)-l*u2-m)*((k*u3+n)-l*u3-m) = -(((l*x1+m)-k*x1-n)*((l*x2+m)-k*x2-n)*((l*x3+m)-k*x3-n)):=by
 have e : ∀ l m k n u:R,(k*u+n)-l*u-m=(k-l)*u+(n-m):=fun l m k n u=>by grind
 rw [e l m k n u1,e l m k n u2,e l m k n u3,e k n l m x1,e k n l m x2,e k n l m x3,BC,BC]
 have p:=Kt l m k n b
 have a1:x1*x2*x3=m*m-b:=by rw [s3];grind
 have a2:x1*x2+x2*x3+x3*x1 = -(2*(l*m)):=by rw [s2];grind
 have b1:u1*u2*u3=n*n-b:=by rw [t3];grind
 have b2:u1*u2+u2*u3+u3*u1 = -(2*(k*n)):=by rw [t2];grind
 rw [a1,a2,<- s1,b1,b2,<- t1]
 generalize m*m-b=z1 at *
 generalize n*n-b=z2 at *
 generalize 2*(l*m)=z3 at *
 generalize 2*(k*n)=z4 at *
 generalize l*l=z5 at *
 generalize k*k=z6 at *
 rw [show k-l = -(l-k) by clear p s1 s2 s3 t1 t2 t3 a1 a2 b1 b2;grind,show n-m = -(m-n) by clear p s1 s2 s3 t1 t2 t3 a1 a2 b1 b2;grind]
 exact Ks _ _ _ _ _ _ _ _ p
section
variable {K M : Type} [Fld K] [Crv K] [CR M] {v1 v2 v3 : Lv K M} {h : Pt K -> M} (h0 : h .inf = 1) (hn : ∀ x y, (Pt.aff x y).on -> h (.aff x y) * h (.aff x (-y)) = 1)
 (hl : ∀ l m x1 x2 x3,Ln l m x1 x2 x3->v1.S l m*v2.S l m=v3.S l m*(h (.aff x1 (l*x1+m))*h (.aff x2 (l*x2+m))*h (.aff x3 (l*x3+m))))
include h0 hn hl in
theorem aiF {a b:Pt K} (ha:a.on) (hb:b.on):v1.c a b*v2.c a b*h (a.add b)=v3.c a b*(h a*h b):=by
 cases a with
 | inf=>rw [v1.c_inf,v2.c_inf,v3.c_inf,bZ,h0];grind
 | aff x1 y1 =>
  cases b with
  | inf=>rw [v1.c_inf',v2.c_inf',v3.c_inf',cn,h0];grind
  | aff x2 y2 =>
   rcases bC ha hb with ⟨e1,e2,e⟩ | ⟨l,m,x3,hL,a1,a2,e⟩
   ·rw [v1.c_opp e1 e2,v2.c_opp e1 e2,v3.c_opp e1 e2,e,h0]
    have k:=hn x2 y2 hb
    rw [e1,e2]
    generalize h (.aff x2 y2)=z1 at *
    generalize h (.aff x2 (-y2))=z2 at *
    grind
   ·rw [v1.c_ln hL a1 a2,v2.c_ln hL a1 a2,v3.c_ln hL a1 a2,e,hl l m x1 x2 x3 hL,<- a1,<- a2]
    have k:=hn x3 (l*x3+m) hL.on
    generalize h (.aff x3 (l*x3+m))=z1 at *
    generalize h (.aff x3 (-(l*x3+m)))=z2 at *
    generalize h (.aff x1 y1)=z3 at *
    generalize h (.aff x2 y2)=z4 at *
    generalize v3.S l m=z5 at *
    have:z5*(z3*z4*z1)*z2=z5*(z3*z4)*(z1*z2):=by clear k hl hn h0;grind
    rw [this,k]
    clear k hl hn h0
    grind
include h0 hn hl in
theorem abz {q:Pt K} (hq:q.on) : ∀ k,v1.f q k*v2.f q k*h (q.mul k)=v3.f q k*h q ^ k
 | 0=>by
  show (1:M)*1*h .inf=1*h q ^ 0
  rw [h0,bu]
  clear hl hn h0
  grind
 | k+1=>by
  have ih:=abz hq k
  have e:=aiF h0 hn hl (ci hq k) hq
  show v1.f q k*v1.c (q.mul k) q*(v2.f q k*v2.c (q.mul k) q)*h (q.mul (k+1))=v3.f q k*v3.c (q.mul k) q*h q ^ (k+1)
  rw [aJ,aq]
  generalize v1.c (q.mul k) q=c1 at *
  generalize v2.c (q.mul k) q=c2 at *
  generalize v3.c (q.mul k) q=c3 at *
  generalize h ((q.mul k).add q)=z1 at *
  generalize h (q.mul k)=z2 at *
  generalize h q ^ k=z4 at *
  generalize h q=z3 at *
  generalize v1.f q k=g1 at *
  generalize v2.f q k=g2 at *
  generalize v3.f q k=g3 at *
  clear hl hn h0
  have:g1*c1*(g2*c2)*z1=g1*g2*(c1*c2*z1):=by clear e ih;grind
  rw [this,e]
  have:g1*g2*(c3*(z2*z3))=(g1*g2*z2)*(c3*z3):=by clear e ih;grind
  rw [this,ih]
  clear e ih
  grind
end
end Go.Proofs.YtgpafcehehaiiaaGreat
namespace Go.Proofs.YtgpafcehehaiiaaGreat
theorem S3 {R:Type} [CR R] (l m k n a b X Y:R) (hk:n = -(l*a+m)-k*a):(Y-l*X-m)*(Y-k*X-n)-(X-a)*(X*X+(a+l*k)*X+(l*n+k*m+a*(a+l*k))-(l+k)*Y)=(Y*Y-X*X*X-b)-((l*a+m)*(l*a+m)-a*a*a-b):=by
 subst hk
 grind
theorem S4 {R:Type} [CR R] {l m k n a b X Y:R} (hY:Y*Y=X*X*X+b) (ha:(l*a+m)*(l*a+m)=a*a*a+b) (hk:k*a+n = -(l*a+m)):(Y-l*X-m)*(Y-k*X-n)=(X-a)*(X*X+(a+l*k)*X+(l*n+k*m+a*(a+l*k))-(l+k)*Y):=by
 have h:=S3 l m k n a b X Y (by rw [<- hk];clear hk ha hY;grind)
 rw [hY,ha] at h
 clear hk ha hY
 generalize (Y-l*X-m)*(Y-k*X-n)=u at *
 generalize (X-a)*(X*X+(a+l*k)*X+(l*n+k*m+a*(a+l*k))-(l+k)*Y)=w at *
 grind
end Go.Proofs.YtgpafcehehaiiaaGreat
namespace Go.Proofs.YtgpafcehehaiiaaGreat
section
variable {R : Type} [CR R]
def hor (x:R):List R->R
 | []=>0
 | a :: l=>a+x*hor x l
theorem yr (x:R):hor x []=0:=rfl
theorem dS (x a:R) (l:List R):hor x (a :: l)=a+x*hor x l:=rfl
theorem hI (x a:R) : ∀ l:List R,hor x (l ++ [a])=hor x l+x ^ l.length*a
 | []=>by
  rw [List.nil_append,dS,yr,List.length_nil,bu]
  grind
 | b :: l=>by
  rw [List.cons_append,dS,hI x a l,dS,List.length_cons,aq]
  generalize x ^ l.length=y
  grind
theorem Cg (x:R) : ∀ n:Nat,hor x (List.replicate n 0)=0
 | 0=>rfl
 | n+1=>by
  rw [List.replicate_succ,dS,Cg x n]
  grind
theorem yu (x:R) (m:List R) : ∀ l:List R,hor x (l++m)=hor x l+x ^ l.length*hor x m
 | []=>by
  rw [List.nil_append,yr,List.length_nil,bu]
  grind
 | b :: l=>by
  rw [List.cons_append,dS,yu x m l,dS,List.length_cons,aq]
  generalize x ^ l.length=y
  grind
theorem Pk (x:R) (l:List R) (n:Nat):hor x (l++List.replicate n 0)=hor x l:=by
 rw [yu,Cg]
 grind
def lin (z:R):List R->List R × R
 | []=>([],0)
 | a :: l=>(match l with | [] => [] | _ :: _=>(lin z l).2 :: (lin z l).1,a+(lin z l).2*z)
theorem O4 (z a:R):lin z [a]=([],a+0*z):=rfl
theorem zT (z a b:R) (l:List R):lin z (a :: b :: l)=((lin z (b :: l)).2 :: (lin z (b :: l)).1,a+(lin z (b :: l)).2*z):=rfl
theorem EC (t z:R) : ∀ l:List R,hor t l=hor t (lin z l).1*(t-z)+(lin z l).2
 | []=>by
  show (0:R)=0*(t-z)+0
  grind
 | [a]=>by
  rw [O4,dS,yr]
  show a+t*0=0*(t-z)+(a+0*z)
  grind
 | a :: b :: l=>by
  have ih:=EC t z (b :: l)
  rw [zT,dS,ih]
  show a+t*(hor t (lin z (b :: l)).1*(t-z)+(lin z (b :: l)).2)=hor t ((lin z (b :: l)).2 :: (lin z (b :: l)).1)*(t-z)+(a+(lin z (b :: l)).2*z)
  rw [dS]
  generalize hor t (lin z (b :: l)).1=q
  generalize (lin z (b :: l)).2=r
  clear ih
  grind
theorem IK (z:R) (l:List R):(lin z l).2=hor z l:=by
 have h:=EC z z l
 rw [h]
 generalize hor z (lin z l).1=q
 generalize (lin z l).2=r
 grind
theorem Pn (x:R) : ∀ (n:Nat) (f g:Nat->R),hor x ((List.range n).map fun i=>f i+g i)=hor x ((List.range n).map f)+hor x ((List.range n).map g)
 | 0,f,g=>by
  show (0:R)=0+0
  grind
 | n+1,f,g=>by
  rw [List.range_succ,List.map_append,List.map_append,List.map_append,List.map_singleton,List.map_singleton,List.map_singleton,hI,hI,hI,Pn x n f g,List.length_map,List.length_map,List.length_map,List.length_range]
  generalize x ^ n=y
  grind
theorem Ch (x k:R) : ∀ l:List R,hor x (l.map fun a=>a*k)=hor x l*k
 | []=>by
  show (0:R)=0*k
  grind
 | a :: l=>by
  rw [List.map_cons,dS,Ch x k l,dS]
  grind
end
end Go.Proofs.YtgpafcehehaiiaaGreat
