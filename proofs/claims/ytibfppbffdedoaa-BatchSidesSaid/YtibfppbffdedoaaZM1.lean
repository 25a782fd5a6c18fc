/- Texts of the proof, joined. -/
import Init
set_option linter.unusedSectionVars false
set_option linter.unusedSimpArgs false
set_option linter.unusedVariables false
namespace Go.Proofs.Ytibfppbffdedoaa
abbrev Rz {C:Type->Type} {A:Type} (_:C A):Type->Type:=C
abbrev GR:Type->Type:=Rz Dyadic.instCommRing
class CR (R : Type) extends Add R, Mul R, Neg R, Sub R where
 z:R
 o:R
 add_zero : ∀ a:R,a+z=a
 add_comm : ∀ a b:R,a+b=b+a
 add_assoc : ∀ a b c:R,a+b+c=a+(b+c)
 mul_assoc : ∀ a b c:R,a*b*c=a*(b*c)
 mul_comm : ∀ a b:R,a*b=b*a
 mul_one : ∀ a:R,a*o=a
 dist : ∀ a b c:R,a*(b+c)=a*b+a*c
 neg_add : ∀ a:R, -a+a=z
 sub_eq : ∀ a b:R,a-b=a + -b
namespace CR
variable {R : Type} [CR R]
def nat:Nat->R
 | 0=>z
 | 1=>o
 | n+2=>nat (n+1)+o
def int:Int->R
 | .ofNat n=>nat n
 | .negSucc n => - nat (n+1)
def pow (a:R):Nat->R
 | 0=>o
 | n+1=>pow a n*a
theorem nat_succ : ∀ n:Nat,(nat (n+1):R)=nat n+o
 | 0=>by show o=z+o;rw [add_comm,add_zero]
 | n+1=>rfl
theorem right_dist (a b c:R):(a+b)*c=a*c+b*c:=by rw [mul_comm,dist,mul_comm c,mul_comm c]
theorem KS {a b c:R} (h:a+c=b+c):a=b:=by
 have h2:(a+c) + -c=(b+c) + -c:=by rw [h]
 rw [add_assoc,add_assoc,add_comm c,neg_add,add_zero,add_zero] at h2
 exact h2
theorem zero_add (a:R):z+a=a:=by rw [add_comm,add_zero]
theorem zero_mul (a:R):z*a=z:=by
 apply KS (c:=z*a)
 rw [<- right_dist,add_zero,zero_add]
theorem mul_zero (a:R):a*z=z:=by rw [mul_comm,zero_mul]
theorem lP {a b:R} (h:a+b=z) : -b=a:=KS (c:=b) (by rw [neg_add,h])
theorem neg_neg (a:R) : - -a=a:=lP (by rw [add_comm,neg_add])
theorem neg_mul (a b:R) : -a*b = -(a*b):=(lP (by rw [<- right_dist,neg_add,zero_mul])).symm
theorem It : -(z:R)=z:=lP (by rw [add_zero])
theorem int_neg : ∀ i:Int,(int (-i):R) = - int i
 | .ofNat 0=>by show z = -z;rw [It]
 | .ofNat (n+1)=>rfl
 | .negSucc n=>by show nat (n+1) = - - nat (n+1);rw [neg_neg]
end CR
instance {R : Type} [CR R] (n : Nat) : OfNat R n := ⟨CR.nat n⟩
instance {R : Type} [CR R] : NatCast R := ⟨CR.nat⟩
instance {R : Type} [CR R] : IntCast R := ⟨CR.int⟩
instance {R : Type} [CR R] : HPow R Nat R := ⟨CR.pow⟩
instance {R : Type} [CR R] : SMul Nat R := ⟨fun n a => CR.nat n * a⟩
instance {R : Type} [CR R] : SMul Int R := ⟨fun n a => CR.int n * a⟩
instance grOf {R : Type} [CR R] : GR R where
 add_zero:=fun a=>CR.add_zero a
 add_comm:=CR.add_comm
 add_assoc:=CR.add_assoc
 mul_assoc:=CR.mul_assoc
 mul_one:=fun a=>CR.mul_one a
 one_mul:=fun a=>by show CR.nat 1*a=a;rw [CR.mul_comm];exact CR.mul_one a
 left_distrib:=CR.dist
 right_distrib:=CR.right_dist
 zero_mul:=CR.zero_mul
 mul_zero:=CR.mul_zero
 pow_zero:=fun _=>rfl
 pow_succ:=fun _ _=>rfl
 ofNat_succ:=fun n=>CR.nat_succ n
 neg_add_cancel:=CR.neg_add
 sub_eq_add_neg:=CR.sub_eq
 neg_zsmul:=fun i a=>by show CR.int (-i)*a = -(CR.int i*a);rw [CR.int_neg,CR.neg_mul]
 intCast_neg:=CR.int_neg
 mul_comm:=CR.mul_comm
section
variable {R : Type} [CR R]
theorem bT (a:R):a ^ 0=1:=rfl
theorem an (a:R) (n:Nat):a ^ (n+1)=a ^ n*a:=rfl
theorem fE (a:R):a ^ 1=a:=by rw [an,bT];grind
theorem jY : ∀ n:Nat,(1:R) ^ n=1
 | 0=>rfl
 | n+1=>by rw [an,jY n];grind
theorem jW (a:R) (m:Nat) : ∀ n:Nat,a ^ (m+n)=a ^ m*a ^ n
 | 0=>by rw [Nat.add_zero,bT];grind
 | n+1=>by rw [<- Nat.add_assoc,an,jW a m n,an];grind
theorem cN (a b:R) : ∀ n:Nat,(a*b) ^ n=a ^ n*b ^ n
 | 0=>by simp only [bT];grind
 | n+1=>by simp only [an,cN a b n];grind
theorem bk (a:R) (m:Nat) : ∀ n:Nat,a ^ (m*n)=(a ^ m) ^ n
 | 0=>by rw [Nat.mul_zero,bT,bT]
 | n+1=>by rw [Nat.mul_succ,jW,bk a m n,an]
theorem tK : ∀ n:Nat,0<n->(0:R) ^ n=0
 | n+1,_=>by rw [an];grind
end
class Fld (K : Type) extends CR K where
 inv:K->K
 mul_inv : ∀ a:K,a ≠ 0->a*inv a=1
 one_ne:(1:K) ≠ 0
section
variable {K : Type} [Fld K]
theorem aO {a:K} (h:a ≠ 0):a*Fld.inv a=1:=Fld.mul_inv a h
theorem dA:(1:K) ≠ 0:=Fld.one_ne
theorem ar {a b:K} (h:a*b=0):a=0 \/ b=0:=by
 by_cases ha:a=0
 ·exact .inl ha
 ·refine .inr ?_
  have:=aO ha
  grind
theorem au {a b:K} (ha:a ≠ 0) (hb:b ≠ 0):a*b ≠ 0:=fun h=>(ar h).elim ha hb
theorem gT {a b c:K} (hc:c ≠ 0) (h:a*c=b*c):a=b:=by
 have:=aO hc
 grind
theorem jO {a b:K} (h:a*b=1):b=Fld.inv a:=by
 have ha:a ≠ 0:=fun e=>by
  have:=dA (K:=K)
  grind
 have:=aO ha
 grind
theorem CW {a:K} (h:a ≠ 0) : ∀ n:Nat,a ^ n ≠ 0
 | 0=>dA
 | n+1=>au (CW h n) h
theorem wz {a b:K} (h:a*a=b*b):a=b \/ a = -b:=by
 have:(a-b)*(a+b)=0:=by grind
 rcases ar this with h1 | h1
 ·exact .inl (by grind)
 ·exact .inr (by grind)
end
end Go.Proofs.Ytibfppbffdedoaa
namespace Go.Proofs.Ytibfppbffdedoaa
class Crv (K : Type) [Fld K] where
 b:K
 two:(2:K) ≠ 0
 no : ∀ x:K,x*x*x+b ≠ 0
inductive Pt (K : Type) where
 | inf
 | aff (x y:K)
section
variable {K : Type} [Fld K] [Crv K]
def Pt.on:Pt K->Prop
 | .inf=>True
 | .aff x y=>y*y=x*x*x+Crv.b
open Classical in
noncomputable def cd (x1 y1 x2 y2:K):K:=if x1=x2 then 3*x1*x1*Fld.inv (2*y1) else (y2-y1)*Fld.inv (x2-x1)
open Classical in
noncomputable def Pt.add:Pt K->Pt K->Pt K
 | .inf,q=>q
 | .aff x y,.inf => .aff x y
 | .aff x1 y1,.aff x2 y2=>if x1=x2/\y1 = -y2 then .inf else
   .aff (cd x1 y1 x2 y2*cd x1 y1 x2 y2-x1-x2) (cd x1 y1 x2 y2*(x1-(cd x1 y1 x2 y2*cd x1 y1 x2 y2-x1-x2))-y1)
open Classical in
theorem jo (x1 y1 x2 y2:K):(Pt.aff x1 y1).add (.aff x2 y2)=if x1=x2/\y1 = -y2 then .inf else
  .aff (cd x1 y1 x2 y2*cd x1 y1 x2 y2-x1-x2) (cd x1 y1 x2 y2*(x1-(cd x1 y1 x2 y2*cd x1 y1 x2 y2-x1-x2))-y1):=rfl
def Pt.neg:Pt K->Pt K
 | .inf => .inf
 | .aff x y => .aff x (-y)
theorem y_ne {x y:K} (h:y*y=x*x*x+Crv.b):y ≠ 0:=fun e=>Crv.no x (by rw [<- h,e];exact CR.mul_zero _)
theorem gY {x y:K} (h:y*y=x*x*x+Crv.b):y ≠ -y:=fun e=>by
 have h1:(2:K)*y=0:=by grind
 exact au Crv.two (y_ne h) h1
structure Ln (l m x1 x2 x3 : K) : Prop where
 s1:l*l=x1+x2+x3
 s2:2*(l*m) = -(x1*x2+x2*x3+x3*x1)
 s3:m*m=Crv.b+x1*x2*x3
theorem Ln.swap {l m x1 x2 x3:K} (h:Ln l m x1 x2 x3):Ln l m x2 x1 x3:=⟨by rw [h.s1];grind,by rw [h.s2];grind,by rw [h.s3];grind⟩
theorem Ln.turn {l m x1 x2 x3:K} (h:Ln l m x1 x2 x3):Ln l m x2 x3 x1:=⟨by rw [h.s1];grind,by rw [h.s2];grind,by rw [h.s3];grind⟩
theorem Ln.neg {l m x1 x2 x3:K} (h:Ln l m x1 x2 x3):Ln (-l) (-m) x1 x2 x3:=⟨by rw [<- h.s1];grind,by rw [<- h.s2];grind,by rw [<- h.s3];grind⟩
theorem Ln.on {l m x1 x2 x3:K} (h:Ln l m x1 x2 x3):(l*x3+m)*(l*x3+m)=x3*x3*x3+Crv.b:=by
 have h1:=h.s1
 have h2:=h.s2
 have h3:=h.s3
 have e:(l*x3+m)*(l*x3+m)=l*l*(x3*x3)+2*(l*m)*x3+m*m:=by grind
 rw [e,h1,h2,h3]
 grind
theorem Ln.all {l m x1 x2 x3 x:K} (h:Ln l m x1 x2 x3) (hx:(l*x+m)*(l*x+m)=x*x*x+Crv.b):x=x1 \/ x=x2 \/ x=x3:=by
 have h1:=h.s1
 have h2:=h.s2
 have h3:=h.s3
 have e:(l*x+m)*(l*x+m)=l*l*(x*x)+2*(l*m)*x+m*m:=by grind
 rw [e,h1,h2,h3] at hx
 have:(x-x1)*((x-x2)*(x-x3))=0:=by grind
 rcases ar this with k | k
 ·exact .inl (by grind)
 ·rcases ar k with k | k
  ·exact .inr (.inl (by grind))
  ·exact .inr (.inr (by grind))
theorem Nn {x1 y1 x2 y2:K} (h1:y1*y1=x1*x1*x1+Crv.b) (h2:y2*y2=x2*x2*x2+Crv.b) (hn : ¬ (x1=x2/\y1 = -y2)) :
  ∃ m,y1=cd x1 y1 x2 y2*x1+m/\y2=cd x1 y1 x2 y2*x2+m/\Ln (cd x1 y1 x2 y2) m x1 x2 (cd x1 y1 x2 y2*cd x1 y1 x2 y2-x1-x2):=by
 unfold cd
 by_cases hx:x1=x2
 ·subst hx
  rw [if_pos rfl]
  have hy:y1=y2:=by
   rcases wz (h1.trans h2.symm) with e | e
   ·exact e
   ·exact absurd ⟨rfl,e⟩ hn
  subst hy
  have hi:=aO (au Crv.two (y_ne h1))
  generalize Fld.inv (2*y1)=i at *
  generalize hl:3*x1*x1*i=l at *
  have hl2:l*(2*y1)=3*x1*x1:=by rw [<- hl];grind
  refine ⟨y1-l*x1,by grind,by grind,by grind,?_,?_⟩
  ·have:2*(l*(y1-l*x1))=l*(2*y1)-2*(l*l)*x1:=by grind
   rw [this,hl2]
   grind
  ·have:(y1-l*x1)*(y1-l*x1)=y1*y1-l*(2*y1)*x1+l*l*x1*x1:=by grind
   rw [this,hl2,h1]
   grind
 ·rw [if_neg hx]
  have hd:x2-x1 ≠ 0:=fun e=>hx (by grind)
  have hi:=aO hd
  generalize Fld.inv (x2-x1)=i at *
  generalize hl:(y2-y1)*i=l at *
  have hl2:l*(x2-x1)=y2-y1:=by rw [<- hl];grind
  have hy2:y2=l*x2+(y1-l*x1):=by grind
  have s2:2*(l*(y1-l*x1)) = -(x1*x2+x2*(l*l-x1-x2)+(l*l-x1-x2)*x1):=by
   apply gT hd
   have e1:2*(l*(y1-l*x1))*(x2-x1)=2*(l*(x2-x1))*(y1-l*x1):=by grind
   rw [e1,hl2]
   have e2:y2*y2-y1*y1=x2*x2*x2-x1*x1*x1:=by rw [h1,h2];grind
   grind
  refine ⟨y1-l*x1,by grind,hy2,by grind,s2,?_⟩
  have:(y1-l*x1)*(y1-l*x1)=y1*y1-2*(l*(y1-l*x1))*x1-l*l*x1*x1:=by grind
  rw [this,s2,h1]
  grind
theorem z9 (x y z:K):x+y+z-x-y=z:=by grind
theorem Fo (l m x y:K):l*(x-y)-(l*x+m) = -(l*y+m):=by grind
theorem dr {l m x1 y1 x2 y2 x3:K} (h:Ln l m x1 x2 x3) (h1:y1=l*x1+m) (h2:y2=l*x2+m):(Pt.aff x1 y1).add (Pt.aff x2 y2) = .aff x3 (-(l*x3+m)):=by
 have o1:y1*y1=x1*x1*x1+Crv.b:=by rw [h1];exact h.turn.on
 have hn : ¬ (x1=x2/\y1 = -y2):=fun e=>by
  have:y2=y1:=by rw [h1,h2,e.1]
  rw [this] at e
  exact gY o1 e.2
 have hs:cd x1 y1 x2 y2=l:=by
  unfold cd
  by_cases hx:x1=x2
  ·rw [if_pos hx]
   have hi:=aO (au Crv.two (y_ne o1))
   generalize Fld.inv (2*y1)=i at *
   have hq:3*x1*x1=l*(2*y1):=by
    have e:l*(2*y1)=2*(l*l)*x1+2*(l*m):=by rw [h1];grind
    rw [e,h.s1,h.s2,hx]
    grind
   rw [hq]
   grind
  ·rw [if_neg hx]
   have hi:=aO (a:=x2-x1) (fun e=>hx (by grind))
   generalize Fld.inv (x2-x1)=i at *
   rw [h1,h2]
   grind
 have h3:=h.s1
 rw [jo,if_neg hn,hs]
 have e3:l*l-x1-x2=x3:=by rw [h3];exact z9 x1 x2 x3
 rw [e3,h1]
 congr 1
 exact Fo l m x1 x3
theorem bJ {x1 y1 x2 y2:K} (h1:(Pt.aff x1 y1).on) (h2:(Pt.aff x2 y2).on):(x1=x2/\y1 = -y2/\(Pt.aff x1 y1).add (Pt.aff x2 y2) = .inf) \/
  ∃ l m x3,Ln l m x1 x2 x3/\y1=l*x1+m/\y2=l*x2+m/\(Pt.aff x1 y1).add (Pt.aff x2 y2) = .aff x3 (-(l*x3+m)):=by
 by_cases h:x1=x2/\y1 = -y2
 ·left
  refine ⟨h.1,h.2,?_⟩
  rw [jo,if_pos h]
 ·right
  obtain ⟨m,e1,e2,e3⟩:=Nn h1 h2 h
  exact ⟨_,m,_,e3,e1,e2,dr e3 e1 e2⟩
theorem bE (p:Pt K):Pt.inf.add p=p:=by cases p <;> rfl
theorem bO (p:Pt K):p.add .inf=p:=by cases p <;> rfl
theorem gB (p:Pt K):p.neg.neg=p:=by
 cases p with
 | inf=>rfl
 | aff x y =>
  show Pt.aff x (- -y)=_
  rw [show - -y=y by grind]
theorem bl {p:Pt K} (h:p.on):p.neg.on:=by
 cases p with
 | inf=>trivial
 | aff x y =>
  show -y * -y=_
  rw [<- show y*y=_ from h]
  grind
theorem aX {p q:Pt K} (hp:p.on) (hq:q.on):(p.add q).on:=by
 cases p with
 | inf=>rw [bE];exact hq
 | aff x1 y1 =>
  cases q with
  | inf=>exact hp
  | aff x2 y2 =>
   rcases bJ hp hq with ⟨_,_,e⟩ | ⟨l,m,x3,h,_,_,e⟩
   ·rw [e];trivial
   ·rw [e]
    exact bl (p := .aff x3 (l*x3+m)) h.on
theorem aq {p q:Pt K} (hp:p.on) (hq:q.on):p.add q=q.add p:=by
 cases p with
 | inf=>rw [bE,bO]
 | aff x1 y1 =>
  cases q with
  | inf=>rw [bE,bO]
  | aff x2 y2 =>
   rcases bJ hp hq with ⟨h1,h2,e⟩ | ⟨l,m,x3,h,h1,h2,e⟩
   ·rw [e]
    rcases bJ hq hp with ⟨_,_,e'⟩ | ⟨l,m,x3,h,k1,k2,_⟩
    ·rw [e']
    ·exfalso
     have:y2=y1:=by rw [k1,k2,h1]
     rw [this] at h2
     exact gY hp h2
   ·rw [e,dr h.swap h2 h1]
theorem bc {p:Pt K} (hp:p.on):p.neg.add p = .inf:=by
 cases p with
 | inf=>rfl
 | aff x y =>
  show (Pt.aff x (-y)).add (.aff x y)=_
  rw [jo,if_pos ⟨rfl,rfl⟩]
theorem M0 {p q:Pt K} (hp:p.on) (hq:q.on):(p.add q).neg=p.neg.add q.neg:=by
 cases p with
 | inf=>rw [bE];show q.neg=Pt.inf.add q.neg;rw [bE]
 | aff x1 y1 =>
  cases q with
  | inf=>show _=(Pt.aff x1 y1).neg.add .inf;rw [bO,bO]
  | aff x2 y2 =>
   rcases bJ hp hq with ⟨h1,h2,e⟩ | ⟨l,m,x3,h,h1,h2,e⟩
   ·rw [e]
    have hq':(Pt.aff x2 y2)=(Pt.aff x1 y1).neg:=by
     show _=Pt.aff x1 (-y1)
     rw [h1,h2,show - -y2=y2 by grind]
    rw [hq',gB,bc hp]
    rfl
   ·rw [e]
    have e2:(Pt.aff x1 (-y1)).add (.aff x2 (-y2)) = .aff x3 (-(-l*x3 + -m)):=dr h.neg (by rw [h1];grind) (by rw [h2];grind)
    show Pt.aff x3 (- -(l*x3+m))=(Pt.aff x1 (-y1)).add (.aff x2 (-y2))
    rw [e2]
    congr 1
    grind
theorem fp {p r:Pt K} (hp:p.on) (hr:r.on):p.neg.add (p.add r)=r:=by
 cases p with
 | inf=>show Pt.inf.add _=_;rw [bE,bE]
 | aff x1 y1 =>
  cases r with
  | inf=>rw [bO];exact bc hp
  | aff x2 y2 =>
   rcases bJ hp hr with ⟨h1,h2,e⟩ | ⟨l,m,x3,h,h1,h2,e⟩
   ·rw [e,bO]
    show Pt.aff x1 (-y1)=_
    rw [h1,h2,show - -y2=y2 by grind]
   ·rw [e]
    have:=dr (y1 := -y1) (y2 := -(l*x3+m)) h.neg.turn.turn.swap (by rw [h1];grind) (by grind)
    show (Pt.aff x1 (-y1)).add _=_
    rw [show (Pt.aff x1 (-y1)).add (.aff x3 (-(l*x3+m))) = .aff x2 (-(-l*x2 + -m)) from this,h2]
    congr 1
    grind
theorem NC {l m k n x1 x2 a:K} (h:Ln l m x1 x2 a) (ha:k*a+n = -(l*a+m)):x1*x1+(a+l*k)*x1+(l*n+k*m+a*(a+l*k)) + -(l+k)*(l*x1+m)=0:=by
 have hn:n = -(l*a+m)-k*a:=by grind
 have h1:=h.s1
 have h2:=h.s2
 have e:x1*x1+(a+l*k)*x1+(l*n+k*m+a*(a+l*k)) + -(l+k)*(l*x1+m)=x1*x1+a*x1+a*a-l*l*(a+x1)-2*(l*m):=by rw [hn];grind
 rw [e,h1,h2]
 grind
theorem cp {l m k n x1 x2 a y:K} (h:Ln l m x1 x2 a) (ha:k*a+n = -(l*a+m)) (hy:y=l*x1+m):x1*x1+(a+l*k)*x1+(l*n+k*m+a*(a+l*k)) + -(l+k)*y=0:=by rw [hy];exact NC h ha
theorem aU {l m k n x1 x2 a y:K} (h:Ln k n x1 x2 a) (ha:k*a+n = -(l*a+m)) (hy:y=k*x1+n):x1*x1+(a+l*k)*x1+(l*n+k*m+a*(a+l*k)) + -(l+k)*y=0:=by
 have:=cp (l:=k) (m:=n) (k:=l) (n:=m) h (by rw [ha];grind) hy
 grind
theorem lv {l m k n x1 x2 x3 x4 a:K} (h:Ln l m x1 x2 a) (h':Ln k n a x3 x4):x4=(l+k)*(l+k)-2*(a+l*k)-x1-x2-x3:=by
 have h1:=h.s1
 have h2:=h'.s1
 have e:(l+k)*(l+k)-2*(a+l*k)=l*l+k*k-2*a:=by grind
 rw [e,h1,h2]
 grind
theorem uz {p q r p' q' r' x4 y4 x5 y5:K} (hp:p=p') (hq:q=q') (hr:r=r') (hx:x4=x5)
  (h4:x4*x4+p*x4+q + -r*y4=0) (h5:x5*x5+p'*x5+q' + -r'*y5=0) (hn:r ≠ 0):y4=y5:=by
 subst hp hq hr hx
 have:r*(y4-y5)=0:=by grind
 rcases ar this with e | e
 ·exact absurd e hn
 ·grind
theorem oj (k x1 x2 x3:K):k-x1-x2-x3=k-x2-x3-x1:=by grind
theorem dM {p q r p' q' r' x y:K} (f:x*x+p*x+q + -r*y=0) (g:x*x+p'*x+q' + -r'*y=0):(p-p')*x+(q-q')-(r-r')*y=0:=by grind
theorem yo {p q r l m x1 y1 x2 y2:K} (w1:p*x1+q-r*y1=0) (w2:p*x2+q-r*y2=0) (h1:y1=l*x1+m) (h2:y2=l*x2+m):(x1-x2)*(p-r*l)=0:=by grind
theorem iO {p q r l m x1 y1 x3 y3:K} (w1:p*x1+q-r*y1=0) (w3:p*x3+q-r*y3=0) (h1:y1=l*x1+m) (v:p-r*l=0):r*(y3-(l*x3+m))=0:=by grind
theorem ao {a b:K} (h:a-b=0):a=b:=by grind
theorem D6 {a b:K} (h:a=b):a-b=0:=by grind
theorem ja {p r l:K} (v:p-r*l=0) (h:r=0):p=0:=by grind
theorem gR {p q r x y:K} (w:p*x+q-r*y=0) (h:r=0) (h2:p=0):q=0:=by grind
theorem tP {p q r x1 y1 x2 y2:K} (f1:x1*x1+p*x1+q + -r*y1=0) (f2:x2*x2+p*x2+q + -r*y2=0) (h:r=0):(x1-x2)*(x1+x2+p)=0:=by grind
theorem HB {p x1 x2 x3:K} (h1:x1+x2+p=0) (h2:x1+x3+p=0):x2-x3=0:=by grind
theorem F6 {l1 m1 l2 m2 l3 m3 l4 m4 x1 x2 x3 xA xB x4 x5:K} {y1 y2 y3:K} (o3:y3*y3=x3*x3*x3+Crv.b)
  (hA:Ln l1 m1 x1 x2 xA) (hB:Ln l2 m2 x2 x3 xB) (hC:Ln l3 m3 xA x3 x4) (hD:Ln l4 m4 xB x1 x5)
  (a1:y1=l1*x1+m1) (a2:y2=l1*x2+m1) (b2:y2=l2*x2+m2) (b3:y3=l2*x3+m2) (cA:l3*xA+m3 = -(l1*xA+m1)) (c3:y3=l3*x3+m3) (dB:l4*xB+m4 = -(l2*xB+m2)) (d1:y1=l4*x1+m4)
  (n12:x1 ≠ x2) (n13:x1 ≠ x3) (n23:x2 ≠ x3) (nA : ¬ (x3=xA/\y3=l1*xA+m1)):x4=x5/\l3*x4+m3=l4*x5+m4:=by
 have f1:=cp hA cA a1
 have f2:=cp hA.swap cA a2
 have f3:=aU hC.turn cA c3
 have f4:=aU hC.turn.swap cA rfl
 have g2:=cp hB dB b2
 have g3:=cp hB.swap dB b3
 have g1:=aU hD.turn dB d1
 have g5:=aU hD.turn.swap dB rfl
 have e4:=lv hA hC
 have e5:=lv hB hD
 have d12:x1-x2 ≠ 0:=fun e=>n12 (ao e)
 have d13:x1-x3 ≠ 0:=fun e=>n13 (ao e)
 have d23:x2-x3 ≠ 0:=fun e=>n23 (ao e)
 have w1:=dM f1 g1
 have w2:=dM f2 g2
 have w3:=dM f3 g3
 have v:=(ar (yo w1 w2 a1 a2)).resolve_left d12
 have hr0:(l1+l3)-(l2+l4)=0:=by
  rcases ar (iO w1 w3 a1 v) with e | e
  ·exact e
  ·exfalso
   have e3:=ao e
   rw [e3] at o3
   rcases hA.all o3 with k | k | k
   ·exact n13 k.symm
   ·exact n23 k.symm
   ·exact nA ⟨k,by rw [e3,k]⟩
 have hp0:=ja v hr0
 have hq0:=gR w1 hr0 hp0
 have hpe:=ao hp0
 have hqe:=ao hq0
 have hre:=ao hr0
 have hx:x4=x5:=by
  rw [e4,e5,hpe,hre]
  exact oj _ _ _ _
 refine ⟨hx,uz hpe hqe hre hx f4 g5 fun e0 => ?_⟩
 have z1:=(ar (tP f1 f2 e0)).resolve_left d12
 have z2:=(ar (tP f1 f3 e0)).resolve_left d13
 exact d23 (HB z1 z2)
theorem kU {l m k xA x1:K} (s1:l*l=x1+x1+xA):2*x1+(xA+l*k)-(l+k)*l=0:=by
 have e:2*x1+(xA+l*k)-(l+k)*l=2*x1+xA-l*l:=by grind
 rw [e,s1]
 grind
theorem qc {l m y x xA:K} (h:Ln l m x x xA) (hy:y=l*x+m):2*y*l=3*x*x:=by
 have e:2*y*l=2*(l*l)*x+2*(l*m):=by rw [hy];grind
 rw [e,h.s1,h.s2]
 grind
theorem Qw {l k x y xB yB:K} (h2:yB=l*(xB-x)+y) (h4 : -yB=k*(xB-x)+y):(l+k)*(x-xB)=2*y:=by grind
theorem KQ {l x y xB yB:K} (h2:yB=l*(xB-x)+y):l*(x-xB)=y-yB:=by grind
theorem Qv {l k d u v:K} (h:l*d=u) (g:k*d=v):l*k*(d*d)=u*v:=by rw [<- h,<- g];grind
theorem Qu {x y xB yB b:K} (o:y*y=x*x*x+b) (oB:yB*yB=xB*xB*xB+b):(y-yB)*(y - -yB)=(x-xB)*(x*x+x*xB+xB*xB):=by
 have e:(y-yB)*(y - -yB)=y*y-yB*yB:=by grind
 rw [e,o,oB]
 grind
theorem Qt {c d u v:K} (h:c*(d*d)=u) (g:u=d*v):d*(c*d-v)=0:=by grind
theorem Qs (s c d x xB:K):d*(2*x+(xB+c)-s)=d*(2*x+xB)+c*d-s*d:=by grind
theorem Qr (x xB:K):(x-xB)*(2*x+xB)+(x*x+x*xB+xB*xB)-3*x*x=0:=by grind
theorem Qq (s d l1:K):s*l1*d=s*d*l1:=by grind
theorem oJ {l k l1 x y xB yB b:K} (o:y*y=x*x*x+b) (oB:yB*yB=xB*xB*xB+b) (t:2*y*l1=3*x*x) (h2:yB=l*(xB-x)+y) (h4 : -yB=k*(xB-x)+y) (n:x-xB ≠ 0):2*x+(xB+l*k)-(l+k)*l1=0:=by
 have e4:=Qt (Qv (KQ h2) (KQ h4)) (Qu o oB)
 have e5:=ao ((ar e4).resolve_left n)
 have e7:(x-xB)*(2*x+(xB+l*k)-(l+k)*l1)=0:=by
  rw [Qs,Qq (l+k) (x-xB) l1,e5,Qw h2 h4,t]
  exact Qr x xB
 exact (ar e7).resolve_left n
theorem tU {x p p' r r' l:K} (h:2*x+p-r*l=0) (g:2*x+p'-r'*l=0):(p-p')-(r-r')*l=0:=by grind
theorem xU {p q r l x1 y1 x3 y3:K} (f1:x1*x1+p*x1+q + -r*y1=0) (f3:x3*x3+p*x3+q + -r*y3=0) (d:2*x1+p-r*l=0) (h:r=0):(x1-x3)*(x1-x3)=0:=by grind
theorem kG {l m x xB y:K} (h:y=l*x+m):l*xB+m=l*(xB-x)+y:=by grind
theorem yd {l1 m1 l2 m2 l3 m3 l4 m4 x1 x3 xA xB x4 x5:K} {y1 y3:K} (o1:y1*y1=x1*x1*x1+Crv.b) (o3:y3*y3=x3*x3*x3+Crv.b)
  (hA:Ln l1 m1 x1 x1 xA) (hB:Ln l2 m2 x1 x3 xB) (hC:Ln l3 m3 xA x3 x4) (hD:Ln l4 m4 xB x1 x5)
  (a1:y1=l1*x1+m1) (b1:y1=l2*x1+m2) (b3:y3=l2*x3+m2) (cA:l3*xA+m3 = -(l1*xA+m1)) (c3:y3=l3*x3+m3) (dB:l4*xB+m4 = -(l2*xB+m2)) (d1:y1=l4*x1+m4)
  (n13:x1 ≠ x3) (n1B:x1 ≠ xB) (nA : ¬ (x3=xA/\y3=l1*xA+m1)):x4=x5/\l3*x4+m3=l4*x5+m4:=by
 have f1:=cp hA cA a1
 have f3:=aU hC.turn cA c3
 have f4:=aU hC.turn.swap cA rfl
 have g3:=cp hB.swap dB b3
 have g1:=aU hD.turn dB d1
 have g5:=aU hD.turn.swap dB rfl
 have e4:=lv hA hC
 have e5:=lv hB hD
 have d1B:x1-xB ≠ 0:=fun e=>n1B (ao e)
 have d13:x1-x3 ≠ 0:=fun e=>n13 (ao e)
 have fd:=kU (m:=m1) (k:=l3) hA.s1
 have gd:=oJ o1 hB.on (qc hA a1) (kG b1) (by rw [<- dB];exact kG d1) d1B
 have w1:=dM f1 g1
 have w3:=dM f3 g3
 have v:=tU fd gd
 have hr0:(l1+l3)-(l2+l4)=0:=by
  rcases ar (iO w1 w3 a1 v) with e | e
  ·exact e
  ·exfalso
   have e3:=ao e
   rw [e3] at o3
   rcases hA.all o3 with k | k | k
   ·exact n13 k.symm
   ·exact n13 k.symm
   ·exact nA ⟨k,by rw [e3,k]⟩
 have hp0:=ja v hr0
 have hq0:=gR w1 hr0 hp0
 have hpe:=ao hp0
 have hqe:=ao hq0
 have hre:=ao hr0
 have hx:x4=x5:=by
  rw [e4,e5,hpe,hre]
  exact oj _ _ _ _
 refine ⟨hx,uz hpe hqe hre hx f4 g5 fun e0 => ?_⟩
 exact au d13 d13 (xU f1 f3 fd e0)
theorem Pa {x y1 y2:K} (h1:y1*y1=x*x*x+Crv.b) (h2:y2*y2=x*x*x+Crv.b):y1=y2 \/ y1 = -y2:=wz (h1.trans h2.symm)
theorem Ki {x y1 y2:K} (h:y1 = -y2):Pt.aff x y2=(Pt.aff x y1).neg:=by
 show _=Pt.aff x (-y1)
 rw [h,show - -y2=y2 by grind]
theorem uG {x1 y1 x2 y2 x3 y3:K} (h1:(Pt.aff x1 y1).on) (h2:(Pt.aff x2 y2).on) (h3:(Pt.aff x3 y3).on) (n13:x1 ≠ x3) (n23:x2 ≠ x3) :
  ((Pt.aff x1 y1).add (.aff x2 y2)).add (.aff x3 y3)=(Pt.aff x1 y1).add ((Pt.aff x2 y2).add (.aff x3 y3)):=by
 rcases bJ h1 h2 with ⟨e1,e2,e⟩ | ⟨l1,m1,xA,hA,a1,a2,eA⟩
 ·rw [e,bE]
  subst e1
  have hq:Pt.aff x1 y2=(Pt.aff x1 y1).neg:=Ki e2
  rw [hq]
  have:=fp (bl h1) h3
  rw [gB] at this
  exact this.symm
 rcases bJ h2 h3 with ⟨e1,_,_⟩ | ⟨l2,m2,xB,hB,b2,b3,eB⟩
 ·exact absurd e1 n23
 have oA:(Pt.aff xA (-(l1*xA+m1))).on:=bl (p := .aff xA (l1*xA+m1)) hA.on
 have oB:(Pt.aff xB (-(l2*xB+m2))).on:=bl (p := .aff xB (l2*xB+m2)) hB.on
 rw [eA,eB]
 rcases bJ oA h3 with ⟨e1,e2,e⟩ | ⟨l3,m3,x4,hC,cA,c3,eC⟩
 ·
  rw [e]
  subst e1
  have e3:y3=l1*xA+m1:=by grind
  have:=dr hA.turn a2 e3
  rw [this] at eB
  rw [<- eB,<- a1]
  show _=(Pt.aff x1 y1).add (Pt.aff x1 y1).neg
  rw [aq h1 (bl h1),bc h1]
 rcases bJ h1 oB with ⟨e1,e2,e⟩ | ⟨l4,m4,x5,hD,d1,dB,eD⟩
 ·exfalso
  subst e1
  have e3:y1=l2*x1+m2:=by grind
  have k:=dr hB.turn.turn e3 b2
  rw [eA] at k
  injection k with k1 k2
  have e4:y3=l1*xA+m1:=by rw [b3,<- k1];grind
  have e5 : -(l1*xA+m1)=l1*xA+m1:=by
   have:l3*xA+m3=l3*x3+m3:=by rw [k1]
   rw [cA,this,<- c3,e4]
  exact gY hA.on e5.symm
 rw [eC,eD]
 have nA : ¬ (x3=xA/\y3=l1*xA+m1):=fun e=>by
  have:y3 = -(l1*xA+m1):=by rw [cA,<- e.1];exact c3
  exact gY hA.on (e.2.symm.trans this)
 by_cases n12:x1=x2
 ·subst n12
  have e12:y1=y2:=by rw [a1,a2]
  subst e12
  have n1B:x1 ≠ xB:=fun e=>by
   subst e
   exact gY h1 (d1.trans (dB.symm.trans (by rw [<- b2])))
  obtain ⟨k1,k2⟩:=yd h1 h3 hA hB hC hD.swap a1 b2 b3 cA.symm c3 dB.symm d1 n13 n1B nA
  rw [k2,k1]
 ·obtain ⟨k1,k2⟩:=F6 h3 hA hB hC hD.swap a1 a2 b2 b3 cA.symm c3 dB.symm d1 n12 n13 n23 nA
  rw [k2,k1]
theorem gO {x y1 y2:K} (h1:(Pt.aff x y1).on) (h2:(Pt.aff x y2).on):Pt.aff x y1 = .aff x y2 \/ Pt.aff x y2=(Pt.aff x y1).neg:=by
 rcases Pa h1 h2 with e | e
 ·exact .inl (by rw [e])
 ·exact .inr (Ki e)
theorem aI {p q r:Pt K} (hp:p.on) (hq:q.on) (hr:r.on):(p.add q).add r=p.add (q.add r):=by
 cases p with
 | inf=>rw [bE,bE]
 | aff x1 y1 =>
  cases q with
  | inf=>rw [bO,bE]
  | aff x2 y2 =>
   cases r with
   | inf=>rw [bO,bO]
   | aff x3 y3 =>
    by_cases n13:x1=x3
    ·subst n13
     rcases gO hp hr with e | e
     ·rw [<- e,aq hq hp,aq (aX hp hq) hp]
     ·rw [e,aq (aX hp hq) (bl hp),fp hp hq,aq hq (bl hp)]
      have:=fp (bl hp) hq
      rw [gB] at this
      exact this.symm
    ·by_cases n23:x2=x3
     ·subst n23
      rcases gO hq hr with e | e
      ·
       rw [<- e]
       have k:=uG hq hq hp (fun e=>n13 e.symm) (fun e=>n13 e.symm)
       rw [aq (aX hp hq) hq,aq hp hq,<- k,aq (aX hq hq) hp]
      ·rw [e,aq hq (bl hq),bc hq,bO,aq (aX hp hq) (bl hq),aq hp hq,fp hq hp]
     ·exact uG hp hq hr n13 n23
noncomputable def Pt.mul (n:Nat) (p:Pt K):Pt K:=match n with
 | 0 => .inf
 | n+1=>(Pt.mul n p).add p
theorem cX (p:Pt K):p.mul 0 = .inf:=rfl
theorem aK (p:Pt K) (n:Nat):p.mul (n+1)=(p.mul n).add p:=rfl
theorem iU (p:Pt K):p.mul 1=p:=by rw [aK,cX,bE]
theorem bC {p:Pt K} (hp:p.on) : ∀ n,(p.mul n).on
 | 0=>trivial
 | n+1=>aX (bC hp n) hp
theorem bU {p:Pt K} (hp:p.on) (m:Nat) : ∀ n,p.mul (m+n)=(p.mul m).add (p.mul n)
 | 0=>by rw [Nat.add_zero,cX,bO]
 | n+1=>by rw [<- Nat.add_assoc,aK,bU hp m n,aK,aI (bC hp m) (bC hp n) hp]
theorem dX : ∀ n,(Pt.inf:Pt K).mul n = .inf
 | 0=>rfl
 | n+1=>by rw [aK,dX n,bE]
theorem cj {p q:Pt K} (hp:p.on) (hq:q.on) : ∀ n,(p.add q).mul n=(p.mul n).add (q.mul n)
 | 0=>rfl
 | n+1=>by
  have a:=bC hp n
  have b:=bC hq n
  rw [aK,cj hp hq n,aK,aK,aI a b (aX hp hq),<- aI b hp hq,aq b hp,aI hp b hq,<- aI a hp (aX b hq)]
theorem fa {p:Pt K} (hp:p.on) (m:Nat) : ∀ n,p.mul (m*n)=(p.mul m).mul n
 | 0=>by rw [Nat.mul_zero,cX,cX]
 | n+1=>by rw [Nat.mul_succ,bU hp,fa hp m n,aK]
theorem qP {p:Pt K} (hp:p.on) : ∀ n,p.neg.mul n=(p.mul n).neg
 | 0=>rfl
 | n+1=>by rw [aK,qP hp n,aK,M0 (bC hp n) hp]
theorem ia {p q:Pt K} (hp:p.on) (hq:q.on) (h:p.neg.add q = .inf):p=q:=by
 have k:=fp (bl hp) hq
 rw [gB,h,bO] at k
 exact k
theorem lQ {p:Pt K} (hp:p.on) {r:Nat} (h:p.mul r = .inf) (n:Nat):p.mul (n % r)=p.mul n:=by
 have e:p.mul n=p.mul (r*(n / r)+n % r):=by rw [Nat.div_add_mod]
 rw [e,bU hp,fa hp,h,dX,bE]
end
end Go.Proofs.Ytibfppbffdedoaa
namespace Go.Proofs.Ytibfppbffdedoaa
section
variable {K : Type} [Fld K] [Crv K]
def Pj (X Y Z:K):Pt K->Prop
 | .inf=>X=0/\Z=0/\Y ≠ 0
 | .aff x y=>Z ≠ 0/\X=x*Z/\Y=y*Z
def rx (b X1 Y1 Z1 X2 Y2 Z2:K):K:=(X1*Y2+X2*Y1)*(Y1*Y2-3*b*(Z1*Z2))-(Y1*Z2+Y2*Z1)*(3*b*(X1*Z2+X2*Z1))
def ry (b X1 Y1 Z1 X2 Y2 Z2:K):K:=(Y1*Y2-3*b*(Z1*Z2))*(Y1*Y2+3*b*(Z1*Z2))+3*b*(X1*Z2+X2*Z1)*(3*(X1*X2))
def rz (b X1 Y1 Z1 X2 Y2 Z2:K):K:=(Y1*Y2+3*b*(Z1*Z2))*(Y1*Z2+Y2*Z1)+3*(X1*X2)*(X1*Y2+X2*Y1)
theorem Hr (b x1 y1 z1 x2 y2 z2:K):rx b (x1*z1) (y1*z1) z1 (x2*z2) (y2*z2) z2=(z1*z2)*(z1*z2)*rx b x1 y1 1 x2 y2 1:=by unfold rx;grind
theorem Hq (b x1 y1 z1 x2 y2 z2:K):ry b (x1*z1) (y1*z1) z1 (x2*z2) (y2*z2) z2=(z1*z2)*(z1*z2)*ry b x1 y1 1 x2 y2 1:=by unfold ry;grind
theorem Hn (b x1 y1 z1 x2 y2 z2:K):rz b (x1*z1) (y1*z1) z1 (x2*z2) (y2*z2) z2=(z1*z2)*(z1*z2)*rz b x1 y1 1 x2 y2 1:=by unfold rz;grind
theorem Me {b x1 y1 x2 y2:K} (h1:y1*y1=x1*x1*x1+b) (h2:y2*y2=x2*x2*x2+b) :
  rz b x1 y1 1 x2 y2 1=y1*((x1-x2)*(x1-x2)*(x1-x2))-(y1+y2)*((2*x1+x2)*((x1-x2)*(x1-x2))-(y1+y2)*(y1+y2)):=by
 unfold rz
 grind
theorem Pe {b x1 y1 x2 y2:K} (h1:y1*y1=x1*x1*x1+b) (h2:y2*y2=x2*x2*x2+b) :
  ((y2-y1)*(y2-y1)-(x1+x2)*((x2-x1)*(x2-x1)))*rz b x1 y1 1 x2 y2 1=(x2-x1)*(x2-x1)*rx b x1 y1 1 x2 y2 1:=by
 unfold rz rx
 grind
theorem Pd {b x1 y1 x2 y2:K} (h1:y1*y1=x1*x1*x1+b) (h2:y2*y2=x2*x2*x2+b) :
  ((y2-y1)*((2*x1+x2)*((x2-x1)*(x2-x1))-(y2-y1)*(y2-y1))-y1*((x2-x1)*(x2-x1)*(x2-x1)))*rz b x1 y1 1 x2 y2 1=(x2-x1)*(x2-x1)*(x2-x1)*ry b x1 y1 1 x2 y2 1:=by
 unfold rz ry
 grind
theorem Hl {b x y:K} (h:y*y=x*x*x+b):rz b x y 1 x y 1=8*(y*y*y):=by
 unfold rz
 grind
theorem Ly {x1 y1 x2 y2:K} (h1:(Pt.aff x1 y1).on) (h2:(Pt.aff x2 y2).on) (hx:x1 ≠ x2) : ∃ u v,(Pt.aff x1 y1).add (.aff x2 y2) = .aff u v/\(Pt.aff u v).on /\
  u*((x2-x1)*(x2-x1))=(y2-y1)*(y2-y1)-(x1+x2)*((x2-x1)*(x2-x1)) /\
  v*((x2-x1)*(x2-x1)*(x2-x1))=(y2-y1)*((2*x1+x2)*((x2-x1)*(x2-x1))-(y2-y1)*(y2-y1))-y1*((x2-x1)*(x2-x1)*(x2-x1)):=by
 have hd:x2-x1 ≠ 0:=fun e=>hx (ao e).symm
 have hi:=aO hd
 have ho:=aX h1 h2
 rw [jo,if_neg (fun e=>hx e.1)] at ho ⊢
 unfold cd at ho ⊢
 rw [if_neg hx] at ho ⊢
 generalize Fld.inv (x2-x1)=i at *
 have hl:(y2-y1)*i*(x2-x1)=y2-y1:=by
  have:(y2-y1)*i*(x2-x1)=(y2-y1)*((x2-x1)*i):=by grind
  rw [this,hi]
  exact CR.mul_one _
 generalize (y2-y1)*i=l at *
 refine ⟨_,_,rfl,ho,?_,?_⟩
 ·rw [<- hl]
  clear ho hi hl hd
  grind
 ·rw [<- hl]
  clear ho hi hl hd
  grind
theorem CH {x y:K} (h:(Pt.aff x y).on) : ∃ u v,(Pt.aff x y).add (.aff x y) = .aff u v/\(Pt.aff u v).on/\u*(4*(y*y))=9*(x*x)*(x*x)-2*x*(4*(y*y)) /\
  v*(8*(y*y*y))=3*(x*x)*(3*x*(4*(y*y))-9*(x*x)*(x*x))-y*(8*(y*y*y)):=by
 have hd:2*y ≠ 0:=au Crv.two (y_ne h)
 have hi:=aO hd
 have ho:=aX h h
 rw [jo,if_neg (fun e=>gY h e.2)] at ho ⊢
 unfold cd at ho ⊢
 rw [if_pos rfl] at ho ⊢
 generalize Fld.inv (2*y)=i at *
 have hl:3*x*x*i*(2*y)=3*x*x:=by
  have:3*x*x*i*(2*y)=3*x*x*(2*y*i):=by grind
  rw [this,hi]
  exact CR.mul_one _
 generalize 3*x*x*i=l at *
 have h9:9*(x*x)*(x*x)=(3*x*x)*(3*x*x):=by clear ho hi hl hd h;grind
 have h3:3*(x*x)=3*x*x:=by clear ho hi hl hd h h9;grind
 refine ⟨_,_,rfl,ho,?_,?_⟩
 ·rw [h9,<- hl]
  clear ho hi hl hd h h9 h3
  grind
 ·rw [h9,h3,<- hl]
  clear ho hi hl hd h h9 h3
  grind
theorem Pj.scale {X Y Z k:K} {p:Pt K} (h:Pj X Y Z p) (hk:k ≠ 0):Pj (k*X) (k*Y) (k*Z) p:=by
 cases p with
 | inf =>
  obtain ⟨h1,h2,h3⟩:=h
  exact ⟨by rw [h1];exact CR.mul_zero _,by rw [h2];exact CR.mul_zero _,au hk h3⟩
 | aff x y =>
  obtain ⟨h1,h2,h3⟩:=h
  exact ⟨au hk h1,by rw [h2];clear h1 h2 h3 hk;grind,by rw [h3];clear h1 h2 h3 hk;grind⟩
theorem Jq:(8:K) ≠ 0:=by
 have:(8:K)=2*2*2:=by grind
 rw [this]
 exact au (au Crv.two Crv.two) Crv.two
theorem DA {y:K} (h:y ≠ 0):8*(y*y*y) ≠ 0:=au Jq (au (au h h) h)
theorem opp_ring {b x y:K}:rx b x (-y) 1 x y 1=0/\rz b x (-y) 1 x y 1=0:=by unfold rx rz;exact ⟨by grind,by grind⟩
theorem Ri {b x y:K} (h:y*y=x*x*x+b):ry b x (-y) 1 x y 1=3*(x*x)*(3*x*(4*(y*y))-9*(x*x)*(x*x))-y*(8*(y*y*y)):=by unfold ry;grind
theorem LU {b x y:K} (h:y*y=x*x*x+b):(9*(x*x)*(x*x)-2*x*(4*(y*y)))*(2*y)=rx b x y 1 x y 1:=by unfold rx;grind
theorem LS {b x y:K} (h:y*y=x*x*x+b):3*(x*x)*(3*x*(4*(y*y))-9*(x*x)*(x*x))-y*(8*(y*y*y))=ry b x y 1 x y 1:=by unfold ry;grind
theorem BG (u y:K):u*(8*(y*y*y))=u*(4*(y*y))*(2*y):=by grind
theorem Ry {u d n z X:K} (h:u*(d*d)=n) (g:n*z=d*d*X) (hd:d ≠ 0):X=u*z:=by
 apply gT (au hd hd)
 rw [CR.mul_comm X,<- g,<- h]
 clear h g hd
 grind
theorem Rx {v d n z Y:K} (h:v*(d*d*d)=n) (g:n*z=d*d*d*Y) (hd:d ≠ 0):Y=v*z:=by
 apply gT (au (au hd hd) hd)
 rw [CR.mul_comm Y,<- g,<- h]
 clear h g hd
 grind
theorem FO (x1 y1 x2 y2:K):y1*((x1-x2)*(x1-x2)*(x1-x2))-(y1+y2)*((2*x1+x2)*((x1-x2)*(x1-x2))-(y1+y2)*(y1+y2))=(-y2-y1)*((2*x1+x2)*((x2-x1)*(x2-x1))-(-y2-y1)*(-y2-y1))-y1*((x2-x1)*(x2-x1)*(x2-x1)):=by grind
theorem LY {x1 y1 x2 y2:K} (h1:(Pt.aff x1 y1).on) (h2:(Pt.aff x2 y2).on):Pj (rx Crv.b x1 y1 1 x2 y2 1) (ry Crv.b x1 y1 1 x2 y2 1) (rz Crv.b x1 y1 1 x2 y2 1) ((Pt.aff x1 y1).add (.aff x2 y2)):=by
 by_cases hx:x1=x2
 ·subst hx
  obtain ⟨u,v,e,o,hu,hv⟩:=CH h2
  rcases gO h2 h1 with e1 | e1
  ·have e1:y2=y1:=by injection e1
   subst e1
   rw [e]
   have hz:=Hl (b:=Crv.b) h2
   refine ⟨by rw [hz];exact DA (y_ne h2),?_,?_⟩
   ·rw [hz,BG,hu]
    exact (LU h2).symm
   ·rw [hz,hv]
    exact (LS h2).symm
  ·have e2:y1 = -y2:=by injection e1
   subst e2
   have k:(Pt.aff x1 (-y2)).add (.aff x1 y2) = .inf:=bc h2
   rw [k]
   refine ⟨opp_ring.1,opp_ring.2,?_⟩
   rw [Ri h2,<- hv]
   exact au (y_ne o) (DA (y_ne h2))
 ·obtain ⟨u,v,e,o,hu,hv⟩:=Ly h1 h2 hx
  have hd:x2-x1 ≠ 0:=fun e=>hx (ao e).symm
  rw [e]
  refine ⟨?_,Ry hu (Pe h1 h2) hd,Rx hv (Pd h1 h2) hd⟩
  obtain ⟨u',v',e',o',_,hv'⟩:=Ly h1 (bl h2) hx
  rw [Me h1 h2,FO,<- hv']
  exact au (y_ne o') (au (au hd hd) hd)
theorem D4 (b Y X2 Y2 Z2:K):rx b 0 Y 0 X2 Y2 Z2=Y*Y*Y2*X2/\ry b 0 Y 0 X2 Y2 Z2=Y*Y*Y2*Y2/\rz b 0 Y 0 X2 Y2 Z2=Y*Y*Y2*Z2:=by unfold rx ry rz;exact ⟨by grind,by grind,by grind⟩
theorem D3 (b Y X2 Y2 Z2:K):rx b X2 Y2 Z2 0 Y 0=Y*Y*Y2*X2/\ry b X2 Y2 Z2 0 Y 0=Y*Y*Y2*Y2/\rz b X2 Y2 Z2 0 Y 0=Y*Y*Y2*Z2:=by unfold rx ry rz;exact ⟨by grind,by grind,by grind⟩
theorem Pj.y_ne {X Y Z:K} {p:Pt K} (hp:p.on) (h:Pj X Y Z p):Y ≠ 0:=by
 cases p with
 | inf=>exact h.2.2
 | aff x y=>rw [h.2.2];exact au (Go.Proofs.Ytibfppbffdedoaa.y_ne hp) h.1
theorem vH {X1 Y1 Z1 X2 Y2 Z2:K} {p q:Pt K} (hp:p.on) (hq:q.on) (h:Pj X1 Y1 Z1 p) (g:Pj X2 Y2 Z2 q):Pj (rx Crv.b X1 Y1 Z1 X2 Y2 Z2) (ry Crv.b X1 Y1 Z1 X2 Y2 Z2) (rz Crv.b X1 Y1 Z1 X2 Y2 Z2) (p.add q):=by
 cases p with
 | inf =>
  obtain ⟨h1,h2,h3⟩:=h
  subst h1 h2
  obtain ⟨e1,e2,e3⟩:=D4 (Crv.b:K) Y1 X2 Y2 Z2
  rw [e1,e2,e3,bE]
  exact g.scale (au (au h3 h3) (g.y_ne hq))
 | aff x1 y1 =>
  cases q with
  | inf =>
   obtain ⟨h1,h2,h3⟩:=g
   subst h1 h2
   obtain ⟨e1,e2,e3⟩:=D3 (Crv.b:K) Y2 X1 Y1 Z1
   rw [e1,e2,e3,bO]
   exact h.scale (au (au h3 h3) (h.y_ne hp))
  | aff x2 y2 =>
   obtain ⟨h1,h2,h3⟩:=h
   obtain ⟨g1,g2,g3⟩:=g
   subst h2 h3 g2 g3
   rw [Hr,Hq,Hn]
   exact (LY hp hq).scale (au (au h1 g1) (au h1 g1))
def Jc (X Y Z:K):Pt K->Prop
 | .inf=>Z=0
 | .aff x y=>Z ≠ 0/\X=x*(Z*Z)/\Y=y*(Z*Z*Z)
theorem Jc.inf_of {X Y Z:K} {p:Pt K} (h:Jc X Y Z p) (hz:Z=0):p = .inf:=by
 cases p with
 | inf=>rfl
 | aff x y=>exact absurd hz h.1
theorem Jc.aff_of {X Y Z:K} {p:Pt K} (h:Jc X Y Z p) (hz:Z ≠ 0) : ∃ x y,p = .aff x y/\X=x*(Z*Z)/\Y=y*(Z*Z*Z):=by
 cases p with
 | inf=>exact absurd h hz
 | aff x y=>exact ⟨x,y,rfl,h.2⟩
def jx (X Y:K):K:=3*(X*X)*(3*(X*X))-8*(X*(Y*Y))
def jy (X Y:K):K:=3*(X*X)*(4*(X*(Y*Y))-jx X Y)-8*(Y*Y*(Y*Y))
def jz (Y Z:K):K:=2*(Y*Z)
theorem Rn {x y Z u:K} (hu:u*(4*(y*y))=9*(x*x)*(x*x)-2*x*(4*(y*y))):jx (x*(Z*Z)) (y*(Z*Z*Z))=u*(jz (y*(Z*Z*Z)) Z*jz (y*(Z*Z*Z)) Z):=by
 have e:u*(jz (y*(Z*Z*Z)) Z*jz (y*(Z*Z*Z)) Z)=u*(4*(y*y))*(Z*Z*Z*Z*Z*Z*Z*Z):=by unfold jz;clear hu;grind
 rw [e,hu]
 unfold jx
 clear hu e
 grind
theorem Rm {x y Z v:K} (hv:v*(8*(y*y*y))=3*(x*x)*(3*x*(4*(y*y))-9*(x*x)*(x*x))-y*(8*(y*y*y))):jy (x*(Z*Z)) (y*(Z*Z*Z))=v*(jz (y*(Z*Z*Z)) Z*jz (y*(Z*Z*Z)) Z*jz (y*(Z*Z*Z)) Z):=by
 have e:v*(jz (y*(Z*Z*Z)) Z*jz (y*(Z*Z*Z)) Z*jz (y*(Z*Z*Z)) Z)=v*(8*(y*y*y))*(Z*Z*Z*Z*(Z*Z*Z*Z)*(Z*Z*Z*Z)):=by unfold jz;clear hv;grind
 rw [e,hv]
 unfold jy jx
 clear hv e
 grind
theorem DY {X Y Z:K} {p:Pt K} (hp:p.on) (h:Jc X Y Z p):Jc (jx X Y) (jy X Y) (jz Y Z) (p.add p):=by
 cases p with
 | inf =>
  show jz Y Z=0
  unfold jz
  rw [show Z=0 from h]
  grind
 | aff x y =>
  obtain ⟨h1,h2,h3⟩:=h
  subst h2 h3
  obtain ⟨u,v,e,o,hu,hv⟩:=CH hp
  rw [e]
  exact ⟨au Crv.two (au (au (y_ne hp) (au (au h1 h1) h1)) h1),Rn hu,Rm hv⟩
def px (X1 Y1 Z1 X2 Y2 Z2:K):K:=(Y2*(Z1*Z1*Z1)-Y1*(Z2*Z2*Z2))*(Y2*(Z1*Z1*Z1)-Y1*(Z2*Z2*Z2))-(X2*(Z1*Z1)-X1*(Z2*Z2))*(X2*(Z1*Z1)-X1*(Z2*Z2))*(X2*(Z1*Z1)-X1*(Z2*Z2))-2*(X1*(Z2*Z2)*((X2*(Z1*Z1)-X1*(Z2*Z2))*(X2*(Z1*Z1)-X1*(Z2*Z2))))
def py (X1 Y1 Z1 X2 Y2 Z2:K):K:=(Y2*(Z1*Z1*Z1)-Y1*(Z2*Z2*Z2))*(X1*(Z2*Z2)*((X2*(Z1*Z1)-X1*(Z2*Z2))*(X2*(Z1*Z1)-X1*(Z2*Z2)))-px X1 Y1 Z1 X2 Y2 Z2)-Y1*(Z2*Z2*Z2)*((X2*(Z1*Z1)-X1*(Z2*Z2))*(X2*(Z1*Z1)-X1*(Z2*Z2))*(X2*(Z1*Z1)-X1*(Z2*Z2)))
def pz (X1 Z1 X2 Z2:K):K:=Z1*Z2*(X2*(Z1*Z1)-X1*(Z2*Z2))
theorem QU (x1 x2 Z1 Z2:K):x2*(Z2*Z2)*(Z1*Z1)-x1*(Z1*Z1)*(Z2*Z2)=(x2-x1)*(Z1*Z2*(Z1*Z2)):=by grind
theorem RN (y1 y2 Z1 Z2:K):y2*(Z2*Z2*Z2)*(Z1*Z1*Z1)-y1*(Z1*Z1*Z1)*(Z2*Z2*Z2)=(y2-y1)*(Z1*Z2*(Z1*Z2)*(Z1*Z2)):=by grind
theorem H4 {X1 Y1 Z1 X2 Y2 Z2:K} {p q:Pt K} (hp:p.on) (hq:q.on) (h:Jc X1 Y1 Z1 p) (g:Jc X2 Y2 Z2 q) (hz1:Z1 ≠ 0) (hz2:Z2 ≠ 0) (hh:X2*(Z1*Z1)-X1*(Z2*Z2) ≠ 0) :
  Jc (px X1 Y1 Z1 X2 Y2 Z2) (py X1 Y1 Z1 X2 Y2 Z2) (pz X1 Z1 X2 Z2) (p.add q):=by
 obtain ⟨x1,y1,rfl,e1,e2⟩:=h.aff_of hz1
 obtain ⟨x2,y2,rfl,e3,e4⟩:=g.aff_of hz2
 subst e1 e2 e3 e4
 have hx:x1 ≠ x2:=fun e=>hh (by rw [QU,e];grind)
 obtain ⟨u,v,e,o,hu,hv⟩:=Ly hp hq hx
 rw [e]
 unfold px py pz px
 rw [QU,RN]
 have hz:=au hz1 hz2
 generalize hm:Z1*Z2=m at *
 have k1:x1*(Z1*Z1)*(Z2*Z2)=x1*(m*m):=by rw [<- hm];grind
 have k2:y1*(Z1*Z1*Z1)*(Z2*Z2*Z2)=y1*(m*m*m):=by rw [<- hm];grind
 rw [k1,k2]
 have hd:x2-x1 ≠ 0:=fun e=>hx (ao e).symm
 refine ⟨au hz (au hd (au hz hz)),?_,?_⟩
 ·have e:u*(m*((x2-x1)*(m*m))*(m*((x2-x1)*(m*m))))=u*((x2-x1)*(x2-x1))*(m*m*m*m*m*m):=by clear hu hv;grind
  rw [e,hu]
  clear hu hv
  grind
 ·have e:v*(m*((x2-x1)*(m*m))*(m*((x2-x1)*(m*m)))*(m*((x2-x1)*(m*m))))=v*((x2-x1)*(x2-x1)*(x2-x1))*(m*m*m*m*m*m*m*m*m):=by clear hu hv;grind
  rw [e,hv]
  clear hu hv
  grind
theorem ED {X1 Y1 Z1 X2 Y2 Z2:K} {p q:Pt K} (hp:p.on) (hq:q.on) (h:Jc X1 Y1 Z1 p) (g:Jc X2 Y2 Z2 q) (hz1:Z1 ≠ 0) (hz2:Z2 ≠ 0) (hh:X2*(Z1*Z1)-X1*(Z2*Z2)=0) :
  (Y2*(Z1*Z1*Z1)-Y1*(Z2*Z2*Z2)=0->q=p)/\(Y2*(Z1*Z1*Z1)-Y1*(Z2*Z2*Z2) ≠ 0->p.add q = .inf):=by
 obtain ⟨x1,y1,rfl,e1,e2⟩:=h.aff_of hz1
 obtain ⟨x2,y2,rfl,e3,e4⟩:=g.aff_of hz2
 subst e1 e2 e3 e4
 have hz:=au hz1 hz2
 rw [QU] at hh
 have hx:x2=x1:=ao ((ar hh).resolve_right (au hz hz))
 subst hx
 rw [RN]
 constructor
 ·intro e
  rw [ao ((ar e).resolve_right (au (au hz hz) hz))]
 ·intro e
  rcases gO hq hp with k | k
  ·injection k with _ k
   exact absurd (by rw [k];grind) e
  ·rw [k]
   exact bc hq
end
end Go.Proofs.Ytibfppbffdedoaa
namespace Go.Proofs.Ytibfppbffdedoaa
class QP (K : Type) [CR K] where
 nr:K
class CP (K : Type) [CR K] where
 cr:K
structure Qd (K : Type) where
 a:K
 b:K
structure Cb (K : Type) where
 a:K
 b:K
 c:K
section
variable {K : Type} [CR K] [QP K]
theorem Qd.ext' {x y:Qd K} (h:x.a=y.a) (h2:x.b=y.b):x=y:=by
 cases x;cases y
 simp_all
instance : CR (Qd K) where
 z:=⟨0,0⟩
 o:=⟨1,0⟩
 add:=fun x y=>⟨x.a+y.a,x.b+y.b⟩
 mul:=fun x y=>⟨x.a*y.a+QP.nr*(x.b*y.b),x.a*y.b+x.b*y.a⟩
 neg:=fun x=>⟨-x.a, -x.b⟩
 sub:=fun x y=>⟨x.a-y.a,x.b-y.b⟩
 add_zero:=fun x=>Qd.ext' (show x.a+0=x.a by grind) (show x.b+0=x.b by grind)
 add_comm:=fun x y=>Qd.ext' (show x.a+y.a=y.a+x.a by grind) (show x.b+y.b=y.b+x.b by grind)
 add_assoc:=fun x y w=>Qd.ext' (show x.a+y.a+w.a=x.a+(y.a+w.a) by grind) (show x.b+y.b+w.b=x.b+(y.b+w.b) by grind)
 mul_assoc:=fun x y w=>Qd.ext'
  (show (x.a*y.a+QP.nr*(x.b*y.b))*w.a+QP.nr*((x.a*y.b+x.b*y.a)*w.b)=x.a*(y.a*w.a+QP.nr*(y.b*w.b))+QP.nr*(x.b*(y.a*w.b+y.b*w.a)) by grind)
  (show (x.a*y.a+QP.nr*(x.b*y.b))*w.b+(x.a*y.b+x.b*y.a)*w.a=x.a*(y.a*w.b+y.b*w.a)+x.b*(y.a*w.a+QP.nr*(y.b*w.b)) by grind)
 mul_comm:=fun x y=>Qd.ext' (show x.a*y.a+QP.nr*(x.b*y.b)=y.a*x.a+QP.nr*(y.b*x.b) by grind) (show x.a*y.b+x.b*y.a=y.a*x.b+y.b*x.a by grind)
 mul_one:=fun x=>Qd.ext' (show x.a*1+QP.nr*(x.b*0)=x.a by grind) (show x.a*0+x.b*1=x.b by grind)
 dist:=fun x y w=>Qd.ext' (show x.a*(y.a+w.a)+QP.nr*(x.b*(y.b+w.b))=(x.a*y.a+QP.nr*(x.b*y.b))+(x.a*w.a+QP.nr*(x.b*w.b)) by grind)
  (show x.a*(y.b+w.b)+x.b*(y.a+w.a)=(x.a*y.b+x.b*y.a)+(x.a*w.b+x.b*w.a) by grind)
 neg_add:=fun x=>Qd.ext' (show -x.a+x.a=0 by grind) (show -x.b+x.b=0 by grind)
 sub_eq:=fun x y=>Qd.ext' (show x.a-y.a=x.a + -y.a by grind) (show x.b-y.b=x.b + -y.b by grind)
theorem Qd.add_a (x y:Qd K):(x+y).a=x.a+y.a:=rfl
theorem Qd.add_b (x y:Qd K):(x+y).b=x.b+y.b:=rfl
theorem Qd.mul_a (x y:Qd K):(x*y).a=x.a*y.a+QP.nr*(x.b*y.b):=rfl
theorem Qd.mul_b (x y:Qd K):(x*y).b=x.a*y.b+x.b*y.a:=rfl
theorem Qd.sub_b (x y:Qd K):(x-y).b=x.b-y.b:=rfl
def Qd.conj (x:Qd K):Qd K:=⟨x.a, -x.b⟩
def Qd.norm (x:Qd K):K:=x.a*x.a-QP.nr*(x.b*x.b)
def Qd.of (x:K):Qd K:=⟨x,0⟩
theorem Qd.norm_mul (x y:Qd K):(x*y).norm=x.norm*y.norm:=by
 unfold Qd.norm
 rw [Qd.mul_a,Qd.mul_b]
 grind
theorem Qd.mul_conj (x:Qd K):x*x.conj=Qd.of x.norm:=Qd.ext' (by rw [Qd.mul_a];unfold Qd.conj Qd.of Qd.norm;grind) (by rw [Qd.mul_b];unfold Qd.conj Qd.of;grind)
theorem Qd.conj_mul (x y:Qd K):(x*y).conj=x.conj*y.conj:=Qd.ext' (by rw [Qd.mul_a];unfold Qd.conj;rw [Qd.mul_a];grind) (by rw [Qd.mul_b];unfold Qd.conj;simp only [];rw [Qd.mul_b];grind)
theorem Qd.conj_add (x y:Qd K):(x+y).conj=x.conj+y.conj:=Qd.ext' rfl (by show -(x.b+y.b) = -x.b + -y.b;grind)
theorem Qd.of_mul (x y:K):Qd.of (x*y)=Qd.of x*Qd.of y:=Qd.ext' (by rw [Qd.mul_a];unfold Qd.of;grind) (by rw [Qd.mul_b];unfold Qd.of;grind)
end
class QF (K : Type) [Fld K] extends QP K where
 no : ∀ x:K,x*x ≠ nr
section
variable {K : Type} [Fld K] [QF K]
theorem Qd.norm_ne {x:Qd K} (h:x ≠ 0):x.norm ≠ 0:=fun e=>by
 unfold Qd.norm at e
 by_cases hb:x.b=0
 ·have ha:x.a ≠ 0:=fun ha=>h (Qd.ext' ha hb)
  exact au ha ha (by rw [hb] at e;grind)
 ·have hi:=aO hb
  exact QF.no (x.a*Fld.inv x.b) (by grind)
instance : Fld (Qd K) where
 inv:=fun x=>⟨x.a*Fld.inv x.norm, -(x.b*Fld.inv x.norm)⟩
 mul_inv:=fun x h=>by
  have hn:=aO (Qd.norm_ne h)
  refine Qd.ext' ?_ ?_
  ·show x.a*(x.a*Fld.inv x.norm)+QP.nr*(x.b * -(x.b*Fld.inv x.norm))=1
   have:x.norm=x.a*x.a-QP.nr*(x.b*x.b):=rfl
   grind
  ·show x.a * -(x.b*Fld.inv x.norm)+x.b*(x.a*Fld.inv x.norm)=0
   grind
 one_ne:=fun h=>dA (K:=K) (congrArg Qd.a h)
end
section
variable {K : Type} [CR K] [CP K]
theorem Cb.ext' {x y:Cb K} (h:x.a=y.a) (h2:x.b=y.b) (h3:x.c=y.c):x=y:=by
 cases x;cases y
 simp_all
instance : CR (Cb K) where
 z:=⟨0,0,0⟩
 o:=⟨1,0,0⟩
 add:=fun x y=>⟨x.a+y.a,x.b+y.b,x.c+y.c⟩
 mul:=fun x y=>⟨x.a*y.a+CP.cr*(x.b*y.c+x.c*y.b),x.a*y.b+x.b*y.a+CP.cr*(x.c*y.c),x.a*y.c+x.b*y.b+x.c*y.a⟩
 neg:=fun x=>⟨-x.a, -x.b, -x.c⟩
 sub:=fun x y=>⟨x.a-y.a,x.b-y.b,x.c-y.c⟩
 add_zero:=fun x=>Cb.ext' (show x.a+0=x.a by grind) (show x.b+0=x.b by grind) (show x.c+0=x.c by grind)
 add_comm:=fun x y=>Cb.ext' (show x.a+y.a=y.a+x.a by grind) (show x.b+y.b=y.b+x.b by grind) (show x.c+y.c=y.c+x.c by grind)
 add_assoc:=fun x y w=>Cb.ext' (show x.a+y.a+w.a=x.a+(y.a+w.a) by grind) (show x.b+y.b+w.b=x.b+(y.b+w.b) by grind) (show x.c+y.c+w.c=x.c+(y.c+w.c) by grind)
 mul_assoc:=fun x y w=>Cb.ext'
  (show (x.a*y.a+CP.cr*(x.b*y.c+x.c*y.b))*w.a+CP.cr*((x.a*y.b+x.b*y.a+CP.cr*(x.c*y.c))*w.c+(x.a*y.c+x.b*y.b+x.c*y.a)*w.b)=x.a*(y.a*w.a+CP.cr*(y.b*w.c+y.c*w.b))+CP.cr*(x.b*(y.a*w.c+y.b*w.b+y.c*w.a)+x.c*(y.a*w.b+y.b*w.a+CP.cr*(y.c*w.c))) by grind)
  (show (x.a*y.a+CP.cr*(x.b*y.c+x.c*y.b))*w.b+(x.a*y.b+x.b*y.a+CP.cr*(x.c*y.c))*w.a+CP.cr*((x.a*y.c+x.b*y.b+x.c*y.a)*w.c)=x.a*(y.a*w.b+y.b*w.a+CP.cr*(y.c*w.c))+x.b*(y.a*w.a+CP.cr*(y.b*w.c+y.c*w.b))+CP.cr*(x.c*(y.a*w.c+y.b*w.b+y.c*w.a)) by grind)
  (show (x.a*y.a+CP.cr*(x.b*y.c+x.c*y.b))*w.c+(x.a*y.b+x.b*y.a+CP.cr*(x.c*y.c))*w.b+(x.a*y.c+x.b*y.b+x.c*y.a)*w.a=x.a*(y.a*w.c+y.b*w.b+y.c*w.a)+x.b*(y.a*w.b+y.b*w.a+CP.cr*(y.c*w.c))+x.c*(y.a*w.a+CP.cr*(y.b*w.c+y.c*w.b)) by grind)
 mul_comm:=fun x y=>Cb.ext' (show x.a*y.a+CP.cr*(x.b*y.c+x.c*y.b)=y.a*x.a+CP.cr*(y.b*x.c+y.c*x.b) by grind) (show x.a*y.b+x.b*y.a+CP.cr*(x.c*y.c)=y.a*x.b+y.b*x.a+CP.cr*(y.c*x.c) by grind) (show x.a*y.c+x.b*y.b+x.c*y.a=y.a*x.c+y.b*x.b+y.c*x.a by grind)
 mul_one:=fun x=>Cb.ext' (show x.a*1+CP.cr*(x.b*0+x.c*0)=x.a by grind) (show x.a*0+x.b*1+CP.cr*(x.c*0)=x.b by grind) (show x.a*0+x.b*0+x.c*1=x.c by grind)
 dist:=fun x y w=>Cb.ext' (show x.a*(y.a+w.a)+CP.cr*(x.b*(y.c+w.c)+x.c*(y.b+w.b))=(x.a*y.a+CP.cr*(x.b*y.c+x.c*y.b))+(x.a*w.a+CP.cr*(x.b*w.c+x.c*w.b)) by grind)
  (show x.a*(y.b+w.b)+x.b*(y.a+w.a)+CP.cr*(x.c*(y.c+w.c))=(x.a*y.b+x.b*y.a+CP.cr*(x.c*y.c))+(x.a*w.b+x.b*w.a+CP.cr*(x.c*w.c)) by grind)
  (show x.a*(y.c+w.c)+x.b*(y.b+w.b)+x.c*(y.a+w.a)=(x.a*y.c+x.b*y.b+x.c*y.a)+(x.a*w.c+x.b*w.b+x.c*w.a) by grind)
 neg_add:=fun x=>Cb.ext' (show -x.a+x.a=0 by grind) (show -x.b+x.b=0 by grind) (show -x.c+x.c=0 by grind)
 sub_eq:=fun x y=>Cb.ext' (show x.a-y.a=x.a + -y.a by grind) (show x.b-y.b=x.b + -y.b by grind) (show x.c-y.c=x.c + -y.c by grind)
theorem Cb.mul_a (x y:Cb K):(x*y).a=x.a*y.a+CP.cr*(x.b*y.c+x.c*y.b):=rfl
theorem Cb.mul_b (x y:Cb K):(x*y).b=x.a*y.b+x.b*y.a+CP.cr*(x.c*y.c):=rfl
theorem Cb.mul_c (x y:Cb K):(x*y).c=x.a*y.c+x.b*y.b+x.c*y.a:=rfl
def Cb.adj (x:Cb K):Cb K:=⟨x.a*x.a-CP.cr*(x.b*x.c),CP.cr*(x.c*x.c)-x.a*x.b,x.b*x.b-x.a*x.c⟩
def Cb.norm (x:Cb K):K:=x.a*(x.a*x.a-CP.cr*(x.b*x.c))+CP.cr*(x.c*(CP.cr*(x.c*x.c)-x.a*x.b)+x.b*(x.b*x.b-x.a*x.c))
def Cb.of (x:K):Cb K:=⟨x,0,0⟩
theorem Cb.mul_adj (x:Cb K):x*x.adj=Cb.of x.norm:=Cb.ext' (by rw [Cb.mul_a];unfold Cb.adj Cb.of Cb.norm;grind) (by rw [Cb.mul_b];unfold Cb.adj Cb.of;grind) (by rw [Cb.mul_c];unfold Cb.adj Cb.of;grind)
theorem Cb.adj_adj (x:Cb K):x.adj.adj=⟨x.norm*x.a,x.norm*x.b,x.norm*x.c⟩:=Cb.ext' (by unfold Cb.adj Cb.norm;grind) (by unfold Cb.adj Cb.norm;grind) (by unfold Cb.adj Cb.norm;grind)
theorem Cb.norm_mul (x y:Cb K):(x*y).norm=x.norm*y.norm:=by
 unfold Cb.norm
 rw [Cb.mul_a,Cb.mul_b,Cb.mul_c]
 grind
end
class CF (K : Type) [Fld K] extends CP K where
 no : ∀ x:K,x*x*x ≠ cr
section
variable {K : Type} [Fld K] [CF K]
theorem Cb.adj_ne {x:Cb K} (h:x.adj=0):x=0:=by
 have h0:x.a*x.a-CP.cr*(x.b*x.c)=0:=congrArg Cb.a h
 have h1:CP.cr*(x.c*x.c)-x.a*x.b=0:=congrArg Cb.b h
 have h2:x.b*x.b-x.a*x.c=0:=congrArg Cb.c h
 by_cases hc:x.c=0
 ·have hb:x.b=0:=(ar (show x.b*x.b=0 by grind)).elim id id
  have ha:x.a=0:=(ar (show x.a*x.a=0 by grind)).elim id id
  exact Cb.ext' ha hb hc
 ·have hi:=aO hc
  exact (CF.no (x.b*Fld.inv x.c) (by grind)).elim
theorem Cb.norm_ne {x:Cb K} (h:x ≠ 0):x.norm ≠ 0:=fun e=>h (Cb.adj_ne (Cb.adj_ne (by
 rw [Cb.adj_adj,e]
 exact Cb.ext' (show (0:K)*x.a=0 by grind) (show (0:K)*x.b=0 by grind) (show (0:K)*x.c=0 by grind))))
instance : Fld (Cb K) where
 inv:=fun x=>⟨x.adj.a*Fld.inv x.norm,x.adj.b*Fld.inv x.norm,x.adj.c*Fld.inv x.norm⟩
 mul_inv:=fun x h=>by
  have hn:=aO (Cb.norm_ne h)
  have ha:=congrArg Cb.a (Cb.mul_adj x)
  have hb:=congrArg Cb.b (Cb.mul_adj x)
  have hc:=congrArg Cb.c (Cb.mul_adj x)
  rw [Cb.mul_a] at ha
  rw [Cb.mul_b] at hb
  rw [Cb.mul_c] at hc
  have ha:x.a*x.adj.a+CP.cr*(x.b*x.adj.c+x.c*x.adj.b)=x.norm:=ha
  have hb:x.a*x.adj.b+x.b*x.adj.a+CP.cr*(x.c*x.adj.c)=0:=hb
  have hc:x.a*x.adj.c+x.b*x.adj.b+x.c*x.adj.a=0:=hc
  generalize x.adj=t at *
  generalize x.norm=n at *
  refine Cb.ext' ?_ ?_ ?_
  ·show x.a*(t.a*Fld.inv n)+CP.cr*(x.b*(t.c*Fld.inv n)+x.c*(t.b*Fld.inv n))=1
   grind
  ·show x.a*(t.b*Fld.inv n)+x.b*(t.a*Fld.inv n)+CP.cr*(x.c*(t.c*Fld.inv n))=0
   grind
  ·show x.a*(t.c*Fld.inv n)+x.b*(t.b*Fld.inv n)+x.c*(t.a*Fld.inv n)=0
   grind
 one_ne:=fun h=>dA (K:=K) (congrArg Cb.a h)
end
end Go.Proofs.Ytibfppbffdedoaa
namespace Go.Proofs.Ytibfppbffdedoaa
theorem RU {R:Type} [CR R] (a:R):a*1=a:=CR.mul_one a
section
variable {K : Type} [Fld K] [Crv K]
theorem Jk {l1 m1 l2 m2 l3 m3 l4 m4 x1 x2 x3 xA xB x4 x5:K} {y1 y2 y3:K} (o3:y3*y3=x3*x3*x3+Crv.b)
  (hA:Ln l1 m1 x1 x2 xA) (hB:Ln l2 m2 x2 x3 xB) (hC:Ln l3 m3 xA x3 x4) (hD:Ln l4 m4 xB x1 x5)
  (a1:y1=l1*x1+m1) (a2:y2=l1*x2+m1) (b2:y2=l2*x2+m2) (b3:y3=l2*x3+m2) (cA:l3*xA+m3 = -(l1*xA+m1)) (c3:y3=l3*x3+m3) (dB:l4*xB+m4 = -(l2*xB+m2)) (d1:y1=l4*x1+m4)
  (n12:x1 ≠ x2) (n13:x1 ≠ x3) (n23:x2 ≠ x3) (nA : ¬ (x3=xA/\y3=l1*xA+m1)):xA+l1*l3=xB+l2*l4/\(l1*m3+l3*m1+xA*(xA+l1*l3)=l2*m4+l4*m2+xB*(xB+l2*l4))/\l1+l3=l2+l4:=by
 have f1:=cp hA cA a1
 have f2:=cp hA.swap cA a2
 have f3:=aU hC.turn cA c3
 have f4:=aU hC.turn.swap cA rfl
 have g2:=cp hB dB b2
 have g3:=cp hB.swap dB b3
 have g1:=aU hD.turn dB d1
 have g5:=aU hD.turn.swap dB rfl
 have e4:=lv hA hC
 have e5:=lv hB hD
 have d12:x1-x2 ≠ 0:=fun e=>n12 (ao e)
 have d13:x1-x3 ≠ 0:=fun e=>n13 (ao e)
 have d23:x2-x3 ≠ 0:=fun e=>n23 (ao e)
 have w1:=dM f1 g1
 have w2:=dM f2 g2
 have w3:=dM f3 g3
 have v:=(ar (yo w1 w2 a1 a2)).resolve_left d12
 have hr0:(l1+l3)-(l2+l4)=0:=by
  rcases ar (iO w1 w3 a1 v) with e | e
  ·exact e
  ·exfalso
   have e3:=ao e
   rw [e3] at o3
   rcases hA.all o3 with k | k | k
   ·exact n13 k.symm
   ·exact n23 k.symm
   ·exact nA ⟨k,by rw [e3,k]⟩
 have hp0:=ja v hr0
 have hq0:=gR w1 hr0 hp0
 have hpe:=ao hp0
 have hqe:=ao hq0
 have hre:=ao hr0
 exact ⟨hpe,hqe,hre⟩
theorem BB {l1 m1 l2 m2 l3 m3 l4 m4 x1 x3 xA xB x4 x5:K} {y1 y3:K} (o1:y1*y1=x1*x1*x1+Crv.b) (o3:y3*y3=x3*x3*x3+Crv.b)
  (hA:Ln l1 m1 x1 x1 xA) (hB:Ln l2 m2 x1 x3 xB) (hC:Ln l3 m3 xA x3 x4) (hD:Ln l4 m4 xB x1 x5)
  (a1:y1=l1*x1+m1) (b1:y1=l2*x1+m2) (b3:y3=l2*x3+m2) (cA:l3*xA+m3 = -(l1*xA+m1)) (c3:y3=l3*x3+m3) (dB:l4*xB+m4 = -(l2*xB+m2)) (d1:y1=l4*x1+m4)
  (n13:x1 ≠ x3) (n1B:x1 ≠ xB) (nA : ¬ (x3=xA/\y3=l1*xA+m1)):xA+l1*l3=xB+l2*l4/\(l1*m3+l3*m1+xA*(xA+l1*l3)=l2*m4+l4*m2+xB*(xB+l2*l4))/\l1+l3=l2+l4:=by
 have f1:=cp hA cA a1
 have f3:=aU hC.turn cA c3
 have f4:=aU hC.turn.swap cA rfl
 have g3:=cp hB.swap dB b3
 have g1:=aU hD.turn dB d1
 have g5:=aU hD.turn.swap dB rfl
 have e4:=lv hA hC
 have e5:=lv hB hD
 have d1B:x1-xB ≠ 0:=fun e=>n1B (ao e)
 have d13:x1-x3 ≠ 0:=fun e=>n13 (ao e)
 have fd:=kU (m:=m1) (k:=l3) hA.s1
 have gd:=oJ o1 hB.on (qc hA a1) (kG b1) (by rw [<- dB];exact kG d1) d1B
 have w1:=dM f1 g1
 have w3:=dM f3 g3
 have v:=tU fd gd
 have hr0:(l1+l3)-(l2+l4)=0:=by
  rcases ar (iO w1 w3 a1 v) with e | e
  ·exact e
  ·exfalso
   have e3:=ao e
   rw [e3] at o3
   rcases hA.all o3 with k | k | k
   ·exact n13 k.symm
   ·exact n13 k.symm
   ·exact nA ⟨k,by rw [e3,k]⟩
 have hp0:=ja v hr0
 have hq0:=gR w1 hr0 hp0
 have hpe:=ao hp0
 have hqe:=ao hq0
 have hre:=ao hr0
 exact ⟨hpe,hqe,hre⟩
structure Lv (K M : Type) [Fld K] [Crv K] [CR M] where
 S:K->K->M
 F:K->K->K->M
 four : ∀ l m k n a,(l*a+m)*(l*a+m)=a*a*a+Crv.b->k*a+n = -(l*a+m)->S l m*S k n=F (a+l*k) (l*n+k*m+a*(a+l*k)) (l+k)
 opp : ∀ l m,S l m*S (-l) (-m)=1
variable {M : Type} [CR M] (v : Lv K M)
open Classical in
noncomputable def Lv.c:Pt K->Pt K->M
 | .aff x1 y1,.aff x2 y2=>if x1=x2/\y1 = -y2 then 1 else v.S (cd x1 y1 x2 y2) (y1-cd x1 y1 x2 y2*x1)
 | _,_=>1
theorem Lv.c_inf (p:Pt K):v.c .inf p=1:=by cases p <;> rfl
theorem Lv.c_inf' (p:Pt K):v.c p .inf=1:=by cases p <;> rfl
open Classical in
theorem Lv.c_opp {x1 y1 x2 y2:K} (h1:x1=x2) (h2:y1 = -y2):v.c (.aff x1 y1) (.aff x2 y2)=1:=by
 show (if x1=x2/\y1 = -y2 then (1:M) else _)=1
 rw [if_pos ⟨h1,h2⟩]
open Classical in
theorem Lv.c_ln {l m x1 y1 x2 y2 x3:K} (h:Ln l m x1 x2 x3) (h1:y1=l*x1+m) (h2:y2=l*x2+m):v.c (.aff x1 y1) (.aff x2 y2)=v.S l m:=by
 have o1:y1*y1=x1*x1*x1+Crv.b:=by rw [h1];exact h.turn.on
 have hn : ¬ (x1=x2/\y1 = -y2):=fun e=>by
  have:y2=y1:=by rw [h1,h2,e.1]
  rw [this] at e
  exact gY o1 e.2
 have hs:cd x1 y1 x2 y2=l:=by
  unfold cd
  by_cases hx:x1=x2
  ·rw [if_pos hx]
   have hi:=aO (au Crv.two (y_ne o1))
   generalize Fld.inv (2*y1)=i at *
   have hq:3*x1*x1=l*(2*y1):=by
    have e:l*(2*y1)=2*(l*l)*x1+2*(l*m):=by rw [h1];grind
    rw [e,h.s1,h.s2,hx]
    grind
   rw [hq]
   grind
  ·rw [if_neg hx]
   have hi:=aO (a:=x2-x1) (fun e=>hx (by grind))
   generalize Fld.inv (x2-x1)=i at *
   rw [h1,h2]
   grind
 show (if x1=x2/\y1 = -y2 then (1:M) else v.S (cd x1 y1 x2 y2) (y1-cd x1 y1 x2 y2*x1))=_
 rw [if_neg hn,hs,h1,show l*x1+m-l*x1=m by grind]
theorem Lv.coc_aff {x1 y1 x2 y2 x3 y3:K} (h1:(Pt.aff x1 y1).on) (h2:(Pt.aff x2 y2).on) (h3:(Pt.aff x3 y3).on) (n13:x1 ≠ x3) (n23:x2 ≠ x3) :
  v.c (.aff x1 y1) (.aff x2 y2)*v.c ((Pt.aff x1 y1).add (.aff x2 y2)) (.aff x3 y3)=v.c (.aff x2 y2) (.aff x3 y3)*v.c (.aff x1 y1) ((Pt.aff x2 y2).add (.aff x3 y3)):=by
 rcases bJ h2 h3 with ⟨e1,_,_⟩ | ⟨l2,m2,xB,hB,b2,b3,eB⟩
 ·exact absurd e1 n23
 have oB:(Pt.aff xB (-(l2*xB+m2))).on:=bl (p := .aff xB (l2*xB+m2)) hB.on
 rw [eB,v.c_ln hB b2 b3]
 rcases bJ h1 h2 with ⟨e1,e2,e⟩ | ⟨l1,m1,xA,hA,a1,a2,eA⟩
 ·rw [e,v.c_inf,v.c_opp e1 e2]
  subst e1
  have k:v.c (.aff x1 y1) (.aff xB (-(l2*xB+m2)))=v.S (-l2) (-m2):=v.c_ln hB.neg.turn.turn.swap (by rw [e2,b2];grind) (by grind)
  rw [k,v.opp]
  exact CR.mul_one _
 have oA:(Pt.aff xA (-(l1*xA+m1))).on:=bl (p := .aff xA (l1*xA+m1)) hA.on
 rw [eA,v.c_ln hA a1 a2]
 rcases bJ oA h3 with ⟨e1,e2,e⟩ | ⟨l3,m3,x4,hC,cA,c3,eC⟩
 ·rw [v.c_opp e1 e2]
  subst e1
  have e3:y3=l1*xA+m1:=by grind
  have k:=dr hA.turn a2 e3
  have k2:=v.c_ln hA.turn a2 e3
  rw [v.c_ln hB b2 b3] at k2
  rw [eB] at k
  injection k with k3 k4
  rw [k2,v.c_opp (x1:=x1) k3.symm (by rw [k4,a1];grind)]
 rcases bJ h1 oB with ⟨e1,e2,e⟩ | ⟨l4,m4,x5,hD,d1,dB,eD⟩
 ·exfalso
  subst e1
  have e3:y1=l2*x1+m2:=by grind
  have k:=dr hB.turn.turn e3 b2
  rw [eA] at k
  injection k with k1 k2
  have e4:y3=l1*xA+m1:=by rw [b3,<- k1];grind
  have e5 : -(l1*xA+m1)=l1*xA+m1:=by
   have:l3*xA+m3=l3*x3+m3:=by rw [k1]
   rw [cA,this,<- c3,e4]
  exact gY hA.on e5.symm
 rw [v.c_ln hC cA c3,v.c_ln hD d1 dB]
 have nA : ¬ (x3=xA/\y3=l1*xA+m1):=fun e=>by
  have:y3 = -(l1*xA+m1):=by rw [cA,<- e.1];exact c3
  exact gY hA.on (e.2.symm.trans this)
 rw [v.four l1 m1 l3 m3 xA hA.on cA.symm,v.four l2 m2 l4 m4 xB hB.on dB.symm]
 by_cases n12:x1=x2
 ·subst n12
  have e12:y1=y2:=by rw [a1,a2]
  subst e12
  have n1B:x1 ≠ xB:=fun e=>by
   subst e
   exact gY h1 (d1.trans (dB.symm.trans (by rw [<- b2])))
  obtain ⟨k1,k2,k3⟩:=BB h1 h3 hA hB hC hD.swap a1 b2 b3 cA.symm c3 dB.symm d1 n13 n1B nA
  rw [k2,k1,k3]
 ·obtain ⟨k1,k2,k3⟩:=Jk h3 hA hB hC hD.swap a1 a2 b2 b3 cA.symm c3 dB.symm d1 n12 n13 n23 nA
  rw [k2,k1,k3]
theorem Lv.coc_gen {p q r:Pt K} (hp:p.on) (hq:q.on) (hr:r.on) (h1 : ∀ x y z,p = .aff x y->r ≠ .aff x z) (h2 : ∀ x y z,q = .aff x y->r ≠ .aff x z) :
  v.c p q*v.c (p.add q) r=v.c q r*v.c p (q.add r):=by
 cases p with
 | inf=>rw [bE,v.c_inf,v.c_inf];grind
 | aff x1 y1 =>
  cases q with
  | inf=>rw [bO,bE,v.c_inf,v.c_inf']
  | aff x2 y2 =>
   cases r with
   | inf=>rw [bO,v.c_inf',v.c_inf'];grind
   | aff x3 y3=>exact v.coc_aff hp hq hr (fun e=>h1 x1 y1 y3 rfl (by rw [e])) (fun e=>h2 x2 y2 y3 rfl (by rw [e]))
def apart (p r:Pt K):Prop := ∀ x y z,p = .aff x y->r ≠ .aff x z
theorem Lv.c_unit (p q:Pt K) : ∃ i,v.c p q*i=1:=by
 cases p with
 | inf=>exact ⟨1,by rw [v.c_inf];exact CR.mul_one _⟩
 | aff x1 y1 =>
  cases q with
  | inf=>exact ⟨1,by rw [v.c_inf'];exact CR.mul_one _⟩
  | aff x2 y2 =>
   unfold Lv.c
   simp only
   split
   ·exact ⟨1,CR.mul_one _⟩
   ·exact ⟨_,v.opp _ _⟩
theorem xd {R:Type} [CR R] {a b c i:R} (h:c*i=1) (e:a*c=b*c):a=b:=by
 have h1:a*(c*i)=b*(c*i):=by rw [<- CR.mul_assoc,e,CR.mul_assoc]
 rw [h] at h1
 exact (CR.mul_one _).symm.trans (h1.trans (CR.mul_one _))
theorem gN {n:Nat} {p d:Pt K} (hp:p.on) (hd:d.on) (h:p.mul n = .inf) (hn:d.mul n ≠ .inf):apart p d:=by
 intro x y z e1 e2
 subst e1 e2
 rcases gO hp hd with e | e
 ·rw [<- e] at hn;exact hn h
 ·rw [e,qP hp,h] at hn;exact hn rfl
theorem Lv.coc {n:Nat} {d:Pt K} (hd:d.on) (hn:d.mul n ≠ .inf) {p q r:Pt K} (hp:p.on) (hq:q.on) (hr:r.on) (kp:p.mul n = .inf) (kq:q.mul n = .inf) (kr:r.mul n = .inf) :
  v.c p q*v.c (p.add q) r=v.c q r*v.c p (q.add r):=by
 have opq:=aX hp hq
 have oqr:=aX hq hr
 have ord:=aX hr hd
 have kpq:(p.add q).mul n = .inf:=by rw [cj hp hq,kp,kq];rfl
 have kqr:(q.add r).mul n = .inf:=by rw [cj hq hr,kq,kr];rfl
 have nrd:(r.add d).mul n ≠ .inf:=by rw [cj hr hd,kr,bE];exact hn
 have a1:=gN hp hd kp hn
 have a2:=gN hq hd kq hn
 have a3:=gN hr hd kr hn
 have a4:=gN opq hd kpq hn
 have a5:=gN oqr hd kqr hn
 have a6:=gN hp ord kp nrd
 have a7:=gN hq ord kq nrd
 have e1:=v.coc_gen hq hr hd a2 a3
 have e2:=v.coc_gen hp oqr hd a1 a5
 have e3:=v.coc_gen opq hr hd a4 a3
 have e4:=v.coc_gen hp hq ord a6 a7
 rw [aI hq hr hd] at e2
 rw [aI hp hq hr] at e3
 obtain ⟨i,hne⟩:=v.c_unit (p.add (q.add r)) d
 generalize v.c (p.add (q.add r)) d=z at *
 generalize v.c p q=c1 at *
 generalize v.c (p.add q) r=c2 at *
 generalize v.c q r=c3 at *
 generalize v.c p (q.add r)=c4 at *
 generalize v.c r d=c5 at *
 generalize v.c (q.add r) d=c6 at *
 generalize v.c q (r.add d)=c7 at *
 generalize v.c p (q.add (r.add d))=c8 at *
 generalize v.c (p.add q) (r.add d)=c9 at *
 apply xd hne
 have f1:c1*c2*z=c5*(c7*c8):=by
  have:c1*c2*z=c1*(c2*z):=by grind
  rw [this,e3,<- e4]
  grind
 have f2:c3*c4*z=c5*(c7*c8):=by
  have:c3*c4*z=c3*(c4*z):=by grind
  rw [this,e2]
  have:c3*(c6*c8)=(c3*c6)*c8:=by grind
  rw [this,e1]
  grind
 rw [f1,f2]
noncomputable def Lv.f (q:Pt K):Nat->M
 | 0=>1
 | n+1=>Lv.f q n*v.c (q.mul n) q
section
variable {n : Nat} {d : Pt K} (hd : d.on) (hn : d.mul n ≠ .inf)
def Pt.sub (n:Nat) (p:Pt K):Prop:=p.on/\p.mul n = .inf
include hd hn in
theorem Lv.coc' {p q r:Pt K} (hp:p.sub n) (hq:q.sub n) (hr:r.sub n):v.c p q*v.c (p.add q) r=v.c q r*v.c p (q.add r):=v.coc hd hn hp.1 hq.1 hr.1 hp.2 hq.2 hr.2
theorem L0 {p q:Pt K} (hp:p.sub n) (hq:q.sub n):(p.add q).sub n:=⟨aX hp.1 hq.1,by rw [cj hp.1 hq.1,hp.2,hq.2];rfl⟩
theorem sub_mul {p:Pt K} (hp:p.sub n) (k:Nat):(p.mul k).sub n:=⟨bC hp.1 k,by rw [<- fa hp.1,Nat.mul_comm,fa hp.1,hp.2,dX]⟩
include hd hn in
theorem Lv.f_add {q:Pt K} (hq:q.sub n) (j:Nat) : ∀ k,v.f q (j+k)=v.f q j*v.f q k*v.c (q.mul j) (q.mul k)
 | 0=>by
  show v.f q j=v.f q j*1*v.c (q.mul j) (q.mul 0)
  rw [cX,v.c_inf']
  grind
 | k+1=>by
  have ih:=Lv.f_add hq j k
  have e:=v.coc' hd hn (sub_mul hq j) (sub_mul hq k) hq
  show v.f q (j+k)*v.c (q.mul (j+k)) q=v.f q j*(v.f q k*v.c (q.mul k) q)*v.c (q.mul j) (q.mul (k+1))
  rw [ih,bU hq.1,aK]
  generalize v.c (q.mul j) (q.mul k)=c1 at *
  generalize v.c ((q.mul j).add (q.mul k)) q=c2 at *
  generalize v.c (q.mul k) q=c3 at *
  generalize v.c (q.mul j) ((q.mul k).add q)=c4 at *
  have:v.f q j*v.f q k*c1*c2=v.f q j*v.f q k*(c1*c2):=by grind
  rw [this,e]
  grind
end
end
end Go.Proofs.Ytibfppbffdedoaa
namespace Go.Proofs.Ytibfppbffdedoaa
theorem Fm {R:Type} [CR R] (l m k n a b X Y:R) (hk:n = -(l*a+m)-k*a):(Y-l*X-m)*(Y-k*X-n)-(X-a)*(X*X+(a+l*k)*X+(l*n+k*m+a*(a+l*k))-(l+k)*Y)=(Y*Y-X*X*X-b)-((l*a+m)*(l*a+m)-a*a*a-b):=by
 subst hk
 grind
theorem Fn {R:Type} [CR R] {l m k n a b X Y:R} (hY:Y*Y=X*X*X+b) (ha:(l*a+m)*(l*a+m)=a*a*a+b) (hk:k*a+n = -(l*a+m)):(Y-l*X-m)*(Y-k*X-n)=(X-a)*(X*X+(a+l*k)*X+(l*n+k*m+a*(a+l*k))-(l+k)*Y):=by
 have h:=Fm l m k n a b X Y (by rw [<- hk];clear hk ha hY;grind)
 rw [hY,ha] at h
 clear hk ha hY
 generalize (Y-l*X-m)*(Y-k*X-n)=u at *
 generalize (X-a)*(X*X+(a+l*k)*X+(l*n+k*m+a*(a+l*k))-(l+k)*Y)=w at *
 grind
end Go.Proofs.Ytibfppbffdedoaa
namespace Go.Proofs.Ytibfppbffdedoaa
section
variable {R : Type} [CR R]
def hor (x:R):List R->R
 | []=>0
 | a :: l=>a+x*hor x l
theorem Dn (x:R):hor x []=0:=rfl
theorem sx (x a:R) (l:List R):hor x (a :: l)=a+x*hor x l:=rfl
theorem j6 (x a:R) : ∀ l:List R,hor x (l ++ [a])=hor x l+x ^ l.length*a
 | []=>by
  rw [List.nil_append,sx,Dn,List.length_nil,bT]
  grind
 | b :: l=>by
  rw [List.cons_append,sx,j6 x a l,sx,List.length_cons,an]
  generalize x ^ l.length=y
  grind
end
end Go.Proofs.Ytibfppbffdedoaa
