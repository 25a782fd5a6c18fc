/- Texts of the proof, joined. -/
import Derived.Test.YtcbplfkeeaecgaaGreatZF5
set_option linter.unusedSectionVars false
set_option linter.unusedSimpArgs false
set_option linter.unusedVariables false
namespace Go.Proofs.YtcbplfkeeaecgaaGreat
def W64:Nat:=18446744073709551616
def pN:Nat:=0x1a0111ea397fe69a4b1ba7b6434bacd764774b84f38512bf6730d2a0f6b0f6241eabfffeb153ffffb9feffffffffaaab
def rN:Nat:=0x1000000000000000000000000000000000000000000000000000000000000000000000000000000000000000000000000
def Fp.nat (a:Fp):Nat:=a.l0.toNat+W64*(a.l1.toNat+W64*(a.l2.toNat+W64*(a.l3.toNat+W64*(a.l4.toNat+W64*a.l5.toNat))))
theorem Fp.nat_lt (a:Fp):a.nat<rN:=by
 have h0:=a.l0.toNat_lt
 have h1:=a.l1.toNat_lt
 have h2:=a.l2.toNat_lt
 have h3:=a.l3.toNat_lt
 have h4:=a.l4.toNat_lt
 have h5:=a.l5.toNat_lt
 unfold Fp.nat rN W64
 omega
theorem Fp.nat_inj {a b:Fp} (h:a.nat=b.nat):a=b:=by
 have h0:=a.l0.toNat_lt
 have h1:=a.l1.toNat_lt
 have h2:=a.l2.toNat_lt
 have h3:=a.l3.toNat_lt
 have h4:=a.l4.toNat_lt
 have h5:=a.l5.toNat_lt
 have k0:=b.l0.toNat_lt
 have k1:=b.l1.toNat_lt
 have k2:=b.l2.toNat_lt
 have k3:=b.l3.toNat_lt
 have k4:=b.l4.toNat_lt
 have k5:=b.l5.toNat_lt
 unfold Fp.nat W64 at h
 obtain ⟨a0,a1,a2,a3,a4,a5⟩:=a
 obtain ⟨b0,b1,b2,b3,b4,b5⟩:=b
 simp only [] at *
 have e0:a0=b0:=UInt64.toNat.inj (by omega)
 have e1:a1=b1:=UInt64.toNat.inj (by omega)
 have e2:a2=b2:=UInt64.toNat.inj (by omega)
 have e3:a3=b3:=UInt64.toNat.inj (by omega)
 have e4:a4=b4:=UInt64.toNat.inj (by omega)
 have e5:a5=b5:=UInt64.toNat.inj (by omega)
 rw [e0,e1,e2,e3,e4,e5]
theorem pLimbs_nat:pLimbs.nat=pN:=by decide +kernel
theorem add_step (x y:UInt64) (c:Bool):(addS x y c).toNat+W64*(addC x y c).toNat=x.toNat+y.toNat+c.toNat:=by
 rw [addS_nat,addC_nat]
 unfold W64
 omega
theorem subB_nat (x y:UInt64) (c:Bool):(subB x y c).toNat=if x.toNat<y.toNat+c.toNat then 1 else 0:=by
 rw [subB_iff]
 by_cases h:x.toNat<y.toNat+c.toNat <;> simp [h]
theorem sub_step (x y:UInt64) (c:Bool):(subS x y c).toNat+y.toNat+c.toNat=x.toNat+W64*(subB x y c).toNat:=by
 have hx:=x.toNat_lt
 have hy:=y.toNat_lt
 have hc:c.toNat<=1:=by cases c <;> simp
 rw [subS_nat,subB_nat]
 unfold W64
 split <;> omega
theorem addT_nat (a b:Fp):(addT a b).1.nat+rN*(addT a b).2.toNat=a.nat+b.nat:=by
 unfold addT
 simp only []
 have s0:=add_step a.l0 b.l0 false
 generalize addC a.l0 b.l0 false=c0 at *
 have s1:=add_step a.l1 b.l1 c0
 generalize addC a.l1 b.l1 c0=c1 at *
 have s2:=add_step a.l2 b.l2 c1
 generalize addC a.l2 b.l2 c1=c2 at *
 have s3:=add_step a.l3 b.l3 c2
 generalize addC a.l3 b.l3 c2=c3 at *
 have s4:=add_step a.l4 b.l4 c3
 generalize addC a.l4 b.l4 c3=c4 at *
 have s5:=add_step a.l5 b.l5 c4
 generalize addC a.l5 b.l5 c4=c5 at *
 unfold Fp.nat rN W64 at *
 simp only [Bool.toNat_false] at *
 omega
theorem subT_nat (a b:Fp):(subT a b).1.nat+b.nat=a.nat+rN*(subT a b).2.toNat:=by
 unfold subT
 simp only []
 have s0:=sub_step a.l0 b.l0 false
 generalize subB a.l0 b.l0 false=c0 at *
 have s1:=sub_step a.l1 b.l1 c0
 generalize subB a.l1 b.l1 c0=c1 at *
 have s2:=sub_step a.l2 b.l2 c1
 generalize subB a.l2 b.l2 c1=c2 at *
 have s3:=sub_step a.l3 b.l3 c2
 generalize subB a.l3 b.l3 c2=c3 at *
 have s4:=sub_step a.l4 b.l4 c3
 generalize subB a.l4 b.l4 c3=c4 at *
 have s5:=sub_step a.l5 b.l5 c4
 generalize subB a.l5 b.l5 c4=c5 at *
 unfold Fp.nat rN W64 at *
 simp only [Bool.toNat_false] at *
 omega
theorem lessT_eq (a:Fp):lessT a=subT a pLimbs:=rfl
theorem lessF_nat (a:Fp) (o:UInt64) (ho:o.toNat<=1) (h:a.nat+rN*o.toNat<2*pN):(lessF a o).nat=(a.nat+rN*o.toNat) % pN:=by
 have h1:=subT_nat a pLimbs
 rw [pLimbs_nat] at h1
 have h2:=(subT a pLimbs).1.nat_lt
 have h3:=a.nat_lt
 have hb:(subT a pLimbs).2.toNat<=1:=by cases (subT a pLimbs).2 <;> simp
 have hd:decide (o<b2u (lessT a).2)=decide (o.toNat<(subT a pLimbs).2.toNat):=by
  rw [lessT_eq]
  refine decide_eq_decide.2 ?_
  rw [UInt64.lt_iff_toNat_lt,b2u_nat]
 unfold lessF
 rw [hd,lessT_eq]
 have hp:pN<rN:=by decide +kernel
 have hp0:0<pN:=by decide +kernel
 by_cases hc:o.toNat<(subT a pLimbs).2.toNat
 ·simp only [hc,decide_true]
  have e0:o.toNat=0:=by omega
  have e1:(subT a pLimbs).2.toNat=1:=by omega
  rw [e0] at h ⊢
  rw [e1] at h1
  rw [Nat.mod_eq_of_lt (by omega)]
  omega
 ·simp only [hc,decide_false]
  have e2:(subT a pLimbs).1.nat+pN=a.nat+rN*o.toNat:=by
   rcases Nat.lt_or_ge (subT a pLimbs).2.toNat o.toNat with hl | hl
   ·have e0:o.toNat=1:=by omega
    have e1:(subT a pLimbs).2.toNat=0:=by omega
    rw [e1] at h1
    rw [e0] at h ⊢
    omega
   ·have e1:(subT a pLimbs).2.toNat=o.toNat:=by omega
    rw [e1] at h1
    exact h1
  rw [<- e2,Nat.add_mod_right,Nat.mod_eq_of_lt (by omega)]
theorem addF_nat {a b:Fp} (ha:a.nat<pN) (hb:b.nat<pN):(addF a b).nat=(a.nat+b.nat) % pN:=by
 unfold addF
 have h:=addT_nat a b
 rw [lessF_nat _ _ (by rw [b2u_nat];cases (addT a b).2 <;> simp) (by rw [b2u_nat,h];omega),b2u_nat,h]
theorem subF_nat {a b:Fp} (ha:a.nat<pN) (hb:b.nat<pN):(subF a b).nat=(a.nat+pN-b.nat) % pN:=by
 have h1:=subT_nat a b
 have h2:=(subT a b).1.nat_lt
 have hp:pN<rN:=by decide +kernel
 have hd:decide (b2u (subT a b).2=0)=decide ((subT a b).2.toNat=0):=by
  refine decide_eq_decide.2 ⟨fun h=>by rw [<- b2u_nat,h];rfl,fun h=>UInt64.toNat.inj (by rw [b2u_nat,h];rfl)⟩
 unfold subF
 rw [hd]
 by_cases hc:(subT a b).2.toNat=0
 ·simp only [hc,decide_true]
  rw [hc] at h1
  rw [show a.nat+pN-b.nat=(subT a b).1.nat+pN by omega,Nat.add_mod_right,Nat.mod_eq_of_lt (by omega)]
 ·simp only [hc,decide_false]
  have e1:(subT a b).2.toNat=1:=by cases h:(subT a b).2 <;> simp [h] at hc ⊢
  rw [e1] at h1
  have h3:=addT_nat (subT a b).1 pLimbs
  rw [pLimbs_nat] at h3
  have h4:=(addT (subT a b).1 pLimbs).1.nat_lt
  have e2:(addT (subT a b).1 pLimbs).2.toNat=1:=by
   cases h:(addT (subT a b).1 pLimbs).2 with
   | true=>rfl
   | false=>rw [h] at h3;simp only [Bool.toNat_false] at h3;omega
  rw [e2] at h3
  rw [Nat.mod_eq_of_lt (by omega)]
  omega
end Go.Proofs.YtcbplfkeeaecgaaGreat
namespace Go.Proofs.YtcbplfkeeaecgaaGreat
def L7.nat (t:L7):Nat:=t.t0.toNat+W64*(t.t1.toNat+W64*(t.t2.toNat+W64*(t.t3.toNat+W64*(t.t4.toNat+W64*(t.t5.toNat+W64*t.t6.toNat)))))
theorem L7.nat_low (t:L7):t.nat=t.low.nat+rN*t.t6.toNat:=by
 unfold L7.nat L7.low Fp.nat rN W64
 simp only []
 omega
theorem zip0 (y t U:Nat):y+t+W64*U=(t+W64*U)+y:=by omega
theorem zipS {y t U T Y:Nat} (h:U=T+Y):y+t+W64*U=(t+W64*T)+(y+W64*Y):=by
 subst h
 unfold W64
 omega
theorem zipE {A d T Y t y:Nat} (h:A=T+Y) (q:d*W64=y+t):(A+d)*W64=(t+W64*T)+(y+W64*Y):=by
 rw [h,Nat.add_mul,q,Nat.add_mul,Nat.mul_comm T,Nat.mul_comm Y]
 omega
theorem mac_w (x y t c:UInt64):(macH x y t c).toNat*W64+(macL x y t c).toNat=x.toNat*y.toNat+t.toNat+c.toNat:=mac_nat x y t c
theorem limb_step {m d y t c R U:Nat} (q:d*W64+m=y+t+c) (h:R=U+d):m+W64*R=(y+t+W64*U)+c:=by
 subst h
 unfold W64 at *
 omega
theorem low_step (t:UInt64):(mulHi (t*pInv) pLimbs.l0+b2u (addC (t*pInv*pLimbs.l0) t false)).toNat*W64=(t*pInv).toNat*pLimbs.l0.toNat+t.toNat:=by
 generalize hx:t*pInv=x
 have hx':x.toNat=t.toNat*9940570264628428797 % 18446744073709551616:=by rw [<- hx,UInt64.toNat_mul];rfl
 have hp:pLimbs.l0.toNat=13402431016077863595:=rfl
 have ht:=t.toNat_lt
 have hlt:=x.toNat_lt
 rw [UInt64.toNat_add,b2u_nat,addC_nat,mulHi_nat,UInt64.toNat_mul,hp]
 simp only [Bool.toNat_false,Nat.add_zero]
 unfold W64
 have key:(x.toNat*13402431016077863595 % 18446744073709551616+t.toNat) % 18446744073709551616=0:=by
  rw [hx']
  omega
 omega
theorem roundB_nat (t0 t1 t2 t3 t4 t5 top:UInt64) (more:Bool) :
  (roundB t0 t1 t2 t3 t4 t5 top more).nat*W64=(t0.toNat+W64*(t1.toNat+W64*(t2.toNat+W64*(t3.toNat+W64*(t4.toNat+W64*(t5.toNat+W64*(top.toNat+W64*more.toNat)))))))+(t0*pInv).toNat*pN:=by
 have q0:=low_step t0
 unfold roundB
 simp only [L7.nat]
 generalize mulHi (t0*pInv) pLimbs.l0+b2u (addC (t0*pInv*pLimbs.l0) t0 false)=d0 at *
 generalize t0*pInv=x at *
 have q1:=mac_w x pLimbs.l1 t1 d0
 generalize macH x pLimbs.l1 t1 d0=d1 at *
 have q2:=mac_w x pLimbs.l2 t2 d1
 generalize macH x pLimbs.l2 t2 d1=d2 at *
 have q3:=mac_w x pLimbs.l3 t3 d2
 generalize macH x pLimbs.l3 t3 d2=d3 at *
 have q4:=mac_w x pLimbs.l4 t4 d3
 generalize macH x pLimbs.l4 t4 d3=d4 at *
 have q5:=mac_w x pLimbs.l5 t5 d4
 generalize macH x pLimbs.l5 t5 d4=d5 at *
 have q6:=add_step top d5 false
 have q7:(b2u more+b2u (addC top d5 false)).toNat=more.toNat+(addC top d5 false).toNat:=by
  rw [UInt64.toNat_add,b2u_nat,b2u_nat]
  cases more <;> cases addC top d5 false <;> rfl
 rw [q7]
 have ep:pN=pLimbs.l0.toNat+W64*(pLimbs.l1.toNat+W64*(pLimbs.l2.toNat+W64*(pLimbs.l3.toNat+W64*(pLimbs.l4.toNat+W64*pLimbs.l5.toNat)))):=by decide +kernel
 have exp:x.toNat*pN=x.toNat*pLimbs.l0.toNat+W64*(x.toNat*pLimbs.l1.toNat+W64*(x.toNat*pLimbs.l2.toNat+W64*(x.toNat*pLimbs.l3.toNat+W64*(x.toNat*pLimbs.l4.toNat+W64*(x.toNat*pLimbs.l5.toNat))))):=by
  rw [ep]
  simp only [Nat.mul_add,Nat.mul_left_comm x.toNat W64]
 rw [exp]
 have s6:(addS top d5 false).toNat+W64*(more.toNat+(addC top d5 false).toNat)=(top.toNat+W64*more.toNat)+d5.toNat:=by
  simp only [Bool.toNat_false] at q6
  unfold W64 at *
  omega
 have s5:=limb_step q5 s6
 have s4:=limb_step q4 s5
 have s3:=limb_step q3 s4
 have s2:=limb_step q2 s3
 have s1:=limb_step q1 s2
 rw [s1]
 generalize x.toNat*pLimbs.l0.toNat=y0 at *
 generalize x.toNat*pLimbs.l1.toNat=y1 at *
 generalize x.toNat*pLimbs.l2.toNat=y2 at *
 generalize x.toNat*pLimbs.l3.toNat=y3 at *
 generalize x.toNat*pLimbs.l4.toNat=y4 at *
 generalize x.toNat*pLimbs.l5.toNat=y5 at *
 exact zipE (zipS (zipS (zipS (zipS (zip0 _ _ _))))) q0
theorem roundF_nat (a:Fp) (b:UInt64) (t:L7) : ∃ m:Nat,m<W64/\(roundF a b t).nat*W64=t.nat+a.nat*b.toNat+m*pN:=by
 unfold roundF
 simp only []
 have q0:=mac_w a.l0 b t.t0 0
 generalize macH a.l0 b t.t0 0=c0 at *
 have q1:=mac_w a.l1 b t.t1 c0
 generalize macH a.l1 b t.t1 c0=c1 at *
 have q2:=mac_w a.l2 b t.t2 c1
 generalize macH a.l2 b t.t2 c1=c2 at *
 have q3:=mac_w a.l3 b t.t3 c2
 generalize macH a.l3 b t.t3 c2=c3 at *
 have q4:=mac_w a.l4 b t.t4 c3
 generalize macH a.l4 b t.t4 c3=c4 at *
 have q5:=mac_w a.l5 b t.t5 c4
 generalize macH a.l5 b t.t5 c4=c5 at *
 have q6:=add_step t.t6 c5 false
 refine ⟨(macL a.l0 b t.t0 0*pInv).toNat,UInt64.toNat_lt _,?_⟩
 rw [roundB_nat]
 refine congrArg (fun z=>z+(macL a.l0 b t.t0 0*pInv).toNat*pN) ?_
 have e:a.nat*b.toNat=a.l0.toNat*b.toNat+W64*(a.l1.toNat*b.toNat+W64*(a.l2.toNat*b.toNat+W64*(a.l3.toNat*b.toNat+W64*(a.l4.toNat*b.toNat+W64*(a.l5.toNat*b.toNat))))):=by
  unfold Fp.nat
  simp only [Nat.add_mul,Nat.mul_assoc]
 rw [e]
 have s6:(addS t.t6 c5 false).toNat+W64*(addC t.t6 c5 false).toNat=t.t6.toNat+c5.toNat:=by simpa using q6
 have s5:=limb_step q5 s6
 have s4:=limb_step q4 s5
 have s3:=limb_step q3 s4
 have s2:=limb_step q2 s3
 have s1:=limb_step q1 s2
 have s0:=limb_step q0 s1
 rw [s0]
 have z:(0:UInt64).toNat=0:=rfl
 rw [z,L7.nat]
 generalize a.l0.toNat*b.toNat=x0 at *
 generalize a.l1.toNat*b.toNat=x1 at *
 generalize a.l2.toNat*b.toNat=x2 at *
 generalize a.l3.toNat*b.toNat=x3 at *
 generalize a.l4.toNat*b.toNat=x4 at *
 generalize a.l5.toNat*b.toNat=x5 at *
 rw [Nat.add_zero]
 exact zipS (zipS (zipS (zipS (zipS (zip0 _ _ _)))))
theorem round_bound {a:Fp} {b:UInt64} {t:L7} (h:t.nat<a.nat+pN):(roundF a b t).nat<a.nat+pN:=by
 obtain ⟨m,hm,e⟩:=roundF_nat a b t
 have hb:=b.toNat_lt
 have h1:a.nat*b.toNat<=a.nat*(W64-1):=Nat.mul_le_mul_left _ (by unfold W64;omega)
 have h2:m*pN<=(W64-1)*pN:=Nat.mul_le_mul_right _ (by omega)
 have h3:(roundF a b t).nat*W64<(a.nat+pN)*W64:=by
  rw [e]
  unfold W64 at *
  omega
 exact Nat.lt_of_mul_lt_mul_right h3
set_option maxRecDepth 100000 in
theorem halfT_nat (a b:Fp) : ∃ k:Nat,(halfT a b).nat*rN=a.nat*b.nat+k*pN/\(halfT a b).nat<a.nat+pN:=by
 have hp0:0<pN:=by decide +kernel
 obtain ⟨m0,_,e0⟩:=roundF_nat a b.l0 ⟨0,0,0,0,0,0,0⟩
 obtain ⟨m1,_,e1⟩:=roundF_nat a b.l1 (half1 a b)
 obtain ⟨m2,_,e2⟩:=roundF_nat a b.l2 (half2 a b)
 obtain ⟨m3,_,e3⟩:=roundF_nat a b.l3 (half3 a b)
 obtain ⟨m4,_,e4⟩:=roundF_nat a b.l4 (half4 a b)
 obtain ⟨m5,_,e5⟩:=roundF_nat a b.l5 (half5 a b)
 have z:(L7.mk 0 0 0 0 0 0 0).nat=0:=by decide +kernel
 have b0:(half1 a b).nat<a.nat+pN:=round_bound (by rw [z];omega)
 have b1:(half2 a b).nat<a.nat+pN:=round_bound b0
 have b2:(half3 a b).nat<a.nat+pN:=round_bound b1
 have b3:(half4 a b).nat<a.nat+pN:=round_bound b2
 have b4:(half5 a b).nat<a.nat+pN:=round_bound b3
 refine ⟨m0+W64*(m1+W64*(m2+W64*(m3+W64*(m4+W64*m5)))),?_,round_bound b4⟩
 rw [z] at e0
 change (half1 a b).nat*W64=_ at e0
 change (half2 a b).nat*W64=_ at e1
 change (half3 a b).nat*W64=_ at e2
 change (half4 a b).nat*W64=_ at e3
 change (half5 a b).nat*W64=_ at e4
 change (halfT a b).nat*W64=_ at e5
 have er:rN=W64*(W64*(W64*(W64*(W64*W64)))):=by decide +kernel
 have eb:a.nat*b.nat=a.nat*b.l0.toNat+W64*(a.nat*b.l1.toNat+W64*(a.nat*b.l2.toNat+W64*(a.nat*b.l3.toNat+W64*(a.nat*b.l4.toNat+W64*(a.nat*b.l5.toNat))))):=by
  rw [show b.nat=b.l0.toNat+W64*(b.l1.toNat+W64*(b.l2.toNat+W64*(b.l3.toNat+W64*(b.l4.toNat+W64*b.l5.toNat)))) from rfl]
  simp only [Nat.mul_add,Nat.mul_left_comm a.nat W64]
 have ek:(m0+W64*(m1+W64*(m2+W64*(m3+W64*(m4+W64*m5)))))*pN=m0*pN+W64*(m1*pN+W64*(m2*pN+W64*(m3*pN+W64*(m4*pN+W64*(m5*pN))))):=by
  simp only [Nat.add_mul,Nat.mul_assoc]
 rw [er,eb,ek]
 have st : ∀ {t' t z R:Nat},t'*W64=t+z -> ∀ s:Nat,t'*(W64*s)=(t+z)*s:=fun h s=>by rw [<- Nat.mul_assoc,h]
 rw [st (R:=0) (t:=(half5 a b).nat) (z:=a.nat*b.l5.toNat+m5*pN) (by rw [e5,Nat.add_assoc])]
 rw [Nat.add_mul,st (R:=0) (t:=(half4 a b).nat) (z:=a.nat*b.l4.toNat+m4*pN) (by rw [e4,Nat.add_assoc])]
 rw [Nat.add_mul _ _ (W64*(W64*(W64*W64))),st (R:=0) (t:=(half3 a b).nat) (z:=a.nat*b.l3.toNat+m3*pN) (by rw [e3,Nat.add_assoc])]
 rw [Nat.add_mul _ _ (W64*(W64*W64)),st (R:=0) (t:=(half2 a b).nat) (z:=a.nat*b.l2.toNat+m2*pN) (by rw [e2,Nat.add_assoc])]
 rw [Nat.add_mul _ _ (W64*W64),st (R:=0) (t:=(half1 a b).nat) (z:=a.nat*b.l1.toNat+m1*pN) (by rw [e1,Nat.add_assoc])]
 rw [Nat.add_mul _ _ W64,e0]
 generalize a.nat*b.l0.toNat=x0
 generalize a.nat*b.l1.toNat=x1
 generalize a.nat*b.l2.toNat=x2
 generalize a.nat*b.l3.toNat=x3
 generalize a.nat*b.l4.toNat=x4
 generalize a.nat*b.l5.toNat=x5
 generalize m0*pN=y0
 generalize m1*pN=y1
 generalize m2*pN=y2
 generalize m3*pN=y3
 generalize m4*pN=y4
 generalize m5*pN=y5
 clear e0 e1 e2 e3 e4 e5 eb ek st
 unfold W64
 omega
theorem halfF_nat {a b:Fp} (ha:a.nat<pN):(halfF a b).nat<pN/\((halfF a b).nat*rN) % pN=(a.nat*b.nat) % pN:=by
 obtain ⟨k,h1,h2⟩:=halfT_nat a b
 rw [L7.nat_low] at h1 h2
 have hlt:=(halfT a b).low.nat_lt
 have hpr:2*pN<rN:=by decide +kernel
 have hp0:0<pN:=by decide +kernel
 have h6:(halfT a b).t6.toNat<=1:=by
  rcases Nat.lt_or_ge (halfT a b).t6.toNat 1 with h | h
  ·omega
  ·have:rN*1<=rN*(halfT a b).t6.toNat:=Nat.mul_le_mul_left _ h
   omega
 have h:=lessF_nat (halfT a b).low (halfT a b).t6 h6 (by omega)
 have e:(halfF a b).nat=((halfT a b).low.nat+rN*(halfT a b).t6.toNat) % pN:=h
 rw [e]
 refine ⟨Nat.mod_lt _ hp0,?_⟩
 rw [Nat.mod_mul_mod,h1,Nat.add_mul_mod_self_right]
end Go.Proofs.YtcbplfkeeaecgaaGreat
namespace Go.Proofs.YtcbplfkeeaecgaaGreat
def rInv:Nat:=0x14fec701e8fb0ce9ed5e64273c4f538b1797ab1458a88de9343ea97914956dc87fe11274d898fafbf4d38259380b4820
theorem r_inv:rN*rInv % pN=1:=by decide +kernel
theorem r_cancel {x y:Nat} (h:x*rN % pN=y*rN % pN):x % pN=y % pN:=by
 have e : ∀ z:Nat,z % pN=(z*rN % pN)*rInv % pN:=by
  intro z
  rw [Nat.mod_mul_mod,Nat.mul_assoc,Nat.mul_mod,r_inv,Nat.mul_one,Nat.mod_mod]
 rw [e x,e y,h]
theorem sq_nat:sqLimbs.nat=rN*rN % pN:=by decide +kernel
theorem one_nat:oneFp.nat=1:=by decide +kernel
theorem zero_nat:zeroFp.nat=0:=by decide +kernel
theorem pN_pos:0<pN:=by decide +kernel
theorem wholeF_nat {a:Fp} (ha:a.nat<pN):(wholeF a).nat=a.nat*rN % pN:=by
 obtain ⟨h1,h2⟩:=halfF_nat (b:=sqLimbs) ha
 have h3:(wholeF a).nat*rN % pN=(a.nat*rN)*rN % pN:=by
  rw [show (wholeF a).nat=(halfF a sqLimbs).nat from rfl,h2,sq_nat,Nat.mul_mod_mod,Nat.mul_assoc]
 rw [<- r_cancel h3]
 exact (Nat.mod_eq_of_lt h1).symm
theorem lowF_nat {a:Fp} (ha:a.nat<pN):(lowF a).nat<pN/\(lowF a).nat*rN % pN=a.nat:=by
 obtain ⟨h1,h2⟩:=halfF_nat (b:=oneFp) ha
 rw [one_nat,Nat.mul_one,Nat.mod_eq_of_lt ha] at h2
 exact ⟨h1,h2⟩
theorem mulF_nat {a b:Fp} (ha:a.nat<pN):(mulF a b).nat=a.nat*b.nat % pN:=by
 obtain ⟨h1,h2⟩:=halfF_nat (b:=b) ha
 rw [show mulF a b=wholeF (halfF a b) from rfl,wholeF_nat h1,h2]
theorem mulF_lt {a b:Fp} (ha:a.nat<pN):(mulF a b).nat<pN:=by rw [mulF_nat ha];exact Nat.mod_lt _ pN_pos
theorem addF_lt {a b:Fp} (ha:a.nat<pN) (hb:b.nat<pN):(addF a b).nat<pN:=by rw [addF_nat ha hb];exact Nat.mod_lt _ pN_pos
theorem subF_lt {a b:Fp} (ha:a.nat<pN) (hb:b.nat<pN):(subF a b).nat<pN:=by rw [subF_nat ha hb];exact Nat.mod_lt _ pN_pos
theorem negF_nat {a:Fp} (ha:a.nat<pN):(negF a).nat=(pN-a.nat) % pN:=by
 rw [show negF a=subF zeroFp a from rfl,subF_nat (by rw [zero_nat];exact pN_pos) ha,zero_nat,Nat.zero_add]
def eLow (e:List UInt64):Nat->Nat
 | 0=>0
 | n+1=>eLow e n+(bitAt e n).toNat*2 ^ n
theorem powAt_nat {x:Fp} {a:Nat} (e:List UInt64) (hx:x.nat=a*rN % pN) : ∀ (n:Nat) (o:Fp) (v:Nat),o.nat=v*rN % pN ->
  (powAt x e n o).nat=v ^ 2 ^ n*a ^ eLow e n % pN
 | 0,o,v,ho=>by
  have hlt:o.nat<pN:=by rw [ho];exact Nat.mod_lt _ pN_pos
  obtain ⟨h1,h2⟩:=lowF_nat hlt
  have h3:=r_cancel (h2.trans ho)
  simp only [powAt,eLow,Nat.pow_zero,Nat.pow_one,Nat.mul_one]
  rw [<- h3]
  exact (Nat.mod_eq_of_lt h1).symm
 | n+1,o,v,ho=>by
  have hlt:o.nat<pN:=by rw [ho];exact Nat.mod_lt _ pN_pos
  have hmul : ∀ {p q:Fp} {s t:Nat},p.nat=s*rN % pN->q.nat=t*rN % pN->(halfF p q).nat=(s*t)*rN % pN:=by
   intro p q s t hp hq
   obtain ⟨h1,h2⟩:=halfF_nat (a:=p) (b:=q) (by rw [hp];exact Nat.mod_lt _ pN_pos)
   have h3:(halfF p q).nat*rN % pN=((s*t)*rN)*rN % pN:=by
    rw [h2,hp,hq,<- Nat.mul_mod]
    refine congrArg (fun z=>z % pN) ?_
    simp only [Nat.mul_assoc,Nat.mul_left_comm,Nat.mul_comm]
   have h4:=r_cancel h3
   rw [<- h4]
   exact (Nat.mod_eq_of_lt h1).symm
  have h1:=hmul ho ho
  simp only [powAt]
  cases hb:bitAt e n with
  | true =>
   simp only []
   rw [powAt_nat e hx n _ _ (hmul h1 hx)]
   simp only [eLow,hb,Bool.toNat_true,Nat.one_mul]
   refine congrArg (fun z=>z % pN) ?_
   rw [Nat.mul_pow,<- Nat.pow_two,<- Nat.pow_mul,show 2 ^ (n+1)=2*2 ^ n by rw [Nat.pow_succ,Nat.mul_comm],Nat.pow_add a,Nat.mul_assoc,Nat.mul_comm (a ^ 2 ^ n)]
  | false =>
   simp only []
   rw [powAt_nat e hx n _ _ h1]
   simp only [eLow,hb,Bool.toNat_false,Nat.zero_mul,Nat.add_zero]
   refine congrArg (fun z=>z % pN) ?_
   rw [<- Nat.pow_two,<- Nat.pow_mul,show 2 ^ (n+1)=2*2 ^ n by rw [Nat.pow_succ,Nat.mul_comm]]
theorem powF_nat {a:Fp} (ha:a.nat<pN) (e:List UInt64):(powF a e).nat=a.nat ^ eLow e (64*e.length) % pN:=by
 unfold powF
 have h1:(1:Nat)<pN:=by decide +kernel
 rw [powAt_nat e (wholeF_nat ha) _ _ 1 (by rw [wholeF_nat (by rw [one_nat];exact h1),one_nat])]
 rw [Nat.one_pow,Nat.one_mul]
end Go.Proofs.YtcbplfkeeaecgaaGreat
namespace Go.Proofs.YtcbplfkeeaecgaaGreat
def IsPrime (p:Nat):Prop:=1<p /\ ∀ d,d ∣ p->d=1 \/ d=p
theorem IsPrime.pos {p:Nat} (h:IsPrime p):0<p:=by have:=h.1;omega
theorem IsPrime.coprime {p a:Nat} (h:IsPrime p) (ha : ¬ p ∣ a):Nat.gcd p a=1:=by
 rcases h.2 _ (Nat.gcd_dvd_left p a) with h1 | h1
 ·exact h1
 ·exact absurd (h1 ▸ Nat.gcd_dvd_right p a) ha
theorem IsPrime.dvd_mul {p a b:Nat} (h:IsPrime p) (hd:p ∣ a*b):p ∣ a \/ p ∣ b:=by
 by_cases ha:p ∣ a
 ·exact .inl ha
 ·exact .inr (Nat.Coprime.dvd_of_dvd_mul_left (h.coprime ha) hd)
def ch:Nat->Nat->Nat
 | _,0=>1
 | 0,_+1=>0
 | n+1,k+1=>ch n k+ch n (k+1)
theorem ch_zero (n:Nat):ch n 0=1:=by cases n <;> rfl
theorem ch_big : ∀ {n k:Nat},n<k->ch n k=0
 | 0,k+1,_=>rfl
 | n+1,k+1,h=>by simp only [ch];rw [ch_big (by omega),ch_big (by omega)]
theorem ch_self : ∀ n:Nat,ch n n=1
 | 0=>rfl
 | n+1=>by simp only [ch];rw [ch_self n,ch_big (by omega)]
theorem ch_mul : ∀ n k:Nat,(k+1)*ch (n+1) (k+1)=(n+1)*ch n k
 | 0,0=>rfl
 | 0,k+1=>by simp [ch]
 | n+1,0=>by
  have h:=ch_mul n 0
  simp only [ch_zero,Nat.zero_add,Nat.one_mul,Nat.mul_one] at h ⊢
  show ch (n+1) 0+ch (n+1) 1=n+1+1
  rw [ch_zero,h]
  omega
 | n+1,j+1=>by
  have h1:=ch_mul n j
  have h2:=ch_mul n (j+1)
  have e:ch (n+1) (j+1)=ch n j+ch n (j+1):=rfl
  show (j+1+1)*(ch (n+1) (j+1)+ch (n+1) (j+1+1))=(n+1+1)*ch (n+1) (j+1)
  rw [Nat.mul_add,h2,Nat.succ_mul (j+1),h1]
  rw [Nat.succ_mul (n+1),e,Nat.mul_add]
  omega
def bs (a n:Nat):Nat->Nat
 | 0=>0
 | m+1=>bs a n m+ch n m*a ^ m
theorem bs_step (a n:Nat) : ∀ m:Nat,bs a (n+1) (m+1)=bs a n (m+1)+a*bs a n m
 | 0=>by simp [bs,ch_zero]
 | m+1=>by
  have h:=bs_step a n m
  show bs a (n+1) (m+1)+ch (n+1) (m+1)*a ^ (m+1)=bs a n (m+1)+ch n (m+1)*a ^ (m+1)+a*(bs a n m+ch n m*a ^ m)
  rw [h,show ch (n+1) (m+1)=ch n m+ch n (m+1) from rfl,Nat.add_mul,Nat.mul_add,Nat.pow_succ]
  have:ch n m*(a ^ m*a)=a*(ch n m*a ^ m):=by rw [<- Nat.mul_assoc,Nat.mul_comm]
  omega
theorem binom (a:Nat) : ∀ n:Nat,(a+1) ^ n=bs a n (n+1)
 | 0=>by simp [bs,ch]
 | n+1=>by
  rw [bs_step a n (n+1),show bs a n (n+1+1)=bs a n (n+1)+ch n (n+1)*a ^ (n+1) from rfl,ch_big (Nat.lt_succ_self n),Nat.zero_mul,Nat.add_zero,<- binom a n,Nat.pow_succ,Nat.mul_add,Nat.mul_one,Nat.mul_comm a]
  omega
theorem ch_prime {p k:Nat} (h:IsPrime p) (h0:0<k) (hk:k<p):p ∣ ch p k:=by
 obtain ⟨j,rfl⟩ : ∃ j,k=j+1:=⟨k-1,by omega⟩
 obtain ⟨n,rfl⟩ : ∃ n,p=n+1:=⟨p-1,by omega⟩
 have hd:n+1 ∣ (j+1)*ch (n+1) (j+1):=⟨ch n j,ch_mul n j⟩
 rcases h.dvd_mul hd with h1 | h1
 ·exact absurd (Nat.le_of_dvd (by omega) h1) (by omega)
 ·exact h1
theorem bs_prime {p:Nat} (h:IsPrime p) (a:Nat) : ∀ m:Nat,m<p->bs a p (m+1) % p=1
 | 0,_=>by
  simp only [bs,ch_zero,Nat.pow_zero,Nat.mul_one,Nat.zero_add]
  exact Nat.mod_eq_of_lt h.1
 | m+1,hm=>by
  have ih:=bs_prime h a m (by omega)
  obtain ⟨c,hc⟩:=ch_prime h (Nat.succ_pos m) hm
  show (bs a p (m+1)+ch p (m+1)*a ^ (m+1)) % p=1
  rw [hc,Nat.mul_assoc,Nat.add_mul_mod_self_left]
  exact ih
theorem fermat_a {p:Nat} (h:IsPrime p) : ∀ a:Nat,a ^ p % p=a % p
 | 0=>by
  have:=h.pos
  rw [Nat.zero_pow this]
 | a+1=>by
  have ih:=fermat_a h a
  have hp:=h.1
  obtain ⟨n,rfl⟩ : ∃ n,p=n+1:=⟨p-1,by omega⟩
  rw [binom a (n+1),show bs a (n+1) (n+1+1)=bs a (n+1) (n+1)+ch (n+1) (n+1)*a ^ (n+1) from rfl,ch_self,Nat.one_mul,Nat.add_mod,bs_prime h a n (by omega),ih]
  rw [Nat.add_mod a 1,Nat.mod_eq_of_lt hp,Nat.add_comm]
theorem fermat {p a:Nat} (h:IsPrime p) (ha : ¬ p ∣ a):a ^ (p-1) % p=1:=by
 have hp:=h.1
 have h1:=fermat_a h a
 obtain ⟨n,rfl⟩ : ∃ n,p=n+1:=⟨p-1,by omega⟩
 rw [Nat.add_sub_cancel]
 have h0:0<a:=Nat.pos_of_ne_zero (by rintro rfl;exact ha ⟨0,rfl⟩)
 have hle:a<=a ^ (n+1):=Nat.le_self_pow (by omega) a
 have hd:n+1 ∣ a ^ (n+1)-a:=Nat.dvd_of_mod_eq_zero (Nat.sub_mod_eq_zero_of_mod_eq h1)
 have h2:1<=a ^ n:=Nat.one_le_pow _ _ h0
 have e:a ^ (n+1)-a=a*(a ^ n-1):=by rw [Nat.pow_succ,Nat.mul_sub,Nat.mul_one,Nat.mul_comm]
 rw [e] at hd
 rcases h.dvd_mul hd with h3 | h3
 ·exact absurd h3 ha
 ·obtain ⟨c,hc⟩:=h3
  rw [show a ^ n=(n+1)*c+1 by omega,Nat.mul_add_mod]
  exact Nat.mod_eq_of_lt hp
theorem exists_prime_dvd : ∀ n:Nat,1<n -> ∃ p,IsPrime p/\p ∣ n:=by
 intro n
 induction n using Nat.strongRecOn with
 | ind n ih =>
  intro hn
  by_cases h:IsPrime n
  ·exact ⟨n,h,Nat.dvd_refl n⟩
  ·have : ∃ d,d ∣ n/\d ≠ 1/\d ≠ n:=by
    apply Classical.byContradiction
    intro hc
    refine h ⟨hn,fun d hd => ?_⟩
    by_cases h1:d=1
    ·exact .inl h1
    ·by_cases h2:d=n
     ·exact .inr h2
     ·exact absurd ⟨d,hd,h1,h2⟩ hc
   obtain ⟨d,hd,h1,h2⟩:=this
   have hdn:=Nat.le_of_dvd (by omega) hd
   have hd0:d ≠ 0:=by
    rintro rfl
    have:=Nat.eq_zero_of_zero_dvd hd
    omega
   obtain ⟨p,hp,hpd⟩:=ih d (by omega) (by omega)
   exact ⟨p,hp,Nat.dvd_trans hpd hd⟩
theorem pow_gcd {d b:Nat} (hd:1<d) : ∀ m n:Nat,b ^ m % d=1->b ^ n % d=1->b ^ Nat.gcd m n % d=1:=by
 intro m n
 induction m,n using Nat.gcd.induction with
 | H0 n=>intro _ h;rw [Nat.gcd_zero_left];exact h
 | H1 m n hm ih =>
  intro h1 h2
  rw [Nat.gcd_rec]
  refine ih ?_ h1
  have e:b ^ n % d=(b ^ m) ^ (n / m)*b ^ (n % m) % d:=by rw [<- Nat.pow_mul,<- Nat.pow_add,Nat.div_add_mod]
  rw [h2,Nat.mul_mod,Nat.pow_mod,h1,Nat.one_pow,Nat.mod_eq_of_lt hd,Nat.one_mul,Nat.mod_mod] at e
  exact e.symm
theorem pock_key {n q r a:Nat} (hn:n=q*r+1) (hq:IsPrime q) (hr:0<r) (h1:a ^ (q*r) % n=1) (h2:Nat.gcd (a ^ r % n+(n-1)) n=1) {d:Nat} (hd:IsPrime d) (hdn:d ∣ n):q ∣ d-1:=by
 have hq1:=hq.1
 have hn1:1<n:=by
  have:0<q*r:=Nat.mul_pos (by omega) hr
  omega
 have hd1:=hd.1
 have hb:(a ^ r) ^ q % d=1:=by
  rw [<- Nat.pow_mul,Nat.mul_comm r q]
  have:a ^ (q*r) % n % d=a ^ (q*r) % d:=Nat.mod_mod_of_dvd _ hdn
  rw [<- this,h1,Nat.mod_eq_of_lt hd1]
 have hnd : ¬ d ∣ a ^ r:=by
  intro h
  obtain ⟨c,hc⟩:=h
  rw [hc,Nat.mul_pow,Nat.mul_mod] at hb
  have:d ^ q % d=0:=by
   obtain ⟨k,rfl⟩ : ∃ k,q=k+1:=⟨q-1,by omega⟩
   rw [Nat.pow_succ,Nat.mul_mod_left]
  rw [this] at hb
  simp at hb
 have hf:=fermat hd hnd
 have hne:a ^ r % d ≠ 1:=by
  intro h
  have hdd:d ∣ a ^ r % n+(n-1):=by
   have e:(a ^ r % n) % d=1:=by rw [Nat.mod_mod_of_dvd _ hdn];exact h
   have e2:(a ^ r % n+(n-1)+1) % d=1:=by
    rw [show a ^ r % n+(n-1)+1=a ^ r % n+n by omega,Nat.add_mod,e]
    obtain ⟨c,hc⟩:=hdn
    rw [hc,Nat.mul_mod_right,Nat.add_zero,Nat.mod_eq_of_lt hd1]
   have e3:=Nat.sub_mod_eq_zero_of_mod_eq (e2.trans (Nat.mod_eq_of_lt hd1).symm)
   rw [Nat.add_sub_cancel] at e3
   exact Nat.dvd_of_mod_eq_zero e3
  have:=Nat.dvd_gcd hdd hdn
  rw [h2] at this
  have:=Nat.le_of_dvd (by omega) this
  omega
 apply Classical.byContradiction
 intro hc
 have hg:=hq.coprime hc
 have:=pow_gcd hd1 q (d-1) hb hf
 rw [hg,Nat.pow_one] at this
 exact hne this
theorem pocklington {n q r a K:Nat} (hn:n=q*r+1) (hq:IsPrime q) (hr:0<r) (hK : ∀ k,k<K -> ¬ (q*(k+1)+1) ∣ n) (hqq:n<(q*(K+1)+1)*(q*(K+1)+1)) (h1:a ^ (q*r) % n=1) (h2:Nat.gcd (a ^ r % n+(n-1)) n=1):IsPrime n:=by
 have hq1:=hq.1
 have hn1:1<n:=by
  have:0<q*r:=Nat.mul_pos (by omega) hr
  omega
 refine ⟨hn1,fun x hx => ?_⟩
 have key : ∀ d,IsPrime d->d ∣ n->q*(K+1)+1<=d:=by
  intro d hd hdn
  obtain ⟨c,hc⟩:=pock_key hn hq hr h1 h2 hd hdn
  have hd1:=hd.1
  have hdc:d=q*c+1:=by omega
  rcases Nat.lt_or_ge K c with h | h
  ·have:=Nat.mul_le_mul_left q (show K+1<=c from h)
   omega
  ·have hc0:c ≠ 0:=by rintro rfl;omega
   obtain ⟨k,rfl⟩ : ∃ k,c=k+1:=⟨c-1,by omega⟩
   exact absurd (hdc ▸ hdn) (hK k (by omega))
 by_cases hx1:x=1
 ·exact .inl hx1
 ·right
  obtain ⟨y,hy⟩:=hx
  have hx0:x ≠ 0:=by rintro rfl;omega
  by_cases hy1:y=1
  ·subst hy1;omega
  ·have hy0:y ≠ 0:=by rintro rfl;omega
   obtain ⟨d,hd,hdx⟩:=exists_prime_dvd x (by omega)
   obtain ⟨e,he,hey⟩:=exists_prime_dvd y (by omega)
   have k1:=key d hd (Nat.dvd_trans hdx ⟨y,hy⟩)
   have k2:=key e he (Nat.dvd_trans hey ⟨x,by rw [hy,Nat.mul_comm]⟩)
   have l1:=Nat.le_of_dvd (by omega) hdx
   have l2:=Nat.le_of_dvd (by omega) hey
   have:=Nat.mul_le_mul (show q*(K+1)+1<=x by omega) (show q*(K+1)+1<=y by omega)
   omega
end Go.Proofs.YtcbplfkeeaecgaaGreat
namespace Go.Proofs.YtcbplfkeeaecgaaGreat
def mpow:Nat->Nat->Nat->Nat->Nat
 | 0,_,_,n=>1 % n
 | k+1,a,e,n=>match Nat.beq e 0 with
  | true=>1 % n
  | false=>match Nat.beq (e % 2) 1 with
   | true=>a*mpow k (a*a % n) (e / 2) n % n
   | false=>mpow k (a*a % n) (e / 2) n
theorem mpow_eq (n:Nat) : ∀ (k a e:Nat),e<2 ^ k->mpow k a e n=a ^ e % n
 | 0,a,e,h=>by
  obtain rfl:e=0:=by simpa using h
  rfl
 | k+1,a,e,h=>by
  unfold mpow
  cases h0:Nat.beq e 0 with
  | true =>
   have:=Nat.eq_of_beq_eq_true h0
   subst this
   rfl
  | false =>
   have hlt:e / 2<2 ^ k:=by rw [Nat.pow_succ] at h;omega
   have ih:=mpow_eq n k (a*a % n) (e / 2) hlt
   have e1:(a*a % n) ^ (e / 2) % n=a ^ (2*(e / 2)) % n:=by rw [<- Nat.pow_mod,<- Nat.pow_two,<- Nat.pow_mul]
   cases h1:Nat.beq (e % 2) 1 with
   | true =>
    have h1:=Nat.eq_of_beq_eq_true h1
    simp only []
    rw [ih,e1,Nat.mul_mod_mod]
    refine congrArg (fun z=>z % n) ?_
    rw [show a ^ e=a ^ (2*(e / 2)+1) by congr 1;omega,Nat.pow_succ,Nat.mul_comm]
   | false =>
    have h1:=Nat.ne_of_beq_eq_false h1
    simp only []
    rw [ih,e1]
    refine congrArg (fun z=>a ^ z % n) ?_
    omega
theorem pock {n q r a k:Nat} (K:Nat) (hn:n=q*r+1) (hq:IsPrime q) (hr:0<r) (hK : ∀ k,k<K -> ¬ (q*(k+1)+1) ∣ n) (hqq:n<(q*(K+1)+1)*(q*(K+1)+1)) (hk:q*r<2 ^ k) (h1:mpow k a (q*r) n=1) (h2:Nat.gcd (mpow k a r n+(n-1)) n=1):IsPrime n:=by
 have hrq:r<2 ^ k:=Nat.lt_of_le_of_lt (Nat.le_mul_of_pos_left r (by have:=hq.1;omega)) hk
 rw [mpow_eq n k a _ hk] at h1
 rw [mpow_eq n k a _ hrq] at h2
 exact pocklington hn hq hr hK hqq h1 h2
def noDiv (n:Nat):Nat->Nat->Bool
 | 0,_=>true
 | k+1,d=>match Nat.beq (n % d) 0 with
  | true=>false
  | false=>noDiv n k (d+1)
theorem noDiv_spec {n:Nat} : ∀ {k d:Nat},noDiv n k d=true -> ∀ x,d<=x->x<d+k -> ¬ x ∣ n
 | 0,d,_,x,h1,h2=>by omega
 | k+1,d,h,x,h1,h2=>by
  simp only [noDiv] at h
  split at h
  ·cases h
  ·rename_i hb
   have hb:=Nat.ne_of_beq_eq_false hb
   rcases Nat.lt_or_ge d x with hlt | hge
   ·exact noDiv_spec h x hlt (by omega)
   ·obtain rfl:x=d:=by omega
    exact fun hd=>hb (Nat.mod_eq_zero_of_dvd hd)
theorem prime_of_noDiv {n k:Nat} (hn:1<n) (h:noDiv n k 2=true) (hk:n<(k+2)*(k+2)):IsPrime n:=by
 refine ⟨hn,fun d hd => ?_⟩
 obtain ⟨y,hy⟩:=hd
 have hd0:d ≠ 0:=by rintro rfl;omega
 have hy0:y ≠ 0:=by rintro rfl;omega
 by_cases h1:d=1
 ·exact .inl h1
 ·right
  by_cases h2:y=1
  ·subst h2;omega
  ·have k1:k+2<=d:=by
    rcases Nat.lt_or_ge d (2+k) with hl | hl
    ·exact absurd ⟨y,hy⟩ (noDiv_spec h d (by omega) hl)
    ·omega
   have k2:k+2<=y:=by
    rcases Nat.lt_or_ge y (2+k) with hl | hl
    ·exact absurd ⟨d,by rw [hy,Nat.mul_comm]⟩ (noDiv_spec h y (by omega) hl)
    ·omega
   have:=Nat.mul_le_mul k1 k2
   omega
theorem prime_u:IsPrime 421987:=prime_of_noDiv (k:=700) (by decide) (by decide +kernel) (by decide)
theorem prime_t:IsPrime 13090036741:=pock 0 (q:=421987) (r:=31020) (a:=2) (k:=34) (by decide) prime_u (by decide) (fun k h=>absurd h (by omega)) (by decide) (by decide) (by decide +kernel) (by decide +kernel)
theorem prime_s:IsPrime 3819663927398918131021:=pock 4 (q:=13090036741) (r:=291799328220) (a:=2) (k:=72) (by decide) prime_t (by decide) (by decide +kernel) (by decide +kernel) (by decide +kernel) (by decide +kernel) (by decide +kernel)
theorem prime_r:IsPrime 1125266252156850182658904441386709967:=pock 0 (q:=3819663927398918131021) (r:=294598235223046) (a:=2) (k:=120) (by decide +kernel) prime_s (by decide) (fun k h=>absurd h (by omega)) (by decide +kernel) (by decide +kernel) (by decide +kernel) (by decide +kernel)
theorem prime_q:IsPrime 15778400344354997994418419698270088123916926905054652752758194827714659:=pock 0 (q:=1125266252156850182658904441386709967) (r:=14021926201120671579994175730661374) (a:=2) (k:=234) (by decide +kernel) prime_r (by decide +kernel) (fun k h=>absurd h (by omega)) (by decide +kernel) (by decide +kernel) (by decide +kernel) (by decide +kernel)
theorem prime_p:IsPrime pN:=pock 0 (q:=15778400344354997994418419698270088123916926905054652752758194827714659) (r:=253663835868735594330404923636534084567099854) (a:=2) (k:=381) (by decide +kernel) prime_q (by decide +kernel) (fun k h=>absurd h (by omega)) (by decide +kernel) (by decide +kernel) (by decide +kernel) (by decide +kernel)
end Go.Proofs.YtcbplfkeeaecgaaGreat
namespace Go.Proofs.YtcbplfkeeaecgaaGreat
def valAt (xs:List UInt64):Nat->Nat
 | 0=>0
 | n+1=>valAt xs n+(atF xs n).toNat*W64 ^ n
theorem valAt_lt (xs:List UInt64) : ∀ n,valAt xs n<W64 ^ n
 | 0=>by simp [valAt]
 | n+1=>by
  have ih:=valAt_lt xs n
  have h:=(atF xs n).toNat_lt
  have h1:(atF xs n).toNat*W64 ^ n<=(W64-1)*W64 ^ n:=Nat.mul_le_mul_right _ (by unfold W64;omega)
  have h2:W64 ^ (n+1)=(W64-1)*W64 ^ n+W64 ^ n:=by
   rw [Nat.pow_succ,Nat.mul_comm,Nat.sub_mul,Nat.one_mul]
   have:W64 ^ n<=W64*W64 ^ n:=Nat.le_mul_of_pos_left _ (by unfold W64;omega)
   omega
  simp only [valAt]
  omega
theorem val_step {x y p q:Nat} {w a b:Nat} (hp:p<w) (hq:q<w):a<b->p+a*w<q+b*w:=by
 intro h
 have:(a+1)*w<=b*w:=Nat.mul_le_mul_right _ h
 rw [Nat.add_mul,Nat.one_mul] at this
 omega
theorem cmpAt_val (xs ys:List UInt64) : ∀ n,cmpAt xs ys n=if valAt xs n<valAt ys n then -1 else if valAt xs n > valAt ys n then 1 else 0
 | 0=>by simp [cmpAt,valAt]
 | n+1=>by
  have ih:=cmpAt_val xs ys n
  have h1:=valAt_lt xs n
  have h2:=valAt_lt ys n
  have e1:valAt xs (n+1)=valAt xs n+(atF xs n).toNat*W64 ^ n:=rfl
  have e2:valAt ys (n+1)=valAt ys n+(atF ys n).toNat*W64 ^ n:=rfl
  rw [e1,e2]
  show (if atF xs n<atF ys n then -1 else if atF xs n > atF ys n then 1 else cmpAt xs ys n)=_
  by_cases ha:atF xs n<atF ys n
  ·have:=UInt64.lt_iff_toNat_lt.1 ha
   have:=val_step (x:=0) (y:=0) h1 h2 this
   rw [if_pos ha,if_pos this]
  ·rw [if_neg ha]
   by_cases hb:atF xs n > atF ys n
   ·have:=UInt64.lt_iff_toNat_lt.1 hb
    have:=val_step (x:=0) (y:=0) h2 h1 this
    rw [if_pos hb,if_neg (by omega),if_pos this]
   ·rw [if_neg hb,ih]
    have e:(atF xs n).toNat=(atF ys n).toNat:=by
     have h3:=mt UInt64.lt_iff_toNat_lt.2 ha
     have h4:=mt UInt64.lt_iff_toNat_lt.2 hb
     omega
    rw [e]
    simp only [Nat.add_lt_add_iff_right,gt_iff_lt]
theorem list_val (a:Fp):valAt a.list 6=a.nat:=by
 simp only [valAt,atF,Fp.list,Fp.nat,List.getD_eq_getElem?_getD,List.getElem?_cons_zero,List.getElem?_cons_succ,Option.getD_some]
 generalize a.l0.toNat=x0
 generalize a.l1.toNat=x1
 generalize a.l2.toNat=x2
 generalize a.l3.toNat=x3
 generalize a.l4.toNat=x4
 generalize a.l5.toNat=x5
 simp only [Nat.pow_succ,Nat.pow_zero,Nat.one_mul,Nat.mul_one,Nat.mul_add,Nat.mul_assoc,Nat.mul_comm,Nat.mul_left_comm,Nat.zero_add]
 omega
theorem cmp_nat (a b:Fp):cmpF a.list b.list=if a.nat<b.nat then -1 else if a.nat > b.nat then 1 else 0:=by
 have h:cmpF a.list b.list=cmpAt a.list b.list 6:=by
  unfold cmpF maxI
  rfl
 rw [h,cmpAt_val,list_val,list_val]
theorem mayF_nat (a:Fp):mayF a=decide (a.nat<pN):=by
 unfold mayF
 rw [cmp_nat,pLimbs_nat]
 refine decide_eq_decide.2 ?_
 split
 ·rename_i h;simp [h]
 ·rename_i h
  simp only [h,iff_false]
  split <;> omega
def hN:Nat:=pN / 2
theorem halved_nat:(halvedF pLimbs).nat=hN:=by decide +kernel
theorem greatF_nat (a:Fp):greatF a=decide (hN<a.nat):=by
 unfold greatF
 rw [cmp_nat,halved_nat]
 refine decide_eq_decide.2 ?_
 split
 ·rename_i h;constructor <;> intro h' <;> omega
 ·split
  ·rename_i h h2;constructor <;> intro h' <;> omega
  ·rename_i h h2;constructor <;> intro h' <;> omega
theorem u64_ne {x y:UInt64}:(x != y)=true <-> x.toNat ≠ y.toNat:=by
 simp only [bne_iff_ne,ne_eq]
 exact ⟨fun h e=>h (UInt64.toNat.inj e),fun h e=>h (by rw [e])⟩
theorem belowF_nat (a m:Fp):belowF a m=decide (a.nat<m.nat):=by
 have h0:=a.l0.toNat_lt
 have h1:=a.l1.toNat_lt
 have h2:=a.l2.toNat_lt
 have h3:=a.l3.toNat_lt
 have h4:=a.l4.toNat_lt
 have k0:=m.l0.toNat_lt
 have k1:=m.l1.toNat_lt
 have k2:=m.l2.toNat_lt
 have k3:=m.l3.toNat_lt
 have k4:=m.l4.toNat_lt
 have same : ∀ {x y:UInt64},(x != y)=false->x.toNat=y.toNat:=fun h=>by
  simp only [bne_eq_false_iff_eq] at h
  rw [h]
 unfold belowF
 cases e5:a.l5 != m.l5 with
 | true =>
  have:=u64_ne.1 e5
  refine decide_eq_decide.2 ?_
  rw [UInt64.lt_iff_toNat_lt]
  unfold Fp.nat W64
  omega
 | false =>
  have e5:=same e5
  simp only []
  cases e4:a.l4 != m.l4 with
  | true =>
   have:=u64_ne.1 e4
   refine decide_eq_decide.2 ?_
   rw [UInt64.lt_iff_toNat_lt]
   unfold Fp.nat W64
   omega
  | false =>
   have e4:=same e4
   simp only []
   cases e3:a.l3 != m.l3 with
   | true =>
    have:=u64_ne.1 e3
    refine decide_eq_decide.2 ?_
    rw [UInt64.lt_iff_toNat_lt]
    unfold Fp.nat W64
    omega
   | false =>
    have e3:=same e3
    simp only []
    cases e2:a.l2 != m.l2 with
    | true =>
     have:=u64_ne.1 e2
     refine decide_eq_decide.2 ?_
     rw [UInt64.lt_iff_toNat_lt]
     unfold Fp.nat W64
     omega
    | false =>
     have e2:=same e2
     simp only []
     cases e1:a.l1 != m.l1 with
     | true =>
      have:=u64_ne.1 e1
      refine decide_eq_decide.2 ?_
      rw [UInt64.lt_iff_toNat_lt]
      unfold Fp.nat W64
      omega
     | false =>
      have e1:=same e1
      simp only []
      cases e0:a.l0 != m.l0 with
      | true =>
       have:=u64_ne.1 e0
       refine decide_eq_decide.2 ?_
       rw [UInt64.lt_iff_toNat_lt]
       unfold Fp.nat W64
       omega
      | false =>
       have e0:=same e0
       refine (decide_eq_false ?_).symm
       unfold Fp.nat W64
       omega
theorem fpEq_nat (a b:Fp):fpEq a b=decide (a.nat=b.nat):=by
 by_cases h:a=b
 ·subst h;rw [(fpEq_iff a a).2 rfl];simp
 ·have h1:fpEq a b=false:=by
   cases e:fpEq a b with
   | true=>exact absurd ((fpEq_iff a b).1 e) h
   | false=>rfl
  rw [h1]
  exact (decide_eq_false fun e=>h (Fp.nat_inj e)).symm
end Go.Proofs.YtcbplfkeeaecgaaGreat
namespace Go.Proofs.YtcbplfkeeaecgaaGreat
theorem of_nat (n:UInt64):(ofF n).nat=n.toNat:=by
 unfold ofF Fp.nat
 simp only [show (0:UInt64).toNat=0 from rfl,Nat.mul_zero,Nat.add_zero]
theorem invE:eLow [pLimbs.l0-2,pLimbs.l1,pLimbs.l2,pLimbs.l3,pLimbs.l4,pLimbs.l5] (64*6)=pN-2:=by decide +kernel
theorem not_dvd {a:Nat} (h:a<pN) (h0:a ≠ 0) : ¬ pN ∣ a:=fun hd=>absurd (Nat.le_of_dvd (by omega) hd) (by omega)
theorem two_lt:2<pN:=by decide +kernel
theorem inv_law {x:Fp} (hx:x.nat<pN):(x.nat=0->(invF x).2=7)/\(x.nat ≠ 0->(invF x).2=0/\(invF x).1.nat<pN/\x.nat*(invF x).1.nat % pN=1):=by
 unfold invF
 rw [fpEq_nat,zero_nat]
 refine ⟨fun h => ?_,fun h => ?_⟩
 ·rw [decide_eq_true h]
 ·rw [decide_eq_false h]
  simp only []
  have e:(powF x [pLimbs.l0-2,pLimbs.l1,pLimbs.l2,pLimbs.l3,pLimbs.l4,pLimbs.l5]).nat=x.nat ^ (pN-2) % pN:=by
   rw [powF_nat hx,show 64 * [pLimbs.l0-2,pLimbs.l1,pLimbs.l2,pLimbs.l3,pLimbs.l4,pLimbs.l5].length=64*6 from rfl,invE]
  refine ⟨trivial,by rw [e];exact Nat.mod_lt _ pN_pos,?_⟩
  rw [e,Nat.mul_mod_mod]
  have h2:=two_lt
  have:x.nat*x.nat ^ (pN-2)=x.nat ^ (pN-1):=by rw [show pN-1=(pN-2)+1 by omega,Nat.pow_succ,Nat.mul_comm]
  rw [this]
  exact fermat prime_p (not_dvd hx h)
end Go.Proofs.YtcbplfkeeaecgaaGreat
namespace Go.Proofs.YtcbplfkeeaecgaaGreat
instance : NeZero pN := ⟨by decide +kernel⟩
def V1:Type:=Fin pN
def V1.of (n:Nat):V1:=Fin.ofNat pN n
def V1.nat (a:V1):Nat:=Fin.val a
theorem V1.nat_lt (a:V1):a.nat<pN:=Fin.isLt a
theorem V1.nat_of (n:Nat):(V1.of n).nat=n % pN:=rfl
theorem V1.ext {a b:V1} (h:a.nat=b.nat):a=b:=Fin.eq_of_val_eq h
theorem V1.of_nat (a:V1):V1.of a.nat=a:=V1.ext (by rw [V1.nat_of,Nat.mod_eq_of_lt a.nat_lt])
def V1.add (a b:V1):V1:=V1.of (a.nat+b.nat)
def V1.mul (a b:V1):V1:=V1.of (a.nat*b.nat)
def V1.neg (a:V1):V1:=V1.of (pN-a.nat)
def V1.sub (a b:V1):V1:=V1.of (a.nat+(pN-b.nat))
def V1.inv (a:V1):V1:=V1.of (mpow 381 a.nat (pN-2) pN)
theorem one_lt_p:1<pN:=by decide +kernel
theorem V1.one_mod:1 % pN=1:=Nat.mod_eq_of_lt one_lt_p
instance : CR V1 where
 add:=V1.add
 mul:=V1.mul
 neg:=V1.neg
 sub:=V1.sub
 z:=V1.of 0
 o:=V1.of 1
 add_zero:=fun a=>V1.ext (by show (a.nat+0 % pN) % pN=a.nat;rw [Nat.zero_mod,Nat.add_zero,Nat.mod_eq_of_lt a.nat_lt])
 add_comm:=fun a b=>V1.ext (by show (a.nat+b.nat) % pN=(b.nat+a.nat) % pN;rw [Nat.add_comm])
 add_assoc:=fun a b c=>V1.ext (by show ((a.nat+b.nat) % pN+c.nat) % pN=(a.nat+(b.nat+c.nat) % pN) % pN;rw [Nat.mod_add_mod,Nat.add_mod_mod,Nat.add_assoc])
 mul_assoc:=fun a b c=>V1.ext (by show ((a.nat*b.nat) % pN*c.nat) % pN=(a.nat*((b.nat*c.nat) % pN)) % pN;rw [Nat.mod_mul_mod,Nat.mul_mod_mod,Nat.mul_assoc])
 mul_comm:=fun a b=>V1.ext (by show (a.nat*b.nat) % pN=(b.nat*a.nat) % pN;rw [Nat.mul_comm])
 mul_one:=fun a=>V1.ext (by show (a.nat*(1 % pN)) % pN=a.nat;rw [V1.one_mod,Nat.mul_one,Nat.mod_eq_of_lt a.nat_lt])
 dist:=fun a b c=>V1.ext (by
  show (a.nat*((b.nat+c.nat) % pN)) % pN=((a.nat*b.nat) % pN+(a.nat*c.nat) % pN) % pN
  rw [Nat.mul_mod_mod,<- Nat.add_mod,Nat.mul_add])
 neg_add:=fun a=>V1.ext (by
  show ((pN-a.nat) % pN+a.nat) % pN=0 % pN
  rw [Nat.mod_add_mod,Nat.sub_add_cancel (Nat.le_of_lt a.nat_lt),Nat.mod_self,Nat.zero_mod])
 sub_eq:=fun a b=>V1.ext (by
  show (a.nat+(pN-b.nat)) % pN=(a.nat+(pN-b.nat) % pN) % pN
  rw [Nat.add_mod_mod])
theorem V1.nat_add (a b:V1):(a+b).nat=(a.nat+b.nat) % pN:=rfl
theorem V1.nat_mul (a b:V1):(a*b).nat=(a.nat*b.nat) % pN:=rfl
theorem V1.nat_zero:(0:V1).nat=0:=Nat.zero_mod _
theorem V1.nat_one:(1:V1).nat=1:=V1.one_mod
theorem V1.nat_pow (a:V1) : ∀ n:Nat,(a ^ n).nat=a.nat ^ n % pN
 | 0=>rfl
 | n+1=>by rw [pow_succ',V1.nat_mul,V1.nat_pow a n,Nat.mod_mul_mod,Nat.pow_succ]
theorem V1.ne_zero {a:V1} (h:a ≠ 0):a.nat ≠ 0:=fun e=>h (V1.ext (by rw [e,V1.nat_zero]))
theorem V1.fermat {a:V1} (h:a ≠ 0):a ^ (pN-1)=1:=V1.ext (by
 rw [V1.nat_pow,V1.nat_one]
 exact Go.Proofs.YtcbplfkeeaecgaaGreat.fermat prime_p (not_dvd a.nat_lt (V1.ne_zero h)))
theorem V1.inv_eq (a:V1):V1.inv a=a ^ (pN-2):=V1.ext (by
 show mpow 381 a.nat (pN-2) pN % pN=_
 rw [mpow_eq pN 381 _ _ (by decide +kernel),V1.nat_pow,Nat.mod_mod])
instance : Fld V1 where
 inv:=V1.inv
 mul_inv:=fun a h=>by
  rw [V1.inv_eq]
  have:=V1.fermat h
  rw [show pN-1=(pN-2)+1 by have:=two_lt;omega,pow_succ'] at this
  rw [CR.mul_comm]
  exact this
 one_ne:=fun e=>by
  have:=congrArg V1.nat e
  rw [V1.nat_one,V1.nat_zero] at this
  omega
def Fp.ok (a:Fp):Prop:=a.nat<pN
def Fp.v (a:Fp):V1:=V1.of a.nat
theorem Fp.v_nat {a:Fp} (h:a.ok):a.v.nat=a.nat:=Nat.mod_eq_of_lt h
theorem Fp.v_inj {a b:Fp} (ha:a.ok) (hb:b.ok) (h:a.v=b.v):a=b:=Fp.nat_inj (by rw [<- Fp.v_nat ha,<- Fp.v_nat hb,h])
theorem fpEq_v {a b:Fp} (ha:a.ok) (hb:b.ok):fpEq a b=true <-> a.v=b.v:=⟨fun h=>by rw [(fpEq_iff a b).1 h],fun h=>(fpEq_iff a b).2 (Fp.v_inj ha hb h)⟩
theorem add_ok' {a b:Fp} (ha:a.ok) (hb:b.ok):(addF a b).ok:=addF_lt ha hb
theorem sub_ok' {a b:Fp} (ha:a.ok) (hb:b.ok):(subF a b).ok:=subF_lt ha hb
theorem mul_ok' {a b:Fp} (ha:a.ok):(mulF a b).ok:=mulF_lt ha
theorem zero_ok':zeroFp.ok:=by unfold Fp.ok;rw [zero_nat];exact pN_pos
theorem one_ok':oneFp.ok:=by unfold Fp.ok;rw [one_nat];exact one_lt_p
theorem neg_ok' {a:Fp} (ha:a.ok):(negF a).ok:=sub_ok' zero_ok' ha
theorem pow_ok' {a:Fp} (ha:a.ok) (e:List UInt64):(powF a e).ok:=by unfold Fp.ok;rw [powF_nat ha];exact Nat.mod_lt _ pN_pos
theorem v_zero:zeroFp.v=0:=V1.ext (by rw [Fp.v_nat zero_ok',zero_nat,V1.nat_zero])
theorem v_one:oneFp.v=1:=V1.ext (by rw [Fp.v_nat one_ok',one_nat,V1.nat_one])
theorem v_add {a b:Fp} (ha:a.ok) (hb:b.ok):(addF a b).v=a.v+b.v:=V1.ext (by
 rw [Fp.v_nat (add_ok' ha hb),addF_nat ha hb,V1.nat_add,Fp.v_nat ha,Fp.v_nat hb])
theorem v_mul {a b:Fp} (ha:a.ok) (hb:b.ok):(mulF a b).v=a.v*b.v:=V1.ext (by
 rw [Fp.v_nat (mul_ok' ha),mulF_nat ha,V1.nat_mul,Fp.v_nat ha,Fp.v_nat hb])
theorem v_sub {a b:Fp} (ha:a.ok) (hb:b.ok):(subF a b).v=a.v-b.v:=V1.ext (by
 rw [Fp.v_nat (sub_ok' ha hb),subF_nat ha hb]
 show _=(a.v.nat+(pN-b.v.nat)) % pN
 rw [Fp.v_nat ha,Fp.v_nat hb]
 congr 1
 have:b.nat<pN:=hb
 omega)
theorem v_neg {a:Fp} (ha:a.ok):(negF a).v = - a.v:=by
 rw [show negF a=subF zeroFp a from rfl,v_sub zero_ok' ha,v_zero]
 grind
theorem v_pow {a:Fp} (ha:a.ok) (e:List UInt64):(powF a e).v=a.v ^ eLow e (64*e.length):=V1.ext (by
 rw [Fp.v_nat (pow_ok' ha e),powF_nat ha,V1.nat_pow,Fp.v_nat ha])
theorem v_eq_zero {a:Fp} (ha:a.ok):a.v=0 <-> a=zeroFp:=⟨fun h=>Fp.v_inj ha zero_ok' (by rw [h,v_zero]),fun h=>by rw [h,v_zero]⟩
end Go.Proofs.YtcbplfkeeaecgaaGreat
namespace Go.Proofs.YtcbplfkeeaecgaaGreat
theorem rootG_eq (pF:Fp->List UInt64->Fp) (hF:Fp->Fp) (m a:Fp):rootG pF hF m a=pF a (hF (hF ⟨m.l0+1,m.l1,m.l2,m.l3,m.l4,m.l5⟩)).list:=rfl
def rootX:Fp:=halvedF (halvedF ⟨pLimbs.l0+1,pLimbs.l1,pLimbs.l2,pLimbs.l3,pLimbs.l4,pLimbs.l5⟩)
theorem rootX_eq:rootX=halvedF (halvedF ⟨pLimbs.l0+1,pLimbs.l1,pLimbs.l2,pLimbs.l3,pLimbs.l4,pLimbs.l5⟩):=rfl
theorem rootF_eq (a:Fp):rootF a=rootG powF halvedF pLimbs a:=rfl
theorem root_pow (a:Fp):rootF a=powF a rootX.list:=by rw [rootF_eq,rootG_eq,rootX_eq]
theorem rootE:eLow rootX.list (64*6)=(pN+1) / 4:=by decide +kernel
theorem list_len (a:Fp):a.list.length=6:=rfl
theorem root_ok' {a:Fp} (ha:a.ok):(rootF a).ok:=by
 rw [root_pow]
 exact pow_ok' ha _
theorem v_root {a:Fp} (ha:a.ok):(rootF a).v=a.v ^ ((pN+1) / 4):=by
 rw [root_pow,v_pow ha,list_len,rootE]
theorem sqrtG_no {nF:Fp->Fp} {mF:Fp->Fp->Fp} {gF:Fp->Bool} {x a:Fp} (h:fpEq (mF x x) a=false):sqrtG nF mF gF x a=(zeroFp,false):=by unfold sqrtG;rw [h];rfl
theorem sqrtG_great {nF:Fp->Fp} {mF:Fp->Fp->Fp} {gF:Fp->Bool} {x a:Fp} (h:fpEq (mF x x) a=true) (h2:gF x=true):sqrtG nF mF gF x a=(nF x,true):=by unfold sqrtG;rw [h,h2];rfl
theorem sqrtG_low {nF:Fp->Fp} {mF:Fp->Fp->Fp} {gF:Fp->Bool} {x a:Fp} (h:fpEq (mF x x) a=true) (h2:gF x=false):sqrtG nF mF gF x a=(x,true):=by unfold sqrtG;rw [h,h2];rfl
theorem sqrtF_eq (a:Fp):sqrtF a=sqrtG negF mulF greatF (rootF a) a:=rfl
theorem half_exp:(pN+1) / 4+(pN+1) / 4=1+(pN-1) / 2:=by decide +kernel
theorem half_exp2:(pN-1) / 2+(pN-1) / 2=pN-1:=by decide +kernel
theorem half_odd:(pN-1) / 2=2*((pN-3) / 4)+1:=by decide +kernel
def V1.chi (a:V1):V1:=a ^ ((pN-1) / 2)
theorem root_sq (a:V1):a ^ ((pN+1) / 4)*a ^ ((pN+1) / 4)=a*a.chi:=by
 rw [<- pow_add',half_exp,pow_add',pow_one']
 rfl
theorem chi_sq {a:V1} (h:a ≠ 0):a.chi*a.chi=1:=by
 unfold V1.chi
 rw [<- pow_add',half_exp2]
 exact V1.fermat h
theorem chi_cases {a:V1} (h:a ≠ 0):a.chi=1 \/ a.chi = -1:=sq_eq' (by rw [chi_sq h];grind)
theorem chi_mul (a b:V1):(a*b).chi=a.chi*b.chi:=mul_pow' a b _
theorem neg_one_sq:(-1:V1) * -1=1:=by grind
theorem chi_neg_one:(-1:V1).chi = -1:=by
 unfold V1.chi
 rw [half_odd,pow_add',pow_mul',pow_one',pow_succ' _ 1,pow_one',neg_one_sq,one_pow']
 grind
theorem chi_neg (a:V1):(-a).chi = - a.chi:=by
 rw [show -a = -1*a by grind,chi_mul,chi_neg_one]
 grind
theorem one_ne_neg:(1:V1) ≠ -1:=fun e=>by
 have:=congrArg V1.nat e
 rw [V1.nat_one] at this
 have h2:(-1:V1).nat=(pN-1 % pN) % pN:=rfl
 rw [h2,V1.one_mod] at this
 have h3:=one_lt_p
 rw [Nat.mod_eq_of_lt (by omega)] at this
 have h4:=two_lt
 omega
theorem sq_iff (a:V1):(∃ y:V1,y*y=a) <-> a*a.chi=a:=by
 constructor
 ·rintro ⟨y,rfl⟩
  by_cases h:y=0
  ·subst h;grind
  ·rw [chi_mul,chi_sq h];grind
 ·intro h
  exact ⟨a ^ ((pN+1) / 4),by rw [root_sq,h]⟩
theorem p_odd:pN=2*hN+1:=by decide +kernel
theorem great_neg {a:Fp} (ha:a.ok) (h:a.v ≠ 0):greatF (negF a) = !greatF a:=by
 have h0:a.nat ≠ 0:=by
  have:=V1.ne_zero h
  rwa [Fp.v_nat ha] at this
 have h1:a.nat<pN:=ha
 have h2:=p_odd
 rw [greatF_nat,greatF_nat,negF_nat ha,Nat.mod_eq_of_lt (by omega)]
 by_cases h3:hN<a.nat
 ·rw [decide_eq_true h3,decide_eq_false (by omega)];rfl
 ·rw [decide_eq_false h3,decide_eq_true (by omega)];rfl
theorem great_zero:greatF zeroFp=false:=by rw [greatF_nat,zero_nat];exact decide_eq_false (by omega)
theorem sqrtG_law {nF:Fp->Fp} {mF:Fp->Fp->Fp} {gF:Fp->Bool} {x a:Fp} (hr:x.ok) (ha:a.ok) (hm:(mF x x).v=a.v*a.v.chi) (hm2:(mF x x).v=x.v*x.v) (hmo:(mF x x).ok)
  (hn:(nF x).ok) (hnv:(nF x).v = - x.v) (hz:gF zeroFp=false) (hg:x.v ≠ 0->gF (nF x) = !gF x) :
  ((∃ y:V1,y*y=a.v)->(sqrtG nF mF gF x a).2=true/\(sqrtG nF mF gF x a).1.ok/\(sqrtG nF mF gF x a).1.v*(sqrtG nF mF gF x a).1.v=a.v/\gF (sqrtG nF mF gF x a).1=false) /\
  ((¬ ∃ y:V1,y*y=a.v)->(sqrtG nF mF gF x a)=(zeroFp,false)):=by
 constructor
 ·intro h
  have h1:=(sq_iff _).1 h
  have e:fpEq (mF x x) a=true:=(fpEq_v hmo ha).2 (by rw [hm,h1])
  have hrr:x.v*x.v=a.v:=by rw [<- hm2,hm,h1]
  cases hg':gF x with
  | true =>
   rw [sqrtG_great e hg']
   have hne:x.v ≠ 0:=fun e0=>by
    rw [(v_eq_zero hr).1 e0,hz] at hg'
    cases hg'
   refine ⟨rfl,hn,?_,?_⟩
   ·show (nF x).v*(nF x).v=a.v
    rw [hnv];grind
   ·show gF (nF x)=false
    rw [hg hne,hg'];rfl
  | false =>
   rw [sqrtG_low e hg']
   exact ⟨rfl,hr,hrr,hg'⟩
 ·intro h
  have e:fpEq (mF x x) a=false:=by
   cases he:fpEq (mF x x) a with
   | false=>rfl
   | true=>exact absurd ((sq_iff _).2 (by rw [<- hm];exact (fpEq_v hmo ha).1 he)) h
  rw [sqrtG_no e]
theorem sqrt_law {a:Fp} (ha:a.ok) :
  ((∃ y:V1,y*y=a.v)->(sqrtF a).2=true/\(sqrtF a).1.ok/\(sqrtF a).1.v*(sqrtF a).1.v=a.v/\greatF (sqrtF a).1=false) /\
  ((¬ ∃ y:V1,y*y=a.v)->(sqrtF a)=(zeroFp,false)):=by
 have hr:=root_ok' ha
 rw [sqrtF_eq]
 refine sqrtG_law hr ha ?_ (v_mul hr hr) (mul_ok' hr) (neg_ok' hr) (v_neg hr) great_zero (great_neg hr)
 rw [v_mul hr hr,v_root ha,root_sq]
theorem sq_neg {a:V1} (h:a ≠ 0):(∃ y:V1,y*y = -a) <-> ¬ ∃ y:V1,y*y=a:=by
 rw [sq_iff,sq_iff,chi_neg]
 rcases chi_cases h with e | e <;> rw [e]
 ·constructor
  ·intro h1 h2
   have:(1+1)*a=0:=by grind
   rcases mul_eq_zero' this with h3 | h3
   ·exact one_ne_neg (by grind)
   ·exact h h3
  ·intro h1;exact absurd (by grind) h1
 ·constructor
  ·intro h1 h2
   have:(1+1)*a=0:=by grind
   rcases mul_eq_zero' this with h3 | h3
   ·exact one_ne_neg (by grind)
   ·exact h h3
  ·intro h1;grind
theorem ofF_ok (n:UInt64):(ofF n).ok:=by
 unfold Fp.ok
 rw [of_nat]
 exact Nat.lt_trans n.toNat_lt (by decide +kernel)
theorem v_of (n:UInt64):(ofF n).v=V1.of n.toNat:=by unfold Fp.v;rw [of_nat]
theorem mayF_ok (a:Fp):mayF a=true <-> a.ok:=by rw [mayF_nat];exact decide_eq_true_iff
theorem sqrt_snd {a:Fp} (ha:a.ok):(sqrtF a).2=true <-> ∃ y:V1,y*y=a.v:=by
 obtain ⟨h1,h2⟩:=sqrt_law ha
 constructor
 ·intro h
  apply Classical.byContradiction
  intro hn
  rw [h2 hn] at h
  cases h
 ·intro h;exact (h1 h).1
end Go.Proofs.YtcbplfkeeaecgaaGreat
namespace Go.Proofs.YtcbplfkeeaecgaaGreat
theorem borrow_iff (a b:Fp):(subT a b).2=decide (a.nat<b.nat):=by
 have h:=subT_nat a b
 have h1:=(subT a b).1.nat_lt
 cases e:(subT a b).2 with
 | true =>
  rw [e,Bool.toNat_true,Nat.mul_one] at h
  exact (decide_eq_true (by omega)).symm
 | false =>
  rw [e,Bool.toNat_false,Nat.mul_zero] at h
  exact (decide_eq_false (by omega)).symm
theorem lessF_eq (a:Fp) (o:UInt64):lessF a o=match decide (o<b2u (decide (a.nat<pN))) with | true=>a | false=>(subT a pLimbs).1:=by
 have h:=borrow_iff a pLimbs
 rw [pLimbs_nat] at h
 unfold lessF
 rw [lessT_eq,h]
 all_goals rfl
theorem montE7_eq (t:L7) (h6:t.t6.toNat<=1):montE7 pLimbs t=lessF t.low t.t6:=by
 rw [lessF_eq]
 unfold montE7
 rw [belowF_nat,pLimbs_nat]
 by_cases h:t.t6.toNat=0
 ·have e0:t.t6=0:=UInt64.toNat.inj h
  rw [e0]
  by_cases hl:t.low.nat<pN
  ·rw [decide_eq_true hl];rfl
  ·rw [decide_eq_false hl];rfl
 ·have e0:t.t6=1:=UInt64.toNat.inj (by rw [UInt64.toNat_one];omega)
  rw [e0]
  by_cases hl:t.low.nat<pN
  ·rw [decide_eq_true hl];rfl
  ·rw [decide_eq_false hl];rfl
theorem macL_comm (x y t c:UInt64):macL x y t c=macL y x t c:=by unfold macL;rw [UInt64.mul_comm]
theorem mulHi_comm (x y:UInt64):mulHi x y=mulHi y x:=UInt64.toNat.inj (by rw [mulHi_nat,mulHi_nat,Nat.mul_comm])
theorem macH_comm (x y t c:UInt64):macH x y t c=macH y x t c:=by unfold macH;rw [UInt64.mul_comm,mulHi_comm]
theorem montB_eq (t0 t1 t2 t3 t4 t5 top:UInt64) (more:Bool):montB pLimbs pInv t0 t1 t2 t3 t4 t5 top more=roundB t0 t1 t2 t3 t4 t5 top more:=by
 unfold montB roundB
 simp only [rmL_eq,rmH_eq,addC_comm t0]
theorem montR_eq (ai:UInt64) (b:Fp) (t:L7):montR pLimbs pInv ai b t=roundF b ai t:=by
 unfold montR roundF
 rw [montB_eq]
 simp only [rmL_eq,rmH_eq,macL_comm ai,macH_comm ai]
theorem montInv_eq:montInv pLimbs.l0=pInv:=by decide +kernel
theorem mont6_eq (a b:Fp):mont6 a b pLimbs=halfT b a:=by
 unfold mont6 mont5 mont4 mont3 mont2 mont1
 rw [montInv_eq]
 simp only [montR_eq]
 rfl
theorem halfT_top {a b:Fp} (ha:a.nat<pN):(halfT a b).t6.toNat<=1:=by
 obtain ⟨k,h1,h2⟩:=halfT_nat a b
 rw [L7.nat_low] at h1 h2
 have hlt:=(halfT a b).low.nat_lt
 have hpr:2*pN<rN:=by decide +kernel
 rcases Nat.lt_or_ge (halfT a b).t6.toNat 1 with h | h
 ·omega
 ·have:rN*1<=rN*(halfT a b).t6.toNat:=Nat.mul_le_mul_left _ h
  rcases Nat.lt_or_ge (halfT a b).t6.toNat 2 with h3 | h3
  ·omega
  ·have:rN*2<=rN*(halfT a b).t6.toNat:=Nat.mul_le_mul_left _ h3
   omega
theorem montF_half (a:Fp) {b:Fp} (hb:b.ok):montF a b pLimbs=halfF b a:=by
 unfold montF halfF
 rw [mont6_eq]
 exact montE7_eq _ (halfT_top hb)
theorem sq_ok:sqLimbs.ok:=by unfold Fp.ok;rw [sq_nat];exact Nat.mod_lt _ pN_pos
theorem mulPF_nat (a:Fp) {b:Fp} (hb:b.ok):(mulPF a b).nat=a.nat*b.nat % pN:=by
 unfold mulPF
 rw [montF_half a hb,montF_half _ sq_ok]
 obtain ⟨h1,h2⟩:=halfF_nat (b:=a) hb
 obtain ⟨h3,h4⟩:=halfF_nat (b:=halfF b a) sq_ok
 rw [<- Nat.mod_eq_of_lt h3]
 refine r_cancel ?_
 rw [h4,sq_nat,Nat.mod_mul_mod]
 have e:rN*rN*(halfF b a).nat=(halfF b a).nat*rN*rN:=by rw [Nat.mul_comm,Nat.mul_assoc]
 rw [e,<- Nat.mod_mul_mod,h2,Nat.mod_mul_mod,Nat.mul_comm a.nat]
theorem mulPF_eq {a b:Fp} (ha:a.ok) (hb:b.ok):mulPF a b=mulF a b:=Fp.nat_inj (by rw [mulPF_nat a hb,mulF_nat ha])
theorem subPF_eq (a b:Fp):subPF a b=subF a b:=by
 unfold subPF minusF subF
 cases (subT a b).2 <;> rfl
theorem negPF_eq (a:Fp):negPF a=negF a:=subPF_eq zeroFp a
theorem addPF_eq (a b:Fp):addPF a b=addF a b:=by
 unfold addPF plusF addF
 rw [lessF_eq,belowF_nat,pLimbs_nat]
 cases (addT a b).2
 ·by_cases hl:(addT a b).1.nat<pN
  ·rw [decide_eq_true hl];rfl
  ·rw [decide_eq_false hl];rfl
 ·by_cases hl:(addT a b).1.nat<pN
  ·rw [decide_eq_true hl];rfl
  ·rw [decide_eq_false hl];rfl
theorem mulPF_ok (a:Fp) {b:Fp} (hb:b.ok):(mulPF a b).ok:=by unfold Fp.ok;rw [mulPF_nat a hb];exact Nat.mod_lt _ pN_pos
theorem powPAt_nat {a:Fp} (ha:a.ok) (e:List UInt64) : ∀ (n:Nat) (o:Fp),o.ok->(powPAt a e n o).nat=o.nat ^ 2 ^ n*a.nat ^ eLow e n % pN
 | 0,o,ho=>by
  simp only [powPAt,eLow,Nat.pow_zero,Nat.pow_one,Nat.mul_one]
  exact (Nat.mod_eq_of_lt ho).symm
 | n+1,o,ho=>by
  have h1:=mulPF_nat o ho
  simp only [powPAt]
  cases hb:bitAt e n with
  | true =>
   simp only []
   rw [powPAt_nat ha e n _ (mulPF_ok _ ha),mulPF_nat _ ha,h1]
   simp only [eLow,hb,Bool.toNat_true,Nat.one_mul]
   rw [Nat.mod_mul_mod,<- Nat.mod_mul_mod,<- Nat.pow_mod,Nat.mod_mul_mod]
   refine congrArg (fun z=>z % pN) ?_
   rw [Nat.mul_pow,<- Nat.pow_two,<- Nat.pow_mul,show 2 ^ (n+1)=2*2 ^ n by rw [Nat.pow_succ,Nat.mul_comm],Nat.pow_add a.nat,Nat.mul_assoc,Nat.mul_comm (a.nat ^ 2 ^ n)]
  | false =>
   simp only []
   rw [powPAt_nat ha e n _ (mulPF_ok _ ho),h1]
   simp only [eLow,hb,Bool.toNat_false,Nat.zero_mul,Nat.add_zero]
   rw [<- Nat.mod_mul_mod,<- Nat.pow_mod,Nat.mod_mul_mod]
   refine congrArg (fun z=>z % pN) ?_
   rw [<- Nat.pow_two,<- Nat.pow_mul,show 2 ^ (n+1)=2*2 ^ n by rw [Nat.pow_succ,Nat.mul_comm]]
theorem one_of:ofF 1=oneFp:=rfl
theorem powPF_eq {a:Fp} (ha:a.ok) (e:List UInt64):powPF a e=powF a e:=Fp.nat_inj (by
 unfold powPF
 rw [powF_nat ha,one_of,powPAt_nat ha e _ _ one_ok',one_nat,Nat.one_pow,Nat.one_mul])
theorem pm2_eq:pm2 = [pLimbs.l0-2,pLimbs.l1,pLimbs.l2,pLimbs.l3,pLimbs.l4,pLimbs.l5]:=by decide +kernel
theorem invPF_eq {a:Fp} (ha:a.ok):invPF a=invF a:=by
 unfold invPF invF
 rw [powPF_eq ha,pm2_eq]
 all_goals rfl
def valL (xs:List UInt64):Nat:=valAt xs xs.length
theorem atF_take (xs:List UInt64) {n i:Nat} (h:i<n):atF (xs.take n) i=atF xs i:=by
 unfold atF
 rw [List.getD_eq_getElem?_getD,List.getD_eq_getElem?_getD,List.getElem?_take_of_lt h]
theorem valAt_take (xs:List UInt64) {n:Nat} : ∀ {k:Nat},k<=n->valAt (xs.take n) k=valAt xs k
 | 0,_=>rfl
 | k+1,h=>by
  simp only [valAt]
  rw [valAt_take xs (k:=k) (by omega),atF_take xs (by omega)]
theorem val_cutN (xs:List UInt64) : ∀ n,valAt xs (cutN xs n)=valAt xs n
 | 0=>rfl
 | n+1=>by
  unfold cutN
  split
  ·rename_i h
   rw [val_cutN xs n]
   simp only [valAt,h]
   simp
  ·rfl
theorem cutF_length (xs:List UInt64):(cutF xs).length=cutN xs xs.length:=by
 unfold cutF
 rw [List.length_take]
 have:=cutN_le xs xs.length
 omega
theorem valL_cut (xs:List UInt64):valL (cutF xs)=valL xs:=by
 unfold valL
 rw [cutF_length]
 unfold cutF
 rw [valAt_take xs (Nat.le_refl _),val_cutN]
theorem cutN_top (xs:List UInt64) : ∀ n,0<cutN xs n->atF xs (cutN xs n-1) ≠ 0
 | 0,h=>by simp [cutN] at h
 | n+1,h=>by
  unfold cutN at h ⊢
  split
  ·rename_i h0
   rw [if_pos h0] at h
   exact cutN_top xs n h
  ·rename_i h0
   simpa using h0
theorem cut_lower (xs:List UInt64) (h:0<(cutF xs).length):W64 ^ ((cutF xs).length-1)<=valL xs:=by
 rw [cutF_length] at h ⊢
 have h1:=cutN_top xs xs.length h
 have h2:=val_cutN xs xs.length
 unfold valL
 rw [<- h2]
 obtain ⟨k,hk⟩ : ∃ k,cutN xs xs.length=k+1:=⟨cutN xs xs.length-1,by omega⟩
 rw [hk] at h1 ⊢
 simp only [Nat.add_sub_cancel] at h1 ⊢
 simp only [valAt]
 have h3:1<=(atF xs k).toNat:=by
  rcases Nat.eq_zero_or_pos (atF xs k).toNat with h | h
  ·exact absurd (UInt64.toNat.inj h) h1
  ·exact h
 calc W64 ^ k=1*W64 ^ k:=(Nat.one_mul _).symm
  _<=(atF xs k).toNat*W64 ^ k:=Nat.mul_le_mul_right _ h3
  _<=_:=Nat.le_add_left _ _
theorem cut_upper (xs:List UInt64):valL xs<W64 ^ (cutF xs).length:=by
 rw [<- valL_cut]
 exact valAt_lt _ _
theorem len_lt_val {xs ys:List UInt64} (h:(cutF xs).length<(cutF ys).length):valL xs<valL ys:=by
 have h1:=cut_upper xs
 have h2:=cut_lower ys (by omega)
 have h3:W64 ^ (cutF xs).length<=W64 ^ ((cutF ys).length-1):=Nat.pow_le_pow_right (by decide) (by omega)
 omega
theorem cmpR_val (xs ys:List UInt64):cmpR xs ys=if valL xs<valL ys then -1 else if valL xs > valL ys then 1 else 0:=by
 unfold cmpR
 by_cases h:(cutF xs).length=(cutF ys).length
 ·rw [if_neg (by simp [h]),cmpAt_val]
  have e1:valAt (cutF xs) (cutF xs).length=valL xs:=valL_cut xs
  have e2:valAt (cutF ys) (cutF xs).length=valL ys:=by rw [h];exact valL_cut ys
  rw [e1,e2]
 ·rw [if_pos h]
  rcases Nat.lt_or_gt_of_ne h with h1 | h1
  ·have:=len_lt_val h1
   rw [if_pos h1,if_pos this]
  ·have:=len_lt_val h1
   rw [if_neg (by omega),if_neg (by omega),if_pos this]
theorem valL_list (a:Fp):valL a.list=a.nat:=list_val a
theorem half_val:valL (rhalfF pLimbs.list)=hN:=by decide +kernel
theorem greatPF_eq (a:Fp):greatPF a=greatF a:=by
 rw [greatF_nat]
 unfold greatPF
 rw [cmpR_val,valL_list,half_val]
 refine decide_eq_decide.2 ?_
 split
 ·omega
 ·split <;> omega
end Go.Proofs.YtcbplfkeeaecgaaGreat
namespace Go.Proofs.YtcbplfkeeaecgaaGreat
section
variable {R : Type} [CR R]
theorem CR.nat_add (m:Nat) : ∀ n:Nat,(CR.nat (m+n):R)=CR.nat m+CR.nat n
 | 0=>by show CR.nat m=CR.nat m+CR.z;rw [CR.add_zero]
 | n+1=>by
  rw [<- Nat.add_assoc,CR.nat_succ,CR.nat_add m n,CR.nat_succ,CR.add_assoc]
theorem CR.nat_mul (m:Nat) : ∀ n:Nat,(CR.nat (m*n):R)=CR.nat m*CR.nat n
 | 0=>by
  show CR.z=CR.nat m*CR.z
  rw [CR.mul_zero]
 | n+1=>by
  rw [Nat.mul_succ,CR.nat_add,CR.nat_mul m n,CR.nat_succ,CR.dist,CR.mul_one]
def bsR (a:R) (n:Nat):Nat->R
 | 0=>0
 | m+1=>bsR a n m+CR.nat (ch n m)*a ^ m
theorem bsR_step (a:R) (n:Nat) : ∀ m:Nat,bsR a (n+1) (m+1)=bsR a n (m+1)+a*bsR a n m
 | 0=>by
  simp only [bsR,ch_zero]
  grind
 | m+1=>by
  have h:=bsR_step a n m
  show bsR a (n+1) (m+1)+CR.nat (ch (n+1) (m+1))*a ^ (m+1)=bsR a n (m+1)+CR.nat (ch n (m+1))*a ^ (m+1)+a*(bsR a n m+CR.nat (ch n m)*a ^ m)
  rw [h,show ch (n+1) (m+1)=ch n m+ch n (m+1) from rfl,CR.nat_add,pow_succ']
  generalize (CR.nat (ch n m):R)=c
  generalize (CR.nat (ch n (m+1)):R)=d
  generalize a ^ m=e
  grind
theorem binomR (a:R) : ∀ n:Nat,(a+1) ^ n=bsR a n (n+1)
 | 0=>by
  show (1:R)=0+CR.nat 1*a ^ 0
  rw [pow_zero']
  show (1:R)=0+1*1
  grind
 | n+1=>by
  rw [bsR_step a n (n+1),show bsR a n (n+1+1)=bsR a n (n+1)+CR.nat (ch n (n+1))*a ^ (n+1) from rfl,ch_big (Nat.lt_succ_self n),<- binomR a n,pow_succ']
  show _=(a+1) ^ n+0*a ^ (n+1)+a*(a+1) ^ n
  grind
theorem bsR_prime {p:Nat} (h:IsPrime p) (h0:(CR.nat p:R)=0) (a:R) : ∀ m:Nat,m<p->bsR a p (m+1)=1
 | 0,_=>by
  simp only [bsR,ch_zero]
  show (0:R)+1*a ^ 0=1
  rw [pow_zero']
  grind
 | m+1,hm=>by
  have ih:=bsR_prime h h0 a m (by omega)
  obtain ⟨c,hc⟩:=ch_prime h (Nat.succ_pos m) hm
  show bsR a p (m+1)+CR.nat (ch p (m+1))*a ^ (m+1)=1
  rw [hc,CR.nat_mul,h0,ih]
  grind
theorem dream1 {p:Nat} (h:IsPrime p) (h0:(CR.nat p:R)=0) (a:R):(a+1) ^ p=a ^ p+1:=by
 have hp:=h.1
 obtain ⟨n,rfl⟩ : ∃ n,p=n+1:=⟨p-1,by omega⟩
 rw [binomR a (n+1),show bsR a (n+1) (n+1+1)=bsR a (n+1) (n+1)+CR.nat (ch (n+1) (n+1))*a ^ (n+1) from rfl,ch_self,bsR_prime h h0 a n (by omega)]
 show (1:R)+1*a ^ (n+1)=_
 grind
end
section
variable {K : Type} [Fld K]
theorem dream {p:Nat} (h:IsPrime p) (h0:(CR.nat p:K)=0) (a b:K):(a+b) ^ p=a ^ p+b ^ p:=by
 by_cases hb:b=0
 ·rw [hb,zero_pow' p (by have:=h.1;omega)]
  have e:a+0=a:=by grind
  rw [e]
  grind
 ·have hi:=mul_inv' hb
  have h1:=dream1 h h0 (a*Fld.inv b)
  have e1:(a+b)=(a*Fld.inv b+1)*b:=by grind
  have e2:a=(a*Fld.inv b)*b:=by grind
  have e3:a ^ p=(a*Fld.inv b) ^ p*b ^ p:=by rw [<- mul_pow',<- e2]
  rw [e1,mul_pow',h1,e3]
  grind
end
theorem Qd.nat_eq {K:Type} [CR K] [QP K] : ∀ n:Nat,(CR.nat n:Qd K)=Qd.of (CR.nat n)
 | 0=>rfl
 | n+1=>by
  rw [CR.nat_succ,Qd.nat_eq n,CR.nat_succ]
  exact Qd.ext' rfl (show (0:K)+0=0 by grind)
theorem Cb.nat_eq {K:Type} [CR K] [CP K] : ∀ n:Nat,(CR.nat n:Cb K)=Cb.of (CR.nat n)
 | 0=>rfl
 | n+1=>by
  rw [CR.nat_succ,Cb.nat_eq n,CR.nat_succ]
  exact Cb.ext' rfl (show (0:K)+0=0 by grind) (show (0:K)+0=0 by grind)
theorem V1.nat_nat : ∀ n:Nat,V1.nat (CR.nat n)=n % pN
 | 0=>V1.nat_zero
 | n+1=>by
  rw [CR.nat_succ]
  show V1.nat (CR.nat n+1)=_
  rw [V1.nat_add,V1.nat_nat n,V1.nat_one,Nat.mod_add_mod]
theorem V1.char:(CR.nat pN:V1)=0:=V1.ext (by rw [V1.nat_nat,Nat.mod_self,V1.nat_zero])
theorem V1.two_nat:V1.nat (2:V1)=2:=by
 show V1.nat (CR.nat 2)=2
 rw [V1.nat_nat]
 exact Nat.mod_eq_of_lt two_lt
instance : QF V1 where
 nr := -1
 no:=fun x h=>by
  have h1:(x*x).chi=x.chi*x.chi:=chi_mul x x
  rw [h,chi_neg_one] at h1
  have hx:x ≠ 0:=fun e=>by
   rw [e] at h
   have:=one_ne' (K:=V1)
   grind
  rw [chi_sq hx] at h1
  exact one_ne_neg h1.symm
abbrev V2:Type:=Qd V1
theorem V1.nr_eq:(QP.nr:V1) = -1:=rfl
def xi:V2:=⟨1,1⟩
theorem xi_norm:xi.norm=2:=by
 unfold Qd.norm xi
 rw [V1.nr_eq]
 show (1:V1)*1 - -1*(1*1)=2
 grind
theorem two_ne:(2:V1) ≠ 0:=fun h=>by
 have h1:=congrArg V1.nat h
 rw [V1.two_nat,V1.nat_zero] at h1
 exact absurd h1 (by decide)
theorem third:(pN-1) / 3*3=pN-1:=by decide +kernel
theorem two_third:((2:V1) ^ ((pN-1) / 3)) ≠ 1:=fun h=>by
 have h1:=congrArg V1.nat h
 rw [V1.nat_pow,V1.two_nat,V1.nat_one,<- mpow_eq pN 381 2 _ (by decide +kernel)] at h1
 exact absurd h1 (by decide +kernel)
theorem two_half:(2:V1).chi ≠ 1:=fun h=>by
 have h1:=congrArg V1.nat h
 unfold V1.chi at h1
 rw [V1.nat_pow,V1.two_nat,V1.nat_one,<- mpow_eq pN 381 2 _ (by decide +kernel)] at h1
 exact absurd h1 (by decide +kernel)
theorem CR_zero {R:Type} [CR R] (a:R):a*0=0:=CR.mul_zero a
instance : CF V2 where
 cr:=xi
 no:=fun x h=>by
  have h1:x.norm*x.norm*x.norm=2:=by rw [<- Qd.norm_mul,<- Qd.norm_mul,h,xi_norm]
  have hx:x.norm ≠ 0:=fun e=>by
   exact two_ne (by rw [<- h1,e,CR_zero])
  apply two_third
  have e:(2:V1)=x.norm ^ 3:=by rw [<- h1];grind
  rw [e,<- pow_mul',Nat.mul_comm,third]
  exact V1.fermat hx
abbrev V6:Type:=Cb V2
theorem V2.cr_eq:(CP.cr:V2)=xi:=rfl
def vv:V6:=⟨0,1,0⟩
theorem vv_norm:vv.norm=xi:=by
 unfold Cb.norm vv
 rw [V2.cr_eq]
 show (0:V2)*(0*0-xi*(1*0))+xi*(0*(xi*(0*0)-0*1)+1*(1*1-0*0))=xi
 generalize xi=x
 grind
instance : QF V6 where
 nr:=vv
 no:=fun x h=>by
  have h1:x.norm*x.norm=xi:=by rw [<- Cb.norm_mul,h,vv_norm]
  have h2:x.norm.norm*x.norm.norm=2:=by rw [<- Qd.norm_mul,h1,xi_norm]
  have hx:x.norm.norm ≠ 0:=fun e=>by
   exact two_ne (by rw [<- h2,e,CR_zero])
  apply two_half
  rw [<- h2,chi_mul,chi_sq hx]
abbrev V12:Type:=Qd V6
theorem V2.char:(CR.nat pN:V2)=0:=by rw [Qd.nat_eq,V1.char];rfl
theorem V6.char:(CR.nat pN:V6)=0:=by rw [Cb.nat_eq,V2.char];rfl
theorem V12.char:(CR.nat pN:V12)=0:=by rw [Qd.nat_eq,V6.char];rfl
theorem V1.pow_p (a:V1):a ^ pN=a:=by
 by_cases h:a=0
 ·rw [h];exact zero_pow' _ pN_pos
 ·have e:pN=(pN-1)+1:=by have:=pN_pos;omega
  rw [e,pow_succ',V1.fermat h]
  grind
theorem Qd.of_pow {K:Type} [CR K] [QP K] (a:K) : ∀ n:Nat,(Qd.of a) ^ n=Qd.of (a ^ n)
 | 0=>rfl
 | n+1=>by rw [pow_succ',Qd.of_pow a n,pow_succ',Qd.of_mul]
def uu:V2:=⟨0,1⟩
theorem uu_sq:uu*uu = -1:=Qd.ext' (by rw [Qd.mul_a,V1.nr_eq];show (0:V1)*0 + -1*(1*1) = -1;grind) (by rw [Qd.mul_b];show (0:V1)*1+1*0 = -0;grind)
theorem neg_one_pow {R:Type} [CR R] : ∀ k:Nat,(-1:R) ^ (2*k+1) = -1
 | 0=>by show (-1:R) ^ 1 = -1;exact pow_one' _
 | k+1=>by
  rw [show 2*(k+1)+1=(2*k+1)+1+1 by omega,pow_succ',pow_succ',neg_one_pow k]
  grind
theorem p_four:pN=2*(2*((pN-3) / 4)+1)+1:=by decide +kernel
theorem uu_pow:uu ^ pN = -uu:=by
 have e:uu ^ pN=(uu ^ 2) ^ (2*((pN-3) / 4)+1)*uu:=by
  rw [<- pow_mul',<- pow_succ',<- p_four]
 have e2:uu ^ 2 = -1:=by
  rw [show (2:Nat)=1+1 from rfl,pow_succ',pow_one',uu_sq]
 rw [e,e2,neg_one_pow]
 grind
theorem V2.split (x:V2):x=Qd.of x.a+Qd.of x.b*uu:=Qd.ext' (by rw [Qd.add_a,Qd.mul_a];show x.a=x.a+(x.b*0+QP.nr*(0*1));grind) (by rw [Qd.add_b,Qd.mul_b];show x.b=0+(x.b*1+0*0);grind)
theorem V2.frob (x:V2):x ^ pN=x.conj:=by
 have h:x ^ pN=Qd.of x.a+Qd.of x.b * -uu:=by
  conv=>lhs;rw [V2.split x]
  rw [dream prime_p V2.char,mul_pow',uu_pow,Qd.of_pow,Qd.of_pow,V1.pow_p,V1.pow_p]
 rw [h]
 exact Qd.ext' (by rw [Qd.add_a,Qd.mul_a];show x.a+(x.b * -0+QP.nr*(0 * -1))=x.a;grind) (by rw [Qd.add_b,Qd.mul_b];show 0+(x.b * -1+0 * -0) = -x.b;grind)
end Go.Proofs.YtcbplfkeeaecgaaGreat
namespace Go.Proofs.YtcbplfkeeaecgaaGreat
open Go.RowKit
section
def rv:V1:=V1.of rN
def ri:V1:=Fld.inv rv
theorem rv_ne:rv ≠ 0:=fun e=>by
 have h:=congrArg V1.nat e
 rw [V1.nat_zero] at h
 exact absurd h (by decide +kernel)
theorem rv_ri:rv*ri=1:=mul_inv' rv_ne
theorem half_ok' {a b:Fp} (ha:a.ok):(halfF a b).ok:=(halfF_nat ha).1
theorem v_half {a b:Fp} (ha:a.ok) (hb:b.ok):(halfF a b).v=ri*(a.v*b.v):=by
 have h:(halfF a b).v*rv=a.v*b.v:=V1.ext (by
  rw [V1.nat_mul,V1.nat_mul,Fp.v_nat (half_ok' ha),Fp.v_nat ha,Fp.v_nat hb]
  show ((halfF a b).nat*(rN % pN)) % pN=_
  rw [Nat.mul_mod_mod,(halfF_nat ha).2])
 have h2:=rv_ri
 grind
theorem whole_ok' {a:Fp} (ha:a.ok):(wholeF a).ok:=by
 unfold Fp.ok
 rw [wholeF_nat ha]
 exact Nat.mod_lt _ pN_pos
theorem v_whole {a:Fp} (ha:a.ok):(wholeF a).v=rv*a.v:=V1.ext (by
 rw [Fp.v_nat (whole_ok' ha),wholeF_nat ha,V1.nat_mul,Fp.v_nat ha]
 show _=(rN % pN*a.nat) % pN
 rw [Nat.mod_mul_mod,Nat.mul_comm])
theorem low_ok' {a:Fp} (ha:a.ok):(lowF a).ok:=(lowF_nat ha).1
theorem v_low {a:Fp} (ha:a.ok):(lowF a).v=ri*a.v:=by
 have h:(lowF a).v*rv=a.v:=V1.ext (by
  rw [V1.nat_mul,Fp.v_nat (low_ok' ha),Fp.v_nat ha]
  show ((lowF a).nat*(rN % pN)) % pN=_
  rw [Nat.mul_mod_mod,(lowF_nat ha).2])
 have h2:=rv_ri
 grind
theorem inv_v {a:Fp} (ha:a.ok):(a.v=0->(invF a).2=7)/\(a.v ≠ 0->(invF a).2=0/\(invF a).1.ok/\(invF a).1.v=Fld.inv a.v):=by
 obtain ⟨h1,h2⟩:=inv_law ha
 constructor
 ·intro h
  refine h1 ?_
  have:=congrArg V1.nat h
  rwa [Fp.v_nat ha,V1.nat_zero] at this
 ·intro h
  have h0:=V1.ne_zero h
  rw [Fp.v_nat ha] at h0
  obtain ⟨i1,i2,i3⟩:=h2 h0
  refine ⟨i1,i2,inv_unique' (V1.ext ?_)⟩
  rw [V1.nat_mul,Fp.v_nat ha,Fp.v_nat i2,i3,V1.nat_one]
def Fp2.ok (a:Fp2):Prop:=a.c0.ok/\a.c1.ok
def Fp2.v (a:Fp2):V2:=⟨a.c0.v,a.c1.v⟩
theorem Fp2.v_a (a:Fp2):a.v.a=a.c0.v:=rfl
theorem Fp2.v_b (a:Fp2):a.v.b=a.c1.v:=rfl
theorem Fp2.v_inj {a b:Fp2} (ha:a.ok) (hb:b.ok) (h:a.v=b.v):a=b:=by
 have h1:a.c0=b.c0:=Fp.v_inj ha.1 hb.1 (congrArg Qd.a h)
 have h2:a.c1=b.c1:=Fp.v_inj ha.2 hb.2 (congrArg Qd.b h)
 cases a;cases b
 simp only [] at h1 h2
 subst h1 h2
 rfl
theorem fp2Eq_v {a b:Fp2} (ha:a.ok) (hb:b.ok):fp2Eq a b=true <-> a.v=b.v:=⟨fun h=>by rw [(fp2Eq_iff a b).1 h],fun h=>(fp2Eq_iff a b).2 (Fp2.v_inj ha hb h)⟩
theorem addF2_eq (a b:Fp2):addF2 a b=⟨addF a.c0 b.c0,addF a.c1 b.c1⟩:=by unfold addF2 addF2_G;rfl
theorem subF2_eq (a b:Fp2):subF2 a b=⟨subF a.c0 b.c0,subF a.c1 b.c1⟩:=by unfold subF2 subF2_G;rfl
theorem negF2_eq (a:Fp2):negF2 a=⟨negF a.c0,negF a.c1⟩:=by unfold negF2 negF2_G;rfl
theorem conjF2_eq (a:Fp2):conjF2 a=⟨a.c0,negF a.c1⟩:=by unfold conjF2 conjF2_G;rfl
theorem upF2_eq (a:Fp2):upF2 a=⟨subF a.c0 a.c1,addF a.c0 a.c1⟩:=by unfold upF2 upF2_G;rfl
theorem halfF2_eq (a b:Fp2):halfF2 a b=⟨subF (halfF a.c0 b.c0) (halfF a.c1 b.c1),subF (halfF (addF a.c0 a.c1) (addF b.c0 b.c1)) (addF (halfF a.c0 b.c0) (halfF a.c1 b.c1))⟩:=by unfold halfF2 halfF2_G;rfl
theorem wholeF2_eq (a:Fp2):wholeF2 a=⟨wholeF a.c0,wholeF a.c1⟩:=by unfold wholeF2 wholeF2_G;rfl
theorem lowF2_eq (a:Fp2):lowF2 a=⟨lowF a.c0,lowF a.c1⟩:=by unfold lowF2 lowF2_G;rfl
theorem mulF2_eq (a b:Fp2):mulF2 a b=wholeF2 (halfF2 a b):=by unfold mulF2 mulF2_G;rfl
theorem normF2_G_eq (f g:Fp->Fp->Fp) (a:Fp2):normF2_G f g a=f (g a.c0 a.c0) (g a.c1 a.c1):=rfl
theorem normF2_eq (a:Fp2):normF2 a=addF (mulF a.c0 a.c0) (mulF a.c1 a.c1):=by
 unfold normF2
 exact normF2_G_eq addF mulF a
theorem scaledF2_eq (a:Fp2) (k:Fp):scaledF2 a k=⟨mulF a.c0 k,mulF a.c1 k⟩:=by unfold scaledF2 scaledF2_G;rfl
theorem Fp2.mk_ok {a b:Fp} (ha:a.ok) (hb:b.ok):(⟨a,b⟩:Fp2).ok:=⟨ha,hb⟩
theorem Fp2.mk_v {a b:Fp} {x:V2} (ha:a.v=x.a) (hb:b.v=x.b):(⟨a,b⟩:Fp2).v=x:=Qd.ext' ha hb
theorem may2_iff (a:Fp2):mayF2 a=true <-> a.ok:=by
 unfold mayF2 mayF2_G Fp2.ok
 rw [<- mayF_ok,<- mayF_ok]
 cases mayF a.c0 <;> simp
theorem zero_ok2:zeroFp2.ok:=⟨zero_ok',zero_ok'⟩
theorem v_zero2:zeroFp2.v=0:=Qd.ext' v_zero v_zero
theorem one_ok2:oneFp2.ok:=⟨one_ok',zero_ok'⟩
theorem v_one2:oneFp2.v=1:=Qd.ext' v_one v_zero
theorem v_eq_zero2 {a:Fp2} (ha:a.ok):a.v=0 <-> a=zeroFp2:=⟨fun h=>Fp2.v_inj ha zero_ok2 (by rw [h,v_zero2]),fun h=>by rw [h,v_zero2]⟩
theorem add_ok2 {a b:Fp2} (ha:a.ok) (hb:b.ok):(addF2 a b).ok:=by rw [addF2_eq];exact Fp2.mk_ok (add_ok' ha.1 hb.1) (add_ok' ha.2 hb.2)
theorem v_add2 {a b:Fp2} (ha:a.ok) (hb:b.ok):(addF2 a b).v=a.v+b.v:=by rw [addF2_eq];exact Fp2.mk_v (v_add ha.1 hb.1) (v_add ha.2 hb.2)
theorem sub_ok2 {a b:Fp2} (ha:a.ok) (hb:b.ok):(subF2 a b).ok:=by rw [subF2_eq];exact Fp2.mk_ok (sub_ok' ha.1 hb.1) (sub_ok' ha.2 hb.2)
theorem v_sub2 {a b:Fp2} (ha:a.ok) (hb:b.ok):(subF2 a b).v=a.v-b.v:=by rw [subF2_eq];exact Fp2.mk_v (v_sub ha.1 hb.1) (v_sub ha.2 hb.2)
theorem neg_ok2 {a:Fp2} (ha:a.ok):(negF2 a).ok:=by rw [negF2_eq];exact Fp2.mk_ok (neg_ok' ha.1) (neg_ok' ha.2)
theorem v_neg2 {a:Fp2} (ha:a.ok):(negF2 a).v = -a.v:=by rw [negF2_eq];exact Fp2.mk_v (v_neg ha.1) (v_neg ha.2)
theorem conj_ok2 {a:Fp2} (ha:a.ok):(conjF2 a).ok:=by rw [conjF2_eq];exact Fp2.mk_ok (ha.1) (neg_ok' ha.2)
theorem v_conj2 {a:Fp2} (ha:a.ok):(conjF2 a).v=a.v.conj:=by rw [conjF2_eq];exact Fp2.mk_v rfl (v_neg ha.2)
theorem up_ok2 {a:Fp2} (ha:a.ok):(upF2 a).ok:=by rw [upF2_eq];exact Fp2.mk_ok (sub_ok' ha.1 ha.2) (add_ok' ha.1 ha.2)
theorem V2.mul_a (x y:V2):(x*y).a=x.a*y.a-x.b*y.b:=by rw [Qd.mul_a,V1.nr_eq];grind
theorem V2.mul_b (x y:V2):(x*y).b=x.a*y.b+x.b*y.a:=Qd.mul_b x y
theorem xi_a:xi.a=1:=rfl
theorem xi_b:xi.b=1:=rfl
theorem v_up2 {a:Fp2} (ha:a.ok):(upF2 a).v=xi*a.v:=by
 rw [upF2_eq]
 exact Fp2.mk_v (by rw [V2.mul_a,xi_a,xi_b,v_sub ha.1 ha.2,Fp2.v_a,Fp2.v_b];grind)
  (by rw [V2.mul_b,xi_a,xi_b,v_add ha.1 ha.2,Fp2.v_a,Fp2.v_b];grind)
def rv2:V2:=Qd.of rv
def ri2:V2:=Qd.of ri
theorem rv_ri2:rv2*ri2=1:=by unfold rv2 ri2;rw [<- Qd.of_mul,rv_ri];rfl
theorem half_ok2 {a b:Fp2} (ha:a.ok) (hb:b.ok):(halfF2 a b).ok:=by rw [halfF2_eq];exact Fp2.mk_ok (sub_ok' (half_ok' ha.1) (half_ok' ha.2)) (sub_ok' (half_ok' (add_ok' ha.1 ha.2)) (add_ok' (half_ok' ha.1) (half_ok' ha.2)))
theorem v_half2 {a b:Fp2} (ha:a.ok) (hb:b.ok):(halfF2 a b).v=ri2*(a.v*b.v):=by
 rw [halfF2_eq]
 exact Fp2.mk_v (by
  rw [v_sub (half_ok' ha.1) (half_ok' ha.2),v_half ha.1 hb.1,v_half ha.2 hb.2,V2.mul_a,V2.mul_a,V2.mul_b]
  rw [show ri2.a=ri from rfl,show ri2.b=0 from rfl,Fp2.v_a,Fp2.v_b,Fp2.v_a,Fp2.v_b]
  grind)
  (by
  rw [v_sub (half_ok' (add_ok' ha.1 ha.2)) (add_ok' (half_ok' ha.1) (half_ok' ha.2)),v_half (add_ok' ha.1 ha.2) (add_ok' hb.1 hb.2),v_add (half_ok' ha.1) (half_ok' ha.2),v_half ha.1 hb.1,v_half ha.2 hb.2,v_add ha.1 ha.2,v_add hb.1 hb.2,V2.mul_b,V2.mul_a,V2.mul_b]
  rw [show ri2.a=ri from rfl,show ri2.b=0 from rfl,Fp2.v_a,Fp2.v_b,Fp2.v_a,Fp2.v_b]
  grind)
theorem whole_ok2 {a:Fp2} (ha:a.ok):(wholeF2 a).ok:=by rw [wholeF2_eq];exact Fp2.mk_ok (whole_ok' ha.1) (whole_ok' ha.2)
theorem of_mul_a (k:V1) (x:V2):(Qd.of k*x).a=k*x.a:=by rw [V2.mul_a];show k*x.a-0*x.b=_;grind
theorem of_mul_b (k:V1) (x:V2):(Qd.of k*x).b=k*x.b:=by rw [V2.mul_b];show k*x.b+0*x.a=_;grind
theorem v_whole2 {a:Fp2} (ha:a.ok):(wholeF2 a).v=rv2*a.v:=by rw [wholeF2_eq];exact Fp2.mk_v (by unfold rv2;rw [of_mul_a];exact v_whole ha.1) (by unfold rv2;rw [of_mul_b];exact v_whole ha.2)
theorem low_ok2 {a:Fp2} (ha:a.ok):(lowF2 a).ok:=by rw [lowF2_eq];exact Fp2.mk_ok (low_ok' ha.1) (low_ok' ha.2)
theorem v_low2 {a:Fp2} (ha:a.ok):(lowF2 a).v=ri2*a.v:=by rw [lowF2_eq];exact Fp2.mk_v (by unfold ri2;rw [of_mul_a];exact v_low ha.1) (by unfold ri2;rw [of_mul_b];exact v_low ha.2)
theorem mul_ok2 {a b:Fp2} (ha:a.ok) (hb:b.ok):(mulF2 a b).ok:=by rw [mulF2_eq];exact whole_ok2 (half_ok2 ha hb)
theorem v_mul2 {a b:Fp2} (ha:a.ok) (hb:b.ok):(mulF2 a b).v=a.v*b.v:=by
 rw [mulF2_eq,v_whole2 (half_ok2 ha hb),v_half2 ha hb]
 have:=rv_ri2
 grind
theorem norm_ok2 {a:Fp2} (ha:a.ok):(normF2 a).ok:=by rw [normF2_eq];exact add_ok' (mul_ok' ha.1) (mul_ok' ha.2)
theorem V2.norm_eq (x:V2):x.norm=x.a*x.a+x.b*x.b:=by unfold Qd.norm;rw [V1.nr_eq];grind
theorem v_norm2 {a:Fp2} (ha:a.ok):(normF2 a).v=a.v.norm:=by
 rw [V2.norm_eq,normF2_eq,v_add (mul_ok' ha.1) (mul_ok' ha.2),v_mul ha.1 ha.1,v_mul ha.2 ha.2]
 rfl
theorem scaled_ok2 {a:Fp2} {k:Fp} (ha:a.ok) (hk:k.ok):(scaledF2 a k).ok:=by rw [scaledF2_eq];exact Fp2.mk_ok (mul_ok' ha.1) (mul_ok' ha.2)
theorem v_scaled2 {a:Fp2} {k:Fp} (ha:a.ok) (hk:k.ok):(scaledF2 a k).v=Qd.of k.v*a.v:=by
 rw [scaledF2_eq]
 exact Fp2.mk_v (by rw [of_mul_a,v_mul ha.1 hk];exact CR.mul_comm a.c0.v k.v)
  (by rw [of_mul_b,v_mul ha.2 hk];exact CR.mul_comm a.c1.v k.v)
theorem V2.inv_eq {x:V2} (h:x ≠ 0):Fld.inv x=Qd.of (Fld.inv x.norm)*x.conj:=by
 refine (inv_unique' ?_).symm
 have h1:=Qd.mul_conj x
 have h2:Qd.of x.norm*Qd.of (Fld.inv x.norm)=(1:V2):=by rw [<- Qd.of_mul,mul_inv' (Qd.norm_ne h)];rfl
 grind
theorem V2.norm_zero:(0:V2).norm=0:=by rw [V2.norm_eq];show (0:V1)*0+0*0=0;grind
theorem invF2_no {f0:Fp->Fp × Int} {f1:Fp2->Fp} (f2:Fp2->Fp->Fp2) (f3:Fp2->Fp2) {a:Fp2} (h:(f0 (f1 a)).2=7):invF2_G f0 f1 f2 f3 a=(zeroFp2,7):=by
 unfold invF2_G
 rw [h]
 rfl
theorem invF2_yes {f0:Fp->Fp × Int} {f1:Fp2->Fp} (f2:Fp2->Fp->Fp2) (f3:Fp2->Fp2) {a:Fp2} (h:(f0 (f1 a)).2=0):invF2_G f0 f1 f2 f3 a=(f2 (f3 a) (f0 (f1 a)).1,0):=by
 unfold invF2_G
 rw [h]
 rfl
theorem inv_v2 {a:Fp2} (ha:a.ok):(a.v=0->invF2 a=(zeroFp2,7))/\(a.v ≠ 0->(invF2 a).2=0/\(invF2 a).1.ok/\(invF2 a).1.v=Fld.inv a.v):=by
 obtain ⟨h1,h2⟩:=inv_v (norm_ok2 ha)
 rw [v_norm2 ha] at h1 h2
 unfold invF2
 constructor
 ·intro h
  exact invF2_no _ _ (h1 (by rw [h];exact V2.norm_zero))
 ·intro h
  obtain ⟨i1,i2,i3⟩:=h2 (Qd.norm_ne h)
  rw [invF2_yes _ _ i1]
  simp only []
  refine ⟨trivial,scaled_ok2 (conj_ok2 ha) i2,?_⟩
  rw [v_scaled2 (conj_ok2 ha) i2,i3,v_conj2 ha,V2.inv_eq h]
theorem powG_v {α R:Type} [CR R] (ok:α->Prop) (v:α->R) {mF:α->α->α} (h1 : ∀ {a b},ok a->ok b->ok (mF a b)) (h2 : ∀ {a b},ok a->ok b->v (mF a b)=v a*v b) {a:α} (ha:ok a) (e:List UInt64) : ∀ (n:Nat) {o:α},ok o ->
  ok (powG mF a e n o)/\v (powG mF a e n o)=v o ^ 2 ^ n*v a ^ eLow e n
 | 0,o,ho=>⟨ho,by
  show v o=v o ^ 2 ^ 0*v a ^ eLow e 0
  rw [show (2 ^ 0:Nat)=1 from rfl,pow_one',show eLow e 0=0 from rfl,pow_zero']
  grind⟩
 | n+1,o,ho=>by
  simp only [powG]
  have e2:(2:Nat) ^ (n+1)=2 ^ n+2 ^ n:=by rw [Nat.pow_succ];omega
  cases hb:bitAt e n with
  | true =>
   simp only []
   obtain ⟨i1,i2⟩:=powG_v ok v h1 h2 ha e n (h1 (h1 ho ho) ha)
   refine ⟨i1,?_⟩
   rw [i2,h2 (h1 ho ho) ha,h2 ho ho]
   simp only [eLow,hb,Bool.toNat_true,Nat.one_mul]
   rw [mul_pow',mul_pow',e2,pow_add',pow_add']
   grind
  | false =>
   simp only []
   obtain ⟨i1,i2⟩:=powG_v ok v h1 h2 ha e n (h1 ho ho)
   refine ⟨i1,?_⟩
   rw [i2,h2 ho ho]
   simp only [eLow,hb,Bool.toNat_false,Nat.zero_mul,Nat.add_zero]
   rw [mul_pow',e2,pow_add']
theorem pw2At_eq (x:Fp2) (e:List UInt64) : ∀ (n:Nat) (o:Fp2),pw2At x e n o=lowF2 (powG halfF2 x e n o)
 | 0,o=>rfl
 | n+1,o=>by
  simp only [pw2At,powG]
  exact pw2At_eq x e n _
theorem pow_v2 {a:Fp2} (ha:a.ok) (e:List UInt64):(powF2 a e).ok/\(powF2 a e).v=a.v ^ eLow e (64*e.length):=by
 unfold powF2
 rw [pw2At_eq]
 have h:=rv_ri2
 obtain ⟨h1,h2⟩:=powG_v (mF:=halfF2) Fp2.ok (fun x=>ri2*x.v) half_ok2 (fun {a b} ha hb=>by
  show ri2*(halfF2 a b).v=ri2*a.v*(ri2*b.v)
  rw [v_half2 ha hb]
  grind) (whole_ok2 ha) e (64*e.length) (whole_ok2 one_ok2)
 refine ⟨low_ok2 h1,?_⟩
 rw [v_low2 h1]
 rw [h2,v_whole2 one_ok2,v_whole2 ha,v_one2,show ri2*(rv2*1)=1 by grind,one_pow',show ri2*(rv2*a.v)=a.v by grind]
 grind
end
section
theorem add2R_G_eq (f:Fp->Fp->Fp) (a b:Fp2):add2R_G f a b=⟨f a.c0 b.c0,f a.c1 b.c1⟩:=rfl
theorem sub2R_G_eq (f:Fp->Fp->Fp) (a b:Fp2):sub2R_G f a b=⟨f a.c0 b.c0,f a.c1 b.c1⟩:=rfl
theorem mul2R_G_eq (f g h:Fp->Fp->Fp) (a b:Fp2):mul2R_G f g h a b=⟨f (g a.c0 b.c0) (g a.c1 b.c1),h (g a.c0 b.c1) (g a.c1 b.c0)⟩:=rfl
theorem conj2R_G_eq (f:Fp->Fp) (a:Fp2):conj2R_G f a=⟨a.c0,f a.c1⟩:=rfl
theorem one2R_G_eq (f:UInt64->Fp):one2R_G f=⟨f 1,zeroFp⟩:=rfl
theorem xi2R_G_eq (f:UInt64->Fp):xi2R_G f=⟨f 1,f 1⟩:=rfl
theorem add2R_eq (a b:Fp2):add2R a b=addF2 a b:=by
 unfold add2R
 rw [add2R_G_eq,addPF_eq,addPF_eq,addF2_eq]
theorem sub2R_eq (a b:Fp2):sub2R a b=subF2 a b:=by
 unfold sub2R
 rw [sub2R_G_eq,subPF_eq,subPF_eq,subF2_eq]
theorem conj2R_eq (a:Fp2):conj2R a=conjF2 a:=by
 unfold conj2R
 rw [conj2R_G_eq,negPF_eq,conjF2_eq]
theorem one2R_eq:one2R=oneFp2:=by
 unfold one2R
 rw [one2R_G_eq,one_of]
 rfl
theorem xi2R_eq':xi2R=⟨oneFp,oneFp⟩:=by
 unfold xi2R
 rw [xi2R_G_eq,one_of]
theorem xi_ok2:xi2R.ok:=by rw [xi2R_eq'];exact ⟨one_ok',one_ok'⟩
theorem v_xi2:xi2R.v=xi:=by rw [xi2R_eq'];exact Qd.ext' v_one v_one
theorem mul2R_eq {a b:Fp2} (ha:a.ok) (hb:b.ok):mul2R a b=mulF2 a b:=by
 unfold mul2R
 rw [mul2R_G_eq,mulPF_eq ha.1 hb.1,mulPF_eq ha.2 hb.2,mulPF_eq ha.1 hb.2,mulPF_eq ha.2 hb.1,subPF_eq,addPF_eq]
 refine Fp2.v_inj (Fp2.mk_ok (sub_ok' (mul_ok' ha.1) (mul_ok' ha.2)) (add_ok' (mul_ok' ha.1) (mul_ok' ha.2))) (mul_ok2 ha hb) ?_
 rw [v_mul2 ha hb]
 refine Fp2.mk_v ?_ ?_
 ·rw [V2.mul_a,v_sub (mul_ok' ha.1) (mul_ok' ha.2),v_mul ha.1 hb.1,v_mul ha.2 hb.2,Fp2.v_a,Fp2.v_a,Fp2.v_b,Fp2.v_b]
 ·rw [V2.mul_b,v_add (mul_ok' ha.1) (mul_ok' ha.2),v_mul ha.1 hb.2,v_mul ha.2 hb.1,Fp2.v_a,Fp2.v_a,Fp2.v_b,Fp2.v_b]
def great2V (a:Fp2):Bool:=match fpEq a.c1 zeroFp with
 | true=>greatF a.c0
 | false=>greatF a.c1
theorem great2R_G_eq (f:Fp->Bool) (a:Fp2):great2R_G f a=match fpEq a.c1 zeroFp with | true=>f a.c0 | false=>f a.c1:=by
 unfold great2R_G
 generalize fpEq a.c1 _=b
 cases b <;> rfl
theorem great2R_eqV (a:Fp2):great2R a=great2V a:=by
 have h:(greatPF:Fp->Bool)=greatF:=funext greatPF_eq
 unfold great2R great2V
 rw [great2R_G_eq,h]
theorem greatF2_G_eq (f:Fp->Bool) (a:Fp2):greatF2_G f a=match fpEq a.c1 zeroFp with | true=>f a.c0 | false=>f a.c1:=by
 unfold greatF2_G
 generalize fpEq a.c1 _=b
 cases b <;> rfl
theorem greatF2_eq (a:Fp2):greatF2 a=great2V a:=by
 unfold greatF2 great2V
 rw [greatF2_G_eq]
theorem great2R_eq (a:Fp2):great2R a=greatF2 a:=by rw [great2R_eqV,greatF2_eq]
theorem inv2R_no {f0:Fp2->Fp2->Fp2} {f1:Fp2->Fp2} {f2:Fp->Fp × Int} {a:Fp2} (h:(f2 (f0 a (f1 a)).c0).2=7):inv2R_G f0 f1 f2 a=(zeroFp2,7):=by
 unfold inv2R_G
 rw [h]
 rfl
theorem inv2R_yes {f0:Fp2->Fp2->Fp2} {f1:Fp2->Fp2} {f2:Fp->Fp × Int} {a:Fp2} (h:(f2 (f0 a (f1 a)).c0).2=0):inv2R_G f0 f1 f2 a=(f0 (f1 a) ⟨(f2 (f0 a (f1 a)).c0).1,zeroFp⟩,0):=by
 unfold inv2R_G
 rw [h]
 rfl
theorem inv2R_eq {a:Fp2} (ha:a.ok):inv2R a=invF2 a:=by
 have hc:=conj_ok2 ha
 have hn:(mul2R a (conj2R a)).c0=normF2 a:=by
  rw [conj2R_eq,mul2R_eq ha hc]
  refine Fp.v_inj (mul_ok2 ha hc).1 (norm_ok2 ha) ?_
  rw [v_norm2 ha,<- Fp2.v_a,v_mul2 ha hc,v_conj2 ha,Qd.mul_conj]
  rfl
 obtain ⟨h1,h2⟩:=inv_v (norm_ok2 ha)
 obtain ⟨k1,k2⟩:=inv_v2 ha
 rw [v_norm2 ha] at h1 h2
 by_cases h0:a.v=0
 ·rw [k1 h0]
  unfold inv2R
  exact inv2R_no (by rw [hn,invPF_eq (norm_ok2 ha)];exact h1 (by rw [h0];exact V2.norm_zero))
 ·obtain ⟨i1,i2,i3⟩:=h2 (Qd.norm_ne h0)
  obtain ⟨j1,j2,j3⟩:=k2 h0
  have e:inv2R a=(mul2R (conj2R a) ⟨(invF (normF2 a)).1,zeroFp⟩,0):=by
   unfold inv2R
   rw [inv2R_yes (by rw [hn,invPF_eq (norm_ok2 ha)];exact i1),hn,invPF_eq (norm_ok2 ha)]
  have hq:(⟨(invF (normF2 a)).1,zeroFp⟩:Fp2).ok:=Fp2.mk_ok i2 zero_ok'
  rw [e]
  refine Prod.ext ?_ j1.symm
  simp only []
  rw [conj2R_eq,mul2R_eq hc hq]
  refine Fp2.v_inj (mul_ok2 hc hq) j2 ?_
  rw [j3,v_mul2 hc hq,v_conj2 ha,V2.inv_eq h0,show (⟨(invF (normF2 a)).1,zeroFp⟩:Fp2).v=Qd.of (Fld.inv a.v.norm) from Fp2.mk_v i3 v_zero]
  exact CR.mul_comm _ _
theorem great2_low {a:Fp2} (h:fpEq a.c1 zeroFp=true):great2V a=greatF a.c0:=by
 unfold great2V
 rw [h]
theorem great2_high {a:Fp2} (h:fpEq a.c1 zeroFp=false):great2V a=greatF a.c1:=by
 unfold great2V
 rw [h]
theorem fpEq_zero {a:Fp} (ha:a.ok):fpEq a zeroFp=true <-> a.v=0:=by
 have:=fpEq_v ha zero_ok'
 rw [v_zero] at this
 exact this
theorem fpEq_nonzero {a:Fp} (ha:a.ok):fpEq a zeroFp=false <-> a.v ≠ 0:=by
 rw [<- Bool.not_eq_true,fpEq_zero ha]
theorem great_neg2 {a:Fp2} (ha:a.ok) (h:a.v ≠ 0):great2V (negF2 a) = !great2V a:=by
 have e0:(negF2 a).c0=negF a.c0:=by rw [negF2_eq]
 have e1:(negF2 a).c1=negF a.c1:=by rw [negF2_eq]
 by_cases h1:a.c1.v=0
 ·have h0:a.c0.v ≠ 0:=fun h0=>h (Qd.ext' h0 h1)
  rw [great2_low ((fpEq_zero ha.2).2 h1),great2_low (a:=negF2 a) (by rw [e1,fpEq_zero (neg_ok' ha.2),v_neg ha.2,h1];grind),e0,great_neg ha.1 h0]
 ·rw [great2_high ((fpEq_nonzero ha.2).2 h1),great2_high (a:=negF2 a) (by rw [e1,fpEq_nonzero (neg_ok' ha.2),v_neg ha.2];grind),e1,great_neg ha.2 h1]
theorem great_zero2:great2V zeroFp2=false:=by
 rw [great2_low (a:=zeroFp2) rfl]
 exact great_zero
def RootOf (a:Fp2) (r:Fp2 × Bool):Prop:=((∃ y:V2,y*y=a.v)/\r.2=true/\r.1.ok/\r.1.v*r.1.v=a.v/\great2V r.1=false) \/ ((¬ ∃ y:V2,y*y=a.v)/\r=(zeroFp2,false))
theorem RootOf.eq {a:Fp2} {r s:Fp2 × Bool} (h:RootOf a r) (k:RootOf a s):r=s:=by
 rcases h with ⟨h0,h1,h2,h3,h4⟩ | ⟨h0,h1⟩
 ·rcases k with ⟨k0,k1,k2,k3,k4⟩ | ⟨k0,_⟩
  ·refine Prod.ext ?_ (h1.trans k1.symm)
   rcases sq_eq' (h3.trans k3.symm) with e | e
   ·exact Fp2.v_inj h2 k2 e
   ·by_cases hz:s.1.v=0
    ·exact Fp2.v_inj h2 k2 (by rw [e,hz];grind)
    ·exfalso
     have:r.1=negF2 s.1:=Fp2.v_inj h2 (neg_ok2 k2) (by rw [e,v_neg2 k2])
     rw [this,great_neg2 k2 hz,k4] at h4
     cases h4
  ·exact absurd h0 k0
 ·rcases k with ⟨k0,_⟩ | ⟨_,k1⟩
  ·exact absurd k0 h0
  ·rw [h1,k1]
def finG (g:Fp2->Bool) (n:Fp2->Fp2) (z:Fp2):Fp2 × Bool:=match g z with | true=>(n z,true) | false=>(z,true)
theorem fin_root {a z:Fp2} (hz:z.ok) (h:z.v*z.v=a.v):RootOf a (finG great2V negF2 z):=by
 refine .inl ⟨⟨z.v,h⟩,?_⟩
 unfold finG
 cases hg:great2V z with
 | true =>
  have hne:z.v ≠ 0:=fun e=>by
   rw [(v_eq_zero2 hz).1 e,great_zero2] at hg
   cases hg
  refine ⟨rfl,neg_ok2 hz,?_,?_⟩
  ·show (negF2 z).v*(negF2 z).v=_
   rw [v_neg2 hz]
   grind
  ·show great2V (negF2 z)=false
   rw [great_neg2 hz hne,hg]
   rfl
 | false=>exact ⟨rfl,hz,h,hg⟩
def i2:V1:=Fld.inv 2
theorem two_i2:(2:V1)*i2=1:=mul_inv' two_ne
theorem half_of2:(invF (ofF 2)).1.ok/\(invF (ofF 2)).1.v=i2:=by
 have e:(ofF 2).v=2:=by rw [v_of];exact V1.ext (by decide +kernel)
 obtain ⟨_,h1,h2⟩:=(inv_v (ofF_ok 2)).2 (by rw [e];exact two_ne)
 exact ⟨h1,by rw [h2,e];rfl⟩
theorem sqrt_ok' {a:Fp} (ha:a.ok):(sqrtF a).1.ok:=by
 obtain ⟨h1,h2⟩:=sqrt_law ha
 by_cases h : ∃ y:V1,y*y=a.v
 ·exact (h1 h).2.1
 ·rw [h2 h];exact zero_ok'
theorem sqrt_v {a:Fp} (ha:a.ok) (h:(sqrtF a).2=true):(sqrtF a).1.v*(sqrtF a).1.v=a.v:=((sqrt_law ha).1 ((sqrt_snd ha).1 h)).2.2.1
theorem sqrt_neg_of {a:Fp} (ha:a.ok) (h:(sqrtF a).2=false):a.v ≠ 0/\(sqrtF (negF a)).2=true:=by
 have h1 : ¬ ∃ y:V1,y*y=a.v:=fun e=>by rw [(sqrt_snd ha).2 e] at h;cases h
 have h0:a.v ≠ 0:=fun e=>h1 ⟨0,by rw [e];grind⟩
 refine ⟨h0,(sqrt_snd (neg_ok' ha)).2 ?_⟩
 rw [v_neg ha]
 exact (sq_neg h0).2 h1
theorem sq_other {x y w:V1} (hw:w ≠ 0) (h:x*y = -(w*w)):(¬ ∃ z:V1,z*z=x) -> ∃ z:V1,z*z=y:=fun hn=>by
 have hx:x ≠ 0:=fun e=>by
  have:w*w=0:=by grind
  exact mul_ne' hw hw this
 obtain ⟨z,hz⟩:=(sq_neg hx).2 hn
 have hz0:z ≠ 0:=fun e=>hx (by grind)
 have hi:=mul_inv' hz0
 refine ⟨w*Fld.inv z,?_⟩
 have e1:x = -(z*z):=by grind
 have e2:z*z*y=w*w:=by grind
 have:y=w*w*(Fld.inv z*Fld.inv z):=by
  have:y=(z*Fld.inv z)*(z*Fld.inv z)*y:=by rw [hi];grind
  grind
 grind
theorem root_norm {a:V2} (h : ∃ y:V2,y*y=a) : ∃ y:V1,y*y=a.norm:=by
 obtain ⟨y,rfl⟩:=h
 exact ⟨y.norm,(Qd.norm_mul y y).symm⟩
theorem halves_sum {x n:V1}:(x+n)*i2+(x-n)*i2=x:=by
 have:=two_i2
 grind
theorem halves_mul {a:V2} {n:V1} (h:n*n=a.norm):(a.a+n)*i2*((a.a-n)*i2) = -(a.b*i2*(a.b*i2)):=by
 rw [V2.norm_eq] at h
 grind
theorem root_both {a:V2} {x k X Y:V1} (hx:x*x=X) (hk:x*k=1) (hs:X+Y=a.a) (hp:X*Y = -(a.b*i2*(a.b*i2))):(⟨x,a.b*i2*k⟩:V2)*⟨x,a.b*i2*k⟩=a:=Qd.ext'
 (by
  rw [V2.mul_a]
  show x*x-a.b*i2*k*(a.b*i2*k)=a.a
  have:a.b*i2*k*(a.b*i2*k) = -Y:=by
   have e:Y*(x*x) = -(a.b*i2*(a.b*i2)):=by rw [hx];grind
   have:(x*k)*(x*k)*Y = -(a.b*i2*k*(a.b*i2*k)):=by grind
   rw [hk] at this
   grind
  rw [this]
  grind)
 (by
  rw [V2.mul_b]
  show x*(a.b*i2*k)+a.b*i2*k*x=a.b
  have:=two_i2
  grind)
theorem single_low {f0:Fp->Fp × Bool} {f1:Fp->Fp} {a:Fp} (h:(f0 a).2=true):singleF2_G f0 f1 a=⟨(f0 a).1,zeroFp⟩:=by
 unfold singleF2_G
 rw [h]
theorem single_high {f0:Fp->Fp × Bool} {f1:Fp->Fp} {a:Fp} (h:(f0 a).2=false):singleF2_G f0 f1 a=⟨zeroFp,(f0 (f1 a)).1⟩:=by
 unfold singleF2_G
 rw [h]
theorem sq_low (x:V1):(⟨x,0⟩:V2)*⟨x,0⟩=Qd.of (x*x):=Qd.ext' (by rw [V2.mul_a];show x*x-0*0=x*x;grind) (by rw [V2.mul_b];show x*0+0*x=0;grind)
theorem sq_high (x:V1):(⟨0,x⟩:V2)*⟨0,x⟩=Qd.of (-(x*x)):=Qd.ext' (by rw [V2.mul_a];show 0*0-x*x = -(x*x);grind) (by rw [V2.mul_b];show 0*x+x*0=0;grind)
theorem low_v (x:Fp):(⟨x,zeroFp⟩:Fp2).v=⟨x.v,0⟩:=Fp2.mk_v rfl v_zero
theorem high_v (x:Fp):(⟨zeroFp,x⟩:Fp2).v=⟨0,x.v⟩:=Fp2.mk_v v_zero rfl
theorem neg_neg1 (x:V1) : - -x=x:=by grind
theorem single_v {a:Fp} (ha:a.ok):(singleF2 a).ok/\(singleF2 a).v*(singleF2 a).v=Qd.of a.v:=by
 unfold singleF2
 cases hs:(sqrtF a).2 with
 | true =>
  rw [single_low hs,low_v,sq_low,sqrt_v ha hs]
  exact ⟨Fp2.mk_ok (sqrt_ok' ha) zero_ok',rfl⟩
 | false =>
  rw [single_high hs]
  obtain ⟨h0,h1⟩:=sqrt_neg_of ha hs
  have hn:=neg_ok' ha
  rw [high_v,sq_high,sqrt_v hn h1,v_neg ha,neg_neg1]
  exact ⟨Fp2.mk_ok zero_ok' (sqrt_ok' hn),rfl⟩
theorem both_low {f0:Fp->Fp × Int} {f1:UInt64->Fp} {f2:Fp->Fp × Bool} {f3 f4 f5:Fp->Fp->Fp} {a:Fp2} {n:Fp} (h:(f2 (f5 (f3 a.c0 n) (f0 (f1 2)).1)).2=true) :
  bothF2_G f0 f1 f2 f3 f4 f5 a n=⟨(f2 (f5 (f3 a.c0 n) (f0 (f1 2)).1)).1,f5 (f5 a.c1 (f0 (f1 2)).1) (f0 (f2 (f5 (f3 a.c0 n) (f0 (f1 2)).1)).1).1⟩:=by
 unfold bothF2_G
 rw [h]
 rfl
theorem both_high {f0:Fp->Fp × Int} {f1:UInt64->Fp} {f2:Fp->Fp × Bool} {f3 f4 f5:Fp->Fp->Fp} {a:Fp2} {n:Fp} (h:(f2 (f5 (f3 a.c0 n) (f0 (f1 2)).1)).2=false) :
  bothF2_G f0 f1 f2 f3 f4 f5 a n=⟨(f2 (f5 (f4 a.c0 n) (f0 (f1 2)).1)).1,f5 (f5 a.c1 (f0 (f1 2)).1) (f0 (f2 (f5 (f4 a.c0 n) (f0 (f1 2)).1)).1).1⟩:=by
 unfold bothF2_G
 rw [h]
 rfl
theorem parts_v {a:Fp2} (ha:a.ok) (hb:a.c1.v ≠ 0) {X:Fp} {Y:V1} (hX:X.ok) (hs:(sqrtF X).2=true) (h1:X.v+Y=a.v.a) (h2:X.v*Y = -(a.v.b*i2*(a.v.b*i2))) :
  (sqrtF X).1.v ≠ 0/\(⟨(sqrtF X).1,mulF (mulF a.c1 (invF (ofF 2)).1) (invF (sqrtF X).1).1⟩:Fp2).ok/\(⟨(sqrtF X).1,mulF (mulF a.c1 (invF (ofF 2)).1) (invF (sqrtF X).1).1⟩:Fp2).v*(⟨(sqrtF X).1,mulF (mulF a.c1 (invF (ofF 2)).1) (invF (sqrtF X).1).1⟩:Fp2).v=a.v:=by
 obtain ⟨o2,v2⟩:=half_of2
 have hq:=sqrt_v hX hs
 have ho:=sqrt_ok' hX
 have hi2:i2 ≠ 0:=inv_ne' two_ne
 have hw:a.v.b*i2 ≠ 0:=mul_ne' hb hi2
 have hne:(sqrtF X).1.v ≠ 0:=fun e=>by
  have hX0:X.v=0:=by rw [<- hq,e];grind
  have:a.v.b*i2*(a.v.b*i2)=0:=by rw [hX0] at h2;grind
  exact mul_ne' hw hw this
 obtain ⟨_,k1,k2⟩:=(inv_v ho).2 hne
 have hm:=mul_ok' (b:=(invF (ofF 2)).1) ha.2
 refine ⟨hne,Fp2.mk_ok ho (mul_ok' hm),?_⟩
 have e:(⟨(sqrtF X).1,mulF (mulF a.c1 (invF (ofF 2)).1) (invF (sqrtF X).1).1⟩:Fp2).v=⟨(sqrtF X).1.v,a.v.b*i2*Fld.inv (sqrtF X).1.v⟩:=Fp2.mk_v rfl (by rw [v_mul hm k1,v_mul ha.2 o2,v2,k2,Fp2.v_b])
 rw [e]
 exact root_both hq (mul_inv' hne) h1 h2
theorem halves_v {a:Fp2} (ha:a.ok) {n:Fp} (hn:n.ok):(mulF (addF a.c0 n) (invF (ofF 2)).1).ok/\(mulF (addF a.c0 n) (invF (ofF 2)).1).v=(a.v.a+n.v)*i2/\(mulF (subF a.c0 n) (invF (ofF 2)).1).ok/\(mulF (subF a.c0 n) (invF (ofF 2)).1).v=(a.v.a-n.v)*i2:=by
 obtain ⟨o2,v2⟩:=half_of2
 have h1:=add_ok' ha.1 hn
 have h2:=sub_ok' ha.1 hn
 exact ⟨mul_ok' h1,by rw [v_mul h1 o2,v2,v_add ha.1 hn,Fp2.v_a],mul_ok' h2,by rw [v_mul h2 o2,v2,v_sub ha.1 hn,Fp2.v_a]⟩
theorem both_v {a:Fp2} (ha:a.ok) (hb:a.c1.v ≠ 0) {n:Fp} (hn:n.ok) (hq:n.v*n.v=a.v.norm):(bothF2 a n).ok/\(bothF2 a n).v*(bothF2 a n).v=a.v:=by
 obtain ⟨p1,p2,p3,p4⟩:=halves_v ha hn
 have hi2:i2 ≠ 0:=inv_ne' two_ne
 have hw:a.v.b*i2 ≠ 0:=mul_ne' hb hi2
 have hp:=halves_mul hq
 unfold bothF2
 cases hs:(sqrtF (mulF (addF a.c0 n) (invF (ofF 2)).1)).2 with
 | true =>
  rw [both_low hs]
  exact (parts_v ha hb p1 hs (Y:=(a.v.a-n.v)*i2) (by rw [p2];exact halves_sum) (by rw [p2];exact hp)).2
 | false =>
  rw [both_high hs]
  have hs':(sqrtF (mulF (subF a.c0 n) (invF (ofF 2)).1)).2=true:=(sqrt_snd p3).2 (by
   rw [p4]
   refine sq_other hw hp fun e => ?_
   rw [(sqrt_snd p1).2 (by rw [p2];exact e)] at hs
   cases hs)
  exact (parts_v ha hb p3 hs' (Y:=(a.v.a+n.v)*i2) (by rw [p4,CR.add_comm];exact halves_sum) (by rw [p4,CR.mul_comm];exact hp)).2
section
variable {f0 : Fp -> Fp2} {f1 : Fp2 -> Fp} {f2 : Fp -> Fp × Bool} {f3 : Fp2 -> Fp -> Fp2} {f4 : Fp2 -> Fp2 -> Fp2} {f5 : Fp2 -> Bool} {f6 : Fp2 -> Fp2} {a : Fp2}
theorem sqrtF2_one (h:fpEq a.c1 zeroFp=true) (h2:fp2Eq (f4 (f0 a.c0) (f0 a.c0)) a=true):sqrtF2_G f0 f1 f2 f3 f4 f5 f6 a=finG f5 f6 (f0 a.c0):=by
 unfold sqrtF2_G finG
 rw [h,h2]
 cases f5 (f0 a.c0) <;> rfl
theorem sqrtF2_none (h:fpEq a.c1 zeroFp=false) (h2:(f2 (f1 a)).2=false):sqrtF2_G f0 f1 f2 f3 f4 f5 f6 a=(zeroFp2,false):=by
 unfold sqrtF2_G
 rw [h,h2]
 rfl
theorem sqrtF2_two (h:fpEq a.c1 zeroFp=false) (h1:(f2 (f1 a)).2=true) (h2:fp2Eq (f4 (f3 a (f2 (f1 a)).1) (f3 a (f2 (f1 a)).1)) a=true):sqrtF2_G f0 f1 f2 f3 f4 f5 f6 a=finG f5 f6 (f3 a (f2 (f1 a)).1):=by
 unfold sqrtF2_G finG
 rw [h,h1,h2]
 cases f5 (f3 a (f2 (f1 a)).1) <;> rfl
end
theorem sqrt_root2 {a:Fp2} (ha:a.ok):RootOf a (sqrtF2 a):=by
 have hg:(greatF2:Fp2->Bool)=great2V:=funext greatF2_eq
 unfold sqrtF2
 rw [hg]
 by_cases hb:a.c1.v=0
 ·obtain ⟨s1,s2⟩:=single_v ha.1
  have s3:(singleF2 a.c0).v*(singleF2 a.c0).v=a.v:=by rw [s2];exact Qd.ext' rfl hb.symm
  rw [sqrtF2_one ((fpEq_zero ha.2).2 hb) ((fp2Eq_v (mul_ok2 s1 s1) ha).2 (by rw [v_mul2 s1 s1,s3]))]
  exact fin_root s1 s3
 ·have hb':=(fpEq_nonzero ha.2).2 hb
  have hn:=norm_ok2 ha
  cases hs:(sqrtF (normF2 a)).2 with
  | true =>
   obtain ⟨s1,s2⟩:=both_v ha hb (sqrt_ok' hn) (by rw [sqrt_v hn hs,v_norm2 ha])
   rw [sqrtF2_two hb' hs ((fp2Eq_v (mul_ok2 s1 s1) ha).2 (by rw [v_mul2 s1 s1,s2]))]
   exact fin_root s1 s2
  | false =>
   rw [sqrtF2_none hb' hs]
   refine .inr ⟨fun e => ?_,rfl⟩
   rw [(sqrt_snd hn).2 (by rw [v_norm2 ha];exact root_norm e)] at hs
   cases hs
section
variable {f0 : Fp -> Fp × Int} {f1 : UInt64 -> Fp} {f2 : Fp -> Fp × Bool} {f3 f4 : Fp -> Fp -> Fp} {f5 : Fp -> Fp} {f6 : Fp2 -> Fp2 -> Fp2} {f7 : Fp2 -> Bool} {f8 : Fp2 -> Fp2} {a : Fp2} {n : Fp}
variable (hn : (f2 (f3 (f4 a.c0 a.c0) (f4 a.c1 a.c1))).1 = n) (h : (f2 (f3 (f4 a.c0 a.c0) (f4 a.c1 a.c1))).2 = true)
include hn h
end
end
end Go.Proofs.YtcbplfkeeaecgaaGreat
namespace Go.Proofs.YtcbplfkeeaecgaaGreat
theorem atF_out {l:List UInt64} {i:Nat} (h:l.length<=i):atF l i=0:=by
 unfold atF
 rw [List.getD_eq_getElem?_getD,List.getElem?_eq_none h]
 rfl
theorem valAt_out (l:List UInt64) : ∀ {k:Nat},l.length<=k->valAt l k=valL l
 | 0,h=>by unfold valL;rw [show l.length=0 by omega]
 | k+1,h=>by
  rcases Nat.lt_or_ge k l.length with h1 | h1
  ·unfold valL;rw [show l.length=k+1 by omega]
  ·simp only [valAt]
   rw [valAt_out l h1,atF_out h1]
   simp
theorem W64_pow (k:Nat):W64 ^ k=2 ^ (64*k):=by
 rw [show W64=2 ^ 64 from rfl,<- Nat.pow_mul]
theorem bit_step (x j:Nat):x % 2 ^ (j+1)=x % 2 ^ j+(x.testBit j).toNat*2 ^ j:=by
 rw [Nat.pow_succ,Nat.mod_mul]
 rw [Nat.testBit_eq_decide_div_mod_eq]
 have h:x / 2 ^ j % 2<2:=Nat.mod_lt _ (by decide)
 rcases (by omega:x / 2 ^ j % 2=0 \/ x / 2 ^ j % 2=1) with h1 | h1
 ·rw [h1];simp
 ·rw [h1];simp
theorem eLow_in (e:List UInt64) (k:Nat) (hk:eLow e (64*k)=valAt e k) : ∀ j,j<=64->eLow e (64*k+j)=valAt e k+(atF e k).toNat % 2 ^ j*2 ^ (64*k)
 | 0,_=>by rw [Nat.add_zero,hk,Nat.pow_zero,Nat.mod_one,Nat.zero_mul,Nat.add_zero]
 | j+1,h=>by
  rw [show 64*k+(j+1)=(64*k+j)+1 from rfl]
  simp only [eLow]
  rw [eLow_in e k hk j (by omega),bit_step,Nat.add_mul]
  have hb:bitAt e (64*k+j)=(atF e k).toNat.testBit j:=by
   unfold bitAt atF
   rw [show (64*k+j) / 64=k by omega,show (64*k+j) % 64=j by omega]
  rw [hb,Nat.add_assoc,show 2 ^ (64*k+j)=2 ^ j*2 ^ (64*k) by rw [Nat.pow_add,Nat.mul_comm],Nat.mul_assoc]
theorem eLow_val (e:List UInt64) : ∀ k,eLow e (64*k)=valAt e k
 | 0=>rfl
 | k+1=>by
  rw [show 64*(k+1)=64*k+64 by omega,eLow_in e k (eLow_val e k) 64 (Nat.le_refl _)]
  simp only [valAt]
  rw [W64_pow,Nat.mod_eq_of_lt (UInt64.toNat_lt _)]
theorem eLow_valL (e:List UInt64):eLow e (64*e.length)=valL e:=eLow_val e _
theorem valAt_congr {a b:List UInt64} : ∀ {k:Nat},(∀ j,j<k->atF a j=atF b j)->valAt a k=valAt b k
 | 0,_=>rfl
 | k+1,h=>by
  simp only [valAt]
  rw [valAt_congr (k:=k) fun j hj=>h j (by omega),h k (by omega)]
theorem ofL_nat (l:List UInt64):(ofL l).nat=valAt l 6:=by
 rw [<- list_val]
 refine valAt_congr fun j hj => ?_
 match j,hj with
 | 0,_=>rfl
 | 1,_=>rfl
 | 2,_=>rfl
 | 3,_=>rfl
 | 4,_=>rfl
 | 5,_=>rfl
theorem ofL_val {l:List UInt64} (h:l.length<=6):(ofL l).nat=valL l:=by rw [ofL_nat,valAt_out l h]
end Go.Proofs.YtcbplfkeeaecgaaGreat
namespace Go.Proofs.YtcbplfkeeaecgaaGreat
def dblG {α:Type} (tw pl:α->α) (e:List UInt64):Nat->α->α
 | 0,x=>x
 | n+1,x=>dblG tw pl e n (match bitAt e n with | true=>pl (tw x) | false=>tw x)
theorem dblG_pt {α K:Type} [Fld K] [Crv K] (R:α->Pt K->Prop) {tw pl:α->α} {p:Pt K} (hp:p.on) (h1 : ∀ {o:α} {q:Pt K},q.on->R o q->R (tw o) (q.add q)) (h2 : ∀ {o:α} {q:Pt K},q.on->R o q->R (pl o) (q.add p)) (e:List UInt64) :
  ∀ (n:Nat) {o:α} {q:Pt K},q.on->R o q->R (dblG tw pl e n o) ((q.mul (2 ^ n)).add (p.mul (eLow e n)))
 | 0,o,q,hq,h=>by
  show R o ((q.mul 1).add (p.mul 0))
  rw [mul_one_pt,mul_zero_pt,add_inf]
  exact h
 | n+1,o,q,hq,h=>by
  have e2:(2:Nat) ^ (n+1)=2 ^ n+2 ^ n:=by rw [Nat.pow_succ];omega
  have hqq:=add_on hq hq
  simp only [dblG]
  cases hb:bitAt e n with
  | true =>
   have ih:=dblG_pt R hp h1 h2 e n (add_on hqq hp) (h2 hqq (h1 hq h))
   have el:eLow e (n+1)=2 ^ n+eLow e n:=by simp only [eLow,hb,Bool.toNat_true,Nat.one_mul];exact Nat.add_comm _ _
   rw [add_mul_pt hqq hp,add_mul_pt hq hq,<- mul_add_pt hq,<- e2,add_assoc_pt (mul_on hq _) (mul_on hp _) (mul_on hp _),<- mul_add_pt hp,<- el] at ih
   exact ih
  | false =>
   have ih:=dblG_pt R hp h1 h2 e n hqq (h1 hq h)
   have el:eLow e (n+1)=eLow e n:=by simp only [eLow,hb,Bool.toNat_false,Nat.zero_mul,Nat.add_zero]
   rw [add_mul_pt hq hq,<- mul_add_pt hq,<- e2,<- el] at ih
   exact ih
theorem dblG_all {α K:Type} [Fld K] [Crv K] (R:α->Pt K->Prop) {tw pl:α->α} {p:Pt K} (hp:p.on) (h1 : ∀ {o:α} {q:Pt K},q.on->R o q->R (tw o) (q.add q)) (h2 : ∀ {o:α} {q:Pt K},q.on->R o q->R (pl o) (q.add p)) (e:List UInt64) {o:α} (h:R o .inf) :
  R (dblG tw pl e (64*e.length) o) (p.mul (valL e)):=by
 have:=dblG_pt R hp h1 h2 e (64*e.length) (q := .inf) trivial h
 rw [mul_inf_pt,inf_add,eLow_valL] at this
 exact this
theorem V1.four_cube : ∀ x:V1,x*x*x+4 ≠ 0:=fun x h=>by
 have hx:x ≠ 0:=fun e=>by
  rw [e] at h
  have h4:(4:V1)=0:=by grind
  have:=congrArg V1.nat h4
  exact absurd this (by decide +kernel)
 have h1:x ^ 3 = -4:=by grind
 have h2:(-4:V1) ^ ((pN-1) / 3)=1:=by
  rw [<- h1,<- pow_mul',Nat.mul_comm,third]
  exact V1.fermat hx
 have h3:=congrArg V1.nat h2
 have h4:(-4:V1).nat=pN-4:=by decide +kernel
 rw [V1.nat_pow,h4,V1.nat_one,<- mpow_eq pN 381 _ _ (by decide +kernel)] at h3
 exact absurd h3 (by decide +kernel)
instance crv1 : Crv V1 where
 b:=4
 two:=two_ne
 no:=V1.four_cube
def bb2:V2:=⟨4,4⟩
theorem bb2_norm:bb2.norm=32:=by
 rw [V2.norm_eq]
 show (4:V1)*4+4*4=32
 grind
theorem V2.two_ne:(2:V2) ≠ 0:=fun e=>Go.Proofs.YtcbplfkeeaecgaaGreat.two_ne (by
 have:=congrArg Qd.a e
 exact this)
theorem V2.four_cube : ∀ x:V2,x*x*x+bb2 ≠ 0:=fun x h=>by
 have h1:x*x*x = -bb2:=by grind
 have h2:x.norm*x.norm*x.norm=32:=by
  rw [<- Qd.norm_mul,<- Qd.norm_mul,h1,<- bb2_norm,V2.norm_eq,V2.norm_eq]
  show -bb2.a * -bb2.a + -bb2.b * -bb2.b=_
  grind
 have hx:x.norm ≠ 0:=fun e=>by
  rw [e] at h2
  have h4:(32:V1)=0:=h2.symm.trans (CR.mul_zero _)
  have:=congrArg V1.nat h4
  exact absurd this (by decide +kernel)
 have h3:(32:V1) ^ ((pN-1) / 3)=1:=by
  have e:(32:V1)=x.norm ^ 3:=by rw [<- h2];grind
  rw [e,<- pow_mul',Nat.mul_comm,third]
  exact V1.fermat hx
 have h5:=congrArg V1.nat h3
 have h4:(32:V1).nat=32:=by decide +kernel
 rw [V1.nat_pow,h4,V1.nat_one,<- mpow_eq pN 381 _ _ (by decide +kernel)] at h5
 exact absurd h5 (by decide +kernel)
instance crv2 : Crv V2 where
 b:=bb2
 two:=V2.two_ne
 no:=V2.four_cube
theorem add_ok1 {a b:Fp} (ha:a.ok) (hb:b.ok):(addF a b).ok:=add_ok' ha hb
theorem sub_ok1 {a b:Fp} (ha:a.ok) (hb:b.ok):(subF a b).ok:=sub_ok' ha hb
theorem neg_ok1 {a:Fp} (ha:a.ok):(negF a).ok:=neg_ok' ha
theorem mul_ok1 {a b:Fp} (ha:a.ok) (hb:b.ok):(mulF a b).ok:=mul_ok' ha
theorem half_ok1 {a b:Fp} (ha:a.ok) (hb:b.ok):(halfF a b).ok:=half_ok' ha
theorem whole_ok1 {a:Fp} (ha:a.ok):(wholeF a).ok:=whole_ok' ha
theorem low_ok1 {a:Fp} (ha:a.ok):(lowF a).ok:=low_ok' ha
theorem zero_ok1:zeroFp.ok:=zero_ok'
theorem one_ok1:oneFp.ok:=one_ok'
theorem v_add1 {a b:Fp} (ha:a.ok) (hb:b.ok):(addF a b).v=a.v+b.v:=v_add ha hb
theorem v_sub1 {a b:Fp} (ha:a.ok) (hb:b.ok):(subF a b).v=a.v-b.v:=v_sub ha hb
theorem v_neg1 {a:Fp} (ha:a.ok):(negF a).v = -a.v:=v_neg ha
theorem v_mul1 {a b:Fp} (ha:a.ok) (hb:b.ok):(mulF a b).v=a.v*b.v:=v_mul ha hb
theorem v_half1 {a b:Fp} (ha:a.ok) (hb:b.ok):(halfF a b).v=ri*(a.v*b.v):=v_half ha hb
theorem v_whole1 {a:Fp} (ha:a.ok):(wholeF a).v=rv*a.v:=v_whole ha
theorem v_low1 {a:Fp} (ha:a.ok):(lowF a).v=ri*a.v:=v_low ha
theorem v_zero1:zeroFp.v=0:=v_zero
theorem v_one1:oneFp.v=1:=v_one
theorem inv_v1 {a:Fp} (ha:a.ok):(a.v=0->(invF a).2=7)/\(a.v ≠ 0->(invF a).2=0/\(invF a).1.ok/\(invF a).1.v=Fld.inv a.v):=inv_v ha
theorem inv_v2' {a:Fp2} (ha:a.ok):(a.v=0->(invF2 a).2=7)/\(a.v ≠ 0->(invF2 a).2=0/\(invF2 a).1.ok/\(invF2 a).1.v=Fld.inv a.v):=⟨fun h=>congrArg Prod.snd ((inv_v2 ha).1 h),(inv_v2 ha).2⟩
theorem eq_v1 {a b:Fp} (ha:a.ok) (hb:b.ok):fpEq a b=true <-> a.v=b.v:=fpEq_v ha hb
theorem may1_iff (a:Fp):mayF a=true <-> a.ok:=mayF_ok a
end Go.Proofs.YtcbplfkeeaecgaaGreat
namespace Go.Proofs.YtcbplfkeeaecgaaGreat
open Go.RowKit
section
abbrev ks1:Kd Sp1:=kRow Sp1
def tmSt1 (e:List UInt64) (x:Sp1) (cs:List Cell) (z:Int):St:=mkSt 31 [(1,inV 0 e),(2,ptrV 1),(4,ptrV 2),(5,ptrV 3),(6,vI z)] [inHE eU64 e,own 99 (Row.cs x),own 99 (zeros 18),own 99 cs]
def tTm1 (tw:Sp1->Sp1) (pl:Sp1->Sp1->Sp1):Table := [(110,K1 ks1.arg ks1.rs.res tw),(111,K2 ks1.arg ks1.arg ks1.rs.res pl)]
theorem tm1_front (T:Table) (x:Sp1) (e:List UInt64):stageT (En T) 100 ((flat (codeOf Tryz.f57)).take 1) (startSt Tryz.f57 [.one (ks1.av x),iL.av 0 e] [inHE eU64 e]) [1,2,4] [0,1,2] = .leaf (mkSt 31 [(1,inV 0 e),(2,ptrV 1),(4,ptrV 2)] [inHE eU64 e,own 99 (Row.cs x),own 99 (zeros 18)]):=by kernel_rfl
theorem tm1_start (tw:Sp1->Sp1) (pl:Sp1->Sp1->Sp1) (x:Sp1) (e:List UInt64):stageT (En (tTm1 tw pl)) 100 ((flat (scopeOf Tryz.f57)).take 3) (mkSt 31 [(1,inV 0 e),(2,ptrV 1),(4,ptrV 2)] [inHE eU64 e,own 99 (Row.cs x),own 99 (zeros 18)]) [1,2,4,5,6] [0,1,2,3] = .vc (0+e.length*1<=(eU64.body e).cells.length/\0<1) (.leaf (tmSt1 e x (zeros 18) (IntKind.i64.wrap (64*e.length)))):=by kernel_rfl
theorem tm1_iter (tw:Sp1->Sp1) (pl:Sp1->Sp1->Sp1) (x o:Sp1) (e:List UInt64) (z:Int):letI za':=IntKind.i64.wrap (z-1);iterT (En (tTm1 tw pl)) ks1.rs.out 100 Tryz.f57 ((flat (scopeOf Tryz.f57)).drop 3) (tmSt1 e x (Row.cs o) z) [1,2,4,5,6] [0,1,2,3] = .br (decide (IntKind.i64.wrap (z-1)<0)) (.leaf (.inr (some (o,.t)))) (.vc ((0<=quoZ z/\quoZ z<e.length)/\0+e.length*1<=(eU64.body e).cells.length/\0<1) (.vc (0+(quoZ z).toNat*1<e.length) (.br (bitZ e z) (.leaf (.inl (.goto 0,tmSt1 e x (Row.cs (pl (tw o) x)) za'))) (.leaf (.inl (.goto 0,tmSt1 e x (Row.cs (tw o)) za')))))):=by kernel_rfl
theorem tm1_first (tw:Sp1->Sp1) (pl:Sp1->Sp1->Sp1) (x:Sp1) (e:List UInt64) (z:Int):letI za':=IntKind.i64.wrap (z-1);iterT (En (tTm1 tw pl)) ks1.rs.out 100 Tryz.f57 ((flat (scopeOf Tryz.f57)).drop 3) (tmSt1 e x (zeros 18) z) [1,2,4,5,6] [0,1,2,3] = .br (decide (IntKind.i64.wrap (z-1)<0)) (.leaf (.inr (some (zeroSp,.t)))) (.vc ((0<=quoZ z/\quoZ z<e.length)/\0+e.length*1<=(eU64.body e).cells.length/\0<1) (.vc (0+(quoZ z).toNat*1<e.length) (.br (bitZ e z) (.leaf (.inl (.goto 0,tmSt1 e x (Row.cs (pl (tw zeroSp) x)) za'))) (.leaf (.inl (.goto 0,tmSt1 e x (Row.cs (tw zeroSp)) za')))))):=by kernel_rfl
def outC1 (b:Bool) (o:Sp1):List Cell:=match b with
 | true=>zeros 18
 | false=>Row.cs o
def timesG1 (x:Sp1) (e:List UInt64):Sp1:=dblG twiceG1 (fun o=>plusG1 o x) e (64*e.length) zeroSp
abbrev Tm1Ok (x:Sp1) (e:List UInt64):Type := { q:Bool × Int × Sp1 // 0<=q.2.1/\q.2.1<=64*e.length/\(q.1=true->q.2.2=zeroSp)/\dblG twiceG1 (fun o=>plusG1 o x) e q.2.1.toNat q.2.2=timesG1 x e }
def tm1I (x:Sp1) (e:List UInt64) (q:Tm1Ok x e):St:=tmSt1 e x (outC1 q.1.1 q.1.2.2) q.1.2.1
theorem tm1_iterB (x:Sp1) (e:List UInt64) (b:Bool) (o:Sp1) (hb:b=true->o=zeroSp) (z:Int):iterT (En (tTm1 twiceG1 plusG1)) ks1.rs.out 100 Tryz.f57 ((flat (scopeOf Tryz.f57)).drop 3) (tmSt1 e x (outC1 b o) z) [1,2,4,5,6] [0,1,2,3] =
  .br (decide (IntKind.i64.wrap (z-1)<0)) (.leaf (.inr (some (o,.t))))
   (.vc ((0<=quoZ z/\quoZ z<e.length)/\0+e.length*1<=(eU64.body e).cells.length/\0<1) (.vc (0+(quoZ z).toNat*1<e.length)
    (.br (bitZ e z) (.leaf (.inl (.goto 0,tmSt1 e x (Row.cs (plusG1 (twiceG1 o) x)) (IntKind.i64.wrap (z-1))))) (.leaf (.inl (.goto 0,tmSt1 e x (Row.cs (twiceG1 o)) (IntKind.i64.wrap (z-1)))))))):=by
 cases b with
 | true =>
  rw [hb rfl]
  exact tm1_first twiceG1 plusG1 x e z
 | false=>exact tm1_iter twiceG1 plusG1 x o e z
theorem timesG1_ok:CallOk Tryz.prog 57 (K2 ks1.arg aL ks1.rs.res timesG1) :=
 Go.Proofs.YtcbplfkeeaecgaaGreat.G2 (E:=En (tTm1 twiceG1 plusG1)) Tryz.func57 (c:=codeOf Tryz.f57) (by kernel_rfl) (bodied Tryz.func57 (by kernel_rfl) (by kernel_rfl)) ks1.inp iL ks1.rs.out timesG1 fun x e _ he=>by
  have hE:EnvOk (En (tTm1 twiceG1 plusG1)):=En_ok (.cons twiceG1_ok (.cons plusG1_ok .nil))
  have he:e.length<1125899906842624:=he
  have hw:IntKind.i64.wrap (64*(e.length:Int))=64*(e.length:Int):=IntWalk.i64_in _ (by omega)
  refine DoesL.stageE hE 100 1 [1,2,4] [0,1,2] (tm1_front _ x e) ?_
  refine DoesL.scopeFn (body:=scopeOf Tryz.f57) (rest:=restOf Tryz.f57) (tail := []) (l:=0) hE (by kernel_rfl) (by kernel_rfl) 100 3 (by kernel_rfl) [1,2,4,5,6] [0,1,2,3] (tm1I x e) (fun q=>q.1.2.1.toNat)
   ⟨(true,64*(e.length:Int),zeroSp),by simp only [];omega,by simp only [];omega,fun _=>rfl,by rw [show ((true,64*(e.length:Int),zeroSp):Bool × Int × Sp1).2.1.toNat=64*e.length by simp only [];omega];simp only [timesG1]⟩
   (tm1_start twiceG1 plusG1 x e) ⟨⟨by rw [cells_len];omega,by decide⟩,fun _=>by rw [hw];exact Tree.sat_leaf (by simp only [tm1I,outC1])⟩ fun q => ?_
  obtain ⟨⟨b,z,o⟩,h0,h1,hb,h2⟩:=q
  simp only [] at h0 h1 h2 hb
  have hz:IntKind.i64.wrap (z-1)=z-1:=IntWalk.i64_in _ (by omega)
  refine DoesL.iter hE 100 [1,2,4,5,6] [0,1,2,3] (tm1_iterB x e b o hb z) ?_
  rw [hz]
  refine ⟨fun h => ?_,fun h => ?_⟩
  ·simp only [decide_eq_true_eq] at h
   obtain rfl:z=0:=by omega
   exact ⟨.t,by rw [<- h2];rfl,trivial⟩
  ·simp only [decide_eq_false_iff_not] at h
   obtain ⟨n,rfl⟩ : ∃ n:Nat,z=(n:Int)+1:=⟨(z-1).toNat,by omega⟩
   rw [quoZ_nat n (by omega),bitZ_nat e n (by omega)]
   rw [show ((n:Int)+1).toNat=n+1 by omega] at h2
   simp only [dblG] at h2
   refine ⟨⟨⟨by omega,by omega⟩,by rw [cells_len];omega,by decide⟩,fun _=>⟨by omega,fun _=>⟨fun h3 => ?_,fun h3 => ?_⟩⟩⟩
   all_goals
    have hn:((n:Int)+1-1).toNat=n:=by omega
    rw [h3] at h2
    simp only [] at h2
   ·refine ⟨rfl,⟨(false,(n:Int)+1-1,plusG1 (twiceG1 o) x),?_,?_,?_,?_⟩,?_,by simp only [tm1I,outC1]⟩
    ·show 0<=(n:Int)+1-1;omega
    ·show (n:Int)+1-1<=64*e.length;omega
    ·intro h;cases h
    ·simpa only [hn] using h2
    ·show ((n:Int)+1-1).toNat<((n:Int)+1).toNat;omega
   ·refine ⟨rfl,⟨(false,(n:Int)+1-1,twiceG1 o),?_,?_,?_,?_⟩,?_,by simp only [tm1I,outC1]⟩
    ·show 0<=(n:Int)+1-1;omega
    ·show (n:Int)+1-1<=64*e.length;omega
    ·intro h;cases h
    ·simpa only [hn] using h2
    ·show ((n:Int)+1-1).toNat<((n:Int)+1).toNat;omega
def mulG1_G (f0:Sp1->Pg1) (f1:Sp1->List UInt64->Sp1) (f2:Pg1->Sp1) (a:Pg1) (k:Fr):Pg1:=(f0 (f1 (f2 a) [k.l0,k.l1,k.l2,k.l3]))
def mulG1_T (f0:Sp1->Pg1) (f1:Sp1->List UInt64->Sp1) (f2:Pg1->Sp1) (a:Pg1) (k:Fr):Tree (Option (Pg1)) :=
 (.leaf (some (f0 (f1 (f2 a) [k.l0,k.l1,k.l2,k.l3]))))
theorem mulG1_run (f0:Sp1->Pg1) (f1:Sp1->List UInt64->Sp1) (f2:Pg1->Sp1) (a:Pg1) (k:Fr):plainRun (En [(56,K1 (kRow Sp1).arg (kRow Pg1).rs.res f0),(57,K2 ks1.arg aL ks1.rs.res f1),(58,K1 (kRow Pg1).arg (kRow Sp1).rs.res f2)]) (kRow Pg1).rs 300 Tryz.f29 [.one ((kRow Pg1).av a),.one ((kRow Fr).av k)]=mulG1_T f0 f1 f2 a k:=by kernel_rfl
theorem mulG1_sat (f0:Sp1->Pg1) (f1:Sp1->List UInt64->Sp1) (f2:Pg1->Sp1) (a:Pg1) (k:Fr):(mulG1_T f0 f1 f2 a k).sat fun q=>q=some (mulG1_G f0 f1 f2 a k):=(show some _=some _ from rfl)
def mulG1 (a:Pg1) (k:Fr):Pg1:=mulG1_G laysG1 timesG1 liftG1 a k
theorem mulG1_ok:CallOk Tryz.prog 29 (K2 (kRow Pg1).arg (kRow Fr).arg (kRow Pg1).rs.res mulG1) :=
 P2 (En_ok (.cons laysG1_ok (.cons timesG1_ok (.cons liftG1_ok .nil)))) Tryz.func29 (bodied Tryz.func29 (by kernel_rfl) (by kernel_rfl)) 300 (kRow Pg1) (kRow Fr) (kRow Pg1).rs mulG1 (mulG1_run laysG1 timesG1 liftG1) (mulG1_sat laysG1 timesG1 liftG1)
def inG1_G (f0:Pg1->Bool) (f1:Fp->Bool) (f2:Sp1->List UInt64->Sp1) (f3:Pg1->Sp1) (f4:Fr) (a:Pg1):Bool:=(match (f0 a) with | true=>((f1 (f2 (f3 a) [f4.l0,f4.l1,f4.l2,f4.l3]).z)) | false=>((false)))
def inG1_T (f0:Pg1->Bool) (f1:Fp->Bool) (f2:Sp1->List UInt64->Sp1) (f3:Pg1->Sp1) (f4:Fr) (a:Pg1):Tree (Option (Bool)) :=
 (.br (f0 a)
  (.leaf (some ((f1 (f2 (f3 a) [f4.l0,f4.l1,f4.l2,f4.l3]).z))))
  (.leaf (some ((false)))))
theorem inG1_run (f0:Pg1->Bool) (f1:Fp->Bool) (f2:Sp1->List UInt64->Sp1) (f3:Pg1->Sp1) (f4:Fr) (a:Pg1):plainRun (Ens [(116,K1 (kRow Pg1).arg kBool.rs.res f0),(117,K1 (kRow Fp).arg kBool.rs.res f1),(57,K2 ks1.arg aL ks1.rs.res f2),(58,K1 (kRow Pg1).arg (kRow Sp1).rs.res f3),(118,K0 (rS4 24) f4)] [118]) kBool.rs 300 Tryz.f61 [.one ((kRow Pg1).av a)]=inG1_T f0 f1 f2 f3 f4 a:=by kernel_rfl
theorem inG1_sat (f0:Pg1->Bool) (f1:Fp->Bool) (f2:Sp1->List UInt64->Sp1) (f3:Pg1->Sp1) (f4:Fr) (a:Pg1):(inG1_T f0 f1 f2 f3 f4 a).sat fun q=>q=some (inG1_G f0 f1 f2 f3 f4 a):=⟨fun h0=>(show some _=some _ from congrArg some (by unfold inG1_G;rw [h0])),fun h0=>(show some _=some _ from congrArg some (by unfold inG1_G;rw [h0]))⟩
def inG1 (a:Pg1):Bool:=inG1_G onG1 zeroG1 timesG1 liftG1 rLimbs a
theorem inG1_ok:CallOk Tryz.prog 61 (K1 (kRow Pg1).arg kBool.rs.res inG1) :=
 P1 (Ens_ok (.cons onG1_ok (.cons zeroG1_ok (.cons timesG1_ok (.cons liftG1_ok (.cons R4_ok .nil)))))) Tryz.func61 (bodied Tryz.func61 (by kernel_rfl) (by kernel_rfl)) 300 (kRow Pg1) kBool.rs inG1 (inG1_run onG1 zeroG1 timesG1 liftG1 rLimbs) (inG1_sat onG1 zeroG1 timesG1 liftG1 rLimbs)
end
section
abbrev ks2:Kd Fp6:=kRow Fp6
def tmSt2 (e:List UInt64) (x:Fp6) (cs:List Cell) (z:Int):St:=mkSt 31 [(1,inV 0 e),(2,ptrV 1),(4,ptrV 2),(5,ptrV 3),(6,vI z)] [inHE eU64 e,own 94 (Row.cs x),own 94 (zeros 36),own 94 cs]
def tTm2 (tw:Fp6->Fp6) (pl:Fp6->Fp6->Fp6):Table := [(105,K1 ks2.arg ks2.rs.res tw),(106,K2 ks2.arg ks2.arg ks2.rs.res pl)]
theorem tm2_front (T:Table) (x:Fp6) (e:List UInt64):stageT (En T) 100 ((flat (codeOf Tryz.f54)).take 1) (startSt Tryz.f54 [.one (ks2.av x),iL.av 0 e] [inHE eU64 e]) [1,2,4] [0,1,2] = .leaf (mkSt 31 [(1,inV 0 e),(2,ptrV 1),(4,ptrV 2)] [inHE eU64 e,own 94 (Row.cs x),own 94 (zeros 36)]):=by kernel_rfl
theorem tm2_start (tw:Fp6->Fp6) (pl:Fp6->Fp6->Fp6) (x:Fp6) (e:List UInt64):stageT (En (tTm2 tw pl)) 100 ((flat (scopeOf Tryz.f54)).take 3) (mkSt 31 [(1,inV 0 e),(2,ptrV 1),(4,ptrV 2)] [inHE eU64 e,own 94 (Row.cs x),own 94 (zeros 36)]) [1,2,4,5,6] [0,1,2,3] = .vc (0+e.length*1<=(eU64.body e).cells.length/\0<1) (.leaf (tmSt2 e x (zeros 36) (IntKind.i64.wrap (64*e.length)))):=by kernel_rfl
theorem tm2_iter (tw:Fp6->Fp6) (pl:Fp6->Fp6->Fp6) (x o:Fp6) (e:List UInt64) (z:Int):letI za':=IntKind.i64.wrap (z-1);iterT (En (tTm2 tw pl)) ks2.rs.out 100 Tryz.f54 ((flat (scopeOf Tryz.f54)).drop 3) (tmSt2 e x (Row.cs o) z) [1,2,4,5,6] [0,1,2,3] = .br (decide (IntKind.i64.wrap (z-1)<0)) (.leaf (.inr (some (o,.t)))) (.vc ((0<=quoZ z/\quoZ z<e.length)/\0+e.length*1<=(eU64.body e).cells.length/\0<1) (.vc (0+(quoZ z).toNat*1<e.length) (.br (bitZ e z) (.leaf (.inl (.goto 0,tmSt2 e x (Row.cs (pl (tw o) x)) za'))) (.leaf (.inl (.goto 0,tmSt2 e x (Row.cs (tw o)) za')))))):=by kernel_rfl
theorem tm2_first (tw:Fp6->Fp6) (pl:Fp6->Fp6->Fp6) (x:Fp6) (e:List UInt64) (z:Int):letI za':=IntKind.i64.wrap (z-1);iterT (En (tTm2 tw pl)) ks2.rs.out 100 Tryz.f54 ((flat (scopeOf Tryz.f54)).drop 3) (tmSt2 e x (zeros 36) z) [1,2,4,5,6] [0,1,2,3] = .br (decide (IntKind.i64.wrap (z-1)<0)) (.leaf (.inr (some (zeroFp6,.t)))) (.vc ((0<=quoZ z/\quoZ z<e.length)/\0+e.length*1<=(eU64.body e).cells.length/\0<1) (.vc (0+(quoZ z).toNat*1<e.length) (.br (bitZ e z) (.leaf (.inl (.goto 0,tmSt2 e x (Row.cs (pl (tw zeroFp6) x)) za'))) (.leaf (.inl (.goto 0,tmSt2 e x (Row.cs (tw zeroFp6)) za')))))):=by kernel_rfl
def outC2 (b:Bool) (o:Fp6):List Cell:=match b with
 | true=>zeros 36
 | false=>Row.cs o
def timesG2 (x:Fp6) (e:List UInt64):Fp6:=dblG twiceG2 (fun o=>plusG2 o x) e (64*e.length) zeroFp6
abbrev Tm2Ok (x:Fp6) (e:List UInt64):Type := { q:Bool × Int × Fp6 // 0<=q.2.1/\q.2.1<=64*e.length/\(q.1=true->q.2.2=zeroFp6)/\dblG twiceG2 (fun o=>plusG2 o x) e q.2.1.toNat q.2.2=timesG2 x e }
def tm2I (x:Fp6) (e:List UInt64) (q:Tm2Ok x e):St:=tmSt2 e x (outC2 q.1.1 q.1.2.2) q.1.2.1
theorem tm2_iterB (x:Fp6) (e:List UInt64) (b:Bool) (o:Fp6) (hb:b=true->o=zeroFp6) (z:Int):iterT (En (tTm2 twiceG2 plusG2)) ks2.rs.out 100 Tryz.f54 ((flat (scopeOf Tryz.f54)).drop 3) (tmSt2 e x (outC2 b o) z) [1,2,4,5,6] [0,1,2,3] =
  .br (decide (IntKind.i64.wrap (z-1)<0)) (.leaf (.inr (some (o,.t))))
   (.vc ((0<=quoZ z/\quoZ z<e.length)/\0+e.length*1<=(eU64.body e).cells.length/\0<1) (.vc (0+(quoZ z).toNat*1<e.length)
    (.br (bitZ e z) (.leaf (.inl (.goto 0,tmSt2 e x (Row.cs (plusG2 (twiceG2 o) x)) (IntKind.i64.wrap (z-1))))) (.leaf (.inl (.goto 0,tmSt2 e x (Row.cs (twiceG2 o)) (IntKind.i64.wrap (z-1)))))))):=by
 cases b with
 | true =>
  rw [hb rfl]
  exact tm2_first twiceG2 plusG2 x e z
 | false=>exact tm2_iter twiceG2 plusG2 x o e z
theorem timesG2_ok:CallOk Tryz.prog 54 (K2 ks2.arg aL ks2.rs.res timesG2) :=
 Go.Proofs.YtcbplfkeeaecgaaGreat.G2 (E:=En (tTm2 twiceG2 plusG2)) Tryz.func54 (c:=codeOf Tryz.f54) (by kernel_rfl) (bodied Tryz.func54 (by kernel_rfl) (by kernel_rfl)) ks2.inp iL ks2.rs.out timesG2 fun x e _ he=>by
  have hE:EnvOk (En (tTm2 twiceG2 plusG2)):=En_ok (.cons twiceG2_ok (.cons plusG2_ok .nil))
  have he:e.length<1125899906842624:=he
  have hw:IntKind.i64.wrap (64*(e.length:Int))=64*(e.length:Int):=IntWalk.i64_in _ (by omega)
  refine DoesL.stageE hE 100 1 [1,2,4] [0,1,2] (tm2_front _ x e) ?_
  refine DoesL.scopeFn (body:=scopeOf Tryz.f54) (rest:=restOf Tryz.f54) (tail := []) (l:=0) hE (by kernel_rfl) (by kernel_rfl) 100 3 (by kernel_rfl) [1,2,4,5,6] [0,1,2,3] (tm2I x e) (fun q=>q.1.2.1.toNat)
   ⟨(true,64*(e.length:Int),zeroFp6),by simp only [];omega,by simp only [];omega,fun _=>rfl,by rw [show ((true,64*(e.length:Int),zeroFp6):Bool × Int × Fp6).2.1.toNat=64*e.length by simp only [];omega];simp only [timesG2]⟩
   (tm2_start twiceG2 plusG2 x e) ⟨⟨by rw [cells_len];omega,by decide⟩,fun _=>by rw [hw];exact Tree.sat_leaf (by simp only [tm2I,outC2])⟩ fun q => ?_
  obtain ⟨⟨b,z,o⟩,h0,h1,hb,h2⟩:=q
  simp only [] at h0 h1 h2 hb
  have hz:IntKind.i64.wrap (z-1)=z-1:=IntWalk.i64_in _ (by omega)
  refine DoesL.iter hE 100 [1,2,4,5,6] [0,1,2,3] (tm2_iterB x e b o hb z) ?_
  rw [hz]
  refine ⟨fun h => ?_,fun h => ?_⟩
  ·simp only [decide_eq_true_eq] at h
   obtain rfl:z=0:=by omega
   exact ⟨.t,by rw [<- h2];rfl,trivial⟩
  ·simp only [decide_eq_false_iff_not] at h
   obtain ⟨n,rfl⟩ : ∃ n:Nat,z=(n:Int)+1:=⟨(z-1).toNat,by omega⟩
   rw [quoZ_nat n (by omega),bitZ_nat e n (by omega)]
   rw [show ((n:Int)+1).toNat=n+1 by omega] at h2
   simp only [dblG] at h2
   refine ⟨⟨⟨by omega,by omega⟩,by rw [cells_len];omega,by decide⟩,fun _=>⟨by omega,fun _=>⟨fun h3 => ?_,fun h3 => ?_⟩⟩⟩
   all_goals
    have hn:((n:Int)+1-1).toNat=n:=by omega
    rw [h3] at h2
    simp only [] at h2
   ·refine ⟨rfl,⟨(false,(n:Int)+1-1,plusG2 (twiceG2 o) x),?_,?_,?_,?_⟩,?_,by simp only [tm2I,outC2]⟩
    ·show 0<=(n:Int)+1-1;omega
    ·show (n:Int)+1-1<=64*e.length;omega
    ·intro h;cases h
    ·simpa only [hn] using h2
    ·show ((n:Int)+1-1).toNat<((n:Int)+1).toNat;omega
   ·refine ⟨rfl,⟨(false,(n:Int)+1-1,twiceG2 o),?_,?_,?_,?_⟩,?_,by simp only [tm2I,outC2]⟩
    ·show 0<=(n:Int)+1-1;omega
    ·show (n:Int)+1-1<=64*e.length;omega
    ·intro h;cases h
    ·simpa only [hn] using h2
    ·show ((n:Int)+1-1).toNat<((n:Int)+1).toNat;omega
def mulG2_G (f0:Fp6->Pg2) (f1:Fp6->List UInt64->Fp6) (f2:Pg2->Fp6) (a:Pg2) (k:Fr):Pg2:=(f0 (f1 (f2 a) [k.l0,k.l1,k.l2,k.l3]))
def mulG2_T (f0:Fp6->Pg2) (f1:Fp6->List UInt64->Fp6) (f2:Pg2->Fp6) (a:Pg2) (k:Fr):Tree (Option (Pg2)) :=
 (.leaf (some (f0 (f1 (f2 a) [k.l0,k.l1,k.l2,k.l3]))))
theorem mulG2_run (f0:Fp6->Pg2) (f1:Fp6->List UInt64->Fp6) (f2:Pg2->Fp6) (a:Pg2) (k:Fr):plainRun (En [(53,K1 (kRow Fp6).arg (kRow Pg2).rs.res f0),(54,K2 ks2.arg aL ks2.rs.res f1),(55,K1 (kRow Pg2).arg (kRow Fp6).rs.res f2)]) (kRow Pg2).rs 300 Tryz.f26 [.one ((kRow Pg2).av a),.one ((kRow Fr).av k)]=mulG2_T f0 f1 f2 a k:=by kernel_rfl
theorem mulG2_sat (f0:Fp6->Pg2) (f1:Fp6->List UInt64->Fp6) (f2:Pg2->Fp6) (a:Pg2) (k:Fr):(mulG2_T f0 f1 f2 a k).sat fun q=>q=some (mulG2_G f0 f1 f2 a k):=(show some _=some _ from rfl)
def mulG2 (a:Pg2) (k:Fr):Pg2:=mulG2_G laysG2 timesG2 liftG2 a k
theorem mulG2_ok:CallOk Tryz.prog 26 (K2 (kRow Pg2).arg (kRow Fr).arg (kRow Pg2).rs.res mulG2) :=
 P2 (En_ok (.cons laysG2_ok (.cons timesG2_ok (.cons liftG2_ok .nil)))) Tryz.func26 (bodied Tryz.func26 (by kernel_rfl) (by kernel_rfl)) 300 (kRow Pg2) (kRow Fr) (kRow Pg2).rs mulG2 (mulG2_run laysG2 timesG2 liftG2) (mulG2_sat laysG2 timesG2 liftG2)
def inG2_G (f0:Pg2->Bool) (f1:Fp2->Bool) (f2:Fp6->List UInt64->Fp6) (f3:Pg2->Fp6) (f4:Fr) (a:Pg2):Bool:=(match (f0 a) with | true=>((f1 (f2 (f3 a) [f4.l0,f4.l1,f4.l2,f4.l3]).c2)) | false=>((false)))
def inG2_T (f0:Pg2->Bool) (f1:Fp2->Bool) (f2:Fp6->List UInt64->Fp6) (f3:Pg2->Fp6) (f4:Fr) (a:Pg2):Tree (Option (Bool)) :=
 (.br (f0 a)
  (.leaf (some ((f1 (f2 (f3 a) [f4.l0,f4.l1,f4.l2,f4.l3]).c2))))
  (.leaf (some ((false)))))
theorem inG2_run (f0:Pg2->Bool) (f1:Fp2->Bool) (f2:Fp6->List UInt64->Fp6) (f3:Pg2->Fp6) (f4:Fr) (a:Pg2):plainRun (Ens [(119,K1 (kRow Pg2).arg kBool.rs.res f0),(120,K1 (kRow Fp2).arg kBool.rs.res f1),(54,K2 ks2.arg aL ks2.rs.res f2),(55,K1 (kRow Pg2).arg (kRow Fp6).rs.res f3),(118,K0 (rS4 24) f4)] [118]) kBool.rs 300 Tryz.f62 [.one ((kRow Pg2).av a)]=inG2_T f0 f1 f2 f3 f4 a:=by kernel_rfl
theorem inG2_sat (f0:Pg2->Bool) (f1:Fp2->Bool) (f2:Fp6->List UInt64->Fp6) (f3:Pg2->Fp6) (f4:Fr) (a:Pg2):(inG2_T f0 f1 f2 f3 f4 a).sat fun q=>q=some (inG2_G f0 f1 f2 f3 f4 a):=⟨fun h0=>(show some _=some _ from congrArg some (by unfold inG2_G;rw [h0])),fun h0=>(show some _=some _ from congrArg some (by unfold inG2_G;rw [h0]))⟩
def inG2 (a:Pg2):Bool:=inG2_G onG2 zeroG2 timesG2 liftG2 rLimbs a
theorem inG2_ok:CallOk Tryz.prog 62 (K1 (kRow Pg2).arg kBool.rs.res inG2) :=
 P1 (Ens_ok (.cons onG2_ok (.cons zeroG2_ok (.cons timesG2_ok (.cons liftG2_ok (.cons R4_ok .nil)))))) Tryz.func62 (bodied Tryz.func62 (by kernel_rfl) (by kernel_rfl)) 300 (kRow Pg2) kBool.rs inG2 (inG2_run onG2 zeroG2 timesG2 liftG2 rLimbs) (inG2_sat onG2 zeroG2 timesG2 liftG2 rLimbs)
end
set_option maxRecDepth 100000
section
def prOne_G (f0:Fp12->Fp12) (f1:Fp12):Fp12:=(f0 f1)
def prOne_T (f0:Fp12->Fp12) (f1:Fp12):Tree (Option (Fp12)) :=
 (.leaf (some (f0 f1)))
theorem prOne_run (f0:Fp12->Fp12) (f1:Fp12):plainRun (En [(125,K1 (kRow Fp12).arg (kRow Fp12).rs.res f0),(67,K0 (kRow Fp12).rs.res f1)]) (kRow Fp12).rs 300 Tryz.f129 []=prOne_T f0 f1:=by kernel_rfl
theorem prOne_sat (f0:Fp12->Fp12) (f1:Fp12):(prOne_T f0 f1).sat fun q=>q=some (prOne_G f0 f1):=(show some _=some _ from rfl)
def prOne  : Fp12:=prOne_G wholeF12 oneF12
theorem prOne_ok:CallOk Tryz.prog 129 (K0 (kRow Fp12).rs.res prOne) :=
 P0 (En_ok (.cons wholeF12_ok (.cons oneF12_ok .nil))) Tryz.func129 (bodied Tryz.func129 (by kernel_rfl) (by kernel_rfl)) 300  (kRow Fp12).rs prOne (prOne_run wholeF12 oneF12) (prOne_sat wholeF12 oneF12)
def prQuot_G (f0:Fp2->Fp2 × Int) (f1:Fp2->Fp2) (f2:Fp2->Fp2->Fp2) (f3:Fp2->Fp2) (a:Fp2) (b:Fp2):Fp2:=(f2 a (f3 (f0 (f1 b)).fst))
def prQuot_T (f0:Fp2->Fp2 × Int) (f1:Fp2->Fp2) (f2:Fp2->Fp2->Fp2) (f3:Fp2->Fp2) (a:Fp2) (b:Fp2):Tree (Option (Fp2)) :=
 (.leaf (some (f2 a (f3 (f0 (f1 b)).fst))))
theorem prQuot_run (f0:Fp2->Fp2 × Int) (f1:Fp2->Fp2) (f2:Fp2->Fp2->Fp2) (f3:Fp2->Fp2) (a:Fp2) (b:Fp2):plainRun (En [(103,K1 (kRow Fp2).arg ((kRow Fp2).rs2 kInt).res f0),(104,K1 (kRow Fp2).arg (kRow Fp2).rs.res f1),(157,K2 (kRow Fp2).arg (kRow Fp2).arg (kRow Fp2).rs.res f2),(107,K1 (kRow Fp2).arg (kRow Fp2).rs.res f3)]) (kRow Fp2).rs 300 Tryz.f178 [.one ((kRow Fp2).av a),.one ((kRow Fp2).av b)]=prQuot_T f0 f1 f2 f3 a b:=by kernel_rfl
theorem prQuot_sat (f0:Fp2->Fp2 × Int) (f1:Fp2->Fp2) (f2:Fp2->Fp2->Fp2) (f3:Fp2->Fp2) (a:Fp2) (b:Fp2):(prQuot_T f0 f1 f2 f3 a b).sat fun q=>q=some (prQuot_G f0 f1 f2 f3 a b):=(show some _=some _ from rfl)
def prQuot (a:Fp2) (b:Fp2):Fp2:=prQuot_G invF2 lowF2 halfF2 wholeF2 a b
theorem prQuot_ok:CallOk Tryz.prog 178 (K2 (kRow Fp2).arg (kRow Fp2).arg (kRow Fp2).rs.res prQuot) :=
 P2 (En_ok (.cons invF2_ok (.cons lowF2_ok (.cons halfF2_ok (.cons wholeF2_ok .nil))))) Tryz.func178 (bodied Tryz.func178 (by kernel_rfl) (by kernel_rfl)) 300 (kRow Fp2) (kRow Fp2) (kRow Fp2).rs prQuot (prQuot_run invF2 lowF2 halfF2 wholeF2) (prQuot_sat invF2 lowF2 halfF2 wholeF2)
def prLine_G (f0:Fp2->Fp2) (f1:Fp2->Fp2->Fp2) (f2:Fp2->Fp2->Fp2) (f3:Fp2->Fp2) (t:Pg2) (s:Fp2) (p:Pg1):Fp12:=({ c0 := { c0:=f0 { c0:=p.y,c1:=zeroFp },c1:=zeroFp2,c2:=zeroFp2 },c1 := { c0:=zeroFp2,c1:=f1 (f2 s t.x) t.y,c2:=f3 (f2 s { c0:=p.x,c1:=zeroFp }) } })
def prLine_T (f0:Fp2->Fp2) (f1:Fp2->Fp2->Fp2) (f2:Fp2->Fp2->Fp2) (f3:Fp2->Fp2) (t:Pg2) (s:Fp2) (p:Pg1):Tree (Option (Fp12)) :=
 (.leaf (some ({ c0 := { c0:=f0 { c0:=p.y,c1:=zeroFp },c1:=zeroFp2,c2:=zeroFp2 },c1 := { c0:=zeroFp2,c1:=f1 (f2 s t.x) t.y,c2:=f3 (f2 s { c0:=p.x,c1:=zeroFp }) } })))
theorem prLine_run (f0:Fp2->Fp2) (f1:Fp2->Fp2->Fp2) (f2:Fp2->Fp2->Fp2) (f3:Fp2->Fp2) (t:Pg2) (s:Fp2) (p:Pg1):plainRun (En [(187,K1 (kRow Fp2).arg (kRow Fp2).rs.res f0),(163,K2 (kRow Fp2).arg (kRow Fp2).arg (kRow Fp2).rs.res f1),(157,K2 (kRow Fp2).arg (kRow Fp2).arg (kRow Fp2).rs.res f2),(156,K1 (kRow Fp2).arg (kRow Fp2).rs.res f3)]) (kRow Fp12).rs 300 Tryz.f179 [.one ((kRow Pg2).av t),.one ((kRow Fp2).av s),.one ((kRow Pg1).av p)]=prLine_T f0 f1 f2 f3 t s p:=by kernel_rfl
theorem prLine_sat (f0:Fp2->Fp2) (f1:Fp2->Fp2->Fp2) (f2:Fp2->Fp2->Fp2) (f3:Fp2->Fp2) (t:Pg2) (s:Fp2) (p:Pg1):(prLine_T f0 f1 f2 f3 t s p).sat fun q=>q=some (prLine_G f0 f1 f2 f3 t s p):=(show some _=some _ from rfl)
def prLine (t:Pg2) (s:Fp2) (p:Pg1):Fp12:=prLine_G upF2 subF2 halfF2 negF2 t s p
theorem prLine_ok:CallOk Tryz.prog 179 (K3 (kRow Pg2).arg (kRow Fp2).arg (kRow Pg1).arg (kRow Fp12).rs.res prLine) :=
 P3 (En_ok (.cons upF2_ok (.cons subF2_ok (.cons halfF2_ok (.cons negF2_ok .nil))))) Tryz.func179 (bodied Tryz.func179 (by kernel_rfl) (by kernel_rfl)) 300 (kRow Pg2) (kRow Fp2) (kRow Pg1) (kRow Fp12).rs prLine (prLine_run upF2 subF2 halfF2 negF2) (prLine_sat upF2 subF2 halfF2 negF2)
def prOn_G (f0:Fp2->Fp2->Fp2) (f1:Fp2->Fp2->Fp2) (t:Pg2) (s:Fp2) (x:Fp2):Pg2:=({ x:=f0 (f0 (f1 s s) t.x) x,y:=f0 (f1 s (f0 t.x (f0 (f0 (f1 s s) t.x) x))) t.y,inf:=false })
def prOn_T (f0:Fp2->Fp2->Fp2) (f1:Fp2->Fp2->Fp2) (t:Pg2) (s:Fp2) (x:Fp2):Tree (Option (Pg2)) :=
 (.leaf (some ({ x:=f0 (f0 (f1 s s) t.x) x,y:=f0 (f1 s (f0 t.x (f0 (f0 (f1 s s) t.x) x))) t.y,inf:=false })))
theorem prOn_run (f0:Fp2->Fp2->Fp2) (f1:Fp2->Fp2->Fp2) (t:Pg2) (s:Fp2) (x:Fp2):plainRun (En [(163,K2 (kRow Fp2).arg (kRow Fp2).arg (kRow Fp2).rs.res f0),(157,K2 (kRow Fp2).arg (kRow Fp2).arg (kRow Fp2).rs.res f1)]) (kRow Pg2).rs 300 Tryz.f180 [.one ((kRow Pg2).av t),.one ((kRow Fp2).av s),.one ((kRow Fp2).av x)]=prOn_T f0 f1 t s x:=by kernel_rfl
theorem prOn_sat (f0:Fp2->Fp2->Fp2) (f1:Fp2->Fp2->Fp2) (t:Pg2) (s:Fp2) (x:Fp2):(prOn_T f0 f1 t s x).sat fun q=>q=some (prOn_G f0 f1 t s x):=(show some _=some _ from rfl)
def prOn (t:Pg2) (s:Fp2) (x:Fp2):Pg2:=prOn_G subF2 halfF2 t s x
theorem prOn_ok:CallOk Tryz.prog 180 (K3 (kRow Pg2).arg (kRow Fp2).arg (kRow Fp2).arg (kRow Pg2).rs.res prOn) :=
 P3 (En_ok (.cons subF2_ok (.cons halfF2_ok .nil))) Tryz.func180 (bodied Tryz.func180 (by kernel_rfl) (by kernel_rfl)) 300 (kRow Pg2) (kRow Fp2) (kRow Fp2) (kRow Pg2).rs prOn (prOn_run subF2 halfF2) (prOn_sat subF2 halfF2)
def prMay_G (f0:Pg1->Bool) (f1:Pg2->Bool) (a:Pg1) (b:Pg2):Bool:=(match (f0 a) with | true=>((f1 b)) | false=>((false)))
def prMay_T (f0:Pg1->Bool) (f1:Pg2->Bool) (a:Pg1) (b:Pg2):Tree (Option (Bool)) :=
 (.br (f0 a)
  (.leaf (some ((f1 b))))
  (.leaf (some ((false)))))
theorem prMay_run (f0:Pg1->Bool) (f1:Pg2->Bool) (a:Pg1) (b:Pg2):plainRun (En [(61,K1 (kRow Pg1).arg kBool.rs.res f0),(62,K1 (kRow Pg2).arg kBool.rs.res f1)]) kBool.rs 300 Tryz.f63 [.one ((kRow Pg1).av a),.one ((kRow Pg2).av b)]=prMay_T f0 f1 a b:=by kernel_rfl
theorem prMay_sat (f0:Pg1->Bool) (f1:Pg2->Bool) (a:Pg1) (b:Pg2):(prMay_T f0 f1 a b).sat fun q=>q=some (prMay_G f0 f1 a b):=⟨fun h0=>(show some _=some _ from congrArg some (by unfold prMay_G;rw [h0])),fun h0=>(show some _=some _ from congrArg some (by unfold prMay_G;rw [h0]))⟩
def prMay (a:Pg1) (b:Pg2):Bool:=prMay_G inG1 inG2 a b
theorem prMay_ok:CallOk Tryz.prog 63 (K2 (kRow Pg1).arg (kRow Pg2).arg kBool.rs.res prMay) :=
 P2 (En_ok (.cons inG1_ok (.cons inG2_ok .nil))) Tryz.func63 (bodied Tryz.func63 (by kernel_rfl) (by kernel_rfl)) 300 (kRow Pg1) (kRow Pg2) kBool.rs prMay (prMay_run inG1 inG2) (prMay_sat inG1 inG2)
end
set_option maxRecDepth 100000
section
theorem sixth_run (u:Unit):endT (En []) (oS 22) 100 Tryz.f177 (flat (codeOf Tryz.f177)) (startSt Tryz.f177 [] [])=(.leaf (some (({ l0:=UInt64.ofNat 5308195848297902535,l1:=UInt64.ofNat 368356918586201429,l2:=UInt64.ofNat 16611565823685306630,l3:=UInt64.ofNat 16578843054827078431,l4:=UInt64.ofNat 902017296411783715,l5:=UInt64.ofNat 312299769607923311 },.t)))):=by kernel_rfl
theorem third_run (u:Unit):endT (En []) oL 100 Tryz.f128 (flat (codeOf Tryz.f128)) (startSt Tryz.f128 [] []) =
 (.leaf (some (([UInt64.ofNat 10088250816726084267,UInt64.ofNat 4137836090706223446],.t)))):=by kernel_rfl
abbrev Kf2 (F:Fp2->Fp2):Contract:=K1 (kRow Fp2).arg rF2.res F
abbrev Kf22 (F:Fp2->Fp2->Fp2):Contract:=K2 (kRow Fp2).arg (kRow Fp2).arg rF2.res F
abbrev Kw12 (F:Fp12->Fp12):Contract:=K1 (kRow Fp12).arg rF12.res F
noncomputable abbrev turnedE (s:Fp) (pF:Fp2->List UInt64->Fp2) (wF cF:Fp2->Fp2) (hF:Fp2->Fp2->Fp2):Env:=Ens [(176,K2 (kRow Fp2).arg aL rF2.res pF),(177,K0 (rS 22) s),(107,Kf2 wF),(162,Kf2 cF),(157,Kf22 hF)] [177]
theorem turned_run (s:Fp) (pF:Fp2->List UInt64->Fp2) (wF cF:Fp2->Fp2) (hF:Fp2->Fp2->Fp2) (a:Fp12):letI za':Fp := { l0:=UInt64.ofNat 1,l1:=UInt64.ofNat 0,l2:=UInt64.ofNat 0,l3:=UInt64.ofNat 0,l4:=UInt64.ofNat 0,l5:=UInt64.ofNat 0 };letI zb':Fp := { l0:=UInt64.ofNat 0,l1:=UInt64.ofNat 0,l2:=UInt64.ofNat 0,l3:=UInt64.ofNat 0,l4:=UInt64.ofNat 0,l5:=UInt64.ofNat 0 };endT (turnedE s pF wF cF hF) oF12 900 Tryz.f126 (flat (codeOf Tryz.f126)) (startSt Tryz.f126 [vF12 a] [])=(.leaf (some (({ c0 := { c0:=hF (cF a.c0.c0) (wF { c0:=za',c1:=zb' }),c1:=hF (cF a.c0.c1) (hF (hF (wF { c0:=za',c1:=zb' }) (wF (pF { c0:=za',c1:=za' } [s.l0,s.l1,s.l2,s.l3,s.l4,s.l5]))) (wF (pF { c0:=za',c1:=za' } [s.l0,s.l1,s.l2,s.l3,s.l4,s.l5]))),c2:=hF (cF a.c0.c2) (hF (hF (hF (hF (wF { c0:=za',c1:=zb' }) (wF (pF { c0:=za',c1:=za' } [s.l0,s.l1,s.l2,s.l3,s.l4,s.l5]))) (wF (pF { c0:=za',c1:=za' } [s.l0,s.l1,s.l2,s.l3,s.l4,s.l5]))) (wF (pF { c0:=za',c1:=za' } [s.l0,s.l1,s.l2,s.l3,s.l4,s.l5]))) (wF (pF { c0:=za',c1:=za' } [s.l0,s.l1,s.l2,s.l3,s.l4,s.l5]))) },c1 := { c0:=hF (cF a.c1.c0) (hF (wF { c0:=za',c1:=zb' }) (wF (pF { c0:=za',c1:=za' } [s.l0,s.l1,s.l2,s.l3,s.l4,s.l5]))),c1:=hF (cF a.c1.c1) (hF (hF (hF (wF { c0:=za',c1:=zb' }) (wF (pF { c0:=za',c1:=za' } [s.l0,s.l1,s.l2,s.l3,s.l4,s.l5]))) (wF (pF { c0:=za',c1:=za' } [s.l0,s.l1,s.l2,s.l3,s.l4,s.l5]))) (wF (pF { c0:=za',c1:=za' } [s.l0,s.l1,s.l2,s.l3,s.l4,s.l5]))),c2:=hF (cF a.c1.c2) (hF (hF (hF (hF (hF (wF { c0:=za',c1:=zb' }) (wF (pF { c0:=za',c1:=za' } [s.l0,s.l1,s.l2,s.l3,s.l4,s.l5]))) (wF (pF { c0:=za',c1:=za' } [s.l0,s.l1,s.l2,s.l3,s.l4,s.l5]))) (wF (pF { c0:=za',c1:=za' } [s.l0,s.l1,s.l2,s.l3,s.l4,s.l5]))) (wF (pF { c0:=za',c1:=za' } [s.l0,s.l1,s.l2,s.l3,s.l4,s.l5]))) (wF (pF { c0:=za',c1:=za' } [s.l0,s.l1,s.l2,s.l3,s.l4,s.l5]))) } },.t)))):=by kernel_rfl
noncomputable abbrev powerE (iF:Fp12->Fp12 × Int) (lF wF cF tF:Fp12->Fp12) (hF:Fp12->Fp12->Fp12) (rF':Fp12->List UInt64->Fp12) (t:List UInt64):Env:=Ens [(122,K1 (kRow Fp12).arg ((kRow Fp12).rs2 kInt).res iF),(64,Kw12 lF),(125,Kw12 wF),(124,Kw12 cF),(126,Kw12 tF),(123,Ks2 hF),(127,Kraised rF'),(128,K0 oL.res t)] [128]
theorem power_run (iF:Fp12->Fp12 × Int) (lF wF cF tF:Fp12->Fp12) (hF:Fp12->Fp12->Fp12) (rF':Fp12->List UInt64->Fp12) (t:List UInt64) (a:Fp12):letI za':=hF (cF (rF' (rF' (hF (tF (tF (hF (cF a) (wF (iF (lF a)).fst)))) (hF (cF a) (wF (iF (lF a)).fst))) (List.take t.length (List.drop 0 t))) [UInt64.ofNat 15132376222941642752])) (tF (rF' (hF (tF (tF (hF (cF a) (wF (iF (lF a)).fst)))) (hF (cF a) (wF (iF (lF a)).fst))) (List.take t.length (List.drop 0 t))));letI zb':=hF (cF a) (wF (iF (lF a)).fst);endT (powerE iF lF wF cF tF hF rF' t) oF12 300 Tryz.f65 (flat (codeOf Tryz.f65)) (startSt Tryz.f65 [vF12 a] [])=(.vc (0+t.length<=t.length/\t.length<1125899906842624/\0=0/\1=1) (.leaf (some ((hF (hF (rF' (rF' za' [UInt64.ofNat 15132376222941642752]) [UInt64.ofNat 15132376222941642752]) (hF (tF (tF za')) (cF za'))) (hF (tF (tF zb')) zb'),.t))))):=by kernel_rfl
end
set_option maxRecDepth 100000
section
def tMl (o:Fp12) (wF:Fp->Fp) (w2:Fp2->Fp2) (h2 a2 s2 qF:Fp2->Fp2->Fp2) (hF:Fp12->Fp12->Fp12) (lF:Pg2->Fp2->Pg1->Fp12) (oF:Pg2->Fp2->Fp2->Pg2):Table :=
 [(129,K0 rF12.res o),(112,Kf wF),(107,Kf2 w2),(157,Kf22 h2),(94,Kf22 a2),(163,Kf22 s2),(178,Kf22 qF),(123,Ks2 hF),(179,K3 (kRow Pg2).arg (kRow Fp2).arg (kRow Pg1).arg rF12.res lF),(180,K3 (kRow Pg2).arg (kRow Fp2).arg (kRow Fp2).arg (kRow Pg2).rs.res oF)]
def mlSt (p:Pg1) (q:Pg2) (f:Fp12) (t:Pg2) (z:Int):St:=mkSt 87 [(2,ptrV 0),(3,ptrV 1),(4,ptrV 2),(5,ptrV 3),(6,ptrV 4),(7,vI z)] [own 46 (Row.cs p),own 33 (Row.cs q),own 108 (zeros 72),own 108 (Row.cs f),own 33 (Row.cs t)]
theorem ml_front (T:Table) (p:Pg1) (q:Pg2):stageT (En T) 100 ((flat (codeOf Tryz.f130)).take 1) (startSt Tryz.f130 [.one (kg1.av p),.one (kg2.av q)] []) [2,3,4] [0,1,2]=(.leaf (mkSt 87 [(2,.one (.c (.ptr 0 0))),(3,.one (.c (.ptr 1 0))),(4,.one (.c (.ptr 2 0)))] [.live ⟨true,46,0,(.row (Row.cs (p:Pg1))),false⟩,.live ⟨true,33,0,(.row (Row.cs (q:Pg2))),false⟩,.live ⟨true,108,0,(.row [(.lit .u64 0),(.lit .u64 0),(.lit .u64 0),(.lit .u64 0),(.lit .u64 0),(.lit .u64 0),(.lit .u64 0),(.lit .u64 0),(.lit .u64 0),(.lit .u64 0),(.lit .u64 0),(.lit .u64 0),(.lit .u64 0),(.lit .u64 0),(.lit .u64 0),(.lit .u64 0),(.lit .u64 0),(.lit .u64 0),(.lit .u64 0),(.lit .u64 0),(.lit .u64 0),(.lit .u64 0),(.lit .u64 0),(.lit .u64 0),(.lit .u64 0),(.lit .u64 0),(.lit .u64 0),(.lit .u64 0),(.lit .u64 0),(.lit .u64 0),(.lit .u64 0),(.lit .u64 0),(.lit .u64 0),(.lit .u64 0),(.lit .u64 0),(.lit .u64 0),(.lit .u64 0),(.lit .u64 0),(.lit .u64 0),(.lit .u64 0),(.lit .u64 0),(.lit .u64 0),(.lit .u64 0),(.lit .u64 0),(.lit .u64 0),(.lit .u64 0),(.lit .u64 0),(.lit .u64 0),(.lit .u64 0),(.lit .u64 0),(.lit .u64 0),(.lit .u64 0),(.lit .u64 0),(.lit .u64 0),(.lit .u64 0),(.lit .u64 0),(.lit .u64 0),(.lit .u64 0),(.lit .u64 0),(.lit .u64 0),(.lit .u64 0),(.lit .u64 0),(.lit .u64 0),(.lit .u64 0),(.lit .u64 0),(.lit .u64 0),(.lit .u64 0),(.lit .u64 0),(.lit .u64 0),(.lit .u64 0),(.lit .u64 0),(.lit .u64 0)]),false⟩])):=by kernel_rfl
theorem ml_start (o:Fp12) (wF:Fp->Fp) (w2:Fp2->Fp2) (h2 a2 s2 qF:Fp2->Fp2->Fp2) (hF:Fp12->Fp12->Fp12) (lF:Pg2->Fp2->Pg1->Fp12) (oF:Pg2->Fp2->Fp2->Pg2) (p:Pg1) (q:Pg2):stageG (En (tMl o wF w2 h2 a2 s2 qF hF lF oF)) 100 ((flat (scopeOf Tryz.f130)).take 5) (mkSt 87 [(2,ptrV 0),(3,ptrV 1),(4,ptrV 2)] [own 46 (Row.cs p),own 33 (Row.cs q),own 108 (zeros 72)]) [2,3,4,5,6,7] [0,1,2,3,4] [(2,.as),(3,.as),(4,.as),(5,.as),(6,.as),(7,.int)] [.one .g1,.one .g2,.as,.as,.one .g2] []=(.leaf (mkSt 87 [(2,.one (.c (.ptr 0 0))),(3,.one (.c (.ptr 1 0))),(4,.one (.c (.ptr 2 0))),(5,.one (.c (.ptr 3 0))),(6,.one (.c (.ptr 4 0))),(7,.one (.c (.int .i64 63)))] [.live ⟨true,46,0,(.row (Row.cs ({ x:=wF p.x,y:=wF p.y,inf:=false }:Pg1))),false⟩,.live ⟨true,33,0,(.row (Row.cs ({ x:=w2 q.x,y:=w2 q.y,inf:=false }:Pg2))),false⟩,.live ⟨true,108,0,(.row [(.lit .u64 0),(.lit .u64 0),(.lit .u64 0),(.lit .u64 0),(.lit .u64 0),(.lit .u64 0),(.lit .u64 0),(.lit .u64 0),(.lit .u64 0),(.lit .u64 0),(.lit .u64 0),(.lit .u64 0),(.lit .u64 0),(.lit .u64 0),(.lit .u64 0),(.lit .u64 0),(.lit .u64 0),(.lit .u64 0),(.lit .u64 0),(.lit .u64 0),(.lit .u64 0),(.lit .u64 0),(.lit .u64 0),(.lit .u64 0),(.lit .u64 0),(.lit .u64 0),(.lit .u64 0),(.lit .u64 0),(.lit .u64 0),(.lit .u64 0),(.lit .u64 0),(.lit .u64 0),(.lit .u64 0),(.lit .u64 0),(.lit .u64 0),(.lit .u64 0),(.lit .u64 0),(.lit .u64 0),(.lit .u64 0),(.lit .u64 0),(.lit .u64 0),(.lit .u64 0),(.lit .u64 0),(.lit .u64 0),(.lit .u64 0),(.lit .u64 0),(.lit .u64 0),(.lit .u64 0),(.lit .u64 0),(.lit .u64 0),(.lit .u64 0),(.lit .u64 0),(.lit .u64 0),(.lit .u64 0),(.lit .u64 0),(.lit .u64 0),(.lit .u64 0),(.lit .u64 0),(.lit .u64 0),(.lit .u64 0),(.lit .u64 0),(.lit .u64 0),(.lit .u64 0),(.lit .u64 0),(.lit .u64 0),(.lit .u64 0),(.lit .u64 0),(.lit .u64 0),(.lit .u64 0),(.lit .u64 0),(.lit .u64 0),(.lit .u64 0)]),false⟩,.live ⟨true,108,0,(.row (Row.cs (o:Fp12))),false⟩,.live ⟨true,33,0,(.row (Row.cs ({ x:=w2 q.x,y:=w2 q.y,inf:=false }:Pg2))),false⟩])):=by kernel_rfl
theorem ml_iter (o:Fp12) (wF:Fp->Fp) (w2:Fp2->Fp2) (h2 a2 s2 qF:Fp2->Fp2->Fp2) (hF:Fp12->Fp12->Fp12) (lF:Pg2->Fp2->Pg1->Fp12) (oF:Pg2->Fp2->Fp2->Pg2) (p:Pg1) (q:Pg2) (f:Fp12) (t:Pg2) (z:Int):letI za':=qF (a2 (a2 (h2 t.x t.x) (h2 t.x t.x)) (h2 t.x t.x)) (a2 t.y t.y);letI zb':=oF t za' t.x;letI zc':=qF (s2 q.y zb'.y) (s2 q.x zb'.x);letI zd':=IntKind.i64.wrap (z-1);iterT (En (tMl o wF w2 h2 a2 s2 qF hF lF oF)) oF12 300 Tryz.f130 ((flat (scopeOf Tryz.f130)).drop 5) (mlSt p q f t z) [2,3,4,5,6,7] [0,1,2,3,4]=(.br (decide (IntKind.i64.wrap (z-1)<0)) (.leaf (.inr (some ((f,.t))))) (.br (bits BinOp.and IntKind.u64 (shrI IntKind.u64 15132376222941642752 (↑(UInt64.ofNat (IntKind.i64.wrap (z-1) % 18446744073709551616).toNat).toNat:Int)) 1==1) (.leaf (.inl ((.goto 0,mkSt 87 [(2,.one (.c (.ptr 0 0))),(3,.one (.c (.ptr 1 0))),(4,.one (.c (.ptr 2 0))),(5,.one (.c (.ptr 3 0))),(6,.one (.c (.ptr 4 0))),(7,.one (.c (.int .i64 zd')))] [.live ⟨true,46,0,(.row (Row.cs (p:Pg1))),false⟩,.live ⟨true,33,0,(.row (Row.cs (q:Pg2))),false⟩,.live ⟨true,108,0,(.row [(.lit .u64 0),(.lit .u64 0),(.lit .u64 0),(.lit .u64 0),(.lit .u64 0),(.lit .u64 0),(.lit .u64 0),(.lit .u64 0),(.lit .u64 0),(.lit .u64 0),(.lit .u64 0),(.lit .u64 0),(.lit .u64 0),(.lit .u64 0),(.lit .u64 0),(.lit .u64 0),(.lit .u64 0),(.lit .u64 0),(.lit .u64 0),(.lit .u64 0),(.lit .u64 0),(.lit .u64 0),(.lit .u64 0),(.lit .u64 0),(.lit .u64 0),(.lit .u64 0),(.lit .u64 0),(.lit .u64 0),(.lit .u64 0),(.lit .u64 0),(.lit .u64 0),(.lit .u64 0),(.lit .u64 0),(.lit .u64 0),(.lit .u64 0),(.lit .u64 0),(.lit .u64 0),(.lit .u64 0),(.lit .u64 0),(.lit .u64 0),(.lit .u64 0),(.lit .u64 0),(.lit .u64 0),(.lit .u64 0),(.lit .u64 0),(.lit .u64 0),(.lit .u64 0),(.lit .u64 0),(.lit .u64 0),(.lit .u64 0),(.lit .u64 0),(.lit .u64 0),(.lit .u64 0),(.lit .u64 0),(.lit .u64 0),(.lit .u64 0),(.lit .u64 0),(.lit .u64 0),(.lit .u64 0),(.lit .u64 0),(.lit .u64 0),(.lit .u64 0),(.lit .u64 0),(.lit .u64 0),(.lit .u64 0),(.lit .u64 0),(.lit .u64 0),(.lit .u64 0),(.lit .u64 0),(.lit .u64 0),(.lit .u64 0),(.lit .u64 0)]),false⟩,.live ⟨true,108,0,(.row (Row.cs (hF (hF (hF f f) (lF t za' p)) (lF zb' zc' p):Fp12))),false⟩,.live ⟨true,33,0,(.row (Row.cs (oF zb' zc' q.x:Pg2))),false⟩])))) (.leaf (.inl ((.goto 0,mkSt 87 [(2,.one (.c (.ptr 0 0))),(3,.one (.c (.ptr 1 0))),(4,.one (.c (.ptr 2 0))),(5,.one (.c (.ptr 3 0))),(6,.one (.c (.ptr 4 0))),(7,.one (.c (.int .i64 zd')))] [.live ⟨true,46,0,(.row (Row.cs (p:Pg1))),false⟩,.live ⟨true,33,0,(.row (Row.cs (q:Pg2))),false⟩,.live ⟨true,108,0,(.row [(.lit .u64 0),(.lit .u64 0),(.lit .u64 0),(.lit .u64 0),(.lit .u64 0),(.lit .u64 0),(.lit .u64 0),(.lit .u64 0),(.lit .u64 0),(.lit .u64 0),(.lit .u64 0),(.lit .u64 0),(.lit .u64 0),(.lit .u64 0),(.lit .u64 0),(.lit .u64 0),(.lit .u64 0),(.lit .u64 0),(.lit .u64 0),(.lit .u64 0),(.lit .u64 0),(.lit .u64 0),(.lit .u64 0),(.lit .u64 0),(.lit .u64 0),(.lit .u64 0),(.lit .u64 0),(.lit .u64 0),(.lit .u64 0),(.lit .u64 0),(.lit .u64 0),(.lit .u64 0),(.lit .u64 0),(.lit .u64 0),(.lit .u64 0),(.lit .u64 0),(.lit .u64 0),(.lit .u64 0),(.lit .u64 0),(.lit .u64 0),(.lit .u64 0),(.lit .u64 0),(.lit .u64 0),(.lit .u64 0),(.lit .u64 0),(.lit .u64 0),(.lit .u64 0),(.lit .u64 0),(.lit .u64 0),(.lit .u64 0),(.lit .u64 0),(.lit .u64 0),(.lit .u64 0),(.lit .u64 0),(.lit .u64 0),(.lit .u64 0),(.lit .u64 0),(.lit .u64 0),(.lit .u64 0),(.lit .u64 0),(.lit .u64 0),(.lit .u64 0),(.lit .u64 0),(.lit .u64 0),(.lit .u64 0),(.lit .u64 0),(.lit .u64 0),(.lit .u64 0),(.lit .u64 0),(.lit .u64 0),(.lit .u64 0),(.lit .u64 0)]),false⟩,.live ⟨true,108,0,(.row (Row.cs (hF (hF f f) (lF t za' p):Fp12))),false⟩,.live ⟨true,33,0,(.row (Row.cs (oF t za' t.x:Pg2))),false⟩])))))):=by kernel_rfl
end
set_option maxRecDepth 100000
section
def sixthV:Fp:=⟨UInt64.ofNat 5308195848297902535,UInt64.ofNat 368356918586201429,UInt64.ofNat 16611565823685306630,UInt64.ofNat 16578843054827078431,UInt64.ofNat 902017296411783715,UInt64.ofNat 312299769607923311⟩
theorem sixth_ok:CallOk Tryz.prog 177 (K0 (rS 22) sixthV) :=
 G0 (E:=En []) Tryz.func177 (c:=codeOf Tryz.f177) (by kernel_rfl) (bodied Tryz.func177 (by kernel_rfl) (by kernel_rfl)) (oS 22) sixthV (DoesL.ends (En_ok .nil) 100 (sixth_run ()) ⟨.t,rfl,trivial⟩)
def thirdL:List UInt64 := [UInt64.ofNat 10088250816726084267,UInt64.ofNat 4137836090706223446]
theorem third_ok:CallOk Tryz.prog 128 (K0 oL.res thirdL) :=
 G0 (E:=En []) Tryz.func128 (c:=codeOf Tryz.f128) (by kernel_rfl) (bodied Tryz.func128 (by kernel_rfl) (by kernel_rfl)) oL thirdL (DoesL.ends (En_ok .nil) 100 (third_run ()) ⟨.t,rfl,trivial⟩)
def turnedG (k0 g:Fp2) (cF:Fp2->Fp2) (hF:Fp2->Fp2->Fp2) (a:Fp12):Fp12 :=
 ⟨⟨hF (cF a.c0.c0) k0,hF (cF a.c0.c1) (hF (hF k0 g) g),hF (cF a.c0.c2) (hF (hF (hF (hF k0 g) g) g) g)⟩,⟨hF (cF a.c1.c0) (hF k0 g),hF (cF a.c1.c1) (hF (hF (hF k0 g) g) g),hF (cF a.c1.c2) (hF (hF (hF (hF (hF k0 g) g) g) g) g)⟩⟩
def turnedF (a:Fp12):Fp12:=turnedG (wholeF2 oneFp2) (wholeF2 (powF2 xiFp2 sixthV.list)) conjF2 halfF2 a
theorem turned_ok:CallOk Tryz.prog 126 (Kw12 turnedF) :=
 G1 (E:=turnedE sixthV powF2 wholeF2 conjF2 halfF2) Tryz.func126 (c:=codeOf Tryz.f126) (by kernel_rfl) (bodied Tryz.func126 (by kernel_rfl) (by kernel_rfl)) (kRow Fp12).inp oF12 turnedF fun a _ =>
  DoesL.ends (Ens_ok (.cons pw2_ok (.cons sixth_ok (.cons wholeF2_ok (.cons conjF2_ok (.cons halfF2_ok .nil)))))) 900 (turned_run sixthV powF2 wholeF2 conjF2 halfF2 a) ⟨.t,rfl,trivial⟩
section
variable (iF : Fp12 -> Fp12 × Int) (lF wF cF tF : Fp12 -> Fp12) (hF : Fp12 -> Fp12 -> Fp12) (rF' : Fp12 -> List UInt64 -> Fp12) (t : List UInt64)
def pw0 (a:Fp12):Fp12:=hF (cF a) (wF (iF (lF a)).1)
def pw1 (z:Fp12):Fp12:=hF (tF (tF z)) z
def pwX:List UInt64 := [UInt64.ofNat 15132376222941642752]
def pwA (z:Fp12):Fp12:=hF (cF (rF' (rF' z t) pwX)) (tF (rF' z t))
def pwB (z:Fp12):Fp12:=hF (rF' (rF' z pwX) pwX) (hF (tF (tF z)) (cF z))
def powerG (a:Fp12):Fp12:=hF (pwB cF tF hF rF' (pwA cF tF hF rF' t (pw1 tF hF (pw0 iF lF wF cF hF a)))) (pw1 tF hF (pw0 iF lF wF cF hF a))
end
theorem power_sat (iF:Fp12->Fp12 × Int) (lF wF cF tF:Fp12->Fp12) (hF:Fp12->Fp12->Fp12) (rF':Fp12->List UInt64->Fp12) {t:List UInt64} (ht:t.length<1125899906842624) (a:Fp12) {E:Env} (hE:EnvOk E) {fn:Func} {cs:List Code} {st:St}
  {T:Tree (Option (Fp12 × Pr))} (e:endT E oF12 300 fn cs st=T) (hT:T = .vc (0+t.length<=t.length/\t.length<1125899906842624/\0=0/\1=1) (.leaf (some (powerG iF lF wF cF tF hF rF' (List.take t.length (List.drop 0 t)) a,.t)))):DoesL E cs st (EndsAs E fn (Reads oF12 (powerG iF lF wF cF tF hF rF' t a))):=by
 subst hT
 refine DoesL.ends hE 300 e ⟨⟨by omega,ht,rfl,rfl⟩,fun _=>⟨.t,?_,trivial⟩⟩
 rw [whole]
def powerF (a:Fp12):Fp12:=powerG invF12 lowF12 wholeF12 conjF12 turnedF halfF12 raisedF thirdL a
theorem power_ok:CallOk Tryz.prog 65 (Kw12 powerF) :=
 G1 (E:=powerE invF12 lowF12 wholeF12 conjF12 turnedF halfF12 raisedF thirdL) Tryz.func65 (c:=codeOf Tryz.f65) (by kernel_rfl) (bodied Tryz.func65 (by kernel_rfl) (by kernel_rfl)) (kRow Fp12).inp oF12 powerF fun a _ =>
  power_sat invF12 lowF12 wholeF12 conjF12 turnedF halfF12 raisedF (t:=thirdL) (show 2<1125899906842624 by decide) a (Ens_ok (.cons invF12_ok (.cons lowF12_ok (.cons wholeF12_ok (.cons conjF12_ok (.cons turned_ok (.cons halfF12_ok (.cons raised_ok (.cons third_ok .nil))))))))) (power_run invF12 lowF12 wholeF12 conjF12 turnedF halfF12 raisedF thirdL a) rfl
section
variable (h2 a2 s2 qF : Fp2 -> Fp2 -> Fp2) (hF : Fp12 -> Fp12 -> Fp12) (lF : Pg2 -> Fp2 -> Pg1 -> Fp12) (oF : Pg2 -> Fp2 -> Fp2 -> Pg2)
def tanF (t:Pg2):Fp2:=qF (a2 (a2 (h2 t.x t.x) (h2 t.x t.x)) (h2 t.x t.x)) (a2 t.y t.y)
def chdF (q t:Pg2):Fp2:=qF (s2 q.y t.y) (s2 q.x t.x)
def mlTwo (p:Pg1) (s:Fp12 × Pg2):Fp12 × Pg2:=(hF (hF s.1 s.1) (lF s.2 (tanF h2 a2 qF s.2) p),oF s.2 (tanF h2 a2 qF s.2) s.2.x)
def mlAdd (p:Pg1) (q:Pg2) (s:Fp12 × Pg2):Fp12 × Pg2:=(hF s.1 (lF s.2 (chdF s2 qF q s.2) p),oF s.2 (chdF s2 qF q s.2) q.x)
def loopN:Nat:=15132376222941642752
def millG (p:Pg1) (q:Pg2):Nat->Fp12 × Pg2->Fp12 × Pg2
 | 0,s=>s
 | n+1,s=>match loopN.testBit n with
  | true=>millG p q n (mlAdd s2 qF hF lF oF p q (mlTwo h2 a2 qF hF lF oF p s))
  | false=>millG p q n (mlTwo h2 a2 qF hF lF oF p s)
end
def loopB (z:Int):Bool:=bits BinOp.and IntKind.u64 (shrI IntKind.u64 15132376222941642752 (↑(UInt64.ofNat (z % 18446744073709551616).toNat).toNat:Int)) 1==1
theorem loopB_all:((List.range 63).all fun n=>loopB (n:Int)==loopN.testBit n)=true:=by decide +kernel
theorem loopB_at {n:Nat} (h:n<63):loopB (n:Int)=loopN.testBit n:=eq_of_beq (List.all_eq_true.1 loopB_all n (List.mem_range.2 h))
section
variable (o : Fp12) (wF : Fp -> Fp) (w2 : Fp2 -> Fp2) (h2 a2 s2 qF : Fp2 -> Fp2 -> Fp2) (hF : Fp12 -> Fp12 -> Fp12) (lF : Pg2 -> Fp2 -> Pg1 -> Fp12) (oF : Pg2 -> Fp2 -> Fp2 -> Pg2)
theorem ml_iter' (p:Pg1) (q:Pg2) (f:Fp12) (t:Pg2) (z:Int):iterT (En (tMl o wF w2 h2 a2 s2 qF hF lF oF)) oF12 300 Tryz.f130 ((flat (scopeOf Tryz.f130)).drop 5) (mlSt p q f t z) [2,3,4,5,6,7] [0,1,2,3,4] =
  .br (decide (IntKind.i64.wrap (z-1)<0)) (.leaf (.inr (some (f,.t)))) (.br (loopB (IntKind.i64.wrap (z-1)))
   (.leaf (.inl (.goto 0,mlSt p q (mlAdd s2 qF hF lF oF p q (mlTwo h2 a2 qF hF lF oF p (f,t))).1 (mlAdd s2 qF hF lF oF p q (mlTwo h2 a2 qF hF lF oF p (f,t))).2 (IntKind.i64.wrap (z-1)))))
   (.leaf (.inl (.goto 0,mlSt p q (mlTwo h2 a2 qF hF lF oF p (f,t)).1 (mlTwo h2 a2 qF hF lF oF p (f,t)).2 (IntKind.i64.wrap (z-1)))))):=(ml_iter o wF w2 h2 a2 s2 qF hF lF oF p q f t z).trans (by kernel_rfl)
theorem ml_start' (p:Pg1) (q:Pg2):stageG (En (tMl o wF w2 h2 a2 s2 qF hF lF oF)) 100 ((flat (scopeOf Tryz.f130)).take 5) (mkSt 87 [(2,ptrV 0),(3,ptrV 1),(4,ptrV 2)] [own 46 (Row.cs p),own 33 (Row.cs q),own 108 (zeros 72)]) [2,3,4,5,6,7] [0,1,2,3,4] [(2,.as),(3,.as),(4,.as),(5,.as),(6,.as),(7,.int)] [.one .g1,.one .g2,.as,.as,.one .g2] [] =
  .leaf (mlSt ⟨wF p.x,wF p.y,false⟩ ⟨w2 q.x,w2 q.y,false⟩ o ⟨w2 q.x,w2 q.y,false⟩ 63):=(ml_start o wF w2 h2 a2 s2 qF hF lF oF p q).trans (by kernel_rfl)
theorem ml_front' (T:Table) (p:Pg1) (q:Pg2):stageT (En T) 100 ((flat (codeOf Tryz.f130)).take 1) (startSt Tryz.f130 [.one (kg1.av p),.one (kg2.av q)] []) [2,3,4] [0,1,2] =
  .leaf (mkSt 87 [(2,ptrV 0),(3,ptrV 1),(4,ptrV 2)] [own 46 (Row.cs p),own 33 (Row.cs q),own 108 (zeros 72)]):=(ml_front T p q).trans (by kernel_rfl)
abbrev MilQ (p:Pg1) (q:Pg2):Type := { s:Nat × Fp12 × Pg2 // s.1<=63/\millG h2 a2 s2 qF hF lF oF p q s.1 s.2=millG h2 a2 s2 qF hF lF oF p q 63 (o,q) }
def milI (p:Pg1) (q:Pg2) (s:MilQ o h2 a2 s2 qF hF lF oF p q):St:=mlSt p q s.1.2.1 s.1.2.2 (s.1.1:Int)
theorem miller_does (hE:EnvOk (En (tMl o wF w2 h2 a2 s2 qF hF lF oF))) (p:Pg1) (q:Pg2):DoesL (En (tMl o wF w2 h2 a2 s2 qF hF lF oF)) (flat (codeOf Tryz.f130)) (startSt Tryz.f130 [.one (kg1.av p),.one (kg2.av q)] [])
  (EndsAs (En (tMl o wF w2 h2 a2 s2 qF hF lF oF)) Tryz.f130 (Reads oF12 (millG h2 a2 s2 qF hF lF oF ⟨wF p.x,wF p.y,false⟩ ⟨w2 q.x,w2 q.y,false⟩ 63 (o,⟨w2 q.x,w2 q.y,false⟩)).1)):=by
 refine DoesL.stageE hE 100 1 [2,3,4] [0,1,2] (ml_front' _ p q) ?_
 have st:=ml_start' o wF w2 h2 a2 s2 qF hF lF oF p q
 generalize (⟨wF p.x,wF p.y,false⟩:Pg1)=p' at *
 generalize (⟨w2 q.x,w2 q.y,false⟩:Pg2)=q' at *
 refine DoesL.scopeFnG (body:=scopeOf Tryz.f130) (rest:=restOf Tryz.f130) (tail := []) (l:=0) hE (by kernel_rfl) (by kernel_rfl) 5 (by kernel_rfl) (milI o h2 a2 s2 qF hF lF oF p' q') (fun s=>s.1.1)
  ⟨(63,o,q'),Nat.le_refl _,rfl⟩ ?_ fun s => ?_
 ·rw [<- show List.take 5 (List.take 5 (flat (scopeOf Tryz.f130)))=List.take 5 (flat (scopeOf Tryz.f130)) by rw [List.take_take];rfl] at st
  refine DoesL.stageG hE 100 5 _ _ _ _ _ st ?_
  show DoesL (En (tMl o wF w2 h2 a2 s2 qF hF lF oF)) (List.drop 5 (List.take 5 (flat (scopeOf Tryz.f130)))) (mlSt p' q' o q' 63) _
  rw [show List.drop 5 (List.take 5 (flat (scopeOf Tryz.f130))) = [] by kernel_rfl]
  exact ⟨_,Wk.refl _,rfl⟩
 ·obtain ⟨⟨m,f,t⟩,h0,h1⟩:=s
  simp only [] at h0 h1
  have hz:IntKind.i64.wrap ((m:Int)-1)=(m:Int)-1:=IntWalk.i64_in _ (by omega)
  refine DoesL.iter hE 300 [2,3,4,5,6,7] [0,1,2,3,4] (ml_iter' o wF w2 h2 a2 s2 qF hF lF oF p' q' f t m) ?_
  rw [hz]
  refine ⟨fun h => ?_,fun h => ?_⟩
  ·simp only [decide_eq_true_eq] at h
   obtain rfl:m=0:=by omega
   exact ⟨.t,by rw [<- h1];rfl,trivial⟩
  ·simp only [decide_eq_false_iff_not] at h
   obtain ⟨n,rfl⟩ : ∃ n:Nat,m=n+1:=⟨m-1,by omega⟩
   have e1:((n+1:Nat):Int)-1=(n:Int):=by omega
   rw [e1,loopB_at (by omega)]
   unfold millG at h1
   refine ⟨fun h3 => ?_,fun h3 => ?_⟩
   all_goals
    rw [h3] at h1
    simp only [] at h1
   ·exact ⟨rfl,⟨(n,mlAdd s2 qF hF lF oF p' q' (mlTwo h2 a2 qF hF lF oF p' (f,t))),by show n<=63;omega,h1⟩,Nat.lt_succ_self n,rfl⟩
   ·exact ⟨rfl,⟨(n,mlTwo h2 a2 qF hF lF oF p' (f,t)),by show n<=63;omega,h1⟩,Nat.lt_succ_self n,rfl⟩
end
def millerF (p:Pg1) (q:Pg2):Fp12:=(millG halfF2 addF2 subF2 prQuot halfF12 prLine prOn ⟨wholeF p.x,wholeF p.y,false⟩ ⟨wholeF2 q.x,wholeF2 q.y,false⟩ 63 (prOne,⟨wholeF2 q.x,wholeF2 q.y,false⟩)).1
theorem miller_ok:CallOk Tryz.prog 130 (K2 kg1.arg kg2.arg rF12.res millerF) :=
 G2 (E:=En (tMl prOne wholeF wholeF2 halfF2 addF2 subF2 prQuot halfF12 prLine prOn)) Tryz.func130 (c:=codeOf Tryz.f130) (by kernel_rfl) (bodied Tryz.func130 (by kernel_rfl) (by kernel_rfl)) kg1.inp kg2.inp oF12 millerF fun p q _ _ =>
  miller_does prOne wholeF wholeF2 halfF2 addF2 subF2 prQuot halfF12 prLine prOn (En_ok (.cons prOne_ok (.cons whole_ok (.cons wholeF2_ok (.cons halfF2_ok (.cons addF2_ok (.cons subF2_ok (.cons prQuot_ok (.cons halfF12_ok (.cons prLine_ok (.cons prOn_ok .nil))))))))))) p q
end
end Go.Proofs.YtcbplfkeeaecgaaGreat
namespace Go.Proofs.YtcbplfkeeaecgaaGreat
def qN:Nat:=0x73eda753299d7d483339d80809a1d80553bda402fffe5bfeffffffff00000001
def r4N:Nat:=0x10000000000000000000000000000000000000000000000000000000000000000
def Fr.nat (a:Fr):Nat:=a.l0.toNat+W64*(a.l1.toNat+W64*(a.l2.toNat+W64*(a.l3.toNat)))
theorem Fr.nat_lt (a:Fr):a.nat<r4N:=by
 have h0:=a.l0.toNat_lt
 have h1:=a.l1.toNat_lt
 have h2:=a.l2.toNat_lt
 have h3:=a.l3.toNat_lt
 unfold Fr.nat r4N W64
 omega
theorem Fr.nat_inj {a b:Fr} (h:a.nat=b.nat):a=b:=by
 have h0:=a.l0.toNat_lt
 have h1:=a.l1.toNat_lt
 have h2:=a.l2.toNat_lt
 have h3:=a.l3.toNat_lt
 have k0:=b.l0.toNat_lt
 have k1:=b.l1.toNat_lt
 have k2:=b.l2.toNat_lt
 have k3:=b.l3.toNat_lt
 unfold Fr.nat W64 at h
 have e0:a.l0=b.l0:=UInt64.toNat.inj (by omega)
 have e1:a.l1=b.l1:=UInt64.toNat.inj (by omega)
 have e2:a.l2=b.l2:=UInt64.toNat.inj (by omega)
 have e3:a.l3=b.l3:=UInt64.toNat.inj (by omega)
 cases a;cases b
 simp only [] at e0 e1 e2 e3
 subst e0 e1 e2 e3
 rfl
theorem rLimbs_nat:rLimbs.nat=qN:=by decide +kernel
theorem sub4T_nat (a b:Fr):(sub4T a b).1.nat+b.nat=a.nat+r4N*(sub4T a b).2.toNat:=by
 unfold sub4T
 simp only []
 have s0:=sub_step a.l0 b.l0 false
 generalize subB a.l0 b.l0 false=c0 at *
 have s1:=sub_step a.l1 b.l1 c0
 generalize subB a.l1 b.l1 c0=c1 at *
 have s2:=sub_step a.l2 b.l2 c1
 generalize subB a.l2 b.l2 c1=c2 at *
 have s3:=sub_step a.l3 b.l3 c2
 generalize subB a.l3 b.l3 c2=c3 at *
 unfold Fr.nat r4N W64 at *
 simp only [Bool.toNat_false] at *
 omega
theorem below4F_nat (a m:Fr):below4F a m=decide (a.nat<m.nat):=by
 have h0:=a.l0.toNat_lt
 have k0:=m.l0.toNat_lt
 have h1:=a.l1.toNat_lt
 have k1:=m.l1.toNat_lt
 have h2:=a.l2.toNat_lt
 have k2:=m.l2.toNat_lt
 have same : ∀ {x y:UInt64},(x != y)=false->x.toNat=y.toNat:=fun h=>by
  simp only [bne_eq_false_iff_eq] at h
  rw [h]
 unfold below4F
 cases e3:a.l3 != m.l3 with
 | true =>
  have:=u64_ne.1 e3
  refine decide_eq_decide.2 ?_
  rw [UInt64.lt_iff_toNat_lt]
  unfold Fr.nat W64
  omega
 | false =>
  have e3:=same e3
  simp only []
  cases e2:a.l2 != m.l2 with
  | true =>
   have:=u64_ne.1 e2
   refine decide_eq_decide.2 ?_
   rw [UInt64.lt_iff_toNat_lt]
   unfold Fr.nat W64
   omega
  | false =>
   have e2:=same e2
   simp only []
   cases e1:a.l1 != m.l1 with
   | true =>
    have:=u64_ne.1 e1
    refine decide_eq_decide.2 ?_
    rw [UInt64.lt_iff_toNat_lt]
    unfold Fr.nat W64
    omega
   | false =>
    have e1:=same e1
    simp only []
    cases e0:a.l0 != m.l0 with
    | true =>
     have:=u64_ne.1 e0
     refine decide_eq_decide.2 ?_
     rw [UInt64.lt_iff_toNat_lt]
     unfold Fr.nat W64
     omega
    | false =>
     have e0:=same e0
     refine (decide_eq_false ?_).symm
     unfold Fr.nat W64
     omega
theorem mayRF_nat (a:Fr):mayRF a=decide (a.nat<qN):=by
 rw [show mayRF a=below4F a rLimbs from rfl,below4F_nat,rLimbs_nat]
theorem borrow4_iff (a b:Fr):(sub4T a b).2=decide (a.nat<b.nat):=by
 have h:=sub4T_nat a b
 have h1:=(sub4T a b).1.nat_lt
 have hb:=b.nat_lt
 cases e:(sub4T a b).2 with
 | true =>
  rw [e,Bool.toNat_true,Nat.mul_one] at h
  exact (decide_eq_true (by omega)).symm
 | false =>
  rw [e,Bool.toNat_false,Nat.mul_zero] at h
  exact (decide_eq_false (by omega)).symm
theorem qN_pos:0<qN:=by decide +kernel
theorem reduce4 (t:Fr) (c:Nat) (hc:c<=1) (h:t.nat+r4N*c<2*qN):((c=1 \/ ¬ t.nat<qN)->(sub4T t rLimbs).1.nat=(t.nat+r4N*c) % qN)/\((c=0/\t.nat<qN)->t.nat=(t.nat+r4N*c) % qN):=by
 have h1:=sub4T_nat t rLimbs
 have h2:=borrow4_iff t rLimbs
 rw [rLimbs_nat] at h1 h2
 have h3:=t.nat_lt
 have h4:=(sub4T t rLimbs).1.nat_lt
 have hq:qN<r4N:=by decide +kernel
 have hq2:r4N<3*qN:=by decide +kernel
 constructor
 ·intro hh
  rcases Nat.lt_or_ge t.nat qN with hl | hl
  ·have hc1:c=1:=hh.resolve_right (fun e=>e hl)
   subst hc1
   rw [h2,decide_eq_true hl,Bool.toNat_true,Nat.mul_one] at h1
   rw [Nat.mul_one,Nat.mod_eq_sub_mod (by omega),Nat.mod_eq_of_lt (by omega)]
   omega
  ·rw [h2,decide_eq_false (by omega),Bool.toNat_false,Nat.mul_zero] at h1
   have hc0:c=0:=by
    rcases Nat.eq_zero_or_pos c with e | e
    ·exact e
    ·have:c=1:=by omega
     subst this
     omega
   subst hc0
   rw [Nat.mul_zero,Nat.add_zero] at h ⊢
   rw [Nat.mod_eq_sub_mod hl,Nat.mod_eq_of_lt (by omega)]
   omega
 ·rintro ⟨rfl,hl⟩
  rw [Nat.mul_zero,Nat.add_zero,Nat.mod_eq_of_lt hl]
def L5.nat (t:L5):Nat:=t.t0.toNat+W64*(t.t1.toNat+W64*(t.t2.toNat+W64*(t.t3.toNat+W64*(t.t4.toNat))))
theorem L5.nat_low (t:L5):t.nat=t.low.nat+r4N*t.t4.toNat:=by
 unfold L5.nat L5.low Fr.nat r4N W64
 simp only []
 omega
def rInv4:UInt64:=0xfffffffeffffffff
theorem mont4_inv:montInv rLimbs.l0=rInv4:=by decide +kernel
theorem low4_step (t:UInt64):(mulHi (t*rInv4) rLimbs.l0+b2u (addC t (t*rInv4*rLimbs.l0) false)).toNat*W64=(t*rInv4).toNat*rLimbs.l0.toNat+t.toNat:=by
 generalize hx:t*rInv4=x
 have hx':x.toNat=t.toNat*18446744069414584319 % 18446744073709551616:=by rw [<- hx,UInt64.toNat_mul];rfl
 have hp:rLimbs.l0.toNat=18446744069414584321:=rfl
 have ht:=t.toNat_lt
 have hlt:=x.toNat_lt
 rw [UInt64.toNat_add,b2u_nat,addC_nat,mulHi_nat,UInt64.toNat_mul,hp]
 rw [Bool.toNat_false,Nat.add_zero]
 unfold W64
 have key:(x.toNat*18446744069414584321 % 18446744073709551616+t.toNat) % 18446744073709551616=0:=by
  rw [hx']
  omega
 omega
theorem rmw (x y t c:UInt64):(rmH x y t c).toNat*W64+(rmL x y t c).toNat=x.toNat*y.toNat+t.toNat+c.toNat:=by rw [rmH_eq,rmL_eq];exact mac_w x y t c
theorem mont4B_nat (t0 t1 t2 t3 top:UInt64) (more:Bool) :
  (mont4B rLimbs rInv4 t0 t1 t2 t3 top more).nat*W64=(t0.toNat+W64*(t1.toNat+W64*(t2.toNat+W64*(t3.toNat+W64*(top.toNat+W64*(more.toNat))))))+(t0*rInv4).toNat*qN:=by
 have q0:=low4_step t0
 unfold mont4B
 simp only [L5.nat]
 generalize mulHi (t0*rInv4) rLimbs.l0+b2u (addC t0 (t0*rInv4*rLimbs.l0) false)=d0 at *
 generalize t0*rInv4=x at *
 have q1:=rmw x rLimbs.l1 t1 d0
 generalize rmH x rLimbs.l1 t1 d0=d1 at *
 have q2:=rmw x rLimbs.l2 t2 d1
 generalize rmH x rLimbs.l2 t2 d1=d2 at *
 have q3:=rmw x rLimbs.l3 t3 d2
 generalize rmH x rLimbs.l3 t3 d2=d3 at *
 have q6:=add_step top d3 false
 have q7:(b2u more+b2u (addC top d3 false)).toNat=more.toNat+(addC top d3 false).toNat:=by
  rw [UInt64.toNat_add,b2u_nat,b2u_nat]
  cases more <;> cases addC top d3 false <;> rfl
 rw [q7]
 have ep:qN=rLimbs.l0.toNat+W64*(rLimbs.l1.toNat+W64*(rLimbs.l2.toNat+W64*(rLimbs.l3.toNat))):=by decide +kernel
 have exp:x.toNat*qN=x.toNat*rLimbs.l0.toNat+W64*(x.toNat*rLimbs.l1.toNat+W64*(x.toNat*rLimbs.l2.toNat+W64*(x.toNat*rLimbs.l3.toNat))):=by
  rw [ep]
  simp only [Nat.mul_add,Nat.mul_left_comm x.toNat W64]
 rw [exp]
 have s4:(addS top d3 false).toNat+W64*(more.toNat+(addC top d3 false).toNat)=(top.toNat+W64*more.toNat)+d3.toNat:=by
  simp only [Bool.toNat_false] at q6
  unfold W64 at *
  omega
 have s3:=limb_step q3 s4
 have s2:=limb_step q2 s3
 have s1:=limb_step q1 s2
 rw [s1]
 generalize x.toNat*rLimbs.l0.toNat=y0 at *
 generalize x.toNat*rLimbs.l1.toNat=y1 at *
 generalize x.toNat*rLimbs.l2.toNat=y2 at *
 generalize x.toNat*rLimbs.l3.toNat=y3 at *
 exact zipE (zipS (zipS (zip0 _ _ _))) q0
theorem mont4R_nat (b:Fr) (ai:UInt64) (t:L5) : ∃ m:Nat,m<W64/\(mont4R rLimbs rInv4 ai b t).nat*W64=t.nat+ai.toNat*b.nat+m*qN:=by
 unfold mont4R
 simp only []
 have q0:=rmw ai b.l0 t.t0 0
 generalize rmH ai b.l0 t.t0 0=c0 at *
 have q1:=rmw ai b.l1 t.t1 c0
 generalize rmH ai b.l1 t.t1 c0=c1 at *
 have q2:=rmw ai b.l2 t.t2 c1
 generalize rmH ai b.l2 t.t2 c1=c2 at *
 have q3:=rmw ai b.l3 t.t3 c2
 generalize rmH ai b.l3 t.t3 c2=c3 at *
 have q6:=add_step t.t4 c3 false
 refine ⟨(rmL ai b.l0 t.t0 0*rInv4).toNat,UInt64.toNat_lt _,?_⟩
 rw [mont4B_nat]
 refine congrArg (fun z=>z+(rmL ai b.l0 t.t0 0*rInv4).toNat*qN) ?_
 have e:ai.toNat*b.nat=ai.toNat*b.l0.toNat+W64*(ai.toNat*b.l1.toNat+W64*(ai.toNat*b.l2.toNat+W64*(ai.toNat*b.l3.toNat))):=by
  unfold Fr.nat
  simp only [Nat.mul_add,Nat.mul_left_comm ai.toNat W64]
 rw [e]
 have s4:(addS t.t4 c3 false).toNat+W64*(addC t.t4 c3 false).toNat=t.t4.toNat+c3.toNat:=by simpa using q6
 have s3:=limb_step q3 s4
 have s2:=limb_step q2 s3
 have s1:=limb_step q1 s2
 have s0:=limb_step q0 s1
 rw [s0]
 have z:(0:UInt64).toNat=0:=rfl
 rw [z,L5.nat]
 generalize ai.toNat*b.l0.toNat=x0 at *
 generalize ai.toNat*b.l1.toNat=x1 at *
 generalize ai.toNat*b.l2.toNat=x2 at *
 generalize ai.toNat*b.l3.toNat=x3 at *
 rw [Nat.add_zero]
 exact zipS (zipS (zipS (zip0 _ _ _)))
theorem mont4R_bound {b:Fr} {ai:UInt64} {t:L5} (h:t.nat<b.nat+qN):(mont4R rLimbs rInv4 ai b t).nat<b.nat+qN:=by
 obtain ⟨m,hm,e⟩:=mont4R_nat b ai t
 have hb:=ai.toNat_lt
 have h1:ai.toNat*b.nat<=(W64-1)*b.nat:=Nat.mul_le_mul_right _ (by unfold W64;omega)
 have h2:m*qN<=(W64-1)*qN:=Nat.mul_le_mul_right _ (by omega)
 have h3:(mont4R rLimbs rInv4 ai b t).nat*W64<(b.nat+qN)*W64:=by
  rw [e]
  unfold W64 at *
  omega
 exact Nat.lt_of_mul_lt_mul_right h3
set_option maxRecDepth 100000 in
theorem mont4T_nat (a b:Fr) : ∃ k:Nat,(mont4_4 a b rLimbs).nat*r4N=a.nat*b.nat+k*qN/\(mont4_4 a b rLimbs).nat<b.nat+qN:=by
 have hp0:0<qN:=qN_pos
 obtain ⟨m0,_,e0⟩:=mont4R_nat b a.l0 ⟨0,0,0,0,0⟩
 obtain ⟨m1,_,e1⟩:=mont4R_nat b a.l1 (mont4_1 a b rLimbs)
 obtain ⟨m2,_,e2⟩:=mont4R_nat b a.l2 (mont4_2 a b rLimbs)
 obtain ⟨m3,_,e3⟩:=mont4R_nat b a.l3 (mont4_3 a b rLimbs)
 have z:(L5.mk 0 0 0 0 0).nat=0:=by decide +kernel
 have b0:(mont4_1 a b rLimbs).nat<b.nat+qN:=by unfold mont4_1;rw [mont4_inv];exact mont4R_bound (by rw [z];omega)
 have b1:(mont4_2 a b rLimbs).nat<b.nat+qN:=by unfold mont4_2;rw [mont4_inv];exact mont4R_bound b0
 have b2:(mont4_3 a b rLimbs).nat<b.nat+qN:=by unfold mont4_3;rw [mont4_inv];exact mont4R_bound b1
 have b3:(mont4_4 a b rLimbs).nat<b.nat+qN:=by unfold mont4_4;rw [mont4_inv];exact mont4R_bound b2
 refine ⟨m0+W64*(m1+W64*(m2+W64*(m3))),?_,b3⟩
 rw [z] at e0
 rw [show mont4R rLimbs rInv4 a.l0 b ⟨0,0,0,0,0⟩=mont4_1 a b rLimbs by unfold mont4_1;rw [mont4_inv]] at e0
 rw [show mont4R rLimbs rInv4 a.l1 b (mont4_1 a b rLimbs)=mont4_2 a b rLimbs by unfold mont4_2;rw [mont4_inv]] at e1
 rw [show mont4R rLimbs rInv4 a.l2 b (mont4_2 a b rLimbs)=mont4_3 a b rLimbs by unfold mont4_3;rw [mont4_inv]] at e2
 rw [show mont4R rLimbs rInv4 a.l3 b (mont4_3 a b rLimbs)=mont4_4 a b rLimbs by unfold mont4_4;rw [mont4_inv]] at e3
 have er:r4N=W64*(W64*(W64*W64)):=by decide +kernel
 have eb:a.nat*b.nat=a.l0.toNat*b.nat+W64*(a.l1.toNat*b.nat+W64*(a.l2.toNat*b.nat+W64*(a.l3.toNat*b.nat))):=by
  rw [show a.nat=a.l0.toNat+W64*(a.l1.toNat+W64*(a.l2.toNat+W64*(a.l3.toNat))) from rfl]
  simp only [Nat.add_mul,Nat.mul_assoc]
 have ek:(m0+W64*(m1+W64*(m2+W64*(m3))))*qN=m0*qN+W64*(m1*qN+W64*(m2*qN+W64*(m3*qN))):=by
  simp only [Nat.add_mul,Nat.mul_assoc]
 rw [er,eb,ek]
 have st : ∀ {t' t z R:Nat},t'*W64=t+z -> ∀ s:Nat,t'*(W64*s)=(t+z)*s:=fun h s=>by rw [<- Nat.mul_assoc,h]
 rw [st (R:=0) (t:=(mont4_3 a b rLimbs).nat) (z:=a.l3.toNat*b.nat+m3*qN) (by rw [e3,Nat.add_assoc])]
 rw [Nat.add_mul,st (R:=0) (t:=(mont4_2 a b rLimbs).nat) (z:=a.l2.toNat*b.nat+m2*qN) (by rw [e2,Nat.add_assoc])]
 rw [Nat.add_mul _ _ (W64*W64),st (R:=0) (t:=(mont4_1 a b rLimbs).nat) (z:=a.l1.toNat*b.nat+m1*qN) (by rw [e1,Nat.add_assoc])]
 rw [Nat.add_mul _ _ W64,e0]
 generalize a.l0.toNat*b.nat=x0
 generalize a.l1.toNat*b.nat=x1
 generalize a.l2.toNat*b.nat=x2
 generalize a.l3.toNat*b.nat=x3
 generalize m0*qN=y0
 generalize m1*qN=y1
 generalize m2*qN=y2
 generalize m3*qN=y3
 clear e0 e1 e2 e3 eb ek st
 unfold W64
 omega
theorem mont4X_nat (t:L5) (h6:t.t4.toNat<=1) (h:t.low.nat+r4N*t.t4.toNat<2*qN):(mont4X rLimbs t).nat=(t.low.nat+r4N*t.t4.toNat) % qN:=by
 obtain ⟨r1,r2⟩:=reduce4 t.low t.t4.toNat h6 h
 unfold mont4X
 cases e:t.t4 != 0 with
 | true =>
  have:=u64_ne.1 e
  rw [show (0:UInt64).toNat=0 from rfl] at this
  exact r1 (.inl (by omega))
 | false =>
  rw [bne_eq_false_iff_eq] at e
  have e0:t.t4.toNat=0:=by rw [e];rfl
  rw [below4F_nat,rLimbs_nat]
  by_cases hl:t.low.nat<qN
  ·rw [decide_eq_true hl]
   exact r2 ⟨e0,hl⟩
  ·rw [decide_eq_false hl]
   exact r1 (.inr hl)
theorem qN_r4:qN<r4N:=by decide +kernel
theorem mont4F_nat {a b:Fr} (hb:b.nat<qN):(mont4F a b rLimbs).nat<qN/\((mont4F a b rLimbs).nat*r4N) % qN=(a.nat*b.nat) % qN:=by
 obtain ⟨k,h1,h2⟩:=mont4T_nat a b
 unfold mont4F
 generalize mont4_4 a b rLimbs=t at *
 rw [L5.nat_low] at h1 h2
 have hlt:=t.low.nat_lt
 have hq3:=qN_r4
 have h6:t.t4.toNat<=1:=by
  rcases Nat.lt_or_ge t.t4.toNat 2 with h | h
  ·omega
  ·have:r4N*2<=r4N*t.t4.toNat:=Nat.mul_le_mul_left _ h
   omega
 rw [mont4X_nat t h6 (by omega)]
 refine ⟨Nat.mod_lt _ qN_pos,?_⟩
 rw [Nat.mod_mul_mod,h1,Nat.add_mul_mod_self_right]
def r4Inv:Nat:=0x1bbe869330009d577204078a4f77266aab6fca8f09dc705f13f75b69fe75c040
theorem r4_inv:r4N*r4Inv % qN=1:=by decide +kernel
theorem r4_cancel {x y:Nat} (h:x*r4N % qN=y*r4N % qN):x % qN=y % qN:=by
 have e : ∀ z,z % qN=z*r4N % qN*r4Inv % qN:=fun z=>by
  rw [Nat.mod_mul_mod,Nat.mul_assoc,<- Nat.mul_mod_mod,r4_inv,Nat.mul_one]
 rw [e x,e y,h]
theorem sq4_nat:sq4Limbs.nat=r4N*r4N % qN:=by decide +kernel
theorem mulRF_nat {a b:Fr} (hb:b.nat<qN):(mulRF a b).nat=a.nat*b.nat % qN:=by
 have hs:sq4Limbs.nat<qN:=by rw [sq4_nat];exact Nat.mod_lt _ qN_pos
 obtain ⟨h1,h2⟩:=mont4F_nat (a:=a) hb
 obtain ⟨h3,h4⟩:=mont4F_nat (a:=mont4F a b rLimbs) hs
 have e:(mulRF a b).nat % qN=a.nat*b.nat % qN:=by
  refine r4_cancel ?_
  show (mont4F (mont4F a b rLimbs) sq4Limbs rLimbs).nat*r4N % qN=_
  rw [h4,sq4_nat,Nat.mul_mod_mod,<- Nat.mul_assoc,<- Nat.mod_mul_mod,h2,Nat.mod_mul_mod]
 rw [<- e]
 exact (Nat.mod_eq_of_lt h3).symm
theorem mulRF_lt {a b:Fr} (hb:b.nat<qN):(mulRF a b).nat<qN:=by rw [mulRF_nat hb];exact Nat.mod_lt _ qN_pos
end Go.Proofs.YtcbplfkeeaecgaaGreat
namespace Go.Proofs.YtcbplfkeeaecgaaGreat
theorem prime_of_big {n F:Nat} (hn1:1<n) (key : ∀ d,IsPrime d->d ∣ n->F ∣ d-1) (hF:n<(F+1)*(F+1)):IsPrime n:=by
 have key : ∀ d,IsPrime d->d ∣ n->F+1<=d:=fun d hd hdn=>by
  have:=Nat.le_of_dvd (by have:=hd.1;omega) (key d hd hdn)
  have:=hd.1
  omega
 refine ⟨hn1,fun x hx => ?_⟩
 by_cases hx1:x=1
 ·exact .inl hx1
 ·right
  obtain ⟨y,hy⟩:=hx
  have hx0:x ≠ 0:=by rintro rfl;omega
  by_cases hy1:y=1
  ·subst hy1;omega
  ·have hy0:y ≠ 0:=by rintro rfl;omega
   obtain ⟨d,hd,hdx⟩:=exists_prime_dvd x (by omega)
   obtain ⟨e,he,hey⟩:=exists_prime_dvd y (by omega)
   have h1:=key d hd (Nat.dvd_trans hdx ⟨y,hy⟩)
   have h2:=key e he (Nat.dvd_trans hey ⟨x,by rw [hy,Nat.mul_comm]⟩)
   have h3:=Nat.le_of_dvd (by omega) hdx
   have h4:=Nat.le_of_dvd (by omega) hey
   have:=Nat.mul_le_mul (Nat.le_trans h1 h3) (Nat.le_trans h2 h4)
   omega
theorem pock_dvd {n q r a k:Nat} (hn:n=q*r+1) (hq:IsPrime q) (hr:0<r) (hk:q*r<2 ^ k) (h1:mpow k a (q*r) n=1) (h2:Nat.gcd (mpow k a r n+(n-1)) n=1) {d:Nat} (hd:IsPrime d) (hdn:d ∣ n):q ∣ d-1:=by
 have hrq:r<2 ^ k:=Nat.lt_of_le_of_lt (Nat.le_mul_of_pos_left r (by have:=hq.1;omega)) hk
 rw [mpow_eq n k a _ hk] at h1
 rw [mpow_eq n k a _ hrq] at h2
 exact pock_key hn hq hr h1 h2 hd hdn
theorem dvd_two {a b m:Nat} (h:Nat.gcd a b=1) (ha:a ∣ m) (hb:b ∣ m):a*b ∣ m:=Nat.Coprime.mul_dvd_of_dvd_of_dvd h ha hb
theorem prime_10177:IsPrime 10177:=prime_of_noDiv (k:=100) (by decide) (by decide +kernel) (by decide)
theorem prime_125527:IsPrime 125527:=prime_of_noDiv (k:=354) (by decide) (by decide +kernel) (by decide)
theorem prime_47737:IsPrime 47737:=prime_of_noDiv (k:=217) (by decide) (by decide +kernel) (by decide)
theorem prime_859267:IsPrime 859267:=pock 0 (q:=47737) (r:=18) (a:=2) (k:=30) (by decide) prime_47737 (by decide) (fun k h=>absurd h (by omega)) (by decide) (by decide) (by decide +kernel) (by decide +kernel)
theorem prime_1607:IsPrime 1607:=prime_of_noDiv (k:=40) (by decide) (by decide +kernel) (by decide)
theorem prime_906349:IsPrime 906349:=pock 0 (q:=1607) (r:=564) (a:=2) (k:=30) (by decide) prime_1607 (by decide) (fun k h=>absurd h (by omega)) (by decide) (by decide) (by decide +kernel) (by decide +kernel)
theorem prime_2508409:IsPrime 2508409:=prime_of_noDiv (k:=1583) (by decide) (by decide +kernel) (by decide)
theorem prime_18329:IsPrime 18329:=prime_of_noDiv (k:=135) (by decide) (by decide +kernel) (by decide)
theorem prime_2529403:IsPrime 2529403:=pock 0 (q:=18329) (r:=138) (a:=2) (k:=30) (by decide) prime_18329 (by decide) (fun k h=>absurd h (by omega)) (by decide) (by decide) (by decide +kernel) (by decide +kernel)
theorem prime_609743:IsPrime 609743:=prime_of_noDiv (k:=781) (by decide) (by decide +kernel) (by decide)
theorem prime_52437899:IsPrime 52437899:=pock 0 (q:=609743) (r:=86) (a:=2) (k:=30) (by decide) prime_609743 (by decide) (fun k h=>absurd h (by omega)) (by decide) (by decide) (by decide +kernel) (by decide +kernel)
theorem dvd_qN {d:Nat} (hd:IsPrime d) (hdn:d ∣ qN):331010811950628058101279066386724501604961 ∣ d-1:=(dvd_two (a:=6312434675360049381484164084963139) (b:=52437899) (by decide +kernel) (dvd_two (a:=2495622356484929203248420313) (b:=2529403) (by decide +kernel) (dvd_two (a:=994902488583372649057) (b:=2508409) (by decide +kernel) (dvd_two (a:=1097703521031493) (b:=906349) (by decide +kernel) (dvd_two (a:=1277488279) (b:=859267) (by decide +kernel) (dvd_two (a:=10177) (b:=125527) (by decide +kernel) (pock_dvd (n:=qN) (q:=10177) (r:=5152390210781781515127025695999407078479959958782316775336902692339449856) (a:=2) (k:=255) (by decide +kernel) prime_10177 (by decide +kernel) (by decide +kernel) (by decide +kernel) (by decide +kernel) hd hdn) (pock_dvd (n:=qN) (q:=125527) (r:=417725869136729074059347714102830194601086240414633009811464136798765056) (a:=2) (k:=255) (by decide +kernel) prime_125527 (by decide +kernel) (by decide +kernel) (by decide +kernel) (by decide +kernel) hd hdn)) (pock_dvd (n:=qN) (q:=859267) (r:=61023960160376449321861238134579782346686830170980193377150127608692736) (a:=2) (k:=255) (by decide +kernel) prime_859267 (by decide +kernel) (by decide +kernel) (by decide +kernel) (by decide +kernel) hd hdn)) (pock_dvd (n:=qN) (q:=906349) (r:=57853956009358636109763171259841369977448590444219211167666824479244288) (a:=2) (k:=255) (by decide +kernel) prime_906349 (by decide +kernel) (by decide +kernel) (by decide +kernel) (by decide +kernel) hd hdn)) (pock_dvd (n:=qN) (q:=2508409) (r:=20904037250355181503274681484632675866531555460264908084209416686010368) (a:=2) (k:=255) (by decide +kernel) prime_2508409 (by decide +kernel) (by decide +kernel) (by decide +kernel) (by decide +kernel) hd hdn)) (pock_dvd (n:=qN) (q:=2529403) (r:=20730534112249487519168649878325425342537568153642435714120548880482304) (a:=2) (k:=255) (by decide +kernel) prime_2529403 (by decide +kernel) (by decide +kernel) (by decide +kernel) (by decide +kernel) hd hdn)) (pock_dvd (n:=qN) (q:=52437899) (r:=999961405302035279473110478895921551656570994587857873989262207090688) (a:=2) (k:=255) (by decide +kernel) prime_52437899 (by decide +kernel) (by decide +kernel) (by decide +kernel) (by decide +kernel) hd hdn))
theorem prime_qN:IsPrime qN:=prime_of_big (F:=331010811950628058101279066386724501604961) (by decide +kernel) (fun d hd hdn=>dvd_qN hd hdn) (by decide +kernel)
end Go.Proofs.YtcbplfkeeaecgaaGreat
namespace Go.Proofs.YtcbplfkeeaecgaaGreat
theorem pow_frob {K:Type} [Fld K] {p:Nat} (h:IsPrime p) (h0:(CR.nat p:K)=0) (a b:K) : ∀ n,(a+b) ^ (p ^ n)=a ^ (p ^ n)+b ^ (p ^ n)
 | 0=>by rw [Nat.pow_zero,pow_one',pow_one',pow_one']
 | n+1=>by rw [Nat.pow_succ,pow_mul',pow_mul',pow_mul',pow_frob h h0 a b n,dream h h0]
def e6 (x:V6):V12:=⟨x,0⟩
def e2 (c:V2):V12:=e6 ⟨c,0,0⟩
def ww:V12:=⟨0,1⟩
theorem e6_add (x y:V6):e6 (x+y)=e6 x+e6 y:=Qd.ext' rfl (show (0:V6)=0+0 by grind)
theorem e6_sub (x y:V6):e6 (x-y)=e6 x-e6 y:=Qd.ext' rfl (show (0:V6)=0-0 by grind)
theorem e6_neg (x:V6):e6 (-x) = -e6 x:=Qd.ext' rfl (show (0:V6) = -0 by grind)
theorem e6_mul (x y:V6):e6 (x*y)=e6 x*e6 y:=Qd.of_mul x y
theorem e6_one:e6 1=1:=rfl
theorem e6_zero:e6 0=0:=rfl
theorem e6_inj {x y:V6} (h:e6 x=e6 y):x=y:=congrArg Qd.a h
theorem e2_add (x y:V2):e2 (x+y)=e2 x+e2 y:=by
 show e6 ⟨x+y,0,0⟩=e6 ⟨x,0,0⟩+e6 ⟨y,0,0⟩
 rw [<- e6_add]
 exact congrArg e6 (Cb.ext' rfl (show (0:V2)=0+0 by grind) (show (0:V2)=0+0 by grind))
theorem e2_sub (x y:V2):e2 (x-y)=e2 x-e2 y:=by
 show e6 ⟨x-y,0,0⟩=e6 ⟨x,0,0⟩-e6 ⟨y,0,0⟩
 rw [<- e6_sub]
 exact congrArg e6 (Cb.ext' rfl (show (0:V2)=0-0 by grind) (show (0:V2)=0-0 by grind))
theorem e2_neg (x:V2):e2 (-x) = -e2 x:=by
 show e6 ⟨-x,0,0⟩ = -e6 ⟨x,0,0⟩
 rw [<- e6_neg]
 exact congrArg e6 (Cb.ext' rfl (show (0:V2) = -0 by grind) (show (0:V2) = -0 by grind))
theorem e2_mul (x y:V2):e2 (x*y)=e2 x*e2 y:=by
 show e6 ⟨x*y,0,0⟩=e6 ⟨x,0,0⟩*e6 ⟨y,0,0⟩
 rw [<- e6_mul]
 exact congrArg e6 (Cb.ext' (by rw [Cb.mul_a];show x*y=x*y+CP.cr*(0*0+0*0);grind) (by rw [Cb.mul_b];show 0=x*0+0*y+CP.cr*(0*0);grind) (by rw [Cb.mul_c];show 0=x*0+0*0+0*y;grind))
theorem e2_one:e2 1=1:=rfl
theorem e2_zero:e2 0=0:=rfl
theorem e2_pow (x:V2) : ∀ n:Nat,e2 x ^ n=e2 (x ^ n)
 | 0=>rfl
 | n+1=>by rw [pow_succ',e2_pow x n,pow_succ',e2_mul]
theorem ww_sq:ww*ww=e6 vv:=Qd.ext' (by rw [Qd.mul_a];show (0:V6)*0+vv*(1*1)=vv;generalize vv=v;grind) (by rw [Qd.mul_b];show (0:V6)*1+1*0=0;grind)
theorem vv_cube:vv*vv*vv=⟨xi,0,0⟩:=by
 have h:vv*vv=⟨0,0,1⟩:=Cb.ext' (by rw [Cb.mul_a];show (0:V2)*0+CP.cr*(1*0+0*1)=0;grind) (by rw [Cb.mul_b];show (0:V2)*1+1*0+CP.cr*(0*0)=0;grind) (by rw [Cb.mul_c];show (0:V2)*0+1*1+0*0=1;grind)
 rw [h]
 exact Cb.ext' (by rw [Cb.mul_a];show (0:V2)*0+xi*(0*0+1*1)=xi;generalize xi=x;grind) (by rw [Cb.mul_b];show (0:V2)*1+0*0+CP.cr*(1*0)=0;grind) (by rw [Cb.mul_c];show (0:V2)*0+0*1+1*0=0;grind)
theorem ww_six:ww ^ 6=e2 xi:=by
 have h:ww ^ 6=(ww*ww)*(ww*ww)*(ww*ww):=by generalize ww=w;grind
 rw [h,ww_sq,<- e6_mul,<- e6_mul,vv_cube]
 rfl
theorem e6_split (x:V6):e6 x=e2 x.a+e2 x.b*(ww*ww)+e2 x.c*(ww*ww*(ww*ww)):=by
 have hs:vv*vv=⟨0,0,1⟩:=Cb.ext' (by rw [Cb.mul_a];show (0:V2)*0+CP.cr*(1*0+0*1)=0;grind) (by rw [Cb.mul_b];show (0:V2)*1+1*0+CP.cr*(0*0)=0;grind) (by rw [Cb.mul_c];show (0:V2)*0+1*1+0*0=1;grind)
 rw [ww_sq,<- e6_mul,hs]
 unfold e2
 rw [<- e6_mul,<- e6_mul,<- e6_add,<- e6_add]
 refine congrArg e6 (Cb.ext' ?_ ?_ ?_)
 ·show x.a=x.a+(x.b*0+CP.cr*(0*0+0*1))+(x.c*0+CP.cr*(0*1+0*0));grind
 ·show x.b=0+(x.b*1+0*0+CP.cr*(0*0))+(x.c*0+0*0+CP.cr*(0*1));grind
 ·show x.c=0+(x.b*0+0*1+0*0)+(x.c*1+0*0+0*0);grind
theorem split12 (z:V12):z=e6 z.a+e6 z.b*ww:=Qd.ext' (by rw [Qd.add_a,Qd.mul_a];show z.a=z.a+(z.b*0+QP.nr*(0*1));grind) (by rw [Qd.add_b,Qd.mul_b];show z.b=0+(z.b*1+0*0);grind)
theorem ww_pow (k:Nat):ww ^ (6*k+1)=e2 (xi ^ k)*ww:=by rw [pow_succ',pow_mul',ww_six,e2_pow]
def gg:V2:=xi ^ ((pN-1) / 6)
theorem pN_sixth:pN=6*((pN-1) / 6)+1:=by decide +kernel
theorem ww_p:ww ^ pN=e2 gg*ww:=by
 conv=>lhs;rw [pN_sixth]
 exact ww_pow _
theorem e2_p (c:V2):e2 c ^ pN=e2 c.conj:=by rw [e2_pow,V2.frob]
theorem conj_conj (c:V2):c.conj.conj=c:=Qd.ext' rfl (CR.neg_neg _)
theorem V2.pow_pp (c:V2):c ^ (pN*pN)=c:=by rw [pow_mul',V2.frob,V2.frob,conj_conj]
theorem V2.pow_ev (c:V2) : ∀ n:Nat,c ^ (pN ^ (2*n))=c
 | 0=>by rw [Nat.mul_zero,Nat.pow_zero,pow_one']
 | n+1=>by rw [show 2*(n+1)=2*n+1+1 from rfl,Nat.pow_succ,Nat.pow_succ,Nat.mul_assoc,pow_mul',V2.pow_ev c n,V2.pow_pp]
theorem xi_ne:xi ≠ 0:=fun h=>by
 have h1:xi.norm=0:=by rw [h];show (0:V1)*0-QP.nr*(0*0)=0;grind
 rw [xi_norm] at h1
 exact Go.Proofs.YtcbplfkeeaecgaaGreat.two_ne h1
theorem xi_p1:xi ^ (pN+1)=Qd.of 2:=by rw [pow_succ',V2.frob,CR.mul_comm,Qd.mul_conj,xi_norm]
theorem two_chi:(2:V1) ^ ((pN-1) / 2) = -1:=(chi_cases Go.Proofs.YtcbplfkeeaecgaaGreat.two_ne).resolve_left two_half
theorem xi_half:xi ^ ((pN+1)*((pN-1) / 2)) = -1:=by
 rw [pow_mul',xi_p1,Qd.of_pow,two_chi]
 exact Qd.ext' rfl (show (0:V1) = -0 by grind)
theorem neg_one_odd {R:Type} [CR R] (k:Nat):(-1:R) ^ (2*k+1) = -1:=neg_one_pow k
theorem six_exp:pN ^ 6=6*(((pN+1)*((pN-1) / 2))*(2*(((pN ^ 4+pN ^ 2+1) / 3-1) / 2)+1))+1:=by decide +kernel
theorem ww_p6:ww ^ (pN ^ 6) = -ww:=by
 rw [six_exp,ww_pow,pow_mul',xi_half,neg_one_odd,e2_neg,e2_one]
 generalize ww=w
 grind
theorem e2_p6 (c:V2):e2 c ^ (pN ^ 6)=e2 c:=by
 rw [e2_pow]
 exact congrArg e2 (V2.pow_ev c 3)
theorem e6_p6 (x:V6):e6 x ^ (pN ^ 6)=e6 x:=by
 rw [e6_split,pow_frob prime_p V12.char,pow_frob prime_p V12.char,mul_pow',mul_pow',mul_pow',mul_pow',mul_pow',e2_p6,e2_p6,e2_p6,ww_p6]
 generalize ww=w
 grind
theorem V12.p6 (z:V12):z ^ (pN ^ 6)=z.conj:=by
 conv=>lhs;rw [split12 z]
 rw [pow_frob prime_p V12.char,mul_pow',e6_p6,e6_p6,ww_p6]
 refine Eq.trans ?_ (Qd.ext' (y:=z.conj) (x:=e6 z.a+e6 (-z.b)*ww) ?_ ?_)
 ·rw [e6_neg];generalize ww=w;grind
 ·rw [Qd.add_a,Qd.mul_a];show z.a+(-z.b*0+QP.nr*(0*1))=z.a;grind
 ·rw [Qd.add_b,Qd.mul_b];show 0+(-z.b*1+0*0) = -z.b;grind
theorem V12.conj_conj (z:V12):z.conj.conj=z:=Qd.ext' rfl (CR.neg_neg _)
theorem V12.p12 (z:V12):z ^ (pN ^ 6*pN ^ 6)=z:=by rw [pow_mul',V12.p6,V12.p6,V12.conj_conj]
def kN:Nat:=(pN ^ 6+1) / qN
def eN:Nat:=(pN ^ 6-1)*kN
theorem eN_q:eN*qN=pN ^ 6*pN ^ 6-1:=by decide +kernel
theorem eN_two:eN=2*((pN*pN-1)*(eN / (2*(pN*pN-1)))):=by decide +kernel
theorem p12_succ:pN ^ 6*pN ^ 6=(pN ^ 6*pN ^ 6-1)+1:=by decide +kernel
theorem p6_succ:pN ^ 6=(pN ^ 6-1)+1:=by decide +kernel
theorem pp_succ:pN*pN=(pN*pN-1)+1:=by decide +kernel
theorem fermat_of {K:Type} [Fld K] {a:K} (h:a ≠ 0) {m n:Nat} (hm:m=n+1) (hp:a ^ m=a):a ^ n=1:=by
 rw [hm,pow_succ'] at hp
 exact mul_cancel' h (hp.trans (by rw [CR.mul_comm];exact (mOne a).symm))
def ch12 (z:V12):V12:=z ^ eN
theorem cx_mul (a b:V12):ch12 (a*b)=ch12 a*ch12 b:=mul_pow' a b _
theorem cx_one:ch12 1=1:=one_pow' _
theorem cx_q {a:V12} (h:a ≠ 0):ch12 a ^ qN=1:=by
 unfold ch12
 rw [<- pow_mul',eN_q]
 exact fermat_of h p12_succ (V12.p12 a)
theorem e6_ne {x:V6} (h:x ≠ 0):e6 x ≠ 0:=fun e=>h (e6_inj (e.trans e6_zero.symm))
theorem cx_e6 {x:V6} (h:x ≠ 0):ch12 (e6 x)=1:=by
 unfold ch12 eN
 rw [pow_mul',fermat_of (e6_ne h) p6_succ (e6_p6 x),one_pow']
theorem cx_e2 {c:V2} (h:c ≠ 0):ch12 (e2 c)=1:=cx_e6 fun e=>h (congrArg Cb.a e)
theorem cx_neg (a:V12):ch12 (-a)=ch12 a:=by
 have e : -a=e6 (-1)*a:=by rw [e6_neg,e6_one];grind
 rw [e,cx_mul,cx_e6 (x := -1) (fun h=>one_ne' (K:=V6) (by grind))]
 grind
theorem cx_conj {z:V12} (h:z ≠ 0):ch12 z*ch12 z.conj=1:=by
 rw [<- cx_mul,Qd.mul_conj]
 exact cx_e6 (Qd.norm_ne h)
theorem cx_www:ch12 (ww*ww*ww)=1:=by
 unfold ch12
 rw [eN_two,pow_mul']
 have h:(ww*ww*ww) ^ 2=e2 xi:=by rw [<- ww_six];generalize ww=w;grind
 rw [h,e2_pow,pow_mul',fermat_of xi_ne pp_succ (V2.pow_pp xi),one_pow',e2_one]
theorem cx_p (a:V12):ch12 a ^ pN=ch12 (a ^ pN):=by
 unfold ch12
 rw [<- pow_mul',<- pow_mul',Nat.mul_comm]
end Go.Proofs.YtcbplfkeeaecgaaGreat
namespace Go.Proofs.YtcbplfkeeaecgaaGreat
open Go.RowKit
section
def bFp1:Fp:=⟨4,0,0,0,0,0⟩
theorem bFp1_v:bFp1.ok/\bFp1.v=Crv.b:=⟨ofF_ok 4,by
 show (ofF 4).v=4
 rw [v_of]
 exact V1.ext (by decide +kernel)⟩
theorem onG1_inf {f0:Fp->Bool} {f1:Fp->Fp->Fp} {f2:Fp->Fp} {p:Pg1} (h:p.inf=true):onG1_G f0 f1 f2 p=pg1Eq p infG1:=by unfold onG1_G;rw [h]
theorem onG1_aff {f0:Fp->Bool} {f1:Fp->Fp->Fp} {f2:Fp->Fp} {p:Pg1} (h:p.inf=false):onG1_G f0 f1 f2 p=(f0 p.x && f0 p.y && fpEq (f1 p.y p.y) (f2 p.x)):=by
 unfold onG1_G
 rw [h]
 cases f0 p.x <;> cases f0 p.y <;> rfl
theorem liftG1_inf {f0:Fp->Fp} {p:Pg1} (h:p.inf=true):liftG1_G f0 p=zeroSp:=by unfold liftG1_G;rw [h]
theorem liftG1_aff {f0:Fp->Fp} {p:Pg1} (h:p.inf=false):liftG1_G f0 p=⟨f0 p.x,f0 p.y,f0 oneFp⟩:=by unfold liftG1_G;rw [h]
theorem laysG1_no {f0:Fp->Fp × Int} {f1:Fp->Fp} {f2:Fp->Fp->Fp} {s:Sp1} (h:(f0 (f1 s.z)).2=7):laysG1_G f0 f1 f2 s=infG1:=by
 unfold laysG1_G
 rw [h]
 rfl
theorem laysG1_yes {f0:Fp->Fp × Int} {f1:Fp->Fp} {f2:Fp->Fp->Fp} {s:Sp1} (h:(f0 (f1 s.z)).2=0):laysG1_G f0 f1 f2 s=⟨f2 (f1 s.x) (f2 (f0 (f1 s.z)).1 (f0 (f1 s.z)).1),f2 (f1 s.y) (f2 (f2 (f0 (f1 s.z)).1 (f0 (f1 s.z)).1) (f0 (f1 s.z)).1),false⟩:=by
 unfold laysG1_G
 rw [h]
 rfl
theorem negG1_inf {f0:Fp->Fp} {p:Pg1} (h:p.inf=true):negG1_G f0 p=p:=by unfold negG1_G;rw [h]
theorem negG1_aff {f0:Fp->Fp} {p:Pg1} (h:p.inf=false):negG1_G f0 p=⟨p.x,f0 p.y,false⟩:=by unfold negG1_G;rw [h]
theorem zeroG1_eq (a:Fp):zeroG1 a=fpEq a zeroFp:=by unfold zeroG1 zeroG1_G;rfl
theorem eqG1_eq (a b:Pg1):eqG1 a b=pg1Eq a b:=by unfold eqG1 eqG1_G;rfl
def Pg1.pt (p:Pg1):Pt V1:=match p.inf with
 | true => .inf
 | false => .aff p.x.v p.y.v
def Pg1.ok (p:Pg1):Prop:=p=infG1 \/ (p.inf=false/\p.x.ok/\p.y.ok)
def Pg1.good (p:Pg1):Prop:=p.ok/\p.pt.on
theorem pt1_inf {p:Pg1} (h:p.inf=true):p.pt = .inf:=by unfold Pg1.pt;rw [h]
theorem pt1_aff {p:Pg1} (h:p.inf=false):p.pt = .aff p.x.v p.y.v:=by unfold Pg1.pt;rw [h]
theorem good_inf1:infG1.good:=⟨.inl rfl,trivial⟩
theorem ok_inf1 {p:Pg1} (h:p.ok) (hi:p.inf=true):p=infG1:=by
 rcases h with h | ⟨h,_⟩
 ·exact h
 ·rw [hi] at h;cases h
theorem ok_aff1 {p:Pg1} (h:p.ok) (hi:p.inf=false):p.x.ok/\p.y.ok:=by
 rcases h with h | ⟨_,h⟩
 ·rw [h] at hi;cases hi
 ·exact h
theorem pg1_eq {a b:Pg1} (h1:a.x=b.x) (h2:a.y=b.y) (h3:a.inf=b.inf):a=b:=by
 cases a;cases b
 simp_all
theorem good1_mk {x y:Fp} {u v:V1} (hx:x.ok) (hy:y.ok) (ex:x.v=u) (ey:y.v=v) (h:(Pt.aff u v).on):(⟨x,y,false⟩:Pg1).good/\(⟨x,y,false⟩:Pg1).pt = .aff u v:=by
 subst ex ey
 exact ⟨⟨.inr ⟨rfl,hx,hy⟩,h⟩,rfl⟩
theorem pt1_inj {a b:Pg1} (ha:a.ok) (hb:b.ok) (h:a.pt=b.pt):a=b:=by
 cases ea:a.inf with
 | true =>
  cases eb:b.inf with
  | true=>rw [ok_inf1 ha ea,ok_inf1 hb eb]
  | false=>rw [pt1_inf ea,pt1_aff eb] at h;cases h
 | false =>
  cases eb:b.inf with
  | true=>rw [pt1_aff ea,pt1_inf eb] at h;cases h
  | false =>
   rw [pt1_aff ea,pt1_aff eb] at h
   obtain ⟨a1,a2⟩:=ok_aff1 ha ea
   obtain ⟨b1,b2⟩:=ok_aff1 hb eb
   injection h with h1 h2
   exact pg1_eq (Fp.v_inj a1 b1 h1) (Fp.v_inj a2 b2 h2) (ea.trans eb.symm)
def m1 (a:Fp):V1:=ri*a.v
theorem m1_add {a b:Fp} (ha:a.ok) (hb:b.ok):m1 (addF a b)=m1 a+m1 b:=by unfold m1;rw [v_add1 ha hb];exact CR.dist _ _ _
theorem m1_sub {a b:Fp} (ha:a.ok) (hb:b.ok):m1 (subF a b)=m1 a-m1 b:=by unfold m1;rw [v_sub1 ha hb];grind
theorem m1_half {a b:Fp} (ha:a.ok) (hb:b.ok):m1 (halfF a b)=m1 a*m1 b:=by unfold m1;rw [v_half1 ha hb];grind
theorem m1_whole {a:Fp} (ha:a.ok):m1 (wholeF a)=a.v:=by
 unfold m1
 rw [v_whole1 ha]
 have:=rv_ri
 grind
theorem v_low_m1 {a:Fp} (ha:a.ok):(lowF a).v=m1 a:=v_low1 ha
theorem ri_ne1:ri ≠ 0:=fun e=>one_ne' (K:=V1) (by rw [<- rv_ri,e];exact CR.mul_zero _)
theorem m1_zero {a:Fp} (ha:a.ok):zeroG1 a=true <-> m1 a=0:=by
 rw [zeroG1_eq,eq_v1 ha zero_ok1,v_zero1]
 unfold m1
 constructor
 ·intro h;rw [h];exact CR.mul_zero _
 ·intro h;exact (mul_eq_zero' h).resolve_left ri_ne1
theorem m1_nonzero {a:Fp} (ha:a.ok):zeroG1 a=false <-> m1 a ≠ 0:=by rw [<- Bool.not_eq_true,m1_zero ha]
def rel1 (s:Sp1) (p:Pt V1):Prop:=(s.x.ok/\s.y.ok/\s.z.ok)/\Jc (m1 s.x) (m1 s.y) (m1 s.z) p
theorem rel1_mk {x y z:Fp} {p:Pt V1} (hx:x.ok) (hy:y.ok) (hz:z.ok) (h:Jc (m1 x) (m1 y) (m1 z) p):rel1 ⟨x,y,z⟩ p:=⟨⟨hx,hy,hz⟩,h⟩
theorem rel1_inf:rel1 zeroSp .inf:=⟨⟨zero_ok1,zero_ok1,zero_ok1⟩,by
 show m1 zeroFp=0
 unfold m1
 rw [v_zero1]
 exact CR.mul_zero _⟩
theorem lift1_rel {p:Pg1} (h:p.good):rel1 (liftG1 p) p.pt:=by
 unfold liftG1
 cases hi:p.inf with
 | true=>rw [liftG1_inf hi,pt1_inf hi];exact rel1_inf
 | false =>
  obtain ⟨hx,hy⟩:=ok_aff1 h.1 hi
  rw [liftG1_aff hi,pt1_aff hi]
  refine rel1_mk (whole_ok1 hx) (whole_ok1 hy) (whole_ok1 one_ok1) ?_
  rw [m1_whole hx,m1_whole hy,m1_whole one_ok1,v_one1]
  exact ⟨one_ne',by grind,by grind⟩
theorem jc_inv {K:Type} [Fld K] {x z:K} (hz:z ≠ 0):x*(z*z)*(Fld.inv z*Fld.inv z)=x:=by
 have:=mul_inv' hz
 grind
theorem jc_inv3 {K:Type} [Fld K] {y z:K} (hz:z ≠ 0):y*(z*z*z)*(Fld.inv z*Fld.inv z*Fld.inv z)=y:=by
 have:=mul_inv' hz
 grind
theorem lays1_rel {s:Sp1} {p:Pt V1} (hp:p.on) (h:rel1 s p):(laysG1 s).good/\(laysG1 s).pt=p:=by
 obtain ⟨⟨hx,hy,hz⟩,hj⟩:=h
 obtain ⟨i1,i2⟩:=inv_v1 (low_ok1 hz)
 rw [v_low_m1 hz] at i1 i2
 unfold laysG1
 by_cases h0:m1 s.z=0
 ·rw [laysG1_no (i1 h0),hj.inf_of h0]
  exact ⟨good_inf1,rfl⟩
 ·obtain ⟨j1,j2,j3⟩:=i2 h0
  obtain ⟨x,y,rfl,e1,e2⟩:=hj.aff_of h0
  rw [laysG1_yes j1]
  have kk:=mul_ok1 j2 j2
  have kkk:=mul_ok1 kk j2
  have lx:=low_ok1 hx
  have ly:=low_ok1 hy
  have ex:(mulF (lowF s.x) (mulF (invF (lowF s.z)).1 (invF (lowF s.z)).1)).v=x:=by
   rw [v_mul1 lx kk,v_mul1 j2 j2,v_low_m1 hx,j3,e1]
   exact jc_inv h0
  have ey:(mulF (lowF s.y) (mulF (mulF (invF (lowF s.z)).1 (invF (lowF s.z)).1) (invF (lowF s.z)).1)).v=y:=by
   rw [v_mul1 ly kkk,v_mul1 kk j2,v_mul1 j2 j2,v_low_m1 hy,j3,e2]
   exact jc_inv3 h0
  exact good1_mk (mul_ok1 lx kk) (mul_ok1 ly kkk) ex ey hp
theorem jx_of (x y:V1):((x*x+x*x)+x*x)*((x*x+x*x)+x*x)-((x*(y*y)+x*(y*y)+(x*(y*y)+x*(y*y)))+(x*(y*y)+x*(y*y)+(x*(y*y)+x*(y*y))))=jx x y:=by unfold jx;grind
theorem jy_of (x y:V1):((x*x+x*x)+x*x)*((x*(y*y)+x*(y*y)+(x*(y*y)+x*(y*y)))-jx x y)-((y*y*(y*y)+y*y*(y*y)+(y*y*(y*y)+y*y*(y*y)))+(y*y*(y*y)+y*y*(y*y)+(y*y*(y*y)+y*y*(y*y))))=jy x y:=by unfold jy;generalize jx x y=k;grind
theorem jz_of (y z:V1):y*z+y*z=jz y z:=by unfold jz;grind
theorem twice1_rel {s:Sp1} {p:Pt V1} (hp:p.on) (h:rel1 s p):rel1 (twiceG1 s) (p.add p):=by
 obtain ⟨⟨hx,hy,hz⟩,hj⟩:=h
 have ha:=half_ok1 hx hx
 have hb:=half_ok1 hy hy
 have hc:=half_ok1 hb hb
 have hd:=half_ok1 hx hb
 have hd2:=add_ok1 hd hd
 have hd4:=add_ok1 hd2 hd2
 have he:=add_ok1 (add_ok1 ha ha) ha
 have hee:=half_ok1 he he
 have hd8:=add_ok1 hd4 hd4
 have hX:=sub_ok1 hee hd8
 have hc2:=add_ok1 hc hc
 have hc4:=add_ok1 hc2 hc2
 have hc8:=add_ok1 hc4 hc4
 have hyz:=half_ok1 hy hz
 have hs:=sub_ok1 hd4 hX
 have hes:=half_ok1 he hs
 have hj':=twice_all hp hj
 have e1:=m1_sub hee hd8
 rw [m1_half he he,m1_add hd4 hd4,m1_add hd2 hd2,m1_add hd hd,m1_half hx hb,m1_half hy hy,m1_add (add_ok1 ha ha) ha,m1_add ha ha,m1_half hx hx,jx_of] at e1
 have e2:=m1_sub hes hc8
 rw [m1_half he hs,m1_sub hd4 hX,e1,m1_add hc4 hc4,m1_add hc2 hc2,m1_add hc hc,m1_half hb hb,m1_add hd2 hd2,m1_add hd hd,m1_half hx hb,m1_half hy hy,m1_add (add_ok1 ha ha) ha,m1_add ha ha,m1_half hx hx,jy_of] at e2
 have e3:=m1_add hyz hyz
 rw [m1_half hy hz,jz_of] at e3
 unfold twiceG1 twiceG1_G
 refine rel1_mk hX (sub_ok1 hes hc8) (add_ok1 hyz hyz) ?_
 rw [e1,e2,e3]
 exact hj'
section
variable {f0 : Fp -> Bool} {f1 f2 f4 : Fp -> Fp -> Fp} {f3 : Sp1 -> Sp1} {s t : Sp1}
theorem plusG1_l (h:f0 s.z=true):plusG1_G f0 f1 f2 f3 f4 s t=t:=by unfold plusG1_G;rw [h]
theorem plusG1_r (h:f0 s.z=false) (h2:f0 t.z=true):plusG1_G f0 f1 f2 f3 f4 s t=s:=by unfold plusG1_G;rw [h,h2]
theorem plusG1_tw (h:f0 s.z=false) (h2:f0 t.z=false) (h3:f0 (f2 (f1 t.x (f1 s.z s.z)) (f1 s.x (f1 t.z t.z)))=true) (h4:f0 (f2 (f1 t.y (f1 (f1 s.z s.z) s.z)) (f1 s.y (f1 (f1 t.z t.z) t.z)))=true):plusG1_G f0 f1 f2 f3 f4 s t=f3 s:=by
 unfold plusG1_G
 rw [h,h2,h3,h4]
theorem plusG1_no (h:f0 s.z=false) (h2:f0 t.z=false) (h3:f0 (f2 (f1 t.x (f1 s.z s.z)) (f1 s.x (f1 t.z t.z)))=true) (h4:f0 (f2 (f1 t.y (f1 (f1 s.z s.z) s.z)) (f1 s.y (f1 (f1 t.z t.z) t.z)))=false):plusG1_G f0 f1 f2 f3 f4 s t=zeroSp:=by
 unfold plusG1_G
 rw [h,h2,h3,h4]
theorem plusG1_all (h:f0 s.z=false) (h2:f0 t.z=false) (h3:f0 (f2 (f1 t.x (f1 s.z s.z)) (f1 s.x (f1 t.z t.z)))=false):plusG1_G f0 f1 f2 f3 f4 s t=⟨(f2 (f2 (f1 (f2 (f1 t.y (f1 (f1 s.z s.z) s.z)) (f1 s.y (f1 (f1 t.z t.z) t.z))) (f2 (f1 t.y (f1 (f1 s.z s.z) s.z)) (f1 s.y (f1 (f1 t.z t.z) t.z)))) (f1 (f1 (f2 (f1 t.x (f1 s.z s.z)) (f1 s.x (f1 t.z t.z))) (f2 (f1 t.x (f1 s.z s.z)) (f1 s.x (f1 t.z t.z)))) (f2 (f1 t.x (f1 s.z s.z)) (f1 s.x (f1 t.z t.z))))) (f4 (f1 (f1 s.x (f1 t.z t.z)) (f1 (f2 (f1 t.x (f1 s.z s.z)) (f1 s.x (f1 t.z t.z))) (f2 (f1 t.x (f1 s.z s.z)) (f1 s.x (f1 t.z t.z))))) (f1 (f1 s.x (f1 t.z t.z)) (f1 (f2 (f1 t.x (f1 s.z s.z)) (f1 s.x (f1 t.z t.z))) (f2 (f1 t.x (f1 s.z s.z)) (f1 s.x (f1 t.z t.z))))))),(f2 (f1 (f2 (f1 t.y (f1 (f1 s.z s.z) s.z)) (f1 s.y (f1 (f1 t.z t.z) t.z))) (f2 (f1 (f1 s.x (f1 t.z t.z)) (f1 (f2 (f1 t.x (f1 s.z s.z)) (f1 s.x (f1 t.z t.z))) (f2 (f1 t.x (f1 s.z s.z)) (f1 s.x (f1 t.z t.z))))) (f2 (f2 (f1 (f2 (f1 t.y (f1 (f1 s.z s.z) s.z)) (f1 s.y (f1 (f1 t.z t.z) t.z))) (f2 (f1 t.y (f1 (f1 s.z s.z) s.z)) (f1 s.y (f1 (f1 t.z t.z) t.z)))) (f1 (f1 (f2 (f1 t.x (f1 s.z s.z)) (f1 s.x (f1 t.z t.z))) (f2 (f1 t.x (f1 s.z s.z)) (f1 s.x (f1 t.z t.z)))) (f2 (f1 t.x (f1 s.z s.z)) (f1 s.x (f1 t.z t.z))))) (f4 (f1 (f1 s.x (f1 t.z t.z)) (f1 (f2 (f1 t.x (f1 s.z s.z)) (f1 s.x (f1 t.z t.z))) (f2 (f1 t.x (f1 s.z s.z)) (f1 s.x (f1 t.z t.z))))) (f1 (f1 s.x (f1 t.z t.z)) (f1 (f2 (f1 t.x (f1 s.z s.z)) (f1 s.x (f1 t.z t.z))) (f2 (f1 t.x (f1 s.z s.z)) (f1 s.x (f1 t.z t.z))))))))) (f1 (f1 s.y (f1 (f1 t.z t.z) t.z)) (f1 (f1 (f2 (f1 t.x (f1 s.z s.z)) (f1 s.x (f1 t.z t.z))) (f2 (f1 t.x (f1 s.z s.z)) (f1 s.x (f1 t.z t.z)))) (f2 (f1 t.x (f1 s.z s.z)) (f1 s.x (f1 t.z t.z)))))),(f1 (f1 s.z t.z) (f2 (f1 t.x (f1 s.z s.z)) (f1 s.x (f1 t.z t.z))))⟩:=by
 unfold plusG1_G
 rw [h,h2,h3]
end
theorem px_of (u h r:V1):r*r-h*h*h-(u*(h*h)+u*(h*h))=r*r-h*h*h-2*(u*(h*h)):=by grind
theorem plus1_rel {s t:Sp1} {p q:Pt V1} (hp:p.on) (hq:q.on) (hs:rel1 s p) (ht:rel1 t q):rel1 (plusG1 s t) (p.add q):=by
 have hs0:=hs
 have ht0:=ht
 obtain ⟨⟨hx,hy,hz⟩,hj⟩:=hs
 obtain ⟨⟨kx,ky,kz⟩,kj⟩:=ht
 unfold plusG1
 by_cases z1:m1 s.z=0
 ·rw [plusG1_l ((m1_zero hz).2 z1),hj.inf_of z1,inf_add]
  exact ht0
 by_cases z2:m1 t.z=0
 ·rw [plusG1_r ((m1_nonzero hz).2 z1) ((m1_zero kz).2 z2),kj.inf_of z2,add_inf]
  exact hs0
 have n1:=(m1_nonzero hz).2 z1
 have n2:=(m1_nonzero kz).2 z2
 have zz:=half_ok1 hz hz
 have ww:=half_ok1 kz kz
 have zzz:=half_ok1 zz hz
 have www:=half_ok1 ww kz
 have hu:=half_ok1 hx ww
 have hv:=half_ok1 kx zz
 have ha:=half_ok1 hy www
 have hb:=half_ok1 ky zzz
 have hh:=sub_ok1 hv hu
 have hr:=sub_ok1 hb ha
 have eh:m1 (subF (halfF t.x (halfF s.z s.z)) (halfF s.x (halfF t.z t.z)))=m1 t.x*(m1 s.z*m1 s.z)-m1 s.x*(m1 t.z*m1 t.z):=by
  rw [m1_sub hv hu,m1_half kx zz,m1_half hx ww,m1_half hz hz,m1_half kz kz]
 have er:m1 (subF (halfF t.y (halfF (halfF s.z s.z) s.z)) (halfF s.y (halfF (halfF t.z t.z) t.z)))=m1 t.y*(m1 s.z*m1 s.z*m1 s.z)-m1 s.y*(m1 t.z*m1 t.z*m1 t.z):=by
  rw [m1_sub hb ha,m1_half ky zzz,m1_half hy www,m1_half zz hz,m1_half ww kz,m1_half hz hz,m1_half kz kz]
 by_cases h0:m1 t.x*(m1 s.z*m1 s.z)-m1 s.x*(m1 t.z*m1 t.z)=0
 ·obtain ⟨c1,c2⟩:=plus_same hp hq hj kj z1 z2 h0
  have n3:=(m1_zero hh).2 (by rw [eh];exact h0)
  by_cases r0:m1 t.y*(m1 s.z*m1 s.z*m1 s.z)-m1 s.y*(m1 t.z*m1 t.z*m1 t.z)=0
  ·rw [plusG1_tw n1 n2 n3 ((m1_zero hr).2 (by rw [er];exact r0)),c1 r0]
   exact twice1_rel hp hs0
  ·rw [plusG1_no n1 n2 n3 ((m1_nonzero hr).2 (by rw [er];exact r0)),c2 r0]
   exact rel1_inf
 ·rw [plusG1_all n1 n2 ((m1_nonzero hh).2 (by rw [eh];exact h0))]
  have key:=plus_all hp hq hj kj z1 z2 h0
  have h2:=half_ok1 hh hh
  have h3:=half_ok1 h2 hh
  have hw:=half_ok1 hu h2
  have hrr:=half_ok1 hr hr
  have hw2:=add_ok1 hw hw
  have hrh:=sub_ok1 hrr h3
  have hX:=sub_ok1 hrh hw2
  have hwx:=sub_ok1 hw hX
  have hrw:=half_ok1 hr hwx
  have hah:=half_ok1 ha h3
  have hst:=half_ok1 hz kz
  have eu:m1 (halfF s.x (halfF t.z t.z))=m1 s.x*(m1 t.z*m1 t.z):=by rw [m1_half hx ww,m1_half kz kz]
  have ea:m1 (halfF s.y (halfF (halfF t.z t.z) t.z))=m1 s.y*(m1 t.z*m1 t.z*m1 t.z):=by rw [m1_half hy www,m1_half ww kz,m1_half kz kz]
  have e1:=m1_sub hrh hw2
  rw [m1_sub hrr h3,m1_half hr hr,er,m1_half h2 hh,m1_half hh hh,eh,m1_add hw hw,m1_half hu h2,eu,m1_half hh hh,eh,px_of] at e1
  have e1':_=px (m1 s.x) (m1 s.y) (m1 s.z) (m1 t.x) (m1 t.y) (m1 t.z):=e1
  have e2:=m1_sub hrw hah
  rw [m1_half hr hwx,m1_sub hw hX,e1',m1_half hu h2,eu,m1_half hh hh,eh,m1_half ha h3,ea,m1_half h2 hh,m1_half hh hh,eh,er] at e2
  have e3:=m1_half hst hh
  rw [m1_half hz kz,eh] at e3
  refine rel1_mk hX (sub_ok1 hrw hah) (half_ok1 hst hh) ?_
  rw [e1',e2,e3]
  exact key
theorem neg1_pt {a:Pg1} (ha:a.good):(negG1 a).good/\(negG1 a).pt=a.pt.neg:=by
 unfold negG1
 cases hi:a.inf with
 | true =>
  rw [negG1_inf hi,pt1_inf hi]
  exact ⟨ha,rfl⟩
 | false =>
  obtain ⟨hx,hy⟩:=ok_aff1 ha.1 hi
  have ho:=neg_on ha.2
  rw [pt1_aff hi] at ho ⊢
  rw [negG1_aff hi]
  exact good1_mk hx (neg_ok1 hy) rfl (v_neg1 hy) ho
theorem rhs1_G_eq (f0 f1:Fp->Fp->Fp) (x:Fp):rhsG1_G f0 f1 x=f0 (f1 (f1 x x) x) bFp1:=rfl
theorem rhs1_v {x:Fp} (hx:x.ok):(rhsG1 x).ok/\(rhsG1 x).v=x.v*x.v*x.v+Crv.b:=by
 have hb:bFp1.ok/\bFp1.v=Crv.b:=bFp1_v
 have h2:=mul_ok1 hx hx
 have h3:=mul_ok1 h2 hx
 unfold rhsG1
 rw [rhs1_G_eq]
 refine ⟨add_ok1 h3 hb.1,?_⟩
 rw [v_add1 h3 hb.1,v_mul1 h2 hx,v_mul1 hx hx,hb.2]
theorem on1_iff (p:Pg1):onG1 p=true <-> p.good:=by
 unfold onG1
 cases hi:p.inf with
 | true =>
  rw [onG1_inf hi,pg1Eq_iff]
  constructor
  ·intro h;rw [h];exact good_inf1
  ·intro h;exact ok_inf1 h.1 hi
 | false =>
  rw [onG1_aff hi,Bool.and_eq_true,Bool.and_eq_true,may1_iff,may1_iff]
  constructor
  ·rintro ⟨⟨hx,hy⟩,h⟩
   obtain ⟨r1,r2⟩:=rhs1_v hx
   rw [eq_v1 (mul_ok1 hy hy) r1,v_mul1 hy hy,r2] at h
   exact ⟨.inr ⟨hi,hx,hy⟩,by rw [pt1_aff hi];exact h⟩
  ·intro h
   obtain ⟨hx,hy⟩:=ok_aff1 h.1 hi
   obtain ⟨r1,r2⟩:=rhs1_v hx
   refine ⟨⟨hx,hy⟩,?_⟩
   rw [eq_v1 (mul_ok1 hy hy) r1,v_mul1 hy hy,r2]
   have:=h.2
   rw [pt1_aff hi] at this
   exact this
end
section
def bFp2:Fp2:=⟨bFp1,bFp1⟩
theorem bFp2_v:bFp2.ok/\bFp2.v=Crv.b:=⟨Fp2.mk_ok bFp1_v.1 bFp1_v.1,Qd.ext' bFp1_v.2 bFp1_v.2⟩
theorem onG2_inf {f0:Fp2->Bool} {f1:Fp2->Fp2->Fp2} {f2:Fp2->Fp2} {p:Pg2} (h:p.inf=true):onG2_G f0 f1 f2 p=pg2Eq p infG2:=by unfold onG2_G;rw [h]
theorem onG2_aff {f0:Fp2->Bool} {f1:Fp2->Fp2->Fp2} {f2:Fp2->Fp2} {p:Pg2} (h:p.inf=false):onG2_G f0 f1 f2 p=(f0 p.x && f0 p.y && fp2Eq (f1 p.y p.y) (f2 p.x)):=by
 unfold onG2_G
 rw [h]
 cases f0 p.x <;> cases f0 p.y <;> rfl
theorem liftG2_inf {f0:Fp2->Fp2} {p:Pg2} (h:p.inf=true):liftG2_G f0 p=zeroFp6:=by unfold liftG2_G;rw [h]
theorem liftG2_aff {f0:Fp2->Fp2} {p:Pg2} (h:p.inf=false):liftG2_G f0 p=⟨f0 p.x,f0 p.y,f0 oneFp2⟩:=by unfold liftG2_G;rw [h]
theorem laysG2_no {f0:Fp2->Fp2 × Int} {f1:Fp2->Fp2} {f2:Fp2->Fp2->Fp2} {s:Fp6} (h:(f0 (f1 s.c2)).2=7):laysG2_G f0 f1 f2 s=infG2:=by
 unfold laysG2_G
 rw [h]
 rfl
theorem laysG2_yes {f0:Fp2->Fp2 × Int} {f1:Fp2->Fp2} {f2:Fp2->Fp2->Fp2} {s:Fp6} (h:(f0 (f1 s.c2)).2=0):laysG2_G f0 f1 f2 s=⟨f2 (f1 s.c0) (f2 (f0 (f1 s.c2)).1 (f0 (f1 s.c2)).1),f2 (f1 s.c1) (f2 (f2 (f0 (f1 s.c2)).1 (f0 (f1 s.c2)).1) (f0 (f1 s.c2)).1),false⟩:=by
 unfold laysG2_G
 rw [h]
 rfl
theorem negG2_inf {f0:Fp2->Fp2} {p:Pg2} (h:p.inf=true):negG2_G f0 p=p:=by unfold negG2_G;rw [h]
theorem negG2_aff {f0:Fp2->Fp2} {p:Pg2} (h:p.inf=false):negG2_G f0 p=⟨p.x,f0 p.y,false⟩:=by unfold negG2_G;rw [h]
theorem zeroG2_eq (a:Fp2):zeroG2 a=fp2Eq a zeroFp2:=by unfold zeroG2 zeroG2_G;rfl
def Pg2.pt (p:Pg2):Pt V2:=match p.inf with
 | true => .inf
 | false => .aff p.x.v p.y.v
def Pg2.ok (p:Pg2):Prop:=p=infG2 \/ (p.inf=false/\p.x.ok/\p.y.ok)
def Pg2.good (p:Pg2):Prop:=p.ok/\p.pt.on
theorem pt2_inf {p:Pg2} (h:p.inf=true):p.pt = .inf:=by unfold Pg2.pt;rw [h]
theorem pt2_aff {p:Pg2} (h:p.inf=false):p.pt = .aff p.x.v p.y.v:=by unfold Pg2.pt;rw [h]
theorem good_inf2:infG2.good:=⟨.inl rfl,trivial⟩
theorem ok_inf2 {p:Pg2} (h:p.ok) (hi:p.inf=true):p=infG2:=by
 rcases h with h | ⟨h,_⟩
 ·exact h
 ·rw [hi] at h;cases h
theorem ok_aff2 {p:Pg2} (h:p.ok) (hi:p.inf=false):p.x.ok/\p.y.ok:=by
 rcases h with h | ⟨_,h⟩
 ·rw [h] at hi;cases hi
 ·exact h
theorem pg2_eq {a b:Pg2} (h1:a.x=b.x) (h2:a.y=b.y) (h3:a.inf=b.inf):a=b:=by
 cases a;cases b
 simp_all
theorem good2_mk {x y:Fp2} {u v:V2} (hx:x.ok) (hy:y.ok) (ex:x.v=u) (ey:y.v=v) (h:(Pt.aff u v).on):(⟨x,y,false⟩:Pg2).good/\(⟨x,y,false⟩:Pg2).pt = .aff u v:=by
 subst ex ey
 exact ⟨⟨.inr ⟨rfl,hx,hy⟩,h⟩,rfl⟩
theorem pt2_inj {a b:Pg2} (ha:a.ok) (hb:b.ok) (h:a.pt=b.pt):a=b:=by
 cases ea:a.inf with
 | true =>
  cases eb:b.inf with
  | true=>rw [ok_inf2 ha ea,ok_inf2 hb eb]
  | false=>rw [pt2_inf ea,pt2_aff eb] at h;cases h
 | false =>
  cases eb:b.inf with
  | true=>rw [pt2_aff ea,pt2_inf eb] at h;cases h
  | false =>
   rw [pt2_aff ea,pt2_aff eb] at h
   obtain ⟨a1,a2⟩:=ok_aff2 ha ea
   obtain ⟨b1,b2⟩:=ok_aff2 hb eb
   injection h with h1 h2
   exact pg2_eq (Fp2.v_inj a1 b1 h1) (Fp2.v_inj a2 b2 h2) (ea.trans eb.symm)
def m2 (a:Fp2):V2:=ri2*a.v
theorem m2_add {a b:Fp2} (ha:a.ok) (hb:b.ok):m2 (addF2 a b)=m2 a+m2 b:=by unfold m2;rw [v_add2 ha hb];exact CR.dist _ _ _
theorem m2_sub {a b:Fp2} (ha:a.ok) (hb:b.ok):m2 (subF2 a b)=m2 a-m2 b:=by unfold m2;rw [v_sub2 ha hb];grind
theorem m2_half {a b:Fp2} (ha:a.ok) (hb:b.ok):m2 (halfF2 a b)=m2 a*m2 b:=by unfold m2;rw [v_half2 ha hb];grind
theorem m2_whole {a:Fp2} (ha:a.ok):m2 (wholeF2 a)=a.v:=by
 unfold m2
 rw [v_whole2 ha]
 have:=rv_ri2
 grind
theorem v_low_m2 {a:Fp2} (ha:a.ok):(lowF2 a).v=m2 a:=v_low2 ha
theorem ri_ne2:ri2 ≠ 0:=fun e=>one_ne' (K:=V2) (by rw [<- rv_ri2,e];exact CR.mul_zero _)
theorem m2_zero {a:Fp2} (ha:a.ok):zeroG2 a=true <-> m2 a=0:=by
 rw [zeroG2_eq,fp2Eq_v ha zero_ok2,v_zero2]
 unfold m2
 constructor
 ·intro h;rw [h];exact CR.mul_zero _
 ·intro h;exact (mul_eq_zero' h).resolve_left ri_ne2
theorem m2_nonzero {a:Fp2} (ha:a.ok):zeroG2 a=false <-> m2 a ≠ 0:=by rw [<- Bool.not_eq_true,m2_zero ha]
def rel2 (s:Fp6) (p:Pt V2):Prop:=(s.c0.ok/\s.c1.ok/\s.c2.ok)/\Jc (m2 s.c0) (m2 s.c1) (m2 s.c2) p
theorem rel2_mk {x y z:Fp2} {p:Pt V2} (hx:x.ok) (hy:y.ok) (hz:z.ok) (h:Jc (m2 x) (m2 y) (m2 z) p):rel2 ⟨x,y,z⟩ p:=⟨⟨hx,hy,hz⟩,h⟩
theorem rel2_inf:rel2 zeroFp6 .inf:=⟨⟨zero_ok2,zero_ok2,zero_ok2⟩,by
 show m2 zeroFp2=0
 unfold m2
 rw [v_zero2]
 exact CR.mul_zero _⟩
theorem lift2_rel {p:Pg2} (h:p.good):rel2 (liftG2 p) p.pt:=by
 unfold liftG2
 cases hi:p.inf with
 | true=>rw [liftG2_inf hi,pt2_inf hi];exact rel2_inf
 | false =>
  obtain ⟨hx,hy⟩:=ok_aff2 h.1 hi
  rw [liftG2_aff hi,pt2_aff hi]
  refine rel2_mk (whole_ok2 hx) (whole_ok2 hy) (whole_ok2 one_ok2) ?_
  rw [m2_whole hx,m2_whole hy,m2_whole one_ok2,v_one2]
  exact ⟨one_ne',by grind,by grind⟩
theorem lays2_rel {s:Fp6} {p:Pt V2} (hp:p.on) (h:rel2 s p):(laysG2 s).good/\(laysG2 s).pt=p:=by
 obtain ⟨⟨hx,hy,hz⟩,hj⟩:=h
 obtain ⟨i1,i2⟩:=inv_v2' (low_ok2 hz)
 rw [v_low_m2 hz] at i1 i2
 unfold laysG2
 by_cases h0:m2 s.c2=0
 ·rw [laysG2_no (i1 h0),hj.inf_of h0]
  exact ⟨good_inf2,rfl⟩
 ·obtain ⟨j1,j2,j3⟩:=i2 h0
  obtain ⟨x,y,rfl,e1,e2⟩:=hj.aff_of h0
  rw [laysG2_yes j1]
  have kk:=mul_ok2 j2 j2
  have kkk:=mul_ok2 kk j2
  have lx:=low_ok2 hx
  have ly:=low_ok2 hy
  have ex:(mulF2 (lowF2 s.c0) (mulF2 (invF2 (lowF2 s.c2)).1 (invF2 (lowF2 s.c2)).1)).v=x:=by
   rw [v_mul2 lx kk,v_mul2 j2 j2,v_low_m2 hx,j3,e1]
   exact jc_inv h0
  have ey:(mulF2 (lowF2 s.c1) (mulF2 (mulF2 (invF2 (lowF2 s.c2)).1 (invF2 (lowF2 s.c2)).1) (invF2 (lowF2 s.c2)).1)).v=y:=by
   rw [v_mul2 ly kkk,v_mul2 kk j2,v_mul2 j2 j2,v_low_m2 hy,j3,e2]
   exact jc_inv3 h0
  exact good2_mk (mul_ok2 lx kk) (mul_ok2 ly kkk) ex ey hp
theorem jx_of2 (x y:V2):((x*x+x*x)+x*x)*((x*x+x*x)+x*x)-((x*(y*y)+x*(y*y)+(x*(y*y)+x*(y*y)))+(x*(y*y)+x*(y*y)+(x*(y*y)+x*(y*y))))=jx x y:=by unfold jx;grind
theorem jy_of2 (x y:V2):((x*x+x*x)+x*x)*((x*(y*y)+x*(y*y)+(x*(y*y)+x*(y*y)))-jx x y)-((y*y*(y*y)+y*y*(y*y)+(y*y*(y*y)+y*y*(y*y)))+(y*y*(y*y)+y*y*(y*y)+(y*y*(y*y)+y*y*(y*y))))=jy x y:=by unfold jy;generalize jx x y=k;grind
theorem jz_of2 (y z:V2):y*z+y*z=jz y z:=by unfold jz;grind
theorem twice2_rel {s:Fp6} {p:Pt V2} (hp:p.on) (h:rel2 s p):rel2 (twiceG2 s) (p.add p):=by
 obtain ⟨⟨hx,hy,hz⟩,hj⟩:=h
 have ha:=half_ok2 hx hx
 have hb:=half_ok2 hy hy
 have hc:=half_ok2 hb hb
 have hd:=half_ok2 hx hb
 have hd2:=add_ok2 hd hd
 have hd4:=add_ok2 hd2 hd2
 have he:=add_ok2 (add_ok2 ha ha) ha
 have hee:=half_ok2 he he
 have hd8:=add_ok2 hd4 hd4
 have hX:=sub_ok2 hee hd8
 have hc2:=add_ok2 hc hc
 have hc4:=add_ok2 hc2 hc2
 have hc8:=add_ok2 hc4 hc4
 have hyz:=half_ok2 hy hz
 have hs:=sub_ok2 hd4 hX
 have hes:=half_ok2 he hs
 have hj':=twice_all hp hj
 have e1:=m2_sub hee hd8
 rw [m2_half he he,m2_add hd4 hd4,m2_add hd2 hd2,m2_add hd hd,m2_half hx hb,m2_half hy hy,m2_add (add_ok2 ha ha) ha,m2_add ha ha,m2_half hx hx,jx_of2] at e1
 have e2:=m2_sub hes hc8
 rw [m2_half he hs,m2_sub hd4 hX,e1,m2_add hc4 hc4,m2_add hc2 hc2,m2_add hc hc,m2_half hb hb,m2_add hd2 hd2,m2_add hd hd,m2_half hx hb,m2_half hy hy,m2_add (add_ok2 ha ha) ha,m2_add ha ha,m2_half hx hx,jy_of2] at e2
 have e3:=m2_add hyz hyz
 rw [m2_half hy hz,jz_of2] at e3
 unfold twiceG2 twiceG2_G
 refine rel2_mk hX (sub_ok2 hes hc8) (add_ok2 hyz hyz) ?_
 rw [e1,e2,e3]
 exact hj'
section
variable {f0 : Fp2 -> Bool} {f1 f2 f4 : Fp2 -> Fp2 -> Fp2} {f3 : Fp6 -> Fp6} {s t : Fp6}
theorem plusG2_l (h:f0 s.c2=true):plusG2_G f0 f1 f2 f3 f4 s t=t:=by unfold plusG2_G;rw [h]
theorem plusG2_r (h:f0 s.c2=false) (h2:f0 t.c2=true):plusG2_G f0 f1 f2 f3 f4 s t=s:=by unfold plusG2_G;rw [h,h2]
theorem plusG2_tw (h:f0 s.c2=false) (h2:f0 t.c2=false) (h3:f0 (f2 (f1 t.c0 (f1 s.c2 s.c2)) (f1 s.c0 (f1 t.c2 t.c2)))=true) (h4:f0 (f2 (f1 t.c1 (f1 (f1 s.c2 s.c2) s.c2)) (f1 s.c1 (f1 (f1 t.c2 t.c2) t.c2)))=true):plusG2_G f0 f1 f2 f3 f4 s t=f3 s:=by
 unfold plusG2_G
 rw [h,h2,h3,h4]
theorem plusG2_no (h:f0 s.c2=false) (h2:f0 t.c2=false) (h3:f0 (f2 (f1 t.c0 (f1 s.c2 s.c2)) (f1 s.c0 (f1 t.c2 t.c2)))=true) (h4:f0 (f2 (f1 t.c1 (f1 (f1 s.c2 s.c2) s.c2)) (f1 s.c1 (f1 (f1 t.c2 t.c2) t.c2)))=false):plusG2_G f0 f1 f2 f3 f4 s t=zeroFp6:=by
 unfold plusG2_G
 rw [h,h2,h3,h4]
theorem plusG2_all (h:f0 s.c2=false) (h2:f0 t.c2=false) (h3:f0 (f2 (f1 t.c0 (f1 s.c2 s.c2)) (f1 s.c0 (f1 t.c2 t.c2)))=false):plusG2_G f0 f1 f2 f3 f4 s t=⟨(f2 (f2 (f1 (f2 (f1 t.c1 (f1 (f1 s.c2 s.c2) s.c2)) (f1 s.c1 (f1 (f1 t.c2 t.c2) t.c2))) (f2 (f1 t.c1 (f1 (f1 s.c2 s.c2) s.c2)) (f1 s.c1 (f1 (f1 t.c2 t.c2) t.c2)))) (f1 (f1 (f2 (f1 t.c0 (f1 s.c2 s.c2)) (f1 s.c0 (f1 t.c2 t.c2))) (f2 (f1 t.c0 (f1 s.c2 s.c2)) (f1 s.c0 (f1 t.c2 t.c2)))) (f2 (f1 t.c0 (f1 s.c2 s.c2)) (f1 s.c0 (f1 t.c2 t.c2))))) (f4 (f1 (f1 s.c0 (f1 t.c2 t.c2)) (f1 (f2 (f1 t.c0 (f1 s.c2 s.c2)) (f1 s.c0 (f1 t.c2 t.c2))) (f2 (f1 t.c0 (f1 s.c2 s.c2)) (f1 s.c0 (f1 t.c2 t.c2))))) (f1 (f1 s.c0 (f1 t.c2 t.c2)) (f1 (f2 (f1 t.c0 (f1 s.c2 s.c2)) (f1 s.c0 (f1 t.c2 t.c2))) (f2 (f1 t.c0 (f1 s.c2 s.c2)) (f1 s.c0 (f1 t.c2 t.c2))))))),(f2 (f1 (f2 (f1 t.c1 (f1 (f1 s.c2 s.c2) s.c2)) (f1 s.c1 (f1 (f1 t.c2 t.c2) t.c2))) (f2 (f1 (f1 s.c0 (f1 t.c2 t.c2)) (f1 (f2 (f1 t.c0 (f1 s.c2 s.c2)) (f1 s.c0 (f1 t.c2 t.c2))) (f2 (f1 t.c0 (f1 s.c2 s.c2)) (f1 s.c0 (f1 t.c2 t.c2))))) (f2 (f2 (f1 (f2 (f1 t.c1 (f1 (f1 s.c2 s.c2) s.c2)) (f1 s.c1 (f1 (f1 t.c2 t.c2) t.c2))) (f2 (f1 t.c1 (f1 (f1 s.c2 s.c2) s.c2)) (f1 s.c1 (f1 (f1 t.c2 t.c2) t.c2)))) (f1 (f1 (f2 (f1 t.c0 (f1 s.c2 s.c2)) (f1 s.c0 (f1 t.c2 t.c2))) (f2 (f1 t.c0 (f1 s.c2 s.c2)) (f1 s.c0 (f1 t.c2 t.c2)))) (f2 (f1 t.c0 (f1 s.c2 s.c2)) (f1 s.c0 (f1 t.c2 t.c2))))) (f4 (f1 (f1 s.c0 (f1 t.c2 t.c2)) (f1 (f2 (f1 t.c0 (f1 s.c2 s.c2)) (f1 s.c0 (f1 t.c2 t.c2))) (f2 (f1 t.c0 (f1 s.c2 s.c2)) (f1 s.c0 (f1 t.c2 t.c2))))) (f1 (f1 s.c0 (f1 t.c2 t.c2)) (f1 (f2 (f1 t.c0 (f1 s.c2 s.c2)) (f1 s.c0 (f1 t.c2 t.c2))) (f2 (f1 t.c0 (f1 s.c2 s.c2)) (f1 s.c0 (f1 t.c2 t.c2))))))))) (f1 (f1 s.c1 (f1 (f1 t.c2 t.c2) t.c2)) (f1 (f1 (f2 (f1 t.c0 (f1 s.c2 s.c2)) (f1 s.c0 (f1 t.c2 t.c2))) (f2 (f1 t.c0 (f1 s.c2 s.c2)) (f1 s.c0 (f1 t.c2 t.c2)))) (f2 (f1 t.c0 (f1 s.c2 s.c2)) (f1 s.c0 (f1 t.c2 t.c2)))))),(f1 (f1 s.c2 t.c2) (f2 (f1 t.c0 (f1 s.c2 s.c2)) (f1 s.c0 (f1 t.c2 t.c2))))⟩:=by
 unfold plusG2_G
 rw [h,h2,h3]
end
theorem px_of2 (u h r:V2):r*r-h*h*h-(u*(h*h)+u*(h*h))=r*r-h*h*h-2*(u*(h*h)):=by grind
theorem plus2_rel {s t:Fp6} {p q:Pt V2} (hp:p.on) (hq:q.on) (hs:rel2 s p) (ht:rel2 t q):rel2 (plusG2 s t) (p.add q):=by
 have hs0:=hs
 have ht0:=ht
 obtain ⟨⟨hx,hy,hz⟩,hj⟩:=hs
 obtain ⟨⟨kx,ky,kz⟩,kj⟩:=ht
 unfold plusG2
 by_cases z1:m2 s.c2=0
 ·rw [plusG2_l ((m2_zero hz).2 z1),hj.inf_of z1,inf_add]
  exact ht0
 by_cases z2:m2 t.c2=0
 ·rw [plusG2_r ((m2_nonzero hz).2 z1) ((m2_zero kz).2 z2),kj.inf_of z2,add_inf]
  exact hs0
 have n1:=(m2_nonzero hz).2 z1
 have n2:=(m2_nonzero kz).2 z2
 have zz:=half_ok2 hz hz
 have ww:=half_ok2 kz kz
 have zzz:=half_ok2 zz hz
 have www:=half_ok2 ww kz
 have hu:=half_ok2 hx ww
 have hv:=half_ok2 kx zz
 have ha:=half_ok2 hy www
 have hb:=half_ok2 ky zzz
 have hh:=sub_ok2 hv hu
 have hr:=sub_ok2 hb ha
 have eh:m2 (subF2 (halfF2 t.c0 (halfF2 s.c2 s.c2)) (halfF2 s.c0 (halfF2 t.c2 t.c2)))=m2 t.c0*(m2 s.c2*m2 s.c2)-m2 s.c0*(m2 t.c2*m2 t.c2):=by
  rw [m2_sub hv hu,m2_half kx zz,m2_half hx ww,m2_half hz hz,m2_half kz kz]
 have er:m2 (subF2 (halfF2 t.c1 (halfF2 (halfF2 s.c2 s.c2) s.c2)) (halfF2 s.c1 (halfF2 (halfF2 t.c2 t.c2) t.c2)))=m2 t.c1*(m2 s.c2*m2 s.c2*m2 s.c2)-m2 s.c1*(m2 t.c2*m2 t.c2*m2 t.c2):=by
  rw [m2_sub hb ha,m2_half ky zzz,m2_half hy www,m2_half zz hz,m2_half ww kz,m2_half hz hz,m2_half kz kz]
 by_cases h0:m2 t.c0*(m2 s.c2*m2 s.c2)-m2 s.c0*(m2 t.c2*m2 t.c2)=0
 ·obtain ⟨c1,c2⟩:=plus_same hp hq hj kj z1 z2 h0
  have n3:=(m2_zero hh).2 (by rw [eh];exact h0)
  by_cases r0:m2 t.c1*(m2 s.c2*m2 s.c2*m2 s.c2)-m2 s.c1*(m2 t.c2*m2 t.c2*m2 t.c2)=0
  ·rw [plusG2_tw n1 n2 n3 ((m2_zero hr).2 (by rw [er];exact r0)),c1 r0]
   exact twice2_rel hp hs0
  ·rw [plusG2_no n1 n2 n3 ((m2_nonzero hr).2 (by rw [er];exact r0)),c2 r0]
   exact rel2_inf
 ·rw [plusG2_all n1 n2 ((m2_nonzero hh).2 (by rw [eh];exact h0))]
  have key:=plus_all hp hq hj kj z1 z2 h0
  have h2:=half_ok2 hh hh
  have h3:=half_ok2 h2 hh
  have hw:=half_ok2 hu h2
  have hrr:=half_ok2 hr hr
  have hw2:=add_ok2 hw hw
  have hrh:=sub_ok2 hrr h3
  have hX:=sub_ok2 hrh hw2
  have hwx:=sub_ok2 hw hX
  have hrw:=half_ok2 hr hwx
  have hah:=half_ok2 ha h3
  have hst:=half_ok2 hz kz
  have eu:m2 (halfF2 s.c0 (halfF2 t.c2 t.c2))=m2 s.c0*(m2 t.c2*m2 t.c2):=by rw [m2_half hx ww,m2_half kz kz]
  have ea:m2 (halfF2 s.c1 (halfF2 (halfF2 t.c2 t.c2) t.c2))=m2 s.c1*(m2 t.c2*m2 t.c2*m2 t.c2):=by rw [m2_half hy www,m2_half ww kz,m2_half kz kz]
  have e1:=m2_sub hrh hw2
  rw [m2_sub hrr h3,m2_half hr hr,er,m2_half h2 hh,m2_half hh hh,eh,m2_add hw hw,m2_half hu h2,eu,m2_half hh hh,eh,px_of2] at e1
  have e1':_=px (m2 s.c0) (m2 s.c1) (m2 s.c2) (m2 t.c0) (m2 t.c1) (m2 t.c2):=e1
  have e2:=m2_sub hrw hah
  rw [m2_half hr hwx,m2_sub hw hX,e1',m2_half hu h2,eu,m2_half hh hh,eh,m2_half ha h3,ea,m2_half h2 hh,m2_half hh hh,eh,er] at e2
  have e3:=m2_half hst hh
  rw [m2_half hz kz,eh] at e3
  refine rel2_mk hX (sub_ok2 hrw hah) (half_ok2 hst hh) ?_
  rw [e1',e2,e3]
  exact key
theorem neg2_pt {a:Pg2} (ha:a.good):(negG2 a).good/\(negG2 a).pt=a.pt.neg:=by
 unfold negG2
 cases hi:a.inf with
 | true =>
  rw [negG2_inf hi,pt2_inf hi]
  exact ⟨ha,rfl⟩
 | false =>
  obtain ⟨hx,hy⟩:=ok_aff2 ha.1 hi
  have ho:=neg_on ha.2
  rw [pt2_aff hi] at ho ⊢
  rw [negG2_aff hi]
  exact good2_mk hx (neg_ok2 hy) rfl (v_neg2 hy) ho
theorem rhs2_G_eq (f0 f1:Fp2->Fp2->Fp2) (x:Fp2):rhsG2_G f0 f1 x=f0 (f1 (f1 x x) x) bFp2:=rfl
theorem rhs2_v {x:Fp2} (hx:x.ok):(rhsG2 x).ok/\(rhsG2 x).v=x.v*x.v*x.v+Crv.b:=by
 have hb:bFp2.ok/\bFp2.v=Crv.b:=bFp2_v
 have h2:=mul_ok2 hx hx
 have h3:=mul_ok2 h2 hx
 unfold rhsG2
 rw [rhs2_G_eq]
 refine ⟨add_ok2 h3 hb.1,?_⟩
 rw [v_add2 h3 hb.1,v_mul2 h2 hx,v_mul2 hx hx,hb.2]
theorem on2_iff (p:Pg2):onG2 p=true <-> p.good:=by
 unfold onG2
 cases hi:p.inf with
 | true =>
  rw [onG2_inf hi,pg2Eq_iff]
  constructor
  ·intro h;rw [h];exact good_inf2
  ·intro h;exact ok_inf2 h.1 hi
 | false =>
  rw [onG2_aff hi,Bool.and_eq_true,Bool.and_eq_true,may2_iff,may2_iff]
  constructor
  ·rintro ⟨⟨hx,hy⟩,h⟩
   obtain ⟨r1,r2⟩:=rhs2_v hx
   rw [fp2Eq_v (mul_ok2 hy hy) r1,v_mul2 hy hy,r2] at h
   exact ⟨.inr ⟨hi,hx,hy⟩,by rw [pt2_aff hi];exact h⟩
  ·intro h
   obtain ⟨hx,hy⟩:=ok_aff2 h.1 hi
   obtain ⟨r1,r2⟩:=rhs2_v hx
   refine ⟨⟨hx,hy⟩,?_⟩
   rw [fp2Eq_v (mul_ok2 hy hy) r1,v_mul2 hy hy,r2]
   have:=h.2
   rw [pt2_aff hi] at this
   exact this
end
section
abbrev kp6:Kd Fp6:=kRow Fp6
noncomputable abbrev tmRC:List Code:=flat (codeOf Tryz.f45)
noncomputable abbrev tmRB:Code:=loopAt Tryz.f45 0
abbrev Kadd5 (F:Fp6->Fp6->Bool->Fp6):Contract:=K3 kp6.arg kp6.arg kBool.arg kp6.rs.res F
noncomputable abbrev tmRE (o:Fp6) (aF:Fp6->Fp6->Bool->Fp6) (bF:List UInt64->Nat->Bool):Env:=En [(83,K0 kp6.rs.res o),(84,Kadd5 aF),(85,Kbit bF)]
def tmRSt (e:List UInt64) (b:Bool) (p x:Fp6) (z:Int):St:=mkSt 30 [(1,inV 0 e),(2,.one (kBool.av b)),(3,ptrV 1),(6,ptrV 2),(7,ptrV 3),(8,vI z)] [inHE eU64 e,own 82 (Row.cs p),own 82 (zeros 36),own 82 (Row.cs x)]
theorem tmR_start (o:Fp6) (aF:Fp6->Fp6->Bool->Fp6) (bF:List UInt64->Nat->Bool) (p:Fp6) (e:List UInt64) (b:Bool):stageT (tmRE o aF bF) 100 (tmRC.take 3) (startSt Tryz.f45 [.one (kp6.av p),iL.av 0 e,.one (kBool.av b)] [inHE eU64 e]) [1,2,3,6,7,8] [0,1,2,3]=(.vc (0+e.length*1<=(List.map EK.u64.cell e).length/\0<1) (.leaf (mkSt 30 [(1,.one (.c (.slc 0 0 (e.length) 1 (.of 0) false))),(2,.one (.c (.bool (b)))),(3,.one (.c (.ptr 1 0))),(6,.one (.c (.ptr 2 0))),(7,.one (.c (.ptr 3 0))),(8,.one (.c (.int .i64 (IntKind.i64.wrap (IntKind.i64.wrap (64*(↑e.length:Int))-1)))))] [.live ⟨false,0,1,(.elts .u64 (e:List UInt64)),false⟩,.live ⟨true,82,0,(.row (Row.cs (p:Fp6))),false⟩,.live ⟨true,82,0,(.row [(.lit .u64 0),(.lit .u64 0),(.lit .u64 0),(.lit .u64 0),(.lit .u64 0),(.lit .u64 0),(.lit .u64 0),(.lit .u64 0),(.lit .u64 0),(.lit .u64 0),(.lit .u64 0),(.lit .u64 0),(.lit .u64 0),(.lit .u64 0),(.lit .u64 0),(.lit .u64 0),(.lit .u64 0),(.lit .u64 0),(.lit .u64 0),(.lit .u64 0),(.lit .u64 0),(.lit .u64 0),(.lit .u64 0),(.lit .u64 0),(.lit .u64 0),(.lit .u64 0),(.lit .u64 0),(.lit .u64 0),(.lit .u64 0),(.lit .u64 0),(.lit .u64 0),(.lit .u64 0),(.lit .u64 0),(.lit .u64 0),(.lit .u64 0),(.lit .u64 0)]),false⟩,.live ⟨true,82,0,(.row (Row.cs (o:Fp6))),false⟩]))):=by kernel_rfl
theorem tmR_round (o:Fp6) (aF:Fp6->Fp6->Bool->Fp6) (bF:List UInt64->Nat->Bool) (p x:Fp6) (e:List UInt64) (b:Bool) (z:Int):letI za':=List.take e.length (List.drop 0 e);letI zb':=(Row.cs (p:Fp6));letI zc':=IntKind.i64.wrap (z-1);roundT (tmRE o aF bF) 100 tmRB (tmRSt e b p x z) (same [1,2,3,6,7,8] [0,1,2,3])=(.br (decide (z >= 0)) (.vc (((0+e.length<=e.length/\e.length<1125899906842624/\0=0/\1=1)/\0<=z)/\bitIn za' z.toNat) (.br (bF za' z.toNat) (.leaf ((.normal,mkSt 30 [(1,.one (.c (.slc 0 0 (e.length) 1 (.of 0) false))),(2,.one (.c (.bool (b)))),(3,.one (.c (.ptr 1 0))),(6,.one (.c (.ptr 2 0))),(7,.one (.c (.ptr 3 0))),(8,.one (.c (.int .i64 zc')))] [.live ⟨false,0,1,(.elts .u64 (e:List UInt64)),false⟩,.live ⟨true,82,0,(.row zb'),false⟩,.live ⟨true,82,0,(.row [(.lit .u64 0),(.lit .u64 0),(.lit .u64 0),(.lit .u64 0),(.lit .u64 0),(.lit .u64 0),(.lit .u64 0),(.lit .u64 0),(.lit .u64 0),(.lit .u64 0),(.lit .u64 0),(.lit .u64 0),(.lit .u64 0),(.lit .u64 0),(.lit .u64 0),(.lit .u64 0),(.lit .u64 0),(.lit .u64 0),(.lit .u64 0),(.lit .u64 0),(.lit .u64 0),(.lit .u64 0),(.lit .u64 0),(.lit .u64 0),(.lit .u64 0),(.lit .u64 0),(.lit .u64 0),(.lit .u64 0),(.lit .u64 0),(.lit .u64 0),(.lit .u64 0),(.lit .u64 0),(.lit .u64 0),(.lit .u64 0),(.lit .u64 0),(.lit .u64 0)]),false⟩,.live ⟨true,82,0,(.row (Row.cs (aF (aF x x b) p b:Fp6))),false⟩]))) (.leaf ((.normal,mkSt 30 [(1,.one (.c (.slc 0 0 (e.length) 1 (.of 0) false))),(2,.one (.c (.bool (b)))),(3,.one (.c (.ptr 1 0))),(6,.one (.c (.ptr 2 0))),(7,.one (.c (.ptr 3 0))),(8,.one (.c (.int .i64 zc')))] [.live ⟨false,0,1,(.elts .u64 (e:List UInt64)),false⟩,.live ⟨true,82,0,(.row zb'),false⟩,.live ⟨true,82,0,(.row [(.lit .u64 0),(.lit .u64 0),(.lit .u64 0),(.lit .u64 0),(.lit .u64 0),(.lit .u64 0),(.lit .u64 0),(.lit .u64 0),(.lit .u64 0),(.lit .u64 0),(.lit .u64 0),(.lit .u64 0),(.lit .u64 0),(.lit .u64 0),(.lit .u64 0),(.lit .u64 0),(.lit .u64 0),(.lit .u64 0),(.lit .u64 0),(.lit .u64 0),(.lit .u64 0),(.lit .u64 0),(.lit .u64 0),(.lit .u64 0),(.lit .u64 0),(.lit .u64 0),(.lit .u64 0),(.lit .u64 0),(.lit .u64 0),(.lit .u64 0),(.lit .u64 0),(.lit .u64 0),(.lit .u64 0),(.lit .u64 0),(.lit .u64 0),(.lit .u64 0)]),false⟩,.live ⟨true,82,0,(.row (Row.cs (aF x x b:Fp6))),false⟩]))))) (.leaf ((.exit 0,mkSt 30 [(1,.one (.c (.slc 0 0 (e.length) 1 (.of 0) false))),(2,.one (.c (.bool (b)))),(3,.one (.c (.ptr 1 0))),(6,.one (.c (.ptr 2 0))),(7,.one (.c (.ptr 3 0))),(8,.one (.c (.int .i64 (z))))] [.live ⟨false,0,1,(.elts .u64 (e:List UInt64)),false⟩,.live ⟨true,82,0,(.row zb'),false⟩,.live ⟨true,82,0,(.row [(.lit .u64 0),(.lit .u64 0),(.lit .u64 0),(.lit .u64 0),(.lit .u64 0),(.lit .u64 0),(.lit .u64 0),(.lit .u64 0),(.lit .u64 0),(.lit .u64 0),(.lit .u64 0),(.lit .u64 0),(.lit .u64 0),(.lit .u64 0),(.lit .u64 0),(.lit .u64 0),(.lit .u64 0),(.lit .u64 0),(.lit .u64 0),(.lit .u64 0),(.lit .u64 0),(.lit .u64 0),(.lit .u64 0),(.lit .u64 0),(.lit .u64 0),(.lit .u64 0),(.lit .u64 0),(.lit .u64 0),(.lit .u64 0),(.lit .u64 0),(.lit .u64 0),(.lit .u64 0),(.lit .u64 0),(.lit .u64 0),(.lit .u64 0),(.lit .u64 0)]),false⟩,.live ⟨true,82,0,(.row (Row.cs (x:Fp6))),false⟩])))):=by kernel_rfl
theorem tmR_end (o:Fp6) (aF:Fp6->Fp6->Bool->Fp6) (bF:List UInt64->Nat->Bool) (p x:Fp6) (e:List UInt64) (b:Bool) (z:Int):endT (tmRE o aF bF) kp6.rs.out 100 Tryz.f45 (tmRC.drop 4) (tmRSt e b p x z) =
 (.leaf (some ((x,.t)))):=by kernel_rfl
def timesR (p:Fp6) (e:List UInt64) (b:Bool):Fp6:=dblG (fun x=>addS5 x x b) (fun x=>addS5 x p b) e (64*e.length) none5
abbrev TmROk (p:Fp6) (e:List UInt64) (b:Bool):Type := { q:Int × Fp6 // -1<=q.1/\q.1<64*e.length/\dblG (fun x=>addS5 x x b) (fun x=>addS5 x p b) e (q.1+1).toNat q.2=timesR p e b }
theorem timesR_ok:CallOk Tryz.prog 45 (K3 kp6.arg aL kBool.arg kp6.rs.res timesR) :=
 Go.Proofs.YtcbplfkeeaecgaaGreat.G3 (E:=tmRE none5 addS5 bitAt) Tryz.func45 (c:=codeOf Tryz.f45) (by kernel_rfl) (bodied Tryz.func45 (by kernel_rfl) (by kernel_rfl)) kp6.inp iL kBool.inp kp6.rs.out timesR fun p e b _ he _=>by
  have hE:EnvOk (tmRE none5 addS5 bitAt):=En_ok (.cons none5_ok (.cons addS5_ok (.cons bit5_ok .nil)))
  have he:e.length<1125899906842624:=he
  refine DoesL.stageE hE 100 3 _ _ (tmR_start none5 addS5 bitAt p e b) ⟨vcLen e,fun _ => ?_⟩
  have hw:IntKind.i64.wrap (IntKind.i64.wrap (64*(e.length:Int))-1)=64*(e.length:Int)-1:=by rw [IntWalk.i64_in (64*(e.length:Int)) (by omega),IntWalk.i64_in _ (by omega)]
  rw [hw]
  refine DoesL.blockLoop (B:=tmRB) (rest:=tmRC.drop 4) (id:=0) (by kernel_rfl) (fun q:TmROk p e b=>tmRSt e b p q.1.2 q.1.1) (fun q=>(q.1.1+1).toNat) ⟨(64*(e.length:Int)-1,none5),by simp only [];omega,by simp only [];omega,by
   simp only []
   rw [show (64*(e.length:Int)-1+1).toNat=64*e.length by omega]
   simp only [timesR]⟩ fun q => ?_
  obtain ⟨⟨z,x⟩,h0,h1,h2⟩:=q
  simp only [] at h0 h1 h2
  show Does _ _ (tmRSt e b p x z) _
  refine Does.round hE 100 _ (tmR_round none5 addS5 bitAt p x e b z) ⟨fun h => ?_,fun h => ?_⟩
  ·simp only [ge_iff_le,decide_eq_true_eq] at h
   obtain ⟨n,rfl⟩ : ∃ n:Nat,z=(n:Int):=⟨z.toNat,by omega⟩
   rw [wrap_pred n (by omega),whole,Int.toNat_natCast]
   rw [show ((n:Int)+1).toNat=n+1 by omega] at h2
   simp only [dblG] at h2
   refine ⟨⟨⟨okL' he,by omega⟩,by show n<64*e.length;omega⟩,fun _=>⟨fun h3 => ?_,fun h3 => ?_⟩⟩
   all_goals
    have hn:((n:Int)-1+1).toNat=n:=by omega
    rw [h3] at h2
    simp only [] at h2
   ·refine ⟨⟨((n:Int)-1,addS5 (addS5 x x b) p b),?_,?_,?_⟩,?_,?_⟩
    ·show -1<=(n:Int)-1;omega
    ·show (n:Int)-1<64*e.length;omega
    ·simpa only [hn] using h2
    ·show ((n:Int)-1+1).toNat<((n:Int)+1).toNat;omega
    ·kernel_rfl
   ·refine ⟨⟨((n:Int)-1,addS5 x x b),?_,?_,?_⟩,?_,?_⟩
    ·show -1<=(n:Int)-1;omega
    ·show (n:Int)-1<64*e.length;omega
    ·simpa only [hn] using h2
    ·show ((n:Int)-1+1).toNat<((n:Int)+1).toNat;omega
    ·kernel_rfl
  ·simp only [ge_iff_le,decide_eq_false_iff_not] at h
   obtain rfl:z = -1:=by omega
   exact ⟨rfl,DoesL.ends hE 100 (tmR_end none5 addS5 bitAt p x e b (-1)) (reads_t (by
    rw [show ((-1:Int)+1).toNat=0 from rfl] at h2
    simp only [dblG] at h2
    exact h2))⟩
def times1R_G (f0:Fp6->Pg1) (f1:Fp6->List UInt64->Bool->Fp6) (f2:Pg1->Fp6) (a:Pg1) (k:Fr):Pg1:=(f0 (f1 (f2 a) [k.l0,k.l1,k.l2,k.l3] true))
def times1R_T (f0:Fp6->Pg1) (f1:Fp6->List UInt64->Bool->Fp6) (f2:Pg1->Fp6) (a:Pg1) (k:Fr):Tree (Option (Pg1)) :=
 (.leaf (some (f0 (f1 (f2 a) [k.l0,k.l1,k.l2,k.l3] true))))
theorem times1R_run (f0:Fp6->Pg1) (f1:Fp6->List UInt64->Bool->Fp6) (f2:Pg1->Fp6) (a:Pg1) (k:Fr):plainRun (En [(44,K1 (kRow Fp6).arg (kRow Pg1).rs.res f0),(45,K3 kp6.arg aL kBool.arg kp6.rs.res f1),(46,K1 (kRow Pg1).arg (kRow Fp6).rs.res f2)]) (kRow Pg1).rs 300 Tryz.f36 [.one ((kRow Pg1).av a),.one ((kRow Fr).av k)]=times1R_T f0 f1 f2 a k:=by kernel_rfl
theorem times1R_sat (f0:Fp6->Pg1) (f1:Fp6->List UInt64->Bool->Fp6) (f2:Pg1->Fp6) (a:Pg1) (k:Fr):(times1R_T f0 f1 f2 a k).sat fun q=>q=some (times1R_G f0 f1 f2 a k):=(show some _=some _ from rfl)
def times1R (a:Pg1) (k:Fr):Pg1:=times1R_G to1R timesR of1R a k
theorem times1R_ok:CallOk Tryz.prog 36 (K2 (kRow Pg1).arg (kRow Fr).arg (kRow Pg1).rs.res times1R) :=
 P2 (En_ok (.cons to1R_ok (.cons timesR_ok (.cons of1R_ok .nil)))) Tryz.func36 (bodied Tryz.func36 (by kernel_rfl) (by kernel_rfl)) 300 (kRow Pg1) (kRow Fr) (kRow Pg1).rs times1R (times1R_run to1R timesR of1R) (times1R_sat to1R timesR of1R)
def times2R_G (f0:Fp6->Pg2) (f1:Fp6->List UInt64->Bool->Fp6) (f2:Pg2->Fp6) (a:Pg2) (k:Fr):Pg2:=(f0 (f1 (f2 a) [k.l0,k.l1,k.l2,k.l3] false))
def times2R_T (f0:Fp6->Pg2) (f1:Fp6->List UInt64->Bool->Fp6) (f2:Pg2->Fp6) (a:Pg2) (k:Fr):Tree (Option (Pg2)) :=
 (.leaf (some (f0 (f1 (f2 a) [k.l0,k.l1,k.l2,k.l3] false))))
theorem times2R_run (f0:Fp6->Pg2) (f1:Fp6->List UInt64->Bool->Fp6) (f2:Pg2->Fp6) (a:Pg2) (k:Fr):plainRun (En [(72,K1 (kRow Fp6).arg (kRow Pg2).rs.res f0),(45,K3 kp6.arg aL kBool.arg kp6.rs.res f1),(73,K1 (kRow Pg2).arg (kRow Fp6).rs.res f2)]) (kRow Pg2).rs 300 Tryz.f39 [.one ((kRow Pg2).av a),.one ((kRow Fr).av k)]=times2R_T f0 f1 f2 a k:=by kernel_rfl
theorem times2R_sat (f0:Fp6->Pg2) (f1:Fp6->List UInt64->Bool->Fp6) (f2:Pg2->Fp6) (a:Pg2) (k:Fr):(times2R_T f0 f1 f2 a k).sat fun q=>q=some (times2R_G f0 f1 f2 a k):=(show some _=some _ from rfl)
def times2R (a:Pg2) (k:Fr):Pg2:=times2R_G to2R timesR of2R a k
theorem times2R_ok:CallOk Tryz.prog 39 (K2 (kRow Pg2).arg (kRow Fr).arg (kRow Pg2).rs.res times2R) :=
 P2 (En_ok (.cons to2R_ok (.cons timesR_ok (.cons of2R_ok .nil)))) Tryz.func39 (bodied Tryz.func39 (by kernel_rfl) (by kernel_rfl)) 300 (kRow Pg2) (kRow Fr) (kRow Pg2).rs times2R (times2R_run to2R timesR of2R) (times2R_sat to2R timesR of2R)
end
section
theorem add5_G {K:Type} [Fld K] [Crv K] {f0:Fp2->Fp2->Bool->Fp2} {f1 f2:Fp2->Fp2->Fp2} {f3:Fp2->Bool->Fp2} {b:K} {small:Bool} (ok:Fp2->Prop) (v:Fp2->K)
  (hA : ∀ {x y},ok x->ok y->ok (f1 x y)/\v (f1 x y)=v x+v y) (hS : ∀ {x y},ok x->ok y->ok (f2 x y)/\v (f2 x y)=v x-v y) (hM : ∀ {x y},ok x->ok y->ok (f0 x y small)/\v (f0 x y small)=v x*v y) (hB : ∀ {x},ok x->ok (f3 x small)/\v (f3 x small)=3*b*v x)
  {s t:Fp6} (hs:ok s.c0/\ok s.c1/\ok s.c2) (ht:ok t.c0/\ok t.c1/\ok t.c2) :
  (ok (addS5_G f0 f1 f2 f3 s t small).c0/\ok (addS5_G f0 f1 f2 f3 s t small).c1/\ok (addS5_G f0 f1 f2 f3 s t small).c2) /\
  v (addS5_G f0 f1 f2 f3 s t small).c0=rx b (v s.c0) (v s.c1) (v s.c2) (v t.c0) (v t.c1) (v t.c2)/\v (addS5_G f0 f1 f2 f3 s t small).c1=ry b (v s.c0) (v s.c1) (v s.c2) (v t.c0) (v t.c1) (v t.c2)/\v (addS5_G f0 f1 f2 f3 s t small).c2=rz b (v s.c0) (v s.c1) (v s.c2) (v t.c0) (v t.c1) (v t.c2):=by
 obtain ⟨s0,s1,s2⟩:=hs
 obtain ⟨t0,t1,t2⟩:=ht
 have a0:=hM s0 t0
 have a1:=hM s1 t1
 have a2:=hM s2 t2
 have b3:=hM (hA s0 s1).1 (hA t0 t1).1
 have b4:=hM (hA s1 s2).1 (hA t1 t2).1
 have b5:=hM (hA s0 s2).1 (hA t0 t2).1
 have c3:=hS (hS b3.1 a0.1).1 a1.1
 have c4:=hS (hS b4.1 a1.1).1 a2.1
 have c5:=hS (hS b5.1 a0.1).1 a2.1
 have d0:=hA (hA a0.1 a0.1).1 a0.1
 have d2:=hB a2.1
 have dz:=hA a1.1 d2.1
 have d1:=hS a1.1 d2.1
 have dy:=hB c5.1
 have x1:=hM c3.1 d1.1
 have x2:=hM c4.1 dy.1
 have y1:=hM d1.1 dz.1
 have y2:=hM dy.1 d0.1
 have z1:=hM dz.1 c4.1
 have z2:=hM d0.1 c3.1
 have X:=hS x1.1 x2.1
 have Y:=hA y1.1 y2.1
 have Z:=hA z1.1 z2.1
 have e3:=c3.2
 rw [(hS b3.1 a0.1).2,b3.2,a0.2,a1.2,(hA s0 s1).2,(hA t0 t1).2] at e3
 have e4:=c4.2
 rw [(hS b4.1 a1.1).2,b4.2,a1.2,a2.2,(hA s1 s2).2,(hA t1 t2).2] at e4
 have e5:=c5.2
 rw [(hS b5.1 a0.1).2,b5.2,a0.2,a2.2,(hA s0 s2).2,(hA t0 t2).2] at e5
 have eX:=X.2
 rw [x1.2,x2.2,e3,e4,d1.2,dy.2,e5,d2.2,a1.2,a2.2] at eX
 have eY:=Y.2
 rw [y1.2,y2.2,d1.2,dz.2,dy.2,e5,d0.2,(hA a0.1 a0.1).2,d2.2,a0.2,a1.2,a2.2] at eY
 have eZ:=Z.2
 rw [z1.2,z2.2,dz.2,e4,d0.2,(hA a0.1 a0.1).2,d2.2,e3,a0.2,a1.2,a2.2] at eZ
 refine ⟨⟨X.1,Y.1,Z.1⟩,eX.trans ?_,eY.trans ?_,eZ.trans ?_⟩
 ·unfold rx;clear eX eY eZ e3 e4 e5;grind
 ·unfold ry;clear eX eY eZ e3 e4 e5;grind
 ·unfold rz;clear eX eY eZ e3 e4 e5;grind
def lowOk (x:Fp2):Prop:=x.c0.ok/\x.c1=zeroFp
def lowV (x:Fp2):V1:=x.c0.v
theorem zero_zero {f:Fp->Fp->Fp} (h:f zeroFp zeroFp=zeroFp) {x y:Fp2} (hx:x.c1=zeroFp) (hy:y.c1=zeroFp):f x.c1 y.c1=zeroFp:=by rw [hx,hy,h]
theorem addF_zz:addF zeroFp zeroFp=zeroFp:=Fp.v_inj (add_ok' zero_ok' zero_ok') zero_ok' (by rw [v_add zero_ok' zero_ok',v_zero];exact CR.add_zero _)
theorem subF_zz:subF zeroFp zeroFp=zeroFp:=Fp.v_inj (sub_ok' zero_ok' zero_ok') zero_ok' (by rw [v_sub zero_ok' zero_ok',v_zero];exact sub_of_eq rfl)
theorem lowMk2 {x y:Fp} {z:V1} (h:x.ok) (hy:y=zeroFp) (hv:x.v=z):lowOk ⟨x,y⟩/\lowV ⟨x,y⟩=z:=⟨⟨h,hy⟩,hv⟩
theorem low_add {x y:Fp2} (hx:lowOk x) (hy:lowOk y):lowOk (add2R x y)/\lowV (add2R x y)=lowV x+lowV y:=by
 rw [add2R_eq,addF2_eq]
 exact lowMk2 (add_ok' hx.1 hy.1) (zero_zero addF_zz hx.2 hy.2) (v_add hx.1 hy.1)
theorem low_sub {x y:Fp2} (hx:lowOk x) (hy:lowOk y):lowOk (sub2R x y)/\lowV (sub2R x y)=lowV x-lowV y:=by
 rw [sub2R_eq,subF2_eq]
 exact lowMk2 (sub_ok' hx.1 hy.1) (zero_zero subF_zz hx.2 hy.2) (v_sub hx.1 hy.1)
theorem mulS_true (f0:Fp->Fp->Fp) (f1:Fp2->Fp2->Fp2) (x y:Fp2):mulS_G f0 f1 x y true=⟨f0 x.c0 y.c0,zeroFp⟩:=rfl
theorem mulS_false (f0:Fp->Fp->Fp) (f1:Fp2->Fp2->Fp2) (x y:Fp2):mulS_G f0 f1 x y false=f1 x y:=rfl
theorem lowMk {x:Fp} (h:x.ok):lowOk ⟨x,zeroFp⟩/\lowV ⟨x,zeroFp⟩=x.v:=⟨⟨h,rfl⟩,rfl⟩
theorem low_mul {x y:Fp2} (hx:lowOk x) (hy:lowOk y):lowOk (mulS x y true)/\lowV (mulS x y true)=lowV x*lowV y:=by
 unfold mulS
 rw [mulS_true,mulPF_eq hx.1 hy.1,<- show (mulF x.c0 y.c0).v=lowV x*lowV y from v_mul hx.1 hy.1]
 exact lowMk (mul_ok' hx.1)
theorem b3_true (f0 f1:Fp2->Fp2->Fp2) (f2 x:Fp2):b3R_G f0 f1 f2 x true=f0 (f0 (f0 (f0 x x) (f0 x x)) (f0 (f0 x x) (f0 x x))) (f0 (f0 x x) (f0 x x)):=rfl
theorem b3_false (f0 f1:Fp2->Fp2->Fp2) (f2 x:Fp2):b3R_G f0 f1 f2 x false=f1 (f0 (f0 (f0 (f0 x x) (f0 x x)) (f0 (f0 x x) (f0 x x))) (f0 (f0 x x) (f0 x x))) f2:=rfl
theorem twelve_v {K:Type} [CR K] (x:K):x+x+(x+x)+(x+x+(x+x))+(x+x+(x+x))=3*4*x:=by grind
theorem low_b3 {x:Fp2} (hx:lowOk x):lowOk (b3R x true)/\lowV (b3R x true)=3*Crv.b*lowV x:=by
 unfold b3R
 rw [b3_true]
 have h2:=low_add hx hx
 have h4:=low_add h2.1 h2.1
 have h8:=low_add h4.1 h4.1
 have h12:=low_add h8.1 h4.1
 refine ⟨h12.1,?_⟩
 rw [h12.2,h8.2,h4.2,h2.2]
 exact twelve_v _
def low3 (s:Fp6):Prop:=lowOk s.c0/\lowOk s.c1/\lowOk s.c2
def relR1 (s:Fp6) (p:Pt V1):Prop:=low3 s/\Pj (lowV s.c0) (lowV s.c1) (lowV s.c2) p
theorem add5_rel1 {s t:Fp6} {p q:Pt V1} (hp:p.on) (hq:q.on) (hs:relR1 s p) (ht:relR1 t q):relR1 (addS5 s t true) (p.add q):=by
 unfold addS5
 obtain ⟨h1,h2,h3,h4⟩:=add5_G (b:=(Crv.b:V1)) lowOk lowV low_add low_sub low_mul low_b3 hs.1 ht.1
 refine ⟨h1,?_⟩
 rw [h2,h3,h4]
 exact sum_all hp hq hs.2 ht.2
theorem relR1_mk {a b c:Fp2} {p:Pt V1} (ha:lowOk a) (hb:lowOk b) (hc:lowOk c) (h:Pj (lowV a) (lowV b) (lowV c) p):relR1 ⟨a,b,c⟩ p:=⟨⟨ha,hb,hc⟩,h⟩
theorem none5_eq:none5=⟨zeroFp2,oneFp2,zeroFp2⟩:=by
 unfold none5
 rw [one2R_eq]
 rfl
theorem zero_low:lowOk zeroFp2/\lowV zeroFp2=0:=⟨⟨zero_ok',rfl⟩,v_zero⟩
theorem one_low:lowOk oneFp2/\lowV oneFp2=1:=⟨⟨one_ok',rfl⟩,v_one⟩
theorem none_rel1:relR1 none5 .inf:=by
 rw [none5_eq]
 refine relR1_mk zero_low.1 one_low.1 zero_low.1 ?_
 rw [zero_low.2,one_low.2]
 exact ⟨rfl,rfl,one_ne'⟩
theorem of1_inf {f0:Fp6} {f1:Fp2} {a:Pg1} (h:a.inf=true):of1R_G f0 f1 a=f0:=by unfold of1R_G;rw [h]
theorem of1_aff {f0:Fp6} {f1:Fp2} {a:Pg1} (h:a.inf=false):of1R_G f0 f1 a=⟨⟨a.x,zeroFp⟩,⟨a.y,zeroFp⟩,f1⟩:=by unfold of1R_G;rw [h]
theorem of1_rel {a:Pg1} (ha:a.good):relR1 (of1R a) a.pt:=by
 unfold of1R
 cases hi:a.inf with
 | true=>rw [of1_inf hi,pt1_inf hi];exact none_rel1
 | false =>
  obtain ⟨hx,hy⟩:=ok_aff1 ha.1 hi
  rw [of1_aff hi,pt1_aff hi,one2R_eq]
  refine relR1_mk (lowMk hx).1 (lowMk hy).1 one_low.1 ?_
  rw [(lowMk hx).2,(lowMk hy).2,one_low.2]
  exact ⟨one_ne',(CR.mul_one _).symm,(CR.mul_one _).symm⟩
theorem to1_no {f0:Fp->Fp × Int} {f1:Fp->Fp->Fp} {s:Fp6} (h:(f0 s.c2.c0).2=7):to1R_G f0 f1 s=infG1:=by
 unfold to1R_G
 rw [h]
 rfl
theorem to1_yes {f0:Fp->Fp × Int} {f1:Fp->Fp->Fp} {s:Fp6} (h:(f0 s.c2.c0).2=0):to1R_G f0 f1 s=⟨f1 s.c0.c0 (f0 s.c2.c0).1,f1 s.c1.c0 (f0 s.c2.c0).1,false⟩:=by
 unfold to1R_G
 rw [h]
 rfl
theorem pj_div {K:Type} [Fld K] {x z:K} (hz:z ≠ 0):x*z*Fld.inv z=x:=by
 have:=mul_inv' hz
 grind
theorem to1_rel {s:Fp6} {p:Pt V1} (hp:p.on) (h:relR1 s p):(to1R s).good/\(to1R s).pt=p:=by
 obtain ⟨⟨h0,h1,h2⟩,hj⟩:=h
 obtain ⟨i1,i2⟩:=inv_v h2.1
 have ei:=invPF_eq h2.1
 unfold to1R
 cases p with
 | inf =>
  rw [to1_no (by rw [ei];exact i1 hj.2.1)]
  exact ⟨good_inf1,rfl⟩
 | aff x y =>
  obtain ⟨hz,e1,e2⟩:=hj
  obtain ⟨j1,j2,j3⟩:=i2 hz
  rw [to1_yes (by rw [ei];exact j1),ei,mulPF_eq h0.1 j2,mulPF_eq h1.1 j2]
  refine good1_mk (mul_ok' h0.1) (mul_ok' h1.1) ?_ ?_ hp
  ·rw [v_mul h0.1 j2,j3,show s.c0.c0.v=x*s.c2.c0.v from e1]
   exact pj_div hz
  ·rw [v_mul h1.1 j2,j3,show s.c1.c0.v=y*s.c2.c0.v from e2]
   exact pj_div hz
theorem times_rel1 {s:Fp6} {p:Pt V1} (hp:p.on) (h:relR1 s p) (e:List UInt64):relR1 (timesR s e true) (p.mul (valL e)) :=
 dblG_all relR1 hp (fun hq h=>add5_rel1 hq hq h h) (fun hq k=>add5_rel1 hq hp k h) e none_rel1
theorem big_mul {x y:Fp2} (hx:x.ok) (hy:y.ok):(mulS x y false).ok/\(mulS x y false).v=x.v*y.v:=by
 unfold mulS
 rw [mulS_false,mul2R_eq hx hy]
 exact ⟨mul_ok2 hx hy,v_mul2 hx hy⟩
theorem big_add {x y:Fp2} (hx:x.ok) (hy:y.ok):(add2R x y).ok/\(add2R x y).v=x.v+y.v:=by rw [add2R_eq];exact ⟨add_ok2 hx hy,v_add2 hx hy⟩
theorem big_sub {x y:Fp2} (hx:x.ok) (hy:y.ok):(sub2R x y).ok/\(sub2R x y).v=x.v-y.v:=by rw [sub2R_eq];exact ⟨sub_ok2 hx hy,v_sub2 hx hy⟩
theorem bb2_xi:bb2=4*xi:=Qd.ext'
 (by rw [V2.mul_a,xi_a,xi_b];show (4:V1)=4*1-0*1;grind)
 (by rw [V2.mul_b,xi_a,xi_b];show (4:V1)=4*1+0*1;grind)
theorem b3_xi (x k b:V2) (h:b=4*k):3*4*x*k=3*b*x:=by rw [h];grind
theorem big_b3 {x:Fp2} (hx:x.ok):(b3R x false).ok/\(b3R x false).v=3*Crv.b*x.v:=by
 unfold b3R
 rw [b3_false]
 have h2:=big_add hx hx
 have h4:=big_add h2.1 h2.1
 have h8:=big_add h4.1 h4.1
 have h12:=big_add h8.1 h4.1
 rw [mul2R_eq h12.1 xi_ok2]
 refine ⟨mul_ok2 h12.1 xi_ok2,?_⟩
 rw [v_mul2 h12.1 xi_ok2,h12.2,h8.2,h4.2,h2.2,twelve_v,v_xi2]
 exact b3_xi _ _ _ bb2_xi
def big3 (s:Fp6):Prop:=s.c0.ok/\s.c1.ok/\s.c2.ok
def relR2 (s:Fp6) (p:Pt V2):Prop:=big3 s/\Pj s.c0.v s.c1.v s.c2.v p
theorem add5_rel2 {s t:Fp6} {p q:Pt V2} (hp:p.on) (hq:q.on) (hs:relR2 s p) (ht:relR2 t q):relR2 (addS5 s t false) (p.add q):=by
 unfold addS5
 obtain ⟨h1,h2,h3,h4⟩:=add5_G (b:=(Crv.b:V2)) Fp2.ok Fp2.v big_add big_sub big_mul big_b3 hs.1 ht.1
 refine ⟨h1,?_⟩
 rw [h2,h3,h4]
 exact sum_all hp hq hs.2 ht.2
theorem relR2_mk {a b c:Fp2} {p:Pt V2} (ha:a.ok) (hb:b.ok) (hc:c.ok) (h:Pj a.v b.v c.v p):relR2 ⟨a,b,c⟩ p:=⟨⟨ha,hb,hc⟩,h⟩
theorem none_rel2:relR2 none5 .inf:=by
 rw [none5_eq]
 refine relR2_mk zero_ok2 one_ok2 zero_ok2 ?_
 rw [v_zero2,v_one2]
 exact ⟨rfl,rfl,one_ne'⟩
theorem of2_inf {f0:Fp6} {f1:Fp2} {a:Pg2} (h:a.inf=true):of2R_G f0 f1 a=f0:=by unfold of2R_G;rw [h]
theorem of2_aff {f0:Fp6} {f1:Fp2} {a:Pg2} (h:a.inf=false):of2R_G f0 f1 a=⟨a.x,a.y,f1⟩:=by unfold of2R_G;rw [h]
theorem of2_rel {a:Pg2} (ha:a.good):relR2 (of2R a) a.pt:=by
 unfold of2R
 cases hi:a.inf with
 | true=>rw [of2_inf hi,pt2_inf hi];exact none_rel2
 | false =>
  obtain ⟨hx,hy⟩:=ok_aff2 ha.1 hi
  rw [of2_aff hi,pt2_aff hi,one2R_eq]
  refine relR2_mk hx hy one_ok2 ?_
  rw [v_one2]
  exact ⟨one_ne',(CR.mul_one _).symm,(CR.mul_one _).symm⟩
theorem to2_no {f0:Fp2->Fp2 × Int} {f1:Fp2->Fp2->Fp2} {s:Fp6} (h:(f0 s.c2).2=7):to2R_G f0 f1 s=infG2:=by
 unfold to2R_G
 rw [h]
 rfl
theorem to2_yes {f0:Fp2->Fp2 × Int} {f1:Fp2->Fp2->Fp2} {s:Fp6} (h:(f0 s.c2).2=0):to2R_G f0 f1 s=⟨f1 s.c0 (f0 s.c2).1,f1 s.c1 (f0 s.c2).1,false⟩:=by
 unfold to2R_G
 rw [h]
 rfl
theorem to2_rel {s:Fp6} {p:Pt V2} (hp:p.on) (h:relR2 s p):(to2R s).good/\(to2R s).pt=p:=by
 obtain ⟨⟨h0,h1,h2⟩,hj⟩:=h
 obtain ⟨i1,i2⟩:=inv_v2' h2
 have ei:=inv2R_eq h2
 unfold to2R
 cases p with
 | inf =>
  rw [to2_no (by rw [ei];exact i1 hj.2.1)]
  exact ⟨good_inf2,rfl⟩
 | aff x y =>
  obtain ⟨hz,e1,e2⟩:=hj
  obtain ⟨j1,j2,j3⟩:=i2 hz
  rw [to2_yes (by rw [ei];exact j1),ei,mul2R_eq h0 j2,mul2R_eq h1 j2]
  refine good2_mk (mul_ok2 h0 j2) (mul_ok2 h1 j2) ?_ ?_ hp
  ·rw [v_mul2 h0 j2,j3,e1]
   exact pj_div hz
  ·rw [v_mul2 h1 j2,j3,e2]
   exact pj_div hz
theorem times_rel2 {s:Fp6} {p:Pt V2} (hp:p.on) (h:relR2 s p) (e:List UInt64):relR2 (timesR s e false) (p.mul (valL e)) :=
 dblG_all relR2 hp (fun hq h=>add5_rel2 hq hq h h) (fun hq k=>add5_rel2 hq hp k h) e none_rel2
theorem list4_val (k:Fr):valL k.list=k.nat:=by
 show valAt [k.l0,k.l1,k.l2,k.l3] 4=_
 unfold Fr.nat
 simp only [valAt,atF,List.getD_eq_getElem?_getD,List.getElem?_cons_zero,List.getElem?_cons_succ,Option.getD_some,W64]
 omega
theorem times1_pt {s:Sp1} {p:Pt V1} (hp:p.on) (h:rel1 s p) (e:List UInt64):rel1 (timesG1 s e) (p.mul (valL e)) :=
 dblG_all rel1 hp (fun hq h=>twice1_rel hq h) (fun hq k=>plus1_rel hq hp k h) e rel1_inf
theorem times2_pt {s:Fp6} {p:Pt V2} (hp:p.on) (h:rel2 s p) (e:List UInt64):rel2 (timesG2 s e) (p.mul (valL e)) :=
 dblG_all rel2 hp (fun hq h=>twice2_rel hq h) (fun hq k=>plus2_rel hq hp k h) e rel2_inf
theorem mulG1_def (f0:Sp1->Pg1) (f1:Sp1->List UInt64->Sp1) (f2:Pg1->Sp1) (a:Pg1) (k:Fr):mulG1_G f0 f1 f2 a k=f0 (f1 (f2 a) k.list):=rfl
theorem mulG2_def (f0:Fp6->Pg2) (f1:Fp6->List UInt64->Fp6) (f2:Pg2->Fp6) (a:Pg2) (k:Fr):mulG2_G f0 f1 f2 a k=f0 (f1 (f2 a) k.list):=rfl
theorem mul1_pt {a:Pg1} (ha:a.good) (k:Fr):(mulG1 a k).good/\(mulG1 a k).pt=a.pt.mul k.nat:=by
 unfold mulG1
 rw [mulG1_def,<- list4_val]
 exact lays1_rel (mul_on ha.2 _) (times1_pt ha.2 (lift1_rel ha) _)
theorem mul2_pt {a:Pg2} (ha:a.good) (k:Fr):(mulG2 a k).good/\(mulG2 a k).pt=a.pt.mul k.nat:=by
 unfold mulG2
 rw [mulG2_def,<- list4_val]
 exact lays2_rel (mul_on ha.2 _) (times2_pt ha.2 (lift2_rel ha) _)
theorem times1R_def (f0:Fp6->Pg1) (f1:Fp6->List UInt64->Bool->Fp6) (f2:Pg1->Fp6) (a:Pg1) (k:Fr):times1R_G f0 f1 f2 a k=f0 (f1 (f2 a) k.list true):=rfl
theorem times2R_def (f0:Fp6->Pg2) (f1:Fp6->List UInt64->Bool->Fp6) (f2:Pg2->Fp6) (a:Pg2) (k:Fr):times2R_G f0 f1 f2 a k=f0 (f1 (f2 a) k.list false):=rfl
theorem times1R_pt {a:Pg1} (ha:a.good) (k:Fr):(times1R a k).good/\(times1R a k).pt=a.pt.mul k.nat:=by
 unfold times1R
 rw [times1R_def,<- list4_val]
 exact to1_rel (mul_on ha.2 _) (times_rel1 ha.2 (of1_rel ha) _)
theorem times2R_pt {a:Pg2} (ha:a.good) (k:Fr):(times2R a k).good/\(times2R a k).pt=a.pt.mul k.nat:=by
 unfold times2R
 rw [times2R_def,<- list4_val]
 exact to2_rel (mul_on ha.2 _) (times_rel2 ha.2 (of2_rel ha) _)
end
section
def force {α:Type} (n:Nat) (k:Nat->α):α:=match n with
 | 0=>k 0
 | m+1=>k (m+1)
theorem force_eq {α:Type} (n:Nat) (k:Nat->α):force n k=k n:=by cases n <;> rfl
def fcV1 {α:Type} (a:V1) (k:V1->α):α:=force a.nat fun n=>k (V1.of n)
theorem fcV1_eq {α:Type} (a:V1) (k:V1->α):fcV1 a k=k a:=by unfold fcV1;rw [force_eq,V1.of_nat]
def fcV2 {α:Type} (a:V2) (k:V2->α):α:=force a.a.nat fun n=>force a.b.nat fun m=>k ⟨V1.of n,V1.of m⟩
theorem fcV2_eq {α:Type} (a:V2) (k:V2->α):fcV2 a k=k a:=by unfold fcV2;rw [force_eq,force_eq,V1.of_nat,V1.of_nat]
def goP {K:Type} [Fld K] [Crv K] (fc:K->(K->K × K × K)->K × K × K) (b gx gy:K) (e:List UInt64):Nat->K->K->K->K × K × K
 | 0,X,Y,Z=>(X,Y,Z)
 | n+1,X,Y,Z=>fc (rx b X Y Z X Y Z) fun X'=>fc (ry b X Y Z X Y Z) fun Y'=>fc (rz b X Y Z X Y Z) fun Z'=>match bitAt e n with
  | true=>fc (rx b X' Y' Z' gx gy 1) fun X''=>fc (ry b X' Y' Z' gx gy 1) fun Y''=>fc (rz b X' Y' Z' gx gy 1) fun Z''=>goP fc b gx gy e n X'' Y'' Z''
  | false=>goP fc b gx gy e n X' Y' Z'
theorem goP_eq {K:Type} [Fld K] [Crv K] {fc:K->(K->K × K × K)->K × K × K} (h : ∀ a k,fc a k=k a) (b gx gy:K) (e:List UInt64) : ∀ (n:Nat) (X Y Z:K),
  goP fc b gx gy e n X Y Z=dblG (fun s=>(rx b s.1 s.2.1 s.2.2 s.1 s.2.1 s.2.2,ry b s.1 s.2.1 s.2.2 s.1 s.2.1 s.2.2,rz b s.1 s.2.1 s.2.2 s.1 s.2.1 s.2.2)) (fun s=>(rx b s.1 s.2.1 s.2.2 gx gy 1,ry b s.1 s.2.1 s.2.2 gx gy 1,rz b s.1 s.2.1 s.2.2 gx gy 1)) e n (X,Y,Z)
 | 0,X,Y,Z=>rfl
 | n+1,X,Y,Z=>by
  simp only [goP,h,dblG]
  cases bitAt e n with
  | true=>exact goP_eq h b gx gy e n _ _ _
  | false=>exact goP_eq h b gx gy e n _ _ _
theorem order_of {K:Type} [Fld K] [Crv K] {fc:K->(K->K × K × K)->K × K × K} (h : ∀ a k,fc a k=k a) {gx gy:K} (hg:(Pt.aff gx gy).on) (e:List UInt64) (hz:(goP fc Crv.b gx gy e (64*e.length) 0 1 0).2.2=0):(Pt.aff gx gy).mul (valL e) = .inf:=by
 rw [goP_eq h] at hz
 have key:=dblG_all (fun (s:K × K × K) p=>Pj s.1 s.2.1 s.2.2 p) (p:=Pt.aff gx gy) hg (tw:=fun s=>(rx Crv.b s.1 s.2.1 s.2.2 s.1 s.2.1 s.2.2,ry Crv.b s.1 s.2.1 s.2.2 s.1 s.2.1 s.2.2,rz Crv.b s.1 s.2.1 s.2.2 s.1 s.2.1 s.2.2)) (pl:=fun s=>(rx Crv.b s.1 s.2.1 s.2.2 gx gy 1,ry Crv.b s.1 s.2.1 s.2.2 gx gy 1,rz Crv.b s.1 s.2.1 s.2.2 gx gy 1))
  (fun hq k=>sum_all hq hq k k) (fun hq k=>sum_all hq hg k ⟨one_ne',(CR.mul_one _).symm,(CR.mul_one _).symm⟩) e (o:=((0:K),(1:K),(0:K))) ⟨rfl,rfl,one_ne'⟩
 generalize (Pt.aff gx gy).mul (valL e)=p at *
 cases p with
 | inf=>rfl
 | aff x y=>exact absurd hz key.1
theorem gen1_ok:oneG1.x.ok/\oneG1.y.ok:=⟨by unfold Fp.ok;decide +kernel,by unfold Fp.ok;decide +kernel⟩
theorem gen1_aff:oneG1.inf=false:=rfl
theorem gen1_on:(Pt.aff oneG1.x.v oneG1.y.v).on:=V1.ext (by
 show (oneG1.y.v*oneG1.y.v).nat=(oneG1.x.v*oneG1.x.v*oneG1.x.v+(4:V1)).nat
 rw [V1.nat_mul,V1.nat_add,V1.nat_mul,V1.nat_mul,Fp.v_nat gen1_ok.1,Fp.v_nat gen1_ok.2]
 decide +kernel)
theorem gen1_good:oneG1.good:=⟨.inr ⟨gen1_aff,gen1_ok⟩,gen1_on⟩
theorem gen1_pt:oneG1.pt = .aff oneG1.x.v oneG1.y.v:=pt1_aff gen1_aff
theorem rLimbs_val:valL rLimbs.list=qN:=by rw [list4_val,rLimbs_nat]
theorem gen1_order:oneG1.pt.mul qN = .inf:=by
 rw [<- rLimbs_val,gen1_pt]
 exact order_of (fc:=fcV1) fcV1_eq gen1_on rLimbs.list (V1.ext (by decide +kernel))
theorem gen2_ok:oneG2.x.ok/\oneG2.y.ok:=⟨⟨by unfold Fp.ok;decide +kernel,by unfold Fp.ok;decide +kernel⟩,⟨by unfold Fp.ok;decide +kernel,by unfold Fp.ok;decide +kernel⟩⟩
theorem gen2_aff:oneG2.inf=false:=rfl
theorem V2.ext_nat {x y:V2} (h:x.a.nat=y.a.nat) (g:x.b.nat=y.b.nat):x=y:=Qd.ext' (V1.ext h) (V1.ext g)
theorem gen2_on:(Pt.aff oneG2.x.v oneG2.y.v).on:=V2.ext_nat (by
 show ((oneG2.y.v*oneG2.y.v).a).nat=(oneG2.x.v*oneG2.x.v*oneG2.x.v+bb2).a.nat
 decide +kernel) (by
 show ((oneG2.y.v*oneG2.y.v).b).nat=(oneG2.x.v*oneG2.x.v*oneG2.x.v+bb2).b.nat
 decide +kernel)
theorem gen2_good:oneG2.good:=⟨.inr ⟨gen2_aff,gen2_ok⟩,gen2_on⟩
theorem gen2_pt:oneG2.pt = .aff oneG2.x.v oneG2.y.v:=pt2_aff gen2_aff
theorem gen2_order:oneG2.pt.mul qN = .inf:=by
 rw [<- rLimbs_val,gen2_pt]
 exact order_of (fc:=fcV2) fcV2_eq gen2_on rLimbs.list (V2.ext_nat (by decide +kernel) (by decide +kernel))
end
end Go.Proofs.YtcbplfkeeaecgaaGreat
namespace Go.Proofs.YtcbplfkeeaecgaaGreat
theorem mul_gcd {K:Type} [Fld K] [Crv K] {p:Pt K} (hp:p.on) : ∀ m n:Nat,p.mul m = .inf->p.mul n = .inf->p.mul (Nat.gcd m n) = .inf:=by
 intro m n
 induction m,n using Nat.gcd.induction with
 | H0 n=>intro _ h;rw [Nat.gcd_zero_left];exact h
 | H1 m n hm ih =>
  intro h1 h2
  rw [Nat.gcd_rec]
  refine ih ?_ h1
  rw [mul_mod_pt hp h1]
  exact h2
theorem mul_ne_inf {K:Type} [Fld K] [Crv K] {p:Pt K} (hp:p.on) (h0:p ≠ .inf) (hq:p.mul qN = .inf) {k:Nat} (hk:0<k) (hk2:k<qN):p.mul k ≠ .inf:=fun h=>by
 have hg:=mul_gcd hp qN k hq h
 have h1:Nat.gcd qN k=1:=prime_qN.coprime fun hd=>by
  have:=Nat.le_of_dvd hk hd
  omega
 rw [h1,mul_one_pt] at hg
 exact h0 hg
theorem gen1_ne:oneG1.pt ≠ .inf:=by rw [gen1_pt];exact fun h=>by cases h
end Go.Proofs.YtcbplfkeeaecgaaGreat
