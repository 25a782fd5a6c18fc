/- Texts of the proof, joined. -/
import Derived.Test.YtgpafcehehaiiaaGreatZH5
set_option linter.unusedSectionVars false
set_option linter.unusedSimpArgs false
set_option linter.unusedVariables false
namespace Go.Proofs.YtgpafcehehaiiaaGreat
def W64:Nat:=18446744073709551616
def pN:Nat:=0x1a0111ea397fe69a4b1ba7b6434bacd764774b84f38512bf6730d2a0f6b0f6241eabfffeb153ffffb9feffffffffaaab
def rN:Nat:=0x1000000000000000000000000000000000000000000000000000000000000000000000000000000000000000000000000
def Fp.nat (a:Fp):Nat:=a.l0.toNat+W64*(a.l1.toNat+W64*(a.l2.toNat+W64*(a.l3.toNat+W64*(a.l4.toNat+W64*a.l5.toNat))))
theorem Fp.nat_lt (a:Fp):a.nat<rN:=by
 have h0:=a.l0.toNat_lt
 have h1:=a.l1.toNat_lt
 have h2:=a.l2.toNat_lt
 have h3:=a.l3.toNat_lt
 have h4:=a.l4.toNat_lt
 have h5:=a.l5.toNat_lt
 unfold Fp.nat rN W64
 omega
theorem Fp.nat_inj {a b:Fp} (h:a.nat=b.nat):a=b:=by
 have h0:=a.l0.toNat_lt
 have h1:=a.l1.toNat_lt
 have h2:=a.l2.toNat_lt
 have h3:=a.l3.toNat_lt
 have h4:=a.l4.toNat_lt
 have h5:=a.l5.toNat_lt
 have k0:=b.l0.toNat_lt
 have k1:=b.l1.toNat_lt
 have k2:=b.l2.toNat_lt
 have k3:=b.l3.toNat_lt
 have k4:=b.l4.toNat_lt
 have k5:=b.l5.toNat_lt
 unfold Fp.nat W64 at h
 obtain ⟨a0,a1,a2,a3,a4,a5⟩:=a
 obtain ⟨b0,b1,b2,b3,b4,b5⟩:=b
 simp only [] at *
 have e0:a0=b0:=UInt64.toNat.inj (by omega)
 have e1:a1=b1:=UInt64.toNat.inj (by omega)
 have e2:a2=b2:=UInt64.toNat.inj (by omega)
 have e3:a3=b3:=UInt64.toNat.inj (by omega)
 have e4:a4=b4:=UInt64.toNat.inj (by omega)
 have e5:a5=b5:=UInt64.toNat.inj (by omega)
 rw [e0,e1,e2,e3,e4,e5]
theorem pLimbs_nat:pLimbs.nat=pN:=by decide +kernel
theorem add_step (x y:UInt64) (c:Bool):(addS x y c).toNat+W64*(addC x y c).toNat=x.toNat+y.toNat+c.toNat:=by
 rw [addS_nat,addC_nat]
 unfold W64
 omega
theorem subB_nat (x y:UInt64) (c:Bool):(subB x y c).toNat=if x.toNat<y.toNat+c.toNat then 1 else 0:=by
 rw [subB_iff]
 by_cases h:x.toNat<y.toNat+c.toNat <;> simp [h]
theorem sub_step (x y:UInt64) (c:Bool):(subS x y c).toNat+y.toNat+c.toNat=x.toNat+W64*(subB x y c).toNat:=by
 have hx:=x.toNat_lt
 have hy:=y.toNat_lt
 have hc:c.toNat<=1:=by cases c <;> simp
 rw [subS_nat,subB_nat]
 unfold W64
 split <;> omega
theorem addT_nat (a b:Fp):(addT a b).1.nat+rN*(addT a b).2.toNat=a.nat+b.nat:=by
 unfold addT
 simp only []
 have s0:=add_step a.l0 b.l0 false
 generalize addC a.l0 b.l0 false=c0 at *
 have s1:=add_step a.l1 b.l1 c0
 generalize addC a.l1 b.l1 c0=c1 at *
 have s2:=add_step a.l2 b.l2 c1
 generalize addC a.l2 b.l2 c1=c2 at *
 have s3:=add_step a.l3 b.l3 c2
 generalize addC a.l3 b.l3 c2=c3 at *
 have s4:=add_step a.l4 b.l4 c3
 generalize addC a.l4 b.l4 c3=c4 at *
 have s5:=add_step a.l5 b.l5 c4
 generalize addC a.l5 b.l5 c4=c5 at *
 unfold Fp.nat rN W64 at *
 simp only [Bool.toNat_false] at *
 omega
theorem subT_nat (a b:Fp):(subT a b).1.nat+b.nat=a.nat+rN*(subT a b).2.toNat:=by
 unfold subT
 simp only []
 have s0:=sub_step a.l0 b.l0 false
 generalize subB a.l0 b.l0 false=c0 at *
 have s1:=sub_step a.l1 b.l1 c0
 generalize subB a.l1 b.l1 c0=c1 at *
 have s2:=sub_step a.l2 b.l2 c1
 generalize subB a.l2 b.l2 c1=c2 at *
 have s3:=sub_step a.l3 b.l3 c2
 generalize subB a.l3 b.l3 c2=c3 at *
 have s4:=sub_step a.l4 b.l4 c3
 generalize subB a.l4 b.l4 c3=c4 at *
 have s5:=sub_step a.l5 b.l5 c4
 generalize subB a.l5 b.l5 c4=c5 at *
 unfold Fp.nat rN W64 at *
 simp only [Bool.toNat_false] at *
 omega
theorem lessT_eq (a:Fp):lessT a=subT a pLimbs:=rfl
theorem lessF_nat (a:Fp) (o:UInt64) (ho:o.toNat<=1) (h:a.nat+rN*o.toNat<2*pN):(lessF a o).nat=(a.nat+rN*o.toNat) % pN:=by
 have h1:=subT_nat a pLimbs
 rw [pLimbs_nat] at h1
 have h2:=(subT a pLimbs).1.nat_lt
 have h3:=a.nat_lt
 have hb:(subT a pLimbs).2.toNat<=1:=by cases (subT a pLimbs).2 <;> simp
 have hd:decide (o<b2u (lessT a).2)=decide (o.toNat<(subT a pLimbs).2.toNat):=by
  rw [lessT_eq]
  refine decide_eq_decide.2 ?_
  rw [UInt64.lt_iff_toNat_lt,b2u_nat]
 unfold lessF
 rw [hd,lessT_eq]
 have hp:pN<rN:=by decide +kernel
 have hp0:0<pN:=by decide +kernel
 by_cases hc:o.toNat<(subT a pLimbs).2.toNat
 ·simp only [hc,decide_true]
  have e0:o.toNat=0:=by omega
  have e1:(subT a pLimbs).2.toNat=1:=by omega
  rw [e0] at h ⊢
  rw [e1] at h1
  rw [Nat.mod_eq_of_lt (by omega)]
  omega
 ·simp only [hc,decide_false]
  have e2:(subT a pLimbs).1.nat+pN=a.nat+rN*o.toNat:=by
   rcases Nat.lt_or_ge (subT a pLimbs).2.toNat o.toNat with hl | hl
   ·have e0:o.toNat=1:=by omega
    have e1:(subT a pLimbs).2.toNat=0:=by omega
    rw [e1] at h1
    rw [e0] at h ⊢
    omega
   ·have e1:(subT a pLimbs).2.toNat=o.toNat:=by omega
    rw [e1] at h1
    exact h1
  rw [<- e2,Nat.add_mod_right,Nat.mod_eq_of_lt (by omega)]
theorem addF_nat {a b:Fp} (ha:a.nat<pN) (hb:b.nat<pN):(addF a b).nat=(a.nat+b.nat) % pN:=by
 unfold addF
 have h:=addT_nat a b
 rw [lessF_nat _ _ (by rw [b2u_nat];cases (addT a b).2 <;> simp) (by rw [b2u_nat,h];omega),b2u_nat,h]
theorem subF_nat {a b:Fp} (ha:a.nat<pN) (hb:b.nat<pN):(subF a b).nat=(a.nat+pN-b.nat) % pN:=by
 have h1:=subT_nat a b
 have h2:=(subT a b).1.nat_lt
 have hp:pN<rN:=by decide +kernel
 have hd:decide (b2u (subT a b).2=0)=decide ((subT a b).2.toNat=0):=by
  refine decide_eq_decide.2 ⟨fun h=>by rw [<- b2u_nat,h];rfl,fun h=>UInt64.toNat.inj (by rw [b2u_nat,h];rfl)⟩
 unfold subF
 rw [hd]
 by_cases hc:(subT a b).2.toNat=0
 ·simp only [hc,decide_true]
  rw [hc] at h1
  rw [show a.nat+pN-b.nat=(subT a b).1.nat+pN by omega,Nat.add_mod_right,Nat.mod_eq_of_lt (by omega)]
 ·simp only [hc,decide_false]
  have e1:(subT a b).2.toNat=1:=by cases h:(subT a b).2 <;> simp [h] at hc ⊢
  rw [e1] at h1
  have h3:=addT_nat (subT a b).1 pLimbs
  rw [pLimbs_nat] at h3
  have h4:=(addT (subT a b).1 pLimbs).1.nat_lt
  have e2:(addT (subT a b).1 pLimbs).2.toNat=1:=by
   cases h:(addT (subT a b).1 pLimbs).2 with
   | true=>rfl
   | false=>rw [h] at h3;simp only [Bool.toNat_false] at h3;omega
  rw [e2] at h3
  rw [Nat.mod_eq_of_lt (by omega)]
  omega
end Go.Proofs.YtgpafcehehaiiaaGreat
namespace Go.Proofs.YtgpafcehehaiiaaGreat
def L7.nat (t:L7):Nat:=t.t0.toNat+W64*(t.t1.toNat+W64*(t.t2.toNat+W64*(t.t3.toNat+W64*(t.t4.toNat+W64*(t.t5.toNat+W64*t.t6.toNat)))))
theorem L7.nat_low (t:L7):t.nat=t.low.nat+rN*t.t6.toNat:=by
 unfold L7.nat L7.low Fp.nat rN W64
 simp only []
 omega
theorem zip0 (y t U:Nat):y+t+W64*U=(t+W64*U)+y:=by omega
theorem zipS {y t U T Y:Nat} (h:U=T+Y):y+t+W64*U=(t+W64*T)+(y+W64*Y):=by
 subst h
 unfold W64
 omega
theorem zipE {A d T Y t y:Nat} (h:A=T+Y) (q:d*W64=y+t):(A+d)*W64=(t+W64*T)+(y+W64*Y):=by
 rw [h,Nat.add_mul,q,Nat.add_mul,Nat.mul_comm T,Nat.mul_comm Y]
 omega
theorem mac_w (x y t c:UInt64):(macH x y t c).toNat*W64+(macL x y t c).toNat=x.toNat*y.toNat+t.toNat+c.toNat:=mac_nat x y t c
theorem limb_step {m d y t c R U:Nat} (q:d*W64+m=y+t+c) (h:R=U+d):m+W64*R=(y+t+W64*U)+c:=by
 subst h
 unfold W64 at *
 omega
theorem low_step (t:UInt64):(mulHi (t*pInv) pLimbs.l0+b2u (addC (t*pInv*pLimbs.l0) t false)).toNat*W64=(t*pInv).toNat*pLimbs.l0.toNat+t.toNat:=by
 generalize hx:t*pInv=x
 have hx':x.toNat=t.toNat*9940570264628428797 % 18446744073709551616:=by rw [<- hx,UInt64.toNat_mul];rfl
 have hp:pLimbs.l0.toNat=13402431016077863595:=rfl
 have ht:=t.toNat_lt
 have hlt:=x.toNat_lt
 rw [UInt64.toNat_add,b2u_nat,addC_nat,mulHi_nat,UInt64.toNat_mul,hp]
 simp only [Bool.toNat_false,Nat.add_zero]
 unfold W64
 have key:(x.toNat*13402431016077863595 % 18446744073709551616+t.toNat) % 18446744073709551616=0:=by
  rw [hx']
  omega
 omega
theorem roundB_nat (t0 t1 t2 t3 t4 t5 top:UInt64) (more:Bool) :
  (roundB t0 t1 t2 t3 t4 t5 top more).nat*W64=(t0.toNat+W64*(t1.toNat+W64*(t2.toNat+W64*(t3.toNat+W64*(t4.toNat+W64*(t5.toNat+W64*(top.toNat+W64*more.toNat)))))))+(t0*pInv).toNat*pN:=by
 have q0:=low_step t0
 unfold roundB
 simp only [L7.nat]
 generalize mulHi (t0*pInv) pLimbs.l0+b2u (addC (t0*pInv*pLimbs.l0) t0 false)=d0 at *
 generalize t0*pInv=x at *
 have q1:=mac_w x pLimbs.l1 t1 d0
 generalize macH x pLimbs.l1 t1 d0=d1 at *
 have q2:=mac_w x pLimbs.l2 t2 d1
 generalize macH x pLimbs.l2 t2 d1=d2 at *
 have q3:=mac_w x pLimbs.l3 t3 d2
 generalize macH x pLimbs.l3 t3 d2=d3 at *
 have q4:=mac_w x pLimbs.l4 t4 d3
 generalize macH x pLimbs.l4 t4 d3=d4 at *
 have q5:=mac_w x pLimbs.l5 t5 d4
 generalize macH x pLimbs.l5 t5 d4=d5 at *
 have q6:=add_step top d5 false
 have q7:(b2u more+b2u (addC top d5 false)).toNat=more.toNat+(addC top d5 false).toNat:=by
  rw [UInt64.toNat_add,b2u_nat,b2u_nat]
  cases more <;> cases addC top d5 false <;> rfl
 rw [q7]
 have ep:pN=pLimbs.l0.toNat+W64*(pLimbs.l1.toNat+W64*(pLimbs.l2.toNat+W64*(pLimbs.l3.toNat+W64*(pLimbs.l4.toNat+W64*pLimbs.l5.toNat)))):=by decide +kernel
 have exp:x.toNat*pN=x.toNat*pLimbs.l0.toNat+W64*(x.toNat*pLimbs.l1.toNat+W64*(x.toNat*pLimbs.l2.toNat+W64*(x.toNat*pLimbs.l3.toNat+W64*(x.toNat*pLimbs.l4.toNat+W64*(x.toNat*pLimbs.l5.toNat))))):=by
  rw [ep]
  simp only [Nat.mul_add,Nat.mul_left_comm x.toNat W64]
 rw [exp]
 have s6:(addS top d5 false).toNat+W64*(more.toNat+(addC top d5 false).toNat)=(top.toNat+W64*more.toNat)+d5.toNat:=by
  simp only [Bool.toNat_false] at q6
  unfold W64 at *
  omega
 have s5:=limb_step q5 s6
 have s4:=limb_step q4 s5
 have s3:=limb_step q3 s4
 have s2:=limb_step q2 s3
 have s1:=limb_step q1 s2
 rw [s1]
 generalize x.toNat*pLimbs.l0.toNat=y0 at *
 generalize x.toNat*pLimbs.l1.toNat=y1 at *
 generalize x.toNat*pLimbs.l2.toNat=y2 at *
 generalize x.toNat*pLimbs.l3.toNat=y3 at *
 generalize x.toNat*pLimbs.l4.toNat=y4 at *
 generalize x.toNat*pLimbs.l5.toNat=y5 at *
 exact zipE (zipS (zipS (zipS (zipS (zip0 _ _ _))))) q0
theorem roundF_nat (a:Fp) (b:UInt64) (t:L7) : ∃ m:Nat,m<W64/\(roundF a b t).nat*W64=t.nat+a.nat*b.toNat+m*pN:=by
 unfold roundF
 simp only []
 have q0:=mac_w a.l0 b t.t0 0
 generalize macH a.l0 b t.t0 0=c0 at *
 have q1:=mac_w a.l1 b t.t1 c0
 generalize macH a.l1 b t.t1 c0=c1 at *
 have q2:=mac_w a.l2 b t.t2 c1
 generalize macH a.l2 b t.t2 c1=c2 at *
 have q3:=mac_w a.l3 b t.t3 c2
 generalize macH a.l3 b t.t3 c2=c3 at *
 have q4:=mac_w a.l4 b t.t4 c3
 generalize macH a.l4 b t.t4 c3=c4 at *
 have q5:=mac_w a.l5 b t.t5 c4
 generalize macH a.l5 b t.t5 c4=c5 at *
 have q6:=add_step t.t6 c5 false
 refine ⟨(macL a.l0 b t.t0 0*pInv).toNat,UInt64.toNat_lt _,?_⟩
 rw [roundB_nat]
 refine congrArg (fun z=>z+(macL a.l0 b t.t0 0*pInv).toNat*pN) ?_
 have e:a.nat*b.toNat=a.l0.toNat*b.toNat+W64*(a.l1.toNat*b.toNat+W64*(a.l2.toNat*b.toNat+W64*(a.l3.toNat*b.toNat+W64*(a.l4.toNat*b.toNat+W64*(a.l5.toNat*b.toNat))))):=by
  unfold Fp.nat
  simp only [Nat.add_mul,Nat.mul_assoc]
 rw [e]
 have s6:(addS t.t6 c5 false).toNat+W64*(addC t.t6 c5 false).toNat=t.t6.toNat+c5.toNat:=by simpa using q6
 have s5:=limb_step q5 s6
 have s4:=limb_step q4 s5
 have s3:=limb_step q3 s4
 have s2:=limb_step q2 s3
 have s1:=limb_step q1 s2
 have s0:=limb_step q0 s1
 rw [s0]
 have z:(0:UInt64).toNat=0:=rfl
 rw [z,L7.nat]
 generalize a.l0.toNat*b.toNat=x0 at *
 generalize a.l1.toNat*b.toNat=x1 at *
 generalize a.l2.toNat*b.toNat=x2 at *
 generalize a.l3.toNat*b.toNat=x3 at *
 generalize a.l4.toNat*b.toNat=x4 at *
 generalize a.l5.toNat*b.toNat=x5 at *
 rw [Nat.add_zero]
 exact zipS (zipS (zipS (zipS (zipS (zip0 _ _ _)))))
theorem round_bound {a:Fp} {b:UInt64} {t:L7} (h:t.nat<a.nat+pN):(roundF a b t).nat<a.nat+pN:=by
 obtain ⟨m,hm,e⟩:=roundF_nat a b t
 have hb:=b.toNat_lt
 have h1:a.nat*b.toNat<=a.nat*(W64-1):=Nat.mul_le_mul_left _ (by unfold W64;omega)
 have h2:m*pN<=(W64-1)*pN:=Nat.mul_le_mul_right _ (by omega)
 have h3:(roundF a b t).nat*W64<(a.nat+pN)*W64:=by
  rw [e]
  unfold W64 at *
  omega
 exact Nat.lt_of_mul_lt_mul_right h3
set_option maxRecDepth 100000 in
theorem halfT_nat (a b:Fp) : ∃ k:Nat,(halfT a b).nat*rN=a.nat*b.nat+k*pN/\(halfT a b).nat<a.nat+pN:=by
 have hp0:0<pN:=by decide +kernel
 obtain ⟨m0,_,e0⟩:=roundF_nat a b.l0 ⟨0,0,0,0,0,0,0⟩
 obtain ⟨m1,_,e1⟩:=roundF_nat a b.l1 (half1 a b)
 obtain ⟨m2,_,e2⟩:=roundF_nat a b.l2 (half2 a b)
 obtain ⟨m3,_,e3⟩:=roundF_nat a b.l3 (half3 a b)
 obtain ⟨m4,_,e4⟩:=roundF_nat a b.l4 (half4 a b)
 obtain ⟨m5,_,e5⟩:=roundF_nat a b.l5 (half5 a b)
 have z:(L7.mk 0 0 0 0 0 0 0).nat=0:=by decide +kernel
 have b0:(half1 a b).nat<a.nat+pN:=round_bound (by rw [z];omega)
 have b1:(half2 a b).nat<a.nat+pN:=round_bound b0
 have b2:(half3 a b).nat<a.nat+pN:=round_bound b1
 have b3:(half4 a b).nat<a.nat+pN:=round_bound b2
 have b4:(half5 a b).nat<a.nat+pN:=round_bound b3
 refine ⟨m0+W64*(m1+W64*(m2+W64*(m3+W64*(m4+W64*m5)))),?_,round_bound b4⟩
 rw [z] at e0
 change (half1 a b).nat*W64=_ at e0
 change (half2 a b).nat*W64=_ at e1
 change (half3 a b).nat*W64=_ at e2
 change (half4 a b).nat*W64=_ at e3
 change (half5 a b).nat*W64=_ at e4
 change (halfT a b).nat*W64=_ at e5
 have er:rN=W64*(W64*(W64*(W64*(W64*W64)))):=by decide +kernel
 have eb:a.nat*b.nat=a.nat*b.l0.toNat+W64*(a.nat*b.l1.toNat+W64*(a.nat*b.l2.toNat+W64*(a.nat*b.l3.toNat+W64*(a.nat*b.l4.toNat+W64*(a.nat*b.l5.toNat))))):=by
  rw [show b.nat=b.l0.toNat+W64*(b.l1.toNat+W64*(b.l2.toNat+W64*(b.l3.toNat+W64*(b.l4.toNat+W64*b.l5.toNat)))) from rfl]
  simp only [Nat.mul_add,Nat.mul_left_comm a.nat W64]
 have ek:(m0+W64*(m1+W64*(m2+W64*(m3+W64*(m4+W64*m5)))))*pN=m0*pN+W64*(m1*pN+W64*(m2*pN+W64*(m3*pN+W64*(m4*pN+W64*(m5*pN))))):=by
  simp only [Nat.add_mul,Nat.mul_assoc]
 rw [er,eb,ek]
 have st : ∀ {t' t z R:Nat},t'*W64=t+z -> ∀ s:Nat,t'*(W64*s)=(t+z)*s:=fun h s=>by rw [<- Nat.mul_assoc,h]
 rw [st (R:=0) (t:=(half5 a b).nat) (z:=a.nat*b.l5.toNat+m5*pN) (by rw [e5,Nat.add_assoc])]
 rw [Nat.add_mul,st (R:=0) (t:=(half4 a b).nat) (z:=a.nat*b.l4.toNat+m4*pN) (by rw [e4,Nat.add_assoc])]
 rw [Nat.add_mul _ _ (W64*(W64*(W64*W64))),st (R:=0) (t:=(half3 a b).nat) (z:=a.nat*b.l3.toNat+m3*pN) (by rw [e3,Nat.add_assoc])]
 rw [Nat.add_mul _ _ (W64*(W64*W64)),st (R:=0) (t:=(half2 a b).nat) (z:=a.nat*b.l2.toNat+m2*pN) (by rw [e2,Nat.add_assoc])]
 rw [Nat.add_mul _ _ (W64*W64),st (R:=0) (t:=(half1 a b).nat) (z:=a.nat*b.l1.toNat+m1*pN) (by rw [e1,Nat.add_assoc])]
 rw [Nat.add_mul _ _ W64,e0]
 generalize a.nat*b.l0.toNat=x0
 generalize a.nat*b.l1.toNat=x1
 generalize a.nat*b.l2.toNat=x2
 generalize a.nat*b.l3.toNat=x3
 generalize a.nat*b.l4.toNat=x4
 generalize a.nat*b.l5.toNat=x5
 generalize m0*pN=y0
 generalize m1*pN=y1
 generalize m2*pN=y2
 generalize m3*pN=y3
 generalize m4*pN=y4
 generalize m5*pN=y5
 clear e0 e1 e2 e3 e4 e5 eb ek st
 unfold W64
 omega
theorem halfF_nat {a b:Fp} (ha:a.nat<pN):(halfF a b).nat<pN/\((halfF a b).nat*rN) % pN=(a.nat*b.nat) % pN:=by
 obtain ⟨k,h1,h2⟩:=halfT_nat a b
 rw [L7.nat_low] at h1 h2
 have hlt:=(halfT a b).low.nat_lt
 have hpr:2*pN<rN:=by decide +kernel
 have hp0:0<pN:=by decide +kernel
 have h6:(halfT a b).t6.toNat<=1:=by
  rcases Nat.lt_or_ge (halfT a b).t6.toNat 1 with h | h
  ·omega
  ·have:rN*1<=rN*(halfT a b).t6.toNat:=Nat.mul_le_mul_left _ h
   omega
 have h:=lessF_nat (halfT a b).low (halfT a b).t6 h6 (by omega)
 have e:(halfF a b).nat=((halfT a b).low.nat+rN*(halfT a b).t6.toNat) % pN:=h
 rw [e]
 refine ⟨Nat.mod_lt _ hp0,?_⟩
 rw [Nat.mod_mul_mod,h1,Nat.add_mul_mod_self_right]
end Go.Proofs.YtgpafcehehaiiaaGreat
namespace Go.Proofs.YtgpafcehehaiiaaGreat
def rInv:Nat:=0x14fec701e8fb0ce9ed5e64273c4f538b1797ab1458a88de9343ea97914956dc87fe11274d898fafbf4d38259380b4820
theorem r_inv:rN*rInv % pN=1:=by decide +kernel
theorem r_cancel {x y:Nat} (h:x*rN % pN=y*rN % pN):x % pN=y % pN:=by
 have e : ∀ z:Nat,z % pN=(z*rN % pN)*rInv % pN:=by
  intro z
  rw [Nat.mod_mul_mod,Nat.mul_assoc,Nat.mul_mod,r_inv,Nat.mul_one,Nat.mod_mod]
 rw [e x,e y,h]
theorem sq_nat:sqLimbs.nat=rN*rN % pN:=by decide +kernel
theorem one_nat:oneFp.nat=1:=by decide +kernel
theorem zero_nat:zeroFp.nat=0:=by decide +kernel
theorem pN_pos:0<pN:=by decide +kernel
theorem wholeF_nat {a:Fp} (ha:a.nat<pN):(wholeF a).nat=a.nat*rN % pN:=by
 obtain ⟨h1,h2⟩:=halfF_nat (b:=sqLimbs) ha
 have h3:(wholeF a).nat*rN % pN=(a.nat*rN)*rN % pN:=by
  rw [show (wholeF a).nat=(halfF a sqLimbs).nat from rfl,h2,sq_nat,Nat.mul_mod_mod,Nat.mul_assoc]
 rw [<- r_cancel h3]
 exact (Nat.mod_eq_of_lt h1).symm
theorem lowF_nat {a:Fp} (ha:a.nat<pN):(lowF a).nat<pN/\(lowF a).nat*rN % pN=a.nat:=by
 obtain ⟨h1,h2⟩:=halfF_nat (b:=oneFp) ha
 rw [one_nat,Nat.mul_one,Nat.mod_eq_of_lt ha] at h2
 exact ⟨h1,h2⟩
theorem mulF_nat {a b:Fp} (ha:a.nat<pN):(mulF a b).nat=a.nat*b.nat % pN:=by
 obtain ⟨h1,h2⟩:=halfF_nat (b:=b) ha
 rw [show mulF a b=wholeF (halfF a b) from rfl,wholeF_nat h1,h2]
theorem mulF_lt {a b:Fp} (ha:a.nat<pN):(mulF a b).nat<pN:=by rw [mulF_nat ha];exact Nat.mod_lt _ pN_pos
theorem addF_lt {a b:Fp} (ha:a.nat<pN) (hb:b.nat<pN):(addF a b).nat<pN:=by rw [addF_nat ha hb];exact Nat.mod_lt _ pN_pos
theorem subF_lt {a b:Fp} (ha:a.nat<pN) (hb:b.nat<pN):(subF a b).nat<pN:=by rw [subF_nat ha hb];exact Nat.mod_lt _ pN_pos
theorem negF_nat {a:Fp} (ha:a.nat<pN):(negF a).nat=(pN-a.nat) % pN:=by
 rw [show negF a=subF zeroFp a from rfl,subF_nat (by rw [zero_nat];exact pN_pos) ha,zero_nat,Nat.zero_add]
def eLow (e:List UInt64):Nat->Nat
 | 0=>0
 | n+1=>eLow e n+(bitAt e n).toNat*2 ^ n
theorem powAt_nat {x:Fp} {a:Nat} (e:List UInt64) (hx:x.nat=a*rN % pN) : ∀ (n:Nat) (o:Fp) (v:Nat),o.nat=v*rN % pN ->
  (powAt x e n o).nat=v ^ 2 ^ n*a ^ eLow e n % pN
 | 0,o,v,ho=>by
  have hlt:o.nat<pN:=by rw [ho];exact Nat.mod_lt _ pN_pos
  obtain ⟨h1,h2⟩:=lowF_nat hlt
  have h3:=r_cancel (h2.trans ho)
  simp only [powAt,eLow,Nat.pow_zero,Nat.pow_one,Nat.mul_one]
  rw [<- h3]
  exact (Nat.mod_eq_of_lt h1).symm
 | n+1,o,v,ho=>by
  have hlt:o.nat<pN:=by rw [ho];exact Nat.mod_lt _ pN_pos
  have hmul : ∀ {p q:Fp} {s t:Nat},p.nat=s*rN % pN->q.nat=t*rN % pN->(halfF p q).nat=(s*t)*rN % pN:=by
   intro p q s t hp hq
   obtain ⟨h1,h2⟩:=halfF_nat (a:=p) (b:=q) (by rw [hp];exact Nat.mod_lt _ pN_pos)
   have h3:(halfF p q).nat*rN % pN=((s*t)*rN)*rN % pN:=by
    rw [h2,hp,hq,<- Nat.mul_mod]
    refine congrArg (fun z=>z % pN) ?_
    simp only [Nat.mul_assoc,Nat.mul_left_comm,Nat.mul_comm]
   have h4:=r_cancel h3
   rw [<- h4]
   exact (Nat.mod_eq_of_lt h1).symm
  have h1:=hmul ho ho
  simp only [powAt]
  cases hb:bitAt e n with
  | true =>
   simp only []
   rw [powAt_nat e hx n _ _ (hmul h1 hx)]
   simp only [eLow,hb,Bool.toNat_true,Nat.one_mul]
   refine congrArg (fun z=>z % pN) ?_
   rw [Nat.mul_pow,<- Nat.pow_two,<- Nat.pow_mul,show 2 ^ (n+1)=2*2 ^ n by rw [Nat.pow_succ,Nat.mul_comm],Nat.pow_add a,Nat.mul_assoc,Nat.mul_comm (a ^ 2 ^ n)]
  | false =>
   simp only []
   rw [powAt_nat e hx n _ _ h1]
   simp only [eLow,hb,Bool.toNat_false,Nat.zero_mul,Nat.add_zero]
   refine congrArg (fun z=>z % pN) ?_
   rw [<- Nat.pow_two,<- Nat.pow_mul,show 2 ^ (n+1)=2*2 ^ n by rw [Nat.pow_succ,Nat.mul_comm]]
theorem powF_nat {a:Fp} (ha:a.nat<pN) (e:List UInt64):(powF a e).nat=a.nat ^ eLow e (64*e.length) % pN:=by
 unfold powF
 have h1:(1:Nat)<pN:=by decide +kernel
 rw [powAt_nat e (wholeF_nat ha) _ _ 1 (by rw [wholeF_nat (by rw [one_nat];exact h1),one_nat])]
 rw [Nat.one_pow,Nat.one_mul]
end Go.Proofs.YtgpafcehehaiiaaGreat
namespace Go.Proofs.YtgpafcehehaiiaaGreat
def IsPrime (p:Nat):Prop:=1<p /\ ∀ d,d ∣ p->d=1 \/ d=p
theorem IsPrime.pos {p:Nat} (h:IsPrime p):0<p:=by have:=h.1;omega
theorem IsPrime.coprime {p a:Nat} (h:IsPrime p) (ha : ¬ p ∣ a):Nat.gcd p a=1:=by
 rcases h.2 _ (Nat.gcd_dvd_left p a) with h1 | h1
 ·exact h1
 ·exact absurd (h1 ▸ Nat.gcd_dvd_right p a) ha
theorem IsPrime.dvd_mul {p a b:Nat} (h:IsPrime p) (hd:p ∣ a*b):p ∣ a \/ p ∣ b:=by
 by_cases ha:p ∣ a
 ·exact .inl ha
 ·exact .inr (Nat.Coprime.dvd_of_dvd_mul_left (h.coprime ha) hd)
def ch:Nat->Nat->Nat
 | _,0=>1
 | 0,_+1=>0
 | n+1,k+1=>ch n k+ch n (k+1)
theorem ch_zero (n:Nat):ch n 0=1:=by cases n <;> rfl
theorem ch_big : ∀ {n k:Nat},n<k->ch n k=0
 | 0,k+1,_=>rfl
 | n+1,k+1,h=>by simp only [ch];rw [ch_big (by omega),ch_big (by omega)]
theorem ch_self : ∀ n:Nat,ch n n=1
 | 0=>rfl
 | n+1=>by simp only [ch];rw [ch_self n,ch_big (by omega)]
theorem ch_mul : ∀ n k:Nat,(k+1)*ch (n+1) (k+1)=(n+1)*ch n k
 | 0,0=>rfl
 | 0,k+1=>by simp [ch]
 | n+1,0=>by
  have h:=ch_mul n 0
  simp only [ch_zero,Nat.zero_add,Nat.one_mul,Nat.mul_one] at h ⊢
  show ch (n+1) 0+ch (n+1) 1=n+1+1
  rw [ch_zero,h]
  omega
 | n+1,j+1=>by
  have h1:=ch_mul n j
  have h2:=ch_mul n (j+1)
  have e:ch (n+1) (j+1)=ch n j+ch n (j+1):=rfl
  show (j+1+1)*(ch (n+1) (j+1)+ch (n+1) (j+1+1))=(n+1+1)*ch (n+1) (j+1)
  rw [Nat.mul_add,h2,Nat.succ_mul (j+1),h1]
  rw [Nat.succ_mul (n+1),e,Nat.mul_add]
  omega
def bs (a n:Nat):Nat->Nat
 | 0=>0
 | m+1=>bs a n m+ch n m*a ^ m
theorem bs_step (a n:Nat) : ∀ m:Nat,bs a (n+1) (m+1)=bs a n (m+1)+a*bs a n m
 | 0=>by simp [bs,ch_zero]
 | m+1=>by
  have h:=bs_step a n m
  show bs a (n+1) (m+1)+ch (n+1) (m+1)*a ^ (m+1)=bs a n (m+1)+ch n (m+1)*a ^ (m+1)+a*(bs a n m+ch n m*a ^ m)
  rw [h,show ch (n+1) (m+1)=ch n m+ch n (m+1) from rfl,Nat.add_mul,Nat.mul_add,Nat.pow_succ]
  have:ch n m*(a ^ m*a)=a*(ch n m*a ^ m):=by rw [<- Nat.mul_assoc,Nat.mul_comm]
  omega
theorem binom (a:Nat) : ∀ n:Nat,(a+1) ^ n=bs a n (n+1)
 | 0=>by simp [bs,ch]
 | n+1=>by
  rw [bs_step a n (n+1),show bs a n (n+1+1)=bs a n (n+1)+ch n (n+1)*a ^ (n+1) from rfl,ch_big (Nat.lt_succ_self n),Nat.zero_mul,Nat.add_zero,<- binom a n,Nat.pow_succ,Nat.mul_add,Nat.mul_one,Nat.mul_comm a]
  omega
theorem ch_prime {p k:Nat} (h:IsPrime p) (h0:0<k) (hk:k<p):p ∣ ch p k:=by
 obtain ⟨j,rfl⟩ : ∃ j,k=j+1:=⟨k-1,by omega⟩
 obtain ⟨n,rfl⟩ : ∃ n,p=n+1:=⟨p-1,by omega⟩
 have hd:n+1 ∣ (j+1)*ch (n+1) (j+1):=⟨ch n j,ch_mul n j⟩
 rcases h.dvd_mul hd with h1 | h1
 ·exact absurd (Nat.le_of_dvd (by omega) h1) (by omega)
 ·exact h1
theorem bs_prime {p:Nat} (h:IsPrime p) (a:Nat) : ∀ m:Nat,m<p->bs a p (m+1) % p=1
 | 0,_=>by
  simp only [bs,ch_zero,Nat.pow_zero,Nat.mul_one,Nat.zero_add]
  exact Nat.mod_eq_of_lt h.1
 | m+1,hm=>by
  have ih:=bs_prime h a m (by omega)
  obtain ⟨c,hc⟩:=ch_prime h (Nat.succ_pos m) hm
  show (bs a p (m+1)+ch p (m+1)*a ^ (m+1)) % p=1
  rw [hc,Nat.mul_assoc,Nat.add_mul_mod_self_left]
  exact ih
theorem fermat_a {p:Nat} (h:IsPrime p) : ∀ a:Nat,a ^ p % p=a % p
 | 0=>by
  have:=h.pos
  rw [Nat.zero_pow this]
 | a+1=>by
  have ih:=fermat_a h a
  have hp:=h.1
  obtain ⟨n,rfl⟩ : ∃ n,p=n+1:=⟨p-1,by omega⟩
  rw [binom a (n+1),show bs a (n+1) (n+1+1)=bs a (n+1) (n+1)+ch (n+1) (n+1)*a ^ (n+1) from rfl,ch_self,Nat.one_mul,Nat.add_mod,bs_prime h a n (by omega),ih]
  rw [Nat.add_mod a 1,Nat.mod_eq_of_lt hp,Nat.add_comm]
theorem fermat {p a:Nat} (h:IsPrime p) (ha : ¬ p ∣ a):a ^ (p-1) % p=1:=by
 have hp:=h.1
 have h1:=fermat_a h a
 obtain ⟨n,rfl⟩ : ∃ n,p=n+1:=⟨p-1,by omega⟩
 rw [Nat.add_sub_cancel]
 have h0:0<a:=Nat.pos_of_ne_zero (by rintro rfl;exact ha ⟨0,rfl⟩)
 have hle:a<=a ^ (n+1):=Nat.le_self_pow (by omega) a
 have hd:n+1 ∣ a ^ (n+1)-a:=Nat.dvd_of_mod_eq_zero (Nat.sub_mod_eq_zero_of_mod_eq h1)
 have h2:1<=a ^ n:=Nat.one_le_pow _ _ h0
 have e:a ^ (n+1)-a=a*(a ^ n-1):=by rw [Nat.pow_succ,Nat.mul_sub,Nat.mul_one,Nat.mul_comm]
 rw [e] at hd
 rcases h.dvd_mul hd with h3 | h3
 ·exact absurd h3 ha
 ·obtain ⟨c,hc⟩:=h3
  rw [show a ^ n=(n+1)*c+1 by omega,Nat.mul_add_mod]
  exact Nat.mod_eq_of_lt hp
theorem exists_prime_dvd : ∀ n:Nat,1<n -> ∃ p,IsPrime p/\p ∣ n:=by
 intro n
 induction n using Nat.strongRecOn with
 | ind n ih =>
  intro hn
  by_cases h:IsPrime n
  ·exact ⟨n,h,Nat.dvd_refl n⟩
  ·have : ∃ d,d ∣ n/\d ≠ 1/\d ≠ n:=by
    apply Classical.byContradiction
    intro hc
    refine h ⟨hn,fun d hd => ?_⟩
    by_cases h1:d=1
    ·exact .inl h1
    ·by_cases h2:d=n
     ·exact .inr h2
     ·exact absurd ⟨d,hd,h1,h2⟩ hc
   obtain ⟨d,hd,h1,h2⟩:=this
   have hdn:=Nat.le_of_dvd (by omega) hd
   have hd0:d ≠ 0:=by
    rintro rfl
    have:=Nat.eq_zero_of_zero_dvd hd
    omega
   obtain ⟨p,hp,hpd⟩:=ih d (by omega) (by omega)
   exact ⟨p,hp,Nat.dvd_trans hpd hd⟩
theorem pow_gcd {d b:Nat} (hd:1<d) : ∀ m n:Nat,b ^ m % d=1->b ^ n % d=1->b ^ Nat.gcd m n % d=1:=by
 intro m n
 induction m,n using Nat.gcd.induction with
 | H0 n=>intro _ h;rw [Nat.gcd_zero_left];exact h
 | H1 m n hm ih =>
  intro h1 h2
  rw [Nat.gcd_rec]
  refine ih ?_ h1
  have e:b ^ n % d=(b ^ m) ^ (n / m)*b ^ (n % m) % d:=by rw [<- Nat.pow_mul,<- Nat.pow_add,Nat.div_add_mod]
  rw [h2,Nat.mul_mod,Nat.pow_mod,h1,Nat.one_pow,Nat.mod_eq_of_lt hd,Nat.one_mul,Nat.mod_mod] at e
  exact e.symm
theorem pock_key {n q r a:Nat} (hn:n=q*r+1) (hq:IsPrime q) (hr:0<r) (h1:a ^ (q*r) % n=1) (h2:Nat.gcd (a ^ r % n+(n-1)) n=1) {d:Nat} (hd:IsPrime d) (hdn:d ∣ n):q ∣ d-1:=by
 have hq1:=hq.1
 have hn1:1<n:=by
  have:0<q*r:=Nat.mul_pos (by omega) hr
  omega
 have hd1:=hd.1
 have hb:(a ^ r) ^ q % d=1:=by
  rw [<- Nat.pow_mul,Nat.mul_comm r q]
  have:a ^ (q*r) % n % d=a ^ (q*r) % d:=Nat.mod_mod_of_dvd _ hdn
  rw [<- this,h1,Nat.mod_eq_of_lt hd1]
 have hnd : ¬ d ∣ a ^ r:=by
  intro h
  obtain ⟨c,hc⟩:=h
  rw [hc,Nat.mul_pow,Nat.mul_mod] at hb
  have:d ^ q % d=0:=by
   obtain ⟨k,rfl⟩ : ∃ k,q=k+1:=⟨q-1,by omega⟩
   rw [Nat.pow_succ,Nat.mul_mod_left]
  rw [this] at hb
  simp at hb
 have hf:=fermat hd hnd
 have hne:a ^ r % d ≠ 1:=by
  intro h
  have hdd:d ∣ a ^ r % n+(n-1):=by
   have e:(a ^ r % n) % d=1:=by rw [Nat.mod_mod_of_dvd _ hdn];exact h
   have e2:(a ^ r % n+(n-1)+1) % d=1:=by
    rw [show a ^ r % n+(n-1)+1=a ^ r % n+n by omega,Nat.add_mod,e]
    obtain ⟨c,hc⟩:=hdn
    rw [hc,Nat.mul_mod_right,Nat.add_zero,Nat.mod_eq_of_lt hd1]
   have e3:=Nat.sub_mod_eq_zero_of_mod_eq (e2.trans (Nat.mod_eq_of_lt hd1).symm)
   rw [Nat.add_sub_cancel] at e3
   exact Nat.dvd_of_mod_eq_zero e3
  have:=Nat.dvd_gcd hdd hdn
  rw [h2] at this
  have:=Nat.le_of_dvd (by omega) this
  omega
 apply Classical.byContradiction
 intro hc
 have hg:=hq.coprime hc
 have:=pow_gcd hd1 q (d-1) hb hf
 rw [hg,Nat.pow_one] at this
 exact hne this
theorem pocklington {n q r a K:Nat} (hn:n=q*r+1) (hq:IsPrime q) (hr:0<r) (hK : ∀ k,k<K -> ¬ (q*(k+1)+1) ∣ n) (hqq:n<(q*(K+1)+1)*(q*(K+1)+1)) (h1:a ^ (q*r) % n=1) (h2:Nat.gcd (a ^ r % n+(n-1)) n=1):IsPrime n:=by
 have hq1:=hq.1
 have hn1:1<n:=by
  have:0<q*r:=Nat.mul_pos (by omega) hr
  omega
 refine ⟨hn1,fun x hx => ?_⟩
 have key : ∀ d,IsPrime d->d ∣ n->q*(K+1)+1<=d:=by
  intro d hd hdn
  obtain ⟨c,hc⟩:=pock_key hn hq hr h1 h2 hd hdn
  have hd1:=hd.1
  have hdc:d=q*c+1:=by omega
  rcases Nat.lt_or_ge K c with h | h
  ·have:=Nat.mul_le_mul_left q (show K+1<=c from h)
   omega
  ·have hc0:c ≠ 0:=by rintro rfl;omega
   obtain ⟨k,rfl⟩ : ∃ k,c=k+1:=⟨c-1,by omega⟩
   exact absurd (hdc ▸ hdn) (hK k (by omega))
 by_cases hx1:x=1
 ·exact .inl hx1
 ·right
  obtain ⟨y,hy⟩:=hx
  have hx0:x ≠ 0:=by rintro rfl;omega
  by_cases hy1:y=1
  ·subst hy1;omega
  ·have hy0:y ≠ 0:=by rintro rfl;omega
   obtain ⟨d,hd,hdx⟩:=exists_prime_dvd x (by omega)
   obtain ⟨e,he,hey⟩:=exists_prime_dvd y (by omega)
   have k1:=key d hd (Nat.dvd_trans hdx ⟨y,hy⟩)
   have k2:=key e he (Nat.dvd_trans hey ⟨x,by rw [hy,Nat.mul_comm]⟩)
   have l1:=Nat.le_of_dvd (by omega) hdx
   have l2:=Nat.le_of_dvd (by omega) hey
   have:=Nat.mul_le_mul (show q*(K+1)+1<=x by omega) (show q*(K+1)+1<=y by omega)
   omega
end Go.Proofs.YtgpafcehehaiiaaGreat
namespace Go.Proofs.YtgpafcehehaiiaaGreat
def mpow:Nat->Nat->Nat->Nat->Nat
 | 0,_,_,n=>1 % n
 | k+1,a,e,n=>match Nat.beq e 0 with
  | true=>1 % n
  | false=>match Nat.beq (e % 2) 1 with
   | true=>a*mpow k (a*a % n) (e / 2) n % n
   | false=>mpow k (a*a % n) (e / 2) n
theorem mpow_eq (n:Nat) : ∀ (k a e:Nat),e<2 ^ k->mpow k a e n=a ^ e % n
 | 0,a,e,h=>by
  obtain rfl:e=0:=by simpa using h
  rfl
 | k+1,a,e,h=>by
  unfold mpow
  cases h0:Nat.beq e 0 with
  | true =>
   have:=Nat.eq_of_beq_eq_true h0
   subst this
   rfl
  | false =>
   have hlt:e / 2<2 ^ k:=by rw [Nat.pow_succ] at h;omega
   have ih:=mpow_eq n k (a*a % n) (e / 2) hlt
   have e1:(a*a % n) ^ (e / 2) % n=a ^ (2*(e / 2)) % n:=by rw [<- Nat.pow_mod,<- Nat.pow_two,<- Nat.pow_mul]
   cases h1:Nat.beq (e % 2) 1 with
   | true =>
    have h1:=Nat.eq_of_beq_eq_true h1
    simp only []
    rw [ih,e1,Nat.mul_mod_mod]
    refine congrArg (fun z=>z % n) ?_
    rw [show a ^ e=a ^ (2*(e / 2)+1) by congr 1;omega,Nat.pow_succ,Nat.mul_comm]
   | false =>
    have h1:=Nat.ne_of_beq_eq_false h1
    simp only []
    rw [ih,e1]
    refine congrArg (fun z=>a ^ z % n) ?_
    omega
theorem pock {n q r a k:Nat} (K:Nat) (hn:n=q*r+1) (hq:IsPrime q) (hr:0<r) (hK : ∀ k,k<K -> ¬ (q*(k+1)+1) ∣ n) (hqq:n<(q*(K+1)+1)*(q*(K+1)+1)) (hk:q*r<2 ^ k) (h1:mpow k a (q*r) n=1) (h2:Nat.gcd (mpow k a r n+(n-1)) n=1):IsPrime n:=by
 have hrq:r<2 ^ k:=Nat.lt_of_le_of_lt (Nat.le_mul_of_pos_left r (by have:=hq.1;omega)) hk
 rw [mpow_eq n k a _ hk] at h1
 rw [mpow_eq n k a _ hrq] at h2
 exact pocklington hn hq hr hK hqq h1 h2
def noDiv (n:Nat):Nat->Nat->Bool
 | 0,_=>true
 | k+1,d=>match Nat.beq (n % d) 0 with
  | true=>false
  | false=>noDiv n k (d+1)
theorem noDiv_spec {n:Nat} : ∀ {k d:Nat},noDiv n k d=true -> ∀ x,d<=x->x<d+k -> ¬ x ∣ n
 | 0,d,_,x,h1,h2=>by omega
 | k+1,d,h,x,h1,h2=>by
  simp only [noDiv] at h
  split at h
  ·cases h
  ·rename_i hb
   have hb:=Nat.ne_of_beq_eq_false hb
   rcases Nat.lt_or_ge d x with hlt | hge
   ·exact noDiv_spec h x hlt (by omega)
   ·obtain rfl:x=d:=by omega
    exact fun hd=>hb (Nat.mod_eq_zero_of_dvd hd)
theorem prime_of_noDiv {n k:Nat} (hn:1<n) (h:noDiv n k 2=true) (hk:n<(k+2)*(k+2)):IsPrime n:=by
 refine ⟨hn,fun d hd => ?_⟩
 obtain ⟨y,hy⟩:=hd
 have hd0:d ≠ 0:=by rintro rfl;omega
 have hy0:y ≠ 0:=by rintro rfl;omega
 by_cases h1:d=1
 ·exact .inl h1
 ·right
  by_cases h2:y=1
  ·subst h2;omega
  ·have k1:k+2<=d:=by
    rcases Nat.lt_or_ge d (2+k) with hl | hl
    ·exact absurd ⟨y,hy⟩ (noDiv_spec h d (by omega) hl)
    ·omega
   have k2:k+2<=y:=by
    rcases Nat.lt_or_ge y (2+k) with hl | hl
    ·exact absurd ⟨d,by rw [hy,Nat.mul_comm]⟩ (noDiv_spec h y (by omega) hl)
    ·omega
   have:=Nat.mul_le_mul k1 k2
   omega
theorem prime_u:IsPrime 421987:=prime_of_noDiv (k:=700) (by decide) (by decide +kernel) (by decide)
theorem prime_t:IsPrime 13090036741:=pock 0 (q:=421987) (r:=31020) (a:=2) (k:=34) (by decide) prime_u (by decide) (fun k h=>absurd h (by omega)) (by decide) (by decide) (by decide +kernel) (by decide +kernel)
theorem prime_s:IsPrime 3819663927398918131021:=pock 4 (q:=13090036741) (r:=291799328220) (a:=2) (k:=72) (by decide) prime_t (by decide) (by decide +kernel) (by decide +kernel) (by decide +kernel) (by decide +kernel) (by decide +kernel)
theorem prime_r:IsPrime 1125266252156850182658904441386709967:=pock 0 (q:=3819663927398918131021) (r:=294598235223046) (a:=2) (k:=120) (by decide +kernel) prime_s (by decide) (fun k h=>absurd h (by omega)) (by decide +kernel) (by decide +kernel) (by decide +kernel) (by decide +kernel)
theorem prime_q:IsPrime 15778400344354997994418419698270088123916926905054652752758194827714659:=pock 0 (q:=1125266252156850182658904441386709967) (r:=14021926201120671579994175730661374) (a:=2) (k:=234) (by decide +kernel) prime_r (by decide +kernel) (fun k h=>absurd h (by omega)) (by decide +kernel) (by decide +kernel) (by decide +kernel) (by decide +kernel)
theorem prime_p:IsPrime pN:=pock 0 (q:=15778400344354997994418419698270088123916926905054652752758194827714659) (r:=253663835868735594330404923636534084567099854) (a:=2) (k:=381) (by decide +kernel) prime_q (by decide +kernel) (fun k h=>absurd h (by omega)) (by decide +kernel) (by decide +kernel) (by decide +kernel) (by decide +kernel)
end Go.Proofs.YtgpafcehehaiiaaGreat
namespace Go.Proofs.YtgpafcehehaiiaaGreat
def valAt (xs:List UInt64):Nat->Nat
 | 0=>0
 | n+1=>valAt xs n+(atF xs n).toNat*W64 ^ n
theorem valAt_lt (xs:List UInt64) : ∀ n,valAt xs n<W64 ^ n
 | 0=>by simp [valAt]
 | n+1=>by
  have ih:=valAt_lt xs n
  have h:=(atF xs n).toNat_lt
  have h1:(atF xs n).toNat*W64 ^ n<=(W64-1)*W64 ^ n:=Nat.mul_le_mul_right _ (by unfold W64;omega)
  have h2:W64 ^ (n+1)=(W64-1)*W64 ^ n+W64 ^ n:=by
   rw [Nat.pow_succ,Nat.mul_comm,Nat.sub_mul,Nat.one_mul]
   have:W64 ^ n<=W64*W64 ^ n:=Nat.le_mul_of_pos_left _ (by unfold W64;omega)
   omega
  simp only [valAt]
  omega
theorem val_step {x y p q:Nat} {w a b:Nat} (hp:p<w) (hq:q<w):a<b->p+a*w<q+b*w:=by
 intro h
 have:(a+1)*w<=b*w:=Nat.mul_le_mul_right _ h
 rw [Nat.add_mul,Nat.one_mul] at this
 omega
theorem cmpAt_val (xs ys:List UInt64) : ∀ n,cmpAt xs ys n=if valAt xs n<valAt ys n then -1 else if valAt xs n > valAt ys n then 1 else 0
 | 0=>by simp [cmpAt,valAt]
 | n+1=>by
  have ih:=cmpAt_val xs ys n
  have h1:=valAt_lt xs n
  have h2:=valAt_lt ys n
  have e1:valAt xs (n+1)=valAt xs n+(atF xs n).toNat*W64 ^ n:=rfl
  have e2:valAt ys (n+1)=valAt ys n+(atF ys n).toNat*W64 ^ n:=rfl
  rw [e1,e2]
  show (if atF xs n<atF ys n then -1 else if atF xs n > atF ys n then 1 else cmpAt xs ys n)=_
  by_cases ha:atF xs n<atF ys n
  ·have:=UInt64.lt_iff_toNat_lt.1 ha
   have:=val_step (x:=0) (y:=0) h1 h2 this
   rw [if_pos ha,if_pos this]
  ·rw [if_neg ha]
   by_cases hb:atF xs n > atF ys n
   ·have:=UInt64.lt_iff_toNat_lt.1 hb
    have:=val_step (x:=0) (y:=0) h2 h1 this
    rw [if_pos hb,if_neg (by omega),if_pos this]
   ·rw [if_neg hb,ih]
    have e:(atF xs n).toNat=(atF ys n).toNat:=by
     have h3:=mt UInt64.lt_iff_toNat_lt.2 ha
     have h4:=mt UInt64.lt_iff_toNat_lt.2 hb
     omega
    rw [e]
    simp only [Nat.add_lt_add_iff_right,gt_iff_lt]
theorem list_val (a:Fp):valAt a.list 6=a.nat:=by
 simp only [valAt,atF,Fp.list,Fp.nat,List.getD_eq_getElem?_getD,List.getElem?_cons_zero,List.getElem?_cons_succ,Option.getD_some]
 generalize a.l0.toNat=x0
 generalize a.l1.toNat=x1
 generalize a.l2.toNat=x2
 generalize a.l3.toNat=x3
 generalize a.l4.toNat=x4
 generalize a.l5.toNat=x5
 simp only [Nat.pow_succ,Nat.pow_zero,Nat.one_mul,Nat.mul_one,Nat.mul_add,Nat.mul_assoc,Nat.mul_comm,Nat.mul_left_comm,Nat.zero_add]
 omega
theorem cmp_nat (a b:Fp):cmpF a.list b.list=if a.nat<b.nat then -1 else if a.nat > b.nat then 1 else 0:=by
 have h:cmpF a.list b.list=cmpAt a.list b.list 6:=by
  unfold cmpF maxI
  rfl
 rw [h,cmpAt_val,list_val,list_val]
theorem mayF_nat (a:Fp):mayF a=decide (a.nat<pN):=by
 unfold mayF
 rw [cmp_nat,pLimbs_nat]
 refine decide_eq_decide.2 ?_
 split
 ·rename_i h;simp [h]
 ·rename_i h
  simp only [h,iff_false]
  split <;> omega
def hN:Nat:=pN / 2
theorem halved_nat:(halvedF pLimbs).nat=hN:=by decide +kernel
theorem greatF_nat (a:Fp):greatF a=decide (hN<a.nat):=by
 unfold greatF
 rw [cmp_nat,halved_nat]
 refine decide_eq_decide.2 ?_
 split
 ·rename_i h;constructor <;> intro h' <;> omega
 ·split
  ·rename_i h h2;constructor <;> intro h' <;> omega
  ·rename_i h h2;constructor <;> intro h' <;> omega
theorem u64_ne {x y:UInt64}:(x != y)=true <-> x.toNat ≠ y.toNat:=by
 simp only [bne_iff_ne,ne_eq]
 exact ⟨fun h e=>h (UInt64.toNat.inj e),fun h e=>h (by rw [e])⟩
theorem belowF_nat (a m:Fp):belowF a m=decide (a.nat<m.nat):=by
 have h0:=a.l0.toNat_lt
 have h1:=a.l1.toNat_lt
 have h2:=a.l2.toNat_lt
 have h3:=a.l3.toNat_lt
 have h4:=a.l4.toNat_lt
 have k0:=m.l0.toNat_lt
 have k1:=m.l1.toNat_lt
 have k2:=m.l2.toNat_lt
 have k3:=m.l3.toNat_lt
 have k4:=m.l4.toNat_lt
 have same : ∀ {x y:UInt64},(x != y)=false->x.toNat=y.toNat:=fun h=>by
  simp only [bne_eq_false_iff_eq] at h
  rw [h]
 unfold belowF
 cases e5:a.l5 != m.l5 with
 | true =>
  have:=u64_ne.1 e5
  refine decide_eq_decide.2 ?_
  rw [UInt64.lt_iff_toNat_lt]
  unfold Fp.nat W64
  omega
 | false =>
  have e5:=same e5
  simp only []
  cases e4:a.l4 != m.l4 with
  | true =>
   have:=u64_ne.1 e4
   refine decide_eq_decide.2 ?_
   rw [UInt64.lt_iff_toNat_lt]
   unfold Fp.nat W64
   omega
  | false =>
   have e4:=same e4
   simp only []
   cases e3:a.l3 != m.l3 with
   | true =>
    have:=u64_ne.1 e3
    refine decide_eq_decide.2 ?_
    rw [UInt64.lt_iff_toNat_lt]
    unfold Fp.nat W64
    omega
   | false =>
    have e3:=same e3
    simp only []
    cases e2:a.l2 != m.l2 with
    | true =>
     have:=u64_ne.1 e2
     refine decide_eq_decide.2 ?_
     rw [UInt64.lt_iff_toNat_lt]
     unfold Fp.nat W64
     omega
    | false =>
     have e2:=same e2
     simp only []
     cases e1:a.l1 != m.l1 with
     | true =>
      have:=u64_ne.1 e1
      refine decide_eq_decide.2 ?_
      rw [UInt64.lt_iff_toNat_lt]
      unfold Fp.nat W64
      omega
     | false =>
      have e1:=same e1
      simp only []
      cases e0:a.l0 != m.l0 with
      | true =>
       have:=u64_ne.1 e0
       refine decide_eq_decide.2 ?_
       rw [UInt64.lt_iff_toNat_lt]
       unfold Fp.nat W64
       omega
      | false =>
       have e0:=same e0
       refine (decide_eq_false ?_).symm
       unfold Fp.nat W64
       omega
theorem fpEq_nat (a b:Fp):fpEq a b=decide (a.nat=b.nat):=by
 by_cases h:a=b
 ·subst h;rw [(fpEq_iff a a).2 rfl];simp
 ·have h1:fpEq a b=false:=by
   cases e:fpEq a b with
   | true=>exact absurd ((fpEq_iff a b).1 e) h
   | false=>rfl
  rw [h1]
  exact (decide_eq_false fun e=>h (Fp.nat_inj e)).symm
end Go.Proofs.YtgpafcehehaiiaaGreat
namespace Go.Proofs.YtgpafcehehaiiaaGreat
theorem of_nat (n:UInt64):(ofF n).nat=n.toNat:=by
 unfold ofF Fp.nat
 simp only [show (0:UInt64).toNat=0 from rfl,Nat.mul_zero,Nat.add_zero]
theorem invE:eLow [pLimbs.l0-2,pLimbs.l1,pLimbs.l2,pLimbs.l3,pLimbs.l4,pLimbs.l5] (64*6)=pN-2:=by decide +kernel
theorem not_dvd {a:Nat} (h:a<pN) (h0:a ≠ 0) : ¬ pN ∣ a:=fun hd=>absurd (Nat.le_of_dvd (by omega) hd) (by omega)
theorem two_lt:2<pN:=by decide +kernel
theorem inv_law {x:Fp} (hx:x.nat<pN):(x.nat=0->(invF x).2=7)/\(x.nat ≠ 0->(invF x).2=0/\(invF x).1.nat<pN/\x.nat*(invF x).1.nat % pN=1):=by
 unfold invF
 rw [fpEq_nat,zero_nat]
 refine ⟨fun h => ?_,fun h => ?_⟩
 ·rw [decide_eq_true h]
 ·rw [decide_eq_false h]
  simp only []
  have e:(powF x [pLimbs.l0-2,pLimbs.l1,pLimbs.l2,pLimbs.l3,pLimbs.l4,pLimbs.l5]).nat=x.nat ^ (pN-2) % pN:=by
   rw [powF_nat hx,show 64 * [pLimbs.l0-2,pLimbs.l1,pLimbs.l2,pLimbs.l3,pLimbs.l4,pLimbs.l5].length=64*6 from rfl,invE]
  refine ⟨trivial,by rw [e];exact Nat.mod_lt _ pN_pos,?_⟩
  rw [e,Nat.mul_mod_mod]
  have h2:=two_lt
  have:x.nat*x.nat ^ (pN-2)=x.nat ^ (pN-1):=by rw [show pN-1=(pN-2)+1 by omega,Nat.pow_succ,Nat.mul_comm]
  rw [this]
  exact fermat prime_p (not_dvd hx h)
end Go.Proofs.YtgpafcehehaiiaaGreat
namespace Go.Proofs.YtgpafcehehaiiaaGreat
instance : NeZero pN := ⟨by decide +kernel⟩
def V1:Type:=Fin pN
def V1.of (n:Nat):V1:=Fin.ofNat pN n
def V1.nat (a:V1):Nat:=Fin.val a
theorem V1.nat_lt (a:V1):a.nat<pN:=Fin.isLt a
theorem V1.nat_of (n:Nat):(V1.of n).nat=n % pN:=rfl
theorem V1.ext {a b:V1} (h:a.nat=b.nat):a=b:=Fin.eq_of_val_eq h
theorem V1.of_nat (a:V1):V1.of a.nat=a:=V1.ext (by rw [V1.nat_of,Nat.mod_eq_of_lt a.nat_lt])
def V1.add (a b:V1):V1:=V1.of (a.nat+b.nat)
def V1.mul (a b:V1):V1:=V1.of (a.nat*b.nat)
def V1.neg (a:V1):V1:=V1.of (pN-a.nat)
def V1.sub (a b:V1):V1:=V1.of (a.nat+(pN-b.nat))
def V1.inv (a:V1):V1:=V1.of (mpow 381 a.nat (pN-2) pN)
theorem one_lt_p:1<pN:=by decide +kernel
theorem V1.one_mod:1 % pN=1:=Nat.mod_eq_of_lt one_lt_p
instance : CR V1 where
 add:=V1.add
 mul:=V1.mul
 neg:=V1.neg
 sub:=V1.sub
 z:=V1.of 0
 o:=V1.of 1
 add_zero:=fun a=>V1.ext (by show (a.nat+0 % pN) % pN=a.nat;rw [Nat.zero_mod,Nat.add_zero,Nat.mod_eq_of_lt a.nat_lt])
 add_comm:=fun a b=>V1.ext (by show (a.nat+b.nat) % pN=(b.nat+a.nat) % pN;rw [Nat.add_comm])
 add_assoc:=fun a b c=>V1.ext (by show ((a.nat+b.nat) % pN+c.nat) % pN=(a.nat+(b.nat+c.nat) % pN) % pN;rw [Nat.mod_add_mod,Nat.add_mod_mod,Nat.add_assoc])
 mul_assoc:=fun a b c=>V1.ext (by show ((a.nat*b.nat) % pN*c.nat) % pN=(a.nat*((b.nat*c.nat) % pN)) % pN;rw [Nat.mod_mul_mod,Nat.mul_mod_mod,Nat.mul_assoc])
 mul_comm:=fun a b=>V1.ext (by show (a.nat*b.nat) % pN=(b.nat*a.nat) % pN;rw [Nat.mul_comm])
 mul_one:=fun a=>V1.ext (by show (a.nat*(1 % pN)) % pN=a.nat;rw [V1.one_mod,Nat.mul_one,Nat.mod_eq_of_lt a.nat_lt])
 dist:=fun a b c=>V1.ext (by
  show (a.nat*((b.nat+c.nat) % pN)) % pN=((a.nat*b.nat) % pN+(a.nat*c.nat) % pN) % pN
  rw [Nat.mul_mod_mod,<- Nat.add_mod,Nat.mul_add])
 neg_add:=fun a=>V1.ext (by
  show ((pN-a.nat) % pN+a.nat) % pN=0 % pN
  rw [Nat.mod_add_mod,Nat.sub_add_cancel (Nat.le_of_lt a.nat_lt),Nat.mod_self,Nat.zero_mod])
 sub_eq:=fun a b=>V1.ext (by
  show (a.nat+(pN-b.nat)) % pN=(a.nat+(pN-b.nat) % pN) % pN
  rw [Nat.add_mod_mod])
theorem V1.nat_add (a b:V1):(a+b).nat=(a.nat+b.nat) % pN:=rfl
theorem V1.nat_mul (a b:V1):(a*b).nat=(a.nat*b.nat) % pN:=rfl
theorem V1.nat_zero:(0:V1).nat=0:=Nat.zero_mod _
theorem V1.nat_one:(1:V1).nat=1:=V1.one_mod
theorem V1.nat_pow (a:V1) : ∀ n:Nat,(a ^ n).nat=a.nat ^ n % pN
 | 0=>rfl
 | n+1=>by rw [pow_succ',V1.nat_mul,V1.nat_pow a n,Nat.mod_mul_mod,Nat.pow_succ]
theorem V1.ne_zero {a:V1} (h:a ≠ 0):a.nat ≠ 0:=fun e=>h (V1.ext (by rw [e,V1.nat_zero]))
theorem V1.fermat {a:V1} (h:a ≠ 0):a ^ (pN-1)=1:=V1.ext (by
 rw [V1.nat_pow,V1.nat_one]
 exact Go.Proofs.YtgpafcehehaiiaaGreat.fermat prime_p (not_dvd a.nat_lt (V1.ne_zero h)))
theorem V1.inv_eq (a:V1):V1.inv a=a ^ (pN-2):=V1.ext (by
 show mpow 381 a.nat (pN-2) pN % pN=_
 rw [mpow_eq pN 381 _ _ (by decide +kernel),V1.nat_pow,Nat.mod_mod])
instance : Fld V1 where
 inv:=V1.inv
 mul_inv:=fun a h=>by
  rw [V1.inv_eq]
  have:=V1.fermat h
  rw [show pN-1=(pN-2)+1 by have:=two_lt;omega,pow_succ'] at this
  rw [CR.mul_comm]
  exact this
 one_ne:=fun e=>by
  have:=congrArg V1.nat e
  rw [V1.nat_one,V1.nat_zero] at this
  omega
def Fp.ok (a:Fp):Prop:=a.nat<pN
def Fp.v (a:Fp):V1:=V1.of a.nat
theorem Fp.v_nat {a:Fp} (h:a.ok):a.v.nat=a.nat:=Nat.mod_eq_of_lt h
theorem Fp.v_inj {a b:Fp} (ha:a.ok) (hb:b.ok) (h:a.v=b.v):a=b:=Fp.nat_inj (by rw [<- Fp.v_nat ha,<- Fp.v_nat hb,h])
theorem fpEq_v {a b:Fp} (ha:a.ok) (hb:b.ok):fpEq a b=true <-> a.v=b.v:=⟨fun h=>by rw [(fpEq_iff a b).1 h],fun h=>(fpEq_iff a b).2 (Fp.v_inj ha hb h)⟩
theorem add_ok' {a b:Fp} (ha:a.ok) (hb:b.ok):(addF a b).ok:=addF_lt ha hb
theorem sub_ok' {a b:Fp} (ha:a.ok) (hb:b.ok):(subF a b).ok:=subF_lt ha hb
theorem mul_ok' {a b:Fp} (ha:a.ok):(mulF a b).ok:=mulF_lt ha
theorem zero_ok':zeroFp.ok:=by unfold Fp.ok;rw [zero_nat];exact pN_pos
theorem one_ok':oneFp.ok:=by unfold Fp.ok;rw [one_nat];exact one_lt_p
theorem neg_ok' {a:Fp} (ha:a.ok):(negF a).ok:=sub_ok' zero_ok' ha
theorem v_zero:zeroFp.v=0:=V1.ext (by rw [Fp.v_nat zero_ok',zero_nat,V1.nat_zero])
theorem v_one:oneFp.v=1:=V1.ext (by rw [Fp.v_nat one_ok',one_nat,V1.nat_one])
theorem v_add {a b:Fp} (ha:a.ok) (hb:b.ok):(addF a b).v=a.v+b.v:=V1.ext (by
 rw [Fp.v_nat (add_ok' ha hb),addF_nat ha hb,V1.nat_add,Fp.v_nat ha,Fp.v_nat hb])
theorem v_mul {a b:Fp} (ha:a.ok) (hb:b.ok):(mulF a b).v=a.v*b.v:=V1.ext (by
 rw [Fp.v_nat (mul_ok' ha),mulF_nat ha,V1.nat_mul,Fp.v_nat ha,Fp.v_nat hb])
theorem v_sub {a b:Fp} (ha:a.ok) (hb:b.ok):(subF a b).v=a.v-b.v:=V1.ext (by
 rw [Fp.v_nat (sub_ok' ha hb),subF_nat ha hb]
 show _=(a.v.nat+(pN-b.v.nat)) % pN
 rw [Fp.v_nat ha,Fp.v_nat hb]
 congr 1
 have:b.nat<pN:=hb
 omega)
theorem v_neg {a:Fp} (ha:a.ok):(negF a).v = - a.v:=by
 rw [show negF a=subF zeroFp a from rfl,v_sub zero_ok' ha,v_zero]
 grind
end Go.Proofs.YtgpafcehehaiiaaGreat
namespace Go.Proofs.YtgpafcehehaiiaaGreat
theorem half_exp2:(pN-1) / 2+(pN-1) / 2=pN-1:=by decide +kernel
theorem half_odd:(pN-1) / 2=2*((pN-3) / 4)+1:=by decide +kernel
def V1.chi (a:V1):V1:=a ^ ((pN-1) / 2)
theorem chi_sq {a:V1} (h:a ≠ 0):a.chi*a.chi=1:=by
 unfold V1.chi
 rw [<- pow_add',half_exp2]
 exact V1.fermat h
theorem chi_cases {a:V1} (h:a ≠ 0):a.chi=1 \/ a.chi = -1:=sq_eq' (by rw [chi_sq h];grind)
theorem chi_mul (a b:V1):(a*b).chi=a.chi*b.chi:=mul_pow' a b _
theorem neg_one_sq:(-1:V1) * -1=1:=by grind
theorem chi_neg_one:(-1:V1).chi = -1:=by
 unfold V1.chi
 rw [half_odd,pow_add',pow_mul',pow_one',pow_succ' _ 1,pow_one',neg_one_sq,one_pow']
 grind
theorem one_ne_neg:(1:V1) ≠ -1:=fun e=>by
 have:=congrArg V1.nat e
 rw [V1.nat_one] at this
 have h2:(-1:V1).nat=(pN-1 % pN) % pN:=rfl
 rw [h2,V1.one_mod] at this
 have h3:=one_lt_p
 rw [Nat.mod_eq_of_lt (by omega)] at this
 have h4:=two_lt
 omega
theorem p_odd:pN=2*hN+1:=by decide +kernel
theorem great_neg {a:Fp} (ha:a.ok) (h:a.v ≠ 0):greatF (negF a) = !greatF a:=by
 have h0:a.nat ≠ 0:=by
  have:=V1.ne_zero h
  rwa [Fp.v_nat ha] at this
 have h1:a.nat<pN:=ha
 have h2:=p_odd
 rw [greatF_nat,greatF_nat,negF_nat ha,Nat.mod_eq_of_lt (by omega)]
 by_cases h3:hN<a.nat
 ·rw [decide_eq_true h3,decide_eq_false (by omega)];rfl
 ·rw [decide_eq_false h3,decide_eq_true (by omega)];rfl
theorem ofF_ok (n:UInt64):(ofF n).ok:=by
 unfold Fp.ok
 rw [of_nat]
 exact Nat.lt_trans n.toNat_lt (by decide +kernel)
theorem v_of (n:UInt64):(ofF n).v=V1.of n.toNat:=by unfold Fp.v;rw [of_nat]
theorem mayF_ok (a:Fp):mayF a=true <-> a.ok:=by rw [mayF_nat];exact decide_eq_true_iff
end Go.Proofs.YtgpafcehehaiiaaGreat
namespace Go.Proofs.YtgpafcehehaiiaaGreat
theorem borrow_iff (a b:Fp):(subT a b).2=decide (a.nat<b.nat):=by
 have h:=subT_nat a b
 have h1:=(subT a b).1.nat_lt
 cases e:(subT a b).2 with
 | true =>
  rw [e,Bool.toNat_true,Nat.mul_one] at h
  exact (decide_eq_true (by omega)).symm
 | false =>
  rw [e,Bool.toNat_false,Nat.mul_zero] at h
  exact (decide_eq_false (by omega)).symm
theorem lessF_eq (a:Fp) (o:UInt64):lessF a o=match decide (o<b2u (decide (a.nat<pN))) with | true=>a | false=>(subT a pLimbs).1:=by
 have h:=borrow_iff a pLimbs
 rw [pLimbs_nat] at h
 unfold lessF
 rw [lessT_eq,h]
 all_goals rfl
theorem montE7_eq (t:L7) (h6:t.t6.toNat<=1):montE7 pLimbs t=lessF t.low t.t6:=by
 rw [lessF_eq]
 unfold montE7
 rw [belowF_nat,pLimbs_nat]
 by_cases h:t.t6.toNat=0
 ·have e0:t.t6=0:=UInt64.toNat.inj h
  rw [e0]
  by_cases hl:t.low.nat<pN
  ·rw [decide_eq_true hl];rfl
  ·rw [decide_eq_false hl];rfl
 ·have e0:t.t6=1:=UInt64.toNat.inj (by rw [UInt64.toNat_one];omega)
  rw [e0]
  by_cases hl:t.low.nat<pN
  ·rw [decide_eq_true hl];rfl
  ·rw [decide_eq_false hl];rfl
theorem macL_comm (x y t c:UInt64):macL x y t c=macL y x t c:=by unfold macL;rw [UInt64.mul_comm]
theorem mulHi_comm (x y:UInt64):mulHi x y=mulHi y x:=UInt64.toNat.inj (by rw [mulHi_nat,mulHi_nat,Nat.mul_comm])
theorem macH_comm (x y t c:UInt64):macH x y t c=macH y x t c:=by unfold macH;rw [UInt64.mul_comm,mulHi_comm]
theorem montB_eq (t0 t1 t2 t3 t4 t5 top:UInt64) (more:Bool):montB pLimbs pInv t0 t1 t2 t3 t4 t5 top more=roundB t0 t1 t2 t3 t4 t5 top more:=by
 unfold montB roundB
 simp only [rmL_eq,rmH_eq,addC_comm t0]
theorem montR_eq (ai:UInt64) (b:Fp) (t:L7):montR pLimbs pInv ai b t=roundF b ai t:=by
 unfold montR roundF
 rw [montB_eq]
 simp only [rmL_eq,rmH_eq,macL_comm ai,macH_comm ai]
theorem montInv_eq:montInv pLimbs.l0=pInv:=by decide +kernel
theorem mont6_eq (a b:Fp):mont6 a b pLimbs=halfT b a:=by
 unfold mont6 mont5 mont4 mont3 mont2 mont1
 rw [montInv_eq]
 simp only [montR_eq]
 rfl
theorem halfT_top {a b:Fp} (ha:a.nat<pN):(halfT a b).t6.toNat<=1:=by
 obtain ⟨k,h1,h2⟩:=halfT_nat a b
 rw [L7.nat_low] at h1 h2
 have hlt:=(halfT a b).low.nat_lt
 have hpr:2*pN<rN:=by decide +kernel
 rcases Nat.lt_or_ge (halfT a b).t6.toNat 1 with h | h
 ·omega
 ·have:rN*1<=rN*(halfT a b).t6.toNat:=Nat.mul_le_mul_left _ h
  rcases Nat.lt_or_ge (halfT a b).t6.toNat 2 with h3 | h3
  ·omega
  ·have:rN*2<=rN*(halfT a b).t6.toNat:=Nat.mul_le_mul_left _ h3
   omega
theorem montF_half (a:Fp) {b:Fp} (hb:b.ok):montF a b pLimbs=halfF b a:=by
 unfold montF halfF
 rw [mont6_eq]
 exact montE7_eq _ (halfT_top hb)
theorem sq_ok:sqLimbs.ok:=by unfold Fp.ok;rw [sq_nat];exact Nat.mod_lt _ pN_pos
theorem mulPF_nat (a:Fp) {b:Fp} (hb:b.ok):(mulPF a b).nat=a.nat*b.nat % pN:=by
 unfold mulPF
 rw [montF_half a hb,montF_half _ sq_ok]
 obtain ⟨h1,h2⟩:=halfF_nat (b:=a) hb
 obtain ⟨h3,h4⟩:=halfF_nat (b:=halfF b a) sq_ok
 rw [<- Nat.mod_eq_of_lt h3]
 refine r_cancel ?_
 rw [h4,sq_nat,Nat.mod_mul_mod]
 have e:rN*rN*(halfF b a).nat=(halfF b a).nat*rN*rN:=by rw [Nat.mul_comm,Nat.mul_assoc]
 rw [e,<- Nat.mod_mul_mod,h2,Nat.mod_mul_mod,Nat.mul_comm a.nat]
theorem mulPF_eq {a b:Fp} (ha:a.ok) (hb:b.ok):mulPF a b=mulF a b:=Fp.nat_inj (by rw [mulPF_nat a hb,mulF_nat ha])
theorem subPF_eq (a b:Fp):subPF a b=subF a b:=by
 unfold subPF minusF subF
 cases (subT a b).2 <;> rfl
theorem negPF_eq (a:Fp):negPF a=negF a:=subPF_eq zeroFp a
theorem addPF_eq (a b:Fp):addPF a b=addF a b:=by
 unfold addPF plusF addF
 rw [lessF_eq,belowF_nat,pLimbs_nat]
 cases (addT a b).2
 ·by_cases hl:(addT a b).1.nat<pN
  ·rw [decide_eq_true hl];rfl
  ·rw [decide_eq_false hl];rfl
 ·by_cases hl:(addT a b).1.nat<pN
  ·rw [decide_eq_true hl];rfl
  ·rw [decide_eq_false hl];rfl
theorem mulPF_ok (a:Fp) {b:Fp} (hb:b.ok):(mulPF a b).ok:=by unfold Fp.ok;rw [mulPF_nat a hb];exact Nat.mod_lt _ pN_pos
theorem powPAt_nat {a:Fp} (ha:a.ok) (e:List UInt64) : ∀ (n:Nat) (o:Fp),o.ok->(powPAt a e n o).nat=o.nat ^ 2 ^ n*a.nat ^ eLow e n % pN
 | 0,o,ho=>by
  simp only [powPAt,eLow,Nat.pow_zero,Nat.pow_one,Nat.mul_one]
  exact (Nat.mod_eq_of_lt ho).symm
 | n+1,o,ho=>by
  have h1:=mulPF_nat o ho
  simp only [powPAt]
  cases hb:bitAt e n with
  | true =>
   simp only []
   rw [powPAt_nat ha e n _ (mulPF_ok _ ha),mulPF_nat _ ha,h1]
   simp only [eLow,hb,Bool.toNat_true,Nat.one_mul]
   rw [Nat.mod_mul_mod,<- Nat.mod_mul_mod,<- Nat.pow_mod,Nat.mod_mul_mod]
   refine congrArg (fun z=>z % pN) ?_
   rw [Nat.mul_pow,<- Nat.pow_two,<- Nat.pow_mul,show 2 ^ (n+1)=2*2 ^ n by rw [Nat.pow_succ,Nat.mul_comm],Nat.pow_add a.nat,Nat.mul_assoc,Nat.mul_comm (a.nat ^ 2 ^ n)]
  | false =>
   simp only []
   rw [powPAt_nat ha e n _ (mulPF_ok _ ho),h1]
   simp only [eLow,hb,Bool.toNat_false,Nat.zero_mul,Nat.add_zero]
   rw [<- Nat.mod_mul_mod,<- Nat.pow_mod,Nat.mod_mul_mod]
   refine congrArg (fun z=>z % pN) ?_
   rw [<- Nat.pow_two,<- Nat.pow_mul,show 2 ^ (n+1)=2*2 ^ n by rw [Nat.pow_succ,Nat.mul_comm]]
theorem one_of:ofF 1=oneFp:=rfl
theorem powPF_eq {a:Fp} (ha:a.ok) (e:List UInt64):powPF a e=powF a e:=Fp.nat_inj (by
 unfold powPF
 rw [powF_nat ha,one_of,powPAt_nat ha e _ _ one_ok',one_nat,Nat.one_pow,Nat.one_mul])
theorem pm2_eq:pm2 = [pLimbs.l0-2,pLimbs.l1,pLimbs.l2,pLimbs.l3,pLimbs.l4,pLimbs.l5]:=by decide +kernel
theorem invPF_eq {a:Fp} (ha:a.ok):invPF a=invF a:=by
 unfold invPF invF
 rw [powPF_eq ha,pm2_eq]
 all_goals rfl
def valL (xs:List UInt64):Nat:=valAt xs xs.length
end Go.Proofs.YtgpafcehehaiiaaGreat
namespace Go.Proofs.YtgpafcehehaiiaaGreat
section
variable {R : Type} [CR R]
theorem CR.nat_add (m:Nat) : ∀ n:Nat,(CR.nat (m+n):R)=CR.nat m+CR.nat n
 | 0=>by show CR.nat m=CR.nat m+CR.z;rw [CR.add_zero]
 | n+1=>by
  rw [<- Nat.add_assoc,CR.nat_succ,CR.nat_add m n,CR.nat_succ,CR.add_assoc]
theorem CR.nat_mul (m:Nat) : ∀ n:Nat,(CR.nat (m*n):R)=CR.nat m*CR.nat n
 | 0=>by
  show CR.z=CR.nat m*CR.z
  rw [CR.mul_zero]
 | n+1=>by
  rw [Nat.mul_succ,CR.nat_add,CR.nat_mul m n,CR.nat_succ,CR.dist,CR.mul_one]
def bsR (a:R) (n:Nat):Nat->R
 | 0=>0
 | m+1=>bsR a n m+CR.nat (ch n m)*a ^ m
theorem bsR_step (a:R) (n:Nat) : ∀ m:Nat,bsR a (n+1) (m+1)=bsR a n (m+1)+a*bsR a n m
 | 0=>by
  simp only [bsR,ch_zero]
  grind
 | m+1=>by
  have h:=bsR_step a n m
  show bsR a (n+1) (m+1)+CR.nat (ch (n+1) (m+1))*a ^ (m+1)=bsR a n (m+1)+CR.nat (ch n (m+1))*a ^ (m+1)+a*(bsR a n m+CR.nat (ch n m)*a ^ m)
  rw [h,show ch (n+1) (m+1)=ch n m+ch n (m+1) from rfl,CR.nat_add,pow_succ']
  generalize (CR.nat (ch n m):R)=c
  generalize (CR.nat (ch n (m+1)):R)=d
  generalize a ^ m=e
  grind
theorem binomR (a:R) : ∀ n:Nat,(a+1) ^ n=bsR a n (n+1)
 | 0=>by
  show (1:R)=0+CR.nat 1*a ^ 0
  rw [pow_zero']
  show (1:R)=0+1*1
  grind
 | n+1=>by
  rw [bsR_step a n (n+1),show bsR a n (n+1+1)=bsR a n (n+1)+CR.nat (ch n (n+1))*a ^ (n+1) from rfl,ch_big (Nat.lt_succ_self n),<- binomR a n,pow_succ']
  show _=(a+1) ^ n+0*a ^ (n+1)+a*(a+1) ^ n
  grind
theorem bsR_prime {p:Nat} (h:IsPrime p) (h0:(CR.nat p:R)=0) (a:R) : ∀ m:Nat,m<p->bsR a p (m+1)=1
 | 0,_=>by
  simp only [bsR,ch_zero]
  show (0:R)+1*a ^ 0=1
  rw [pow_zero']
  grind
 | m+1,hm=>by
  have ih:=bsR_prime h h0 a m (by omega)
  obtain ⟨c,hc⟩:=ch_prime h (Nat.succ_pos m) hm
  show bsR a p (m+1)+CR.nat (ch p (m+1))*a ^ (m+1)=1
  rw [hc,CR.nat_mul,h0,ih]
  grind
theorem dream1 {p:Nat} (h:IsPrime p) (h0:(CR.nat p:R)=0) (a:R):(a+1) ^ p=a ^ p+1:=by
 have hp:=h.1
 obtain ⟨n,rfl⟩ : ∃ n,p=n+1:=⟨p-1,by omega⟩
 rw [binomR a (n+1),show bsR a (n+1) (n+1+1)=bsR a (n+1) (n+1)+CR.nat (ch (n+1) (n+1))*a ^ (n+1) from rfl,ch_self,bsR_prime h h0 a n (by omega)]
 show (1:R)+1*a ^ (n+1)=_
 grind
end
section
variable {K : Type} [Fld K]
theorem dream {p:Nat} (h:IsPrime p) (h0:(CR.nat p:K)=0) (a b:K):(a+b) ^ p=a ^ p+b ^ p:=by
 by_cases hb:b=0
 ·rw [hb,zero_pow' p (by have:=h.1;omega)]
  have e:a+0=a:=by grind
  rw [e]
  grind
 ·have hi:=mul_inv' hb
  have h1:=dream1 h h0 (a*Fld.inv b)
  have e1:(a+b)=(a*Fld.inv b+1)*b:=by grind
  have e2:a=(a*Fld.inv b)*b:=by grind
  have e3:a ^ p=(a*Fld.inv b) ^ p*b ^ p:=by rw [<- mul_pow',<- e2]
  rw [e1,mul_pow',h1,e3]
  grind
end
theorem Qd.nat_eq {K:Type} [CR K] [QP K] : ∀ n:Nat,(CR.nat n:Qd K)=Qd.of (CR.nat n)
 | 0=>rfl
 | n+1=>by
  rw [CR.nat_succ,Qd.nat_eq n,CR.nat_succ]
  exact Qd.ext' rfl (show (0:K)+0=0 by grind)
theorem Cb.nat_eq {K:Type} [CR K] [CP K] : ∀ n:Nat,(CR.nat n:Cb K)=Cb.of (CR.nat n)
 | 0=>rfl
 | n+1=>by
  rw [CR.nat_succ,Cb.nat_eq n,CR.nat_succ]
  exact Cb.ext' rfl (show (0:K)+0=0 by grind) (show (0:K)+0=0 by grind)
theorem V1.nat_nat : ∀ n:Nat,V1.nat (CR.nat n)=n % pN
 | 0=>V1.nat_zero
 | n+1=>by
  rw [CR.nat_succ]
  show V1.nat (CR.nat n+1)=_
  rw [V1.nat_add,V1.nat_nat n,V1.nat_one,Nat.mod_add_mod]
theorem V1.char:(CR.nat pN:V1)=0:=V1.ext (by rw [V1.nat_nat,Nat.mod_self,V1.nat_zero])
theorem V1.two_nat:V1.nat (2:V1)=2:=by
 show V1.nat (CR.nat 2)=2
 rw [V1.nat_nat]
 exact Nat.mod_eq_of_lt two_lt
instance : QF V1 where
 nr := -1
 no:=fun x h=>by
  have h1:(x*x).chi=x.chi*x.chi:=chi_mul x x
  rw [h,chi_neg_one] at h1
  have hx:x ≠ 0:=fun e=>by
   rw [e] at h
   have:=one_ne' (K:=V1)
   grind
  rw [chi_sq hx] at h1
  exact one_ne_neg h1.symm
abbrev V2:Type:=Qd V1
theorem V1.nr_eq:(QP.nr:V1) = -1:=rfl
def xi:V2:=⟨1,1⟩
theorem xi_norm:xi.norm=2:=by
 unfold Qd.norm xi
 rw [V1.nr_eq]
 show (1:V1)*1 - -1*(1*1)=2
 grind
theorem two_ne:(2:V1) ≠ 0:=fun h=>by
 have h1:=congrArg V1.nat h
 rw [V1.two_nat,V1.nat_zero] at h1
 exact absurd h1 (by decide)
theorem third:(pN-1) / 3*3=pN-1:=by decide +kernel
theorem two_third:((2:V1) ^ ((pN-1) / 3)) ≠ 1:=fun h=>by
 have h1:=congrArg V1.nat h
 rw [V1.nat_pow,V1.two_nat,V1.nat_one,<- mpow_eq pN 381 2 _ (by decide +kernel)] at h1
 exact absurd h1 (by decide +kernel)
theorem two_half:(2:V1).chi ≠ 1:=fun h=>by
 have h1:=congrArg V1.nat h
 unfold V1.chi at h1
 rw [V1.nat_pow,V1.two_nat,V1.nat_one,<- mpow_eq pN 381 2 _ (by decide +kernel)] at h1
 exact absurd h1 (by decide +kernel)
theorem CR_zero {R:Type} [CR R] (a:R):a*0=0:=CR.mul_zero a
instance : CF V2 where
 cr:=xi
 no:=fun x h=>by
  have h1:x.norm*x.norm*x.norm=2:=by rw [<- Qd.norm_mul,<- Qd.norm_mul,h,xi_norm]
  have hx:x.norm ≠ 0:=fun e=>by
   exact two_ne (by rw [<- h1,e,CR_zero])
  apply two_third
  have e:(2:V1)=x.norm ^ 3:=by rw [<- h1];grind
  rw [e,<- pow_mul',Nat.mul_comm,third]
  exact V1.fermat hx
abbrev V6:Type:=Cb V2
theorem V2.cr_eq:(CP.cr:V2)=xi:=rfl
def vv:V6:=⟨0,1,0⟩
theorem vv_norm:vv.norm=xi:=by
 unfold Cb.norm vv
 rw [V2.cr_eq]
 show (0:V2)*(0*0-xi*(1*0))+xi*(0*(xi*(0*0)-0*1)+1*(1*1-0*0))=xi
 generalize xi=x
 grind
instance : QF V6 where
 nr:=vv
 no:=fun x h=>by
  have h1:x.norm*x.norm=xi:=by rw [<- Cb.norm_mul,h,vv_norm]
  have h2:x.norm.norm*x.norm.norm=2:=by rw [<- Qd.norm_mul,h1,xi_norm]
  have hx:x.norm.norm ≠ 0:=fun e=>by
   exact two_ne (by rw [<- h2,e,CR_zero])
  apply two_half
  rw [<- h2,chi_mul,chi_sq hx]
abbrev V12:Type:=Qd V6
theorem V2.char:(CR.nat pN:V2)=0:=by rw [Qd.nat_eq,V1.char];rfl
theorem V6.char:(CR.nat pN:V6)=0:=by rw [Cb.nat_eq,V2.char];rfl
theorem V12.char:(CR.nat pN:V12)=0:=by rw [Qd.nat_eq,V6.char];rfl
theorem V1.pow_p (a:V1):a ^ pN=a:=by
 by_cases h:a=0
 ·rw [h];exact zero_pow' _ pN_pos
 ·have e:pN=(pN-1)+1:=by have:=pN_pos;omega
  rw [e,pow_succ',V1.fermat h]
  grind
theorem Qd.of_pow {K:Type} [CR K] [QP K] (a:K) : ∀ n:Nat,(Qd.of a) ^ n=Qd.of (a ^ n)
 | 0=>rfl
 | n+1=>by rw [pow_succ',Qd.of_pow a n,pow_succ',Qd.of_mul]
def uu:V2:=⟨0,1⟩
theorem uu_sq:uu*uu = -1:=Qd.ext' (by rw [Qd.mul_a,V1.nr_eq];show (0:V1)*0 + -1*(1*1) = -1;grind) (by rw [Qd.mul_b];show (0:V1)*1+1*0 = -0;grind)
theorem neg_one_pow {R:Type} [CR R] : ∀ k:Nat,(-1:R) ^ (2*k+1) = -1
 | 0=>by show (-1:R) ^ 1 = -1;exact pow_one' _
 | k+1=>by
  rw [show 2*(k+1)+1=(2*k+1)+1+1 by omega,pow_succ',pow_succ',neg_one_pow k]
  grind
theorem p_four:pN=2*(2*((pN-3) / 4)+1)+1:=by decide +kernel
theorem uu_pow:uu ^ pN = -uu:=by
 have e:uu ^ pN=(uu ^ 2) ^ (2*((pN-3) / 4)+1)*uu:=by
  rw [<- pow_mul',<- pow_succ',<- p_four]
 have e2:uu ^ 2 = -1:=by
  rw [show (2:Nat)=1+1 from rfl,pow_succ',pow_one',uu_sq]
 rw [e,e2,neg_one_pow]
 grind
theorem V2.split (x:V2):x=Qd.of x.a+Qd.of x.b*uu:=Qd.ext' (by rw [Qd.add_a,Qd.mul_a];show x.a=x.a+(x.b*0+QP.nr*(0*1));grind) (by rw [Qd.add_b,Qd.mul_b];show x.b=0+(x.b*1+0*0);grind)
theorem V2.frob (x:V2):x ^ pN=x.conj:=by
 have h:x ^ pN=Qd.of x.a+Qd.of x.b * -uu:=by
  conv=>lhs;rw [V2.split x]
  rw [dream prime_p V2.char,mul_pow',uu_pow,Qd.of_pow,Qd.of_pow,V1.pow_p,V1.pow_p]
 rw [h]
 exact Qd.ext' (by rw [Qd.add_a,Qd.mul_a];show x.a+(x.b * -0+QP.nr*(0 * -1))=x.a;grind) (by rw [Qd.add_b,Qd.mul_b];show 0+(x.b * -1+0 * -0) = -x.b;grind)
end Go.Proofs.YtgpafcehehaiiaaGreat
namespace Go.Proofs.YtgpafcehehaiiaaGreat
open Go.RowKit
section
def rv:V1:=V1.of rN
def ri:V1:=Fld.inv rv
theorem rv_ne:rv ≠ 0:=fun e=>by
 have h:=congrArg V1.nat e
 rw [V1.nat_zero] at h
 exact absurd h (by decide +kernel)
theorem rv_ri:rv*ri=1:=mul_inv' rv_ne
theorem half_ok' {a b:Fp} (ha:a.ok):(halfF a b).ok:=(halfF_nat ha).1
theorem v_half {a b:Fp} (ha:a.ok) (hb:b.ok):(halfF a b).v=ri*(a.v*b.v):=by
 have h:(halfF a b).v*rv=a.v*b.v:=V1.ext (by
  rw [V1.nat_mul,V1.nat_mul,Fp.v_nat (half_ok' ha),Fp.v_nat ha,Fp.v_nat hb]
  show ((halfF a b).nat*(rN % pN)) % pN=_
  rw [Nat.mul_mod_mod,(halfF_nat ha).2])
 have h2:=rv_ri
 grind
theorem whole_ok' {a:Fp} (ha:a.ok):(wholeF a).ok:=by
 unfold Fp.ok
 rw [wholeF_nat ha]
 exact Nat.mod_lt _ pN_pos
theorem v_whole {a:Fp} (ha:a.ok):(wholeF a).v=rv*a.v:=V1.ext (by
 rw [Fp.v_nat (whole_ok' ha),wholeF_nat ha,V1.nat_mul,Fp.v_nat ha]
 show _=(rN % pN*a.nat) % pN
 rw [Nat.mod_mul_mod,Nat.mul_comm])
theorem low_ok' {a:Fp} (ha:a.ok):(lowF a).ok:=(lowF_nat ha).1
theorem v_low {a:Fp} (ha:a.ok):(lowF a).v=ri*a.v:=by
 have h:(lowF a).v*rv=a.v:=V1.ext (by
  rw [V1.nat_mul,Fp.v_nat (low_ok' ha),Fp.v_nat ha]
  show ((lowF a).nat*(rN % pN)) % pN=_
  rw [Nat.mul_mod_mod,(lowF_nat ha).2])
 have h2:=rv_ri
 grind
theorem inv_v {a:Fp} (ha:a.ok):(a.v=0->(invF a).2=7)/\(a.v ≠ 0->(invF a).2=0/\(invF a).1.ok/\(invF a).1.v=Fld.inv a.v):=by
 obtain ⟨h1,h2⟩:=inv_law ha
 constructor
 ·intro h
  refine h1 ?_
  have:=congrArg V1.nat h
  rwa [Fp.v_nat ha,V1.nat_zero] at this
 ·intro h
  have h0:=V1.ne_zero h
  rw [Fp.v_nat ha] at h0
  obtain ⟨i1,i2,i3⟩:=h2 h0
  refine ⟨i1,i2,inv_unique' (V1.ext ?_)⟩
  rw [V1.nat_mul,Fp.v_nat ha,Fp.v_nat i2,i3,V1.nat_one]
def Fp2.ok (a:Fp2):Prop:=a.c0.ok/\a.c1.ok
def Fp2.v (a:Fp2):V2:=⟨a.c0.v,a.c1.v⟩
theorem Fp2.v_a (a:Fp2):a.v.a=a.c0.v:=rfl
theorem Fp2.v_b (a:Fp2):a.v.b=a.c1.v:=rfl
theorem Fp2.v_inj {a b:Fp2} (ha:a.ok) (hb:b.ok) (h:a.v=b.v):a=b:=by
 have h1:a.c0=b.c0:=Fp.v_inj ha.1 hb.1 (congrArg Qd.a h)
 have h2:a.c1=b.c1:=Fp.v_inj ha.2 hb.2 (congrArg Qd.b h)
 cases a;cases b
 simp only [] at h1 h2
 subst h1 h2
 rfl
theorem fp2Eq_v {a b:Fp2} (ha:a.ok) (hb:b.ok):fp2Eq a b=true <-> a.v=b.v:=⟨fun h=>by rw [(fp2Eq_iff a b).1 h],fun h=>(fp2Eq_iff a b).2 (Fp2.v_inj ha hb h)⟩
theorem addF2_eq (a b:Fp2):addF2 a b=⟨addF a.c0 b.c0,addF a.c1 b.c1⟩:=by unfold addF2 addF2_G;rfl
theorem subF2_eq (a b:Fp2):subF2 a b=⟨subF a.c0 b.c0,subF a.c1 b.c1⟩:=by unfold subF2 subF2_G;rfl
theorem negF2_eq (a:Fp2):negF2 a=⟨negF a.c0,negF a.c1⟩:=by unfold negF2 negF2_G;rfl
theorem conjF2_eq (a:Fp2):conjF2 a=⟨a.c0,negF a.c1⟩:=by unfold conjF2 conjF2_G;rfl
theorem upF2_eq (a:Fp2):upF2 a=⟨subF a.c0 a.c1,addF a.c0 a.c1⟩:=by unfold upF2 upF2_G;rfl
theorem halfF2_eq (a b:Fp2):halfF2 a b=⟨subF (halfF a.c0 b.c0) (halfF a.c1 b.c1),subF (halfF (addF a.c0 a.c1) (addF b.c0 b.c1)) (addF (halfF a.c0 b.c0) (halfF a.c1 b.c1))⟩:=by unfold halfF2 halfF2_G;rfl
theorem wholeF2_eq (a:Fp2):wholeF2 a=⟨wholeF a.c0,wholeF a.c1⟩:=by unfold wholeF2 wholeF2_G;rfl
theorem lowF2_eq (a:Fp2):lowF2 a=⟨lowF a.c0,lowF a.c1⟩:=by unfold lowF2 lowF2_G;rfl
theorem mulF2_eq (a b:Fp2):mulF2 a b=wholeF2 (halfF2 a b):=by unfold mulF2 mulF2_G;rfl
theorem normF2_G_eq (f g:Fp->Fp->Fp) (a:Fp2):normF2_G f g a=f (g a.c0 a.c0) (g a.c1 a.c1):=rfl
theorem normF2_eq (a:Fp2):normF2 a=addF (mulF a.c0 a.c0) (mulF a.c1 a.c1):=by
 unfold normF2
 exact normF2_G_eq addF mulF a
theorem scaledF2_eq (a:Fp2) (k:Fp):scaledF2 a k=⟨mulF a.c0 k,mulF a.c1 k⟩:=by unfold scaledF2 scaledF2_G;rfl
theorem Fp2.mk_ok {a b:Fp} (ha:a.ok) (hb:b.ok):(⟨a,b⟩:Fp2).ok:=⟨ha,hb⟩
theorem Fp2.mk_v {a b:Fp} {x:V2} (ha:a.v=x.a) (hb:b.v=x.b):(⟨a,b⟩:Fp2).v=x:=Qd.ext' ha hb
theorem may2_iff (a:Fp2):mayF2 a=true <-> a.ok:=by
 unfold mayF2 mayF2_G Fp2.ok
 rw [<- mayF_ok,<- mayF_ok]
 cases mayF a.c0 <;> simp
theorem zero_ok2:zeroFp2.ok:=⟨zero_ok',zero_ok'⟩
theorem v_zero2:zeroFp2.v=0:=Qd.ext' v_zero v_zero
theorem one_ok2:oneFp2.ok:=⟨one_ok',zero_ok'⟩
theorem v_one2:oneFp2.v=1:=Qd.ext' v_one v_zero
theorem add_ok2 {a b:Fp2} (ha:a.ok) (hb:b.ok):(addF2 a b).ok:=by rw [addF2_eq];exact Fp2.mk_ok (add_ok' ha.1 hb.1) (add_ok' ha.2 hb.2)
theorem v_add2 {a b:Fp2} (ha:a.ok) (hb:b.ok):(addF2 a b).v=a.v+b.v:=by rw [addF2_eq];exact Fp2.mk_v (v_add ha.1 hb.1) (v_add ha.2 hb.2)
theorem sub_ok2 {a b:Fp2} (ha:a.ok) (hb:b.ok):(subF2 a b).ok:=by rw [subF2_eq];exact Fp2.mk_ok (sub_ok' ha.1 hb.1) (sub_ok' ha.2 hb.2)
theorem v_sub2 {a b:Fp2} (ha:a.ok) (hb:b.ok):(subF2 a b).v=a.v-b.v:=by rw [subF2_eq];exact Fp2.mk_v (v_sub ha.1 hb.1) (v_sub ha.2 hb.2)
theorem neg_ok2 {a:Fp2} (ha:a.ok):(negF2 a).ok:=by rw [negF2_eq];exact Fp2.mk_ok (neg_ok' ha.1) (neg_ok' ha.2)
theorem v_neg2 {a:Fp2} (ha:a.ok):(negF2 a).v = -a.v:=by rw [negF2_eq];exact Fp2.mk_v (v_neg ha.1) (v_neg ha.2)
theorem conj_ok2 {a:Fp2} (ha:a.ok):(conjF2 a).ok:=by rw [conjF2_eq];exact Fp2.mk_ok (ha.1) (neg_ok' ha.2)
theorem v_conj2 {a:Fp2} (ha:a.ok):(conjF2 a).v=a.v.conj:=by rw [conjF2_eq];exact Fp2.mk_v rfl (v_neg ha.2)
theorem up_ok2 {a:Fp2} (ha:a.ok):(upF2 a).ok:=by rw [upF2_eq];exact Fp2.mk_ok (sub_ok' ha.1 ha.2) (add_ok' ha.1 ha.2)
theorem V2.mul_a (x y:V2):(x*y).a=x.a*y.a-x.b*y.b:=by rw [Qd.mul_a,V1.nr_eq];grind
theorem V2.mul_b (x y:V2):(x*y).b=x.a*y.b+x.b*y.a:=Qd.mul_b x y
theorem xi_a:xi.a=1:=rfl
theorem xi_b:xi.b=1:=rfl
theorem v_up2 {a:Fp2} (ha:a.ok):(upF2 a).v=xi*a.v:=by
 rw [upF2_eq]
 exact Fp2.mk_v (by rw [V2.mul_a,xi_a,xi_b,v_sub ha.1 ha.2,Fp2.v_a,Fp2.v_b];grind)
  (by rw [V2.mul_b,xi_a,xi_b,v_add ha.1 ha.2,Fp2.v_a,Fp2.v_b];grind)
def rv2:V2:=Qd.of rv
def ri2:V2:=Qd.of ri
theorem rv_ri2:rv2*ri2=1:=by unfold rv2 ri2;rw [<- Qd.of_mul,rv_ri];rfl
theorem half_ok2 {a b:Fp2} (ha:a.ok) (hb:b.ok):(halfF2 a b).ok:=by rw [halfF2_eq];exact Fp2.mk_ok (sub_ok' (half_ok' ha.1) (half_ok' ha.2)) (sub_ok' (half_ok' (add_ok' ha.1 ha.2)) (add_ok' (half_ok' ha.1) (half_ok' ha.2)))
theorem v_half2 {a b:Fp2} (ha:a.ok) (hb:b.ok):(halfF2 a b).v=ri2*(a.v*b.v):=by
 rw [halfF2_eq]
 exact Fp2.mk_v (by
  rw [v_sub (half_ok' ha.1) (half_ok' ha.2),v_half ha.1 hb.1,v_half ha.2 hb.2,V2.mul_a,V2.mul_a,V2.mul_b]
  rw [show ri2.a=ri from rfl,show ri2.b=0 from rfl,Fp2.v_a,Fp2.v_b,Fp2.v_a,Fp2.v_b]
  grind)
  (by
  rw [v_sub (half_ok' (add_ok' ha.1 ha.2)) (add_ok' (half_ok' ha.1) (half_ok' ha.2)),v_half (add_ok' ha.1 ha.2) (add_ok' hb.1 hb.2),v_add (half_ok' ha.1) (half_ok' ha.2),v_half ha.1 hb.1,v_half ha.2 hb.2,v_add ha.1 ha.2,v_add hb.1 hb.2,V2.mul_b,V2.mul_a,V2.mul_b]
  rw [show ri2.a=ri from rfl,show ri2.b=0 from rfl,Fp2.v_a,Fp2.v_b,Fp2.v_a,Fp2.v_b]
  grind)
theorem whole_ok2 {a:Fp2} (ha:a.ok):(wholeF2 a).ok:=by rw [wholeF2_eq];exact Fp2.mk_ok (whole_ok' ha.1) (whole_ok' ha.2)
theorem of_mul_a (k:V1) (x:V2):(Qd.of k*x).a=k*x.a:=by rw [V2.mul_a];show k*x.a-0*x.b=_;grind
theorem of_mul_b (k:V1) (x:V2):(Qd.of k*x).b=k*x.b:=by rw [V2.mul_b];show k*x.b+0*x.a=_;grind
theorem v_whole2 {a:Fp2} (ha:a.ok):(wholeF2 a).v=rv2*a.v:=by rw [wholeF2_eq];exact Fp2.mk_v (by unfold rv2;rw [of_mul_a];exact v_whole ha.1) (by unfold rv2;rw [of_mul_b];exact v_whole ha.2)
theorem low_ok2 {a:Fp2} (ha:a.ok):(lowF2 a).ok:=by rw [lowF2_eq];exact Fp2.mk_ok (low_ok' ha.1) (low_ok' ha.2)
theorem v_low2 {a:Fp2} (ha:a.ok):(lowF2 a).v=ri2*a.v:=by rw [lowF2_eq];exact Fp2.mk_v (by unfold ri2;rw [of_mul_a];exact v_low ha.1) (by unfold ri2;rw [of_mul_b];exact v_low ha.2)
theorem mul_ok2 {a b:Fp2} (ha:a.ok) (hb:b.ok):(mulF2 a b).ok:=by rw [mulF2_eq];exact whole_ok2 (half_ok2 ha hb)
theorem v_mul2 {a b:Fp2} (ha:a.ok) (hb:b.ok):(mulF2 a b).v=a.v*b.v:=by
 rw [mulF2_eq,v_whole2 (half_ok2 ha hb),v_half2 ha hb]
 have:=rv_ri2
 grind
theorem norm_ok2 {a:Fp2} (ha:a.ok):(normF2 a).ok:=by rw [normF2_eq];exact add_ok' (mul_ok' ha.1) (mul_ok' ha.2)
theorem V2.norm_eq (x:V2):x.norm=x.a*x.a+x.b*x.b:=by unfold Qd.norm;rw [V1.nr_eq];grind
theorem v_norm2 {a:Fp2} (ha:a.ok):(normF2 a).v=a.v.norm:=by
 rw [V2.norm_eq,normF2_eq,v_add (mul_ok' ha.1) (mul_ok' ha.2),v_mul ha.1 ha.1,v_mul ha.2 ha.2]
 rfl
theorem scaled_ok2 {a:Fp2} {k:Fp} (ha:a.ok) (hk:k.ok):(scaledF2 a k).ok:=by rw [scaledF2_eq];exact Fp2.mk_ok (mul_ok' ha.1) (mul_ok' ha.2)
theorem v_scaled2 {a:Fp2} {k:Fp} (ha:a.ok) (hk:k.ok):(scaledF2 a k).v=Qd.of k.v*a.v:=by
 rw [scaledF2_eq]
 exact Fp2.mk_v (by rw [of_mul_a,v_mul ha.1 hk];exact CR.mul_comm a.c0.v k.v)
  (by rw [of_mul_b,v_mul ha.2 hk];exact CR.mul_comm a.c1.v k.v)
theorem V2.inv_eq {x:V2} (h:x ≠ 0):Fld.inv x=Qd.of (Fld.inv x.norm)*x.conj:=by
 refine (inv_unique' ?_).symm
 have h1:=Qd.mul_conj x
 have h2:Qd.of x.norm*Qd.of (Fld.inv x.norm)=(1:V2):=by rw [<- Qd.of_mul,mul_inv' (Qd.norm_ne h)];rfl
 grind
theorem V2.norm_zero:(0:V2).norm=0:=by rw [V2.norm_eq];show (0:V1)*0+0*0=0;grind
theorem invF2_no {f0:Fp->Fp × Int} {f1:Fp2->Fp} (f2:Fp2->Fp->Fp2) (f3:Fp2->Fp2) {a:Fp2} (h:(f0 (f1 a)).2=7):invF2_G f0 f1 f2 f3 a=(zeroFp2,7):=by
 unfold invF2_G
 rw [h]
 rfl
theorem invF2_yes {f0:Fp->Fp × Int} {f1:Fp2->Fp} (f2:Fp2->Fp->Fp2) (f3:Fp2->Fp2) {a:Fp2} (h:(f0 (f1 a)).2=0):invF2_G f0 f1 f2 f3 a=(f2 (f3 a) (f0 (f1 a)).1,0):=by
 unfold invF2_G
 rw [h]
 rfl
theorem inv_v2 {a:Fp2} (ha:a.ok):(a.v=0->invF2 a=(zeroFp2,7))/\(a.v ≠ 0->(invF2 a).2=0/\(invF2 a).1.ok/\(invF2 a).1.v=Fld.inv a.v):=by
 obtain ⟨h1,h2⟩:=inv_v (norm_ok2 ha)
 rw [v_norm2 ha] at h1 h2
 unfold invF2
 constructor
 ·intro h
  exact invF2_no _ _ (h1 (by rw [h];exact V2.norm_zero))
 ·intro h
  obtain ⟨i1,i2,i3⟩:=h2 (Qd.norm_ne h)
  rw [invF2_yes _ _ i1]
  simp only []
  refine ⟨trivial,scaled_ok2 (conj_ok2 ha) i2,?_⟩
  rw [v_scaled2 (conj_ok2 ha) i2,i3,v_conj2 ha,V2.inv_eq h]
theorem powG_v {α R:Type} [CR R] (ok:α->Prop) (v:α->R) {mF:α->α->α} (h1 : ∀ {a b},ok a->ok b->ok (mF a b)) (h2 : ∀ {a b},ok a->ok b->v (mF a b)=v a*v b) {a:α} (ha:ok a) (e:List UInt64) : ∀ (n:Nat) {o:α},ok o ->
  ok (powG mF a e n o)/\v (powG mF a e n o)=v o ^ 2 ^ n*v a ^ eLow e n
 | 0,o,ho=>⟨ho,by
  show v o=v o ^ 2 ^ 0*v a ^ eLow e 0
  rw [show (2 ^ 0:Nat)=1 from rfl,pow_one',show eLow e 0=0 from rfl,pow_zero']
  grind⟩
 | n+1,o,ho=>by
  simp only [powG]
  have e2:(2:Nat) ^ (n+1)=2 ^ n+2 ^ n:=by rw [Nat.pow_succ];omega
  cases hb:bitAt e n with
  | true =>
   simp only []
   obtain ⟨i1,i2⟩:=powG_v ok v h1 h2 ha e n (h1 (h1 ho ho) ha)
   refine ⟨i1,?_⟩
   rw [i2,h2 (h1 ho ho) ha,h2 ho ho]
   simp only [eLow,hb,Bool.toNat_true,Nat.one_mul]
   rw [mul_pow',mul_pow',e2,pow_add',pow_add']
   grind
  | false =>
   simp only []
   obtain ⟨i1,i2⟩:=powG_v ok v h1 h2 ha e n (h1 ho ho)
   refine ⟨i1,?_⟩
   rw [i2,h2 ho ho]
   simp only [eLow,hb,Bool.toNat_false,Nat.zero_mul,Nat.add_zero]
   rw [mul_pow',e2,pow_add']
theorem pw2At_eq (x:Fp2) (e:List UInt64) : ∀ (n:Nat) (o:Fp2),pw2At x e n o=lowF2 (powG halfF2 x e n o)
 | 0,o=>rfl
 | n+1,o=>by
  simp only [pw2At,powG]
  exact pw2At_eq x e n _
theorem pow_v2 {a:Fp2} (ha:a.ok) (e:List UInt64):(powF2 a e).ok/\(powF2 a e).v=a.v ^ eLow e (64*e.length):=by
 unfold powF2
 rw [pw2At_eq]
 have h:=rv_ri2
 obtain ⟨h1,h2⟩:=powG_v (mF:=halfF2) Fp2.ok (fun x=>ri2*x.v) half_ok2 (fun {a b} ha hb=>by
  show ri2*(halfF2 a b).v=ri2*a.v*(ri2*b.v)
  rw [v_half2 ha hb]
  grind) (whole_ok2 ha) e (64*e.length) (whole_ok2 one_ok2)
 refine ⟨low_ok2 h1,?_⟩
 rw [v_low2 h1]
 rw [h2,v_whole2 one_ok2,v_whole2 ha,v_one2,show ri2*(rv2*1)=1 by grind,one_pow',show ri2*(rv2*a.v)=a.v by grind]
 grind
end
section
theorem add2R_G_eq (f:Fp->Fp->Fp) (a b:Fp2):add2R_G f a b=⟨f a.c0 b.c0,f a.c1 b.c1⟩:=rfl
theorem sub2R_G_eq (f:Fp->Fp->Fp) (a b:Fp2):sub2R_G f a b=⟨f a.c0 b.c0,f a.c1 b.c1⟩:=rfl
theorem mul2R_G_eq (f g h:Fp->Fp->Fp) (a b:Fp2):mul2R_G f g h a b=⟨f (g a.c0 b.c0) (g a.c1 b.c1),h (g a.c0 b.c1) (g a.c1 b.c0)⟩:=rfl
theorem conj2R_G_eq (f:Fp->Fp) (a:Fp2):conj2R_G f a=⟨a.c0,f a.c1⟩:=rfl
theorem one2R_G_eq (f:UInt64->Fp):one2R_G f=⟨f 1,zeroFp⟩:=rfl
theorem xi2R_G_eq (f:UInt64->Fp):xi2R_G f=⟨f 1,f 1⟩:=rfl
theorem add2R_eq (a b:Fp2):add2R a b=addF2 a b:=by
 unfold add2R
 rw [add2R_G_eq,addPF_eq,addPF_eq,addF2_eq]
theorem sub2R_eq (a b:Fp2):sub2R a b=subF2 a b:=by
 unfold sub2R
 rw [sub2R_G_eq,subPF_eq,subPF_eq,subF2_eq]
theorem conj2R_eq (a:Fp2):conj2R a=conjF2 a:=by
 unfold conj2R
 rw [conj2R_G_eq,negPF_eq,conjF2_eq]
theorem one2R_eq:one2R=oneFp2:=by
 unfold one2R
 rw [one2R_G_eq,one_of]
 rfl
theorem xi2R_eq':xi2R=⟨oneFp,oneFp⟩:=by
 unfold xi2R
 rw [xi2R_G_eq,one_of]
theorem xi_ok2:xi2R.ok:=by rw [xi2R_eq'];exact ⟨one_ok',one_ok'⟩
theorem v_xi2:xi2R.v=xi:=by rw [xi2R_eq'];exact Qd.ext' v_one v_one
theorem mul2R_eq {a b:Fp2} (ha:a.ok) (hb:b.ok):mul2R a b=mulF2 a b:=by
 unfold mul2R
 rw [mul2R_G_eq,mulPF_eq ha.1 hb.1,mulPF_eq ha.2 hb.2,mulPF_eq ha.1 hb.2,mulPF_eq ha.2 hb.1,subPF_eq,addPF_eq]
 refine Fp2.v_inj (Fp2.mk_ok (sub_ok' (mul_ok' ha.1) (mul_ok' ha.2)) (add_ok' (mul_ok' ha.1) (mul_ok' ha.2))) (mul_ok2 ha hb) ?_
 rw [v_mul2 ha hb]
 refine Fp2.mk_v ?_ ?_
 ·rw [V2.mul_a,v_sub (mul_ok' ha.1) (mul_ok' ha.2),v_mul ha.1 hb.1,v_mul ha.2 hb.2,Fp2.v_a,Fp2.v_a,Fp2.v_b,Fp2.v_b]
 ·rw [V2.mul_b,v_add (mul_ok' ha.1) (mul_ok' ha.2),v_mul ha.1 hb.2,v_mul ha.2 hb.1,Fp2.v_a,Fp2.v_a,Fp2.v_b,Fp2.v_b]
def great2V (a:Fp2):Bool:=match fpEq a.c1 zeroFp with
 | true=>greatF a.c0
 | false=>greatF a.c1
theorem inv2R_no {f0:Fp2->Fp2->Fp2} {f1:Fp2->Fp2} {f2:Fp->Fp × Int} {a:Fp2} (h:(f2 (f0 a (f1 a)).c0).2=7):inv2R_G f0 f1 f2 a=(zeroFp2,7):=by
 unfold inv2R_G
 rw [h]
 rfl
theorem inv2R_yes {f0:Fp2->Fp2->Fp2} {f1:Fp2->Fp2} {f2:Fp->Fp × Int} {a:Fp2} (h:(f2 (f0 a (f1 a)).c0).2=0):inv2R_G f0 f1 f2 a=(f0 (f1 a) ⟨(f2 (f0 a (f1 a)).c0).1,zeroFp⟩,0):=by
 unfold inv2R_G
 rw [h]
 rfl
theorem inv2R_eq {a:Fp2} (ha:a.ok):inv2R a=invF2 a:=by
 have hc:=conj_ok2 ha
 have hn:(mul2R a (conj2R a)).c0=normF2 a:=by
  rw [conj2R_eq,mul2R_eq ha hc]
  refine Fp.v_inj (mul_ok2 ha hc).1 (norm_ok2 ha) ?_
  rw [v_norm2 ha,<- Fp2.v_a,v_mul2 ha hc,v_conj2 ha,Qd.mul_conj]
  rfl
 obtain ⟨h1,h2⟩:=inv_v (norm_ok2 ha)
 obtain ⟨k1,k2⟩:=inv_v2 ha
 rw [v_norm2 ha] at h1 h2
 by_cases h0:a.v=0
 ·rw [k1 h0]
  unfold inv2R
  exact inv2R_no (by rw [hn,invPF_eq (norm_ok2 ha)];exact h1 (by rw [h0];exact V2.norm_zero))
 ·obtain ⟨i1,i2,i3⟩:=h2 (Qd.norm_ne h0)
  obtain ⟨j1,j2,j3⟩:=k2 h0
  have e:inv2R a=(mul2R (conj2R a) ⟨(invF (normF2 a)).1,zeroFp⟩,0):=by
   unfold inv2R
   rw [inv2R_yes (by rw [hn,invPF_eq (norm_ok2 ha)];exact i1),hn,invPF_eq (norm_ok2 ha)]
  have hq:(⟨(invF (normF2 a)).1,zeroFp⟩:Fp2).ok:=Fp2.mk_ok i2 zero_ok'
  rw [e]
  refine Prod.ext ?_ j1.symm
  simp only []
  rw [conj2R_eq,mul2R_eq hc hq]
  refine Fp2.v_inj (mul_ok2 hc hq) j2 ?_
  rw [j3,v_mul2 hc hq,v_conj2 ha,V2.inv_eq h0,show (⟨(invF (normF2 a)).1,zeroFp⟩:Fp2).v=Qd.of (Fld.inv a.v.norm) from Fp2.mk_v i3 v_zero]
  exact CR.mul_comm _ _
theorem great2_low {a:Fp2} (h:fpEq a.c1 zeroFp=true):great2V a=greatF a.c0:=by
 unfold great2V
 rw [h]
theorem great2_high {a:Fp2} (h:fpEq a.c1 zeroFp=false):great2V a=greatF a.c1:=by
 unfold great2V
 rw [h]
theorem fpEq_zero {a:Fp} (ha:a.ok):fpEq a zeroFp=true <-> a.v=0:=by
 have:=fpEq_v ha zero_ok'
 rw [v_zero] at this
 exact this
theorem fpEq_nonzero {a:Fp} (ha:a.ok):fpEq a zeroFp=false <-> a.v ≠ 0:=by
 rw [<- Bool.not_eq_true,fpEq_zero ha]
theorem great_neg2 {a:Fp2} (ha:a.ok) (h:a.v ≠ 0):great2V (negF2 a) = !great2V a:=by
 have e0:(negF2 a).c0=negF a.c0:=by rw [negF2_eq]
 have e1:(negF2 a).c1=negF a.c1:=by rw [negF2_eq]
 by_cases h1:a.c1.v=0
 ·have h0:a.c0.v ≠ 0:=fun h0=>h (Qd.ext' h0 h1)
  rw [great2_low ((fpEq_zero ha.2).2 h1),great2_low (a:=negF2 a) (by rw [e1,fpEq_zero (neg_ok' ha.2),v_neg ha.2,h1];grind),e0,great_neg ha.1 h0]
 ·rw [great2_high ((fpEq_nonzero ha.2).2 h1),great2_high (a:=negF2 a) (by rw [e1,fpEq_nonzero (neg_ok' ha.2),v_neg ha.2];grind),e1,great_neg ha.2 h1]
def RootOf (a:Fp2) (r:Fp2 × Bool):Prop:=((∃ y:V2,y*y=a.v)/\r.2=true/\r.1.ok/\r.1.v*r.1.v=a.v/\great2V r.1=false) \/ ((¬ ∃ y:V2,y*y=a.v)/\r=(zeroFp2,false))
theorem RootOf.eq {a:Fp2} {r s:Fp2 × Bool} (h:RootOf a r) (k:RootOf a s):r=s:=by
 rcases h with ⟨h0,h1,h2,h3,h4⟩ | ⟨h0,h1⟩
 ·rcases k with ⟨k0,k1,k2,k3,k4⟩ | ⟨k0,_⟩
  ·refine Prod.ext ?_ (h1.trans k1.symm)
   rcases sq_eq' (h3.trans k3.symm) with e | e
   ·exact Fp2.v_inj h2 k2 e
   ·by_cases hz:s.1.v=0
    ·exact Fp2.v_inj h2 k2 (by rw [e,hz];grind)
    ·exfalso
     have:r.1=negF2 s.1:=Fp2.v_inj h2 (neg_ok2 k2) (by rw [e,v_neg2 k2])
     rw [this,great_neg2 k2 hz,k4] at h4
     cases h4
  ·exact absurd h0 k0
 ·rcases k with ⟨k0,_⟩ | ⟨_,k1⟩
  ·exact absurd k0 h0
  ·rw [h1,k1]
def i2:V1:=Fld.inv 2
theorem low_v (x:Fp):(⟨x,zeroFp⟩:Fp2).v=⟨x.v,0⟩:=Fp2.mk_v rfl v_zero
section
variable {f0 : Fp -> Fp2} {f1 : Fp2 -> Fp} {f2 : Fp -> Fp × Bool} {f3 : Fp2 -> Fp -> Fp2} {f4 : Fp2 -> Fp2 -> Fp2} {f5 : Fp2 -> Bool} {f6 : Fp2 -> Fp2} {a : Fp2}
end
section
variable {f0 : Fp -> Fp × Int} {f1 : UInt64 -> Fp} {f2 : Fp -> Fp × Bool} {f3 f4 : Fp -> Fp -> Fp} {f5 : Fp -> Fp} {f6 : Fp2 -> Fp2 -> Fp2} {f7 : Fp2 -> Bool} {f8 : Fp2 -> Fp2} {a : Fp2} {n : Fp}
variable (hn : (f2 (f3 (f4 a.c0 a.c0) (f4 a.c1 a.c1))).1 = n) (h : (f2 (f3 (f4 a.c0 a.c0) (f4 a.c1 a.c1))).2 = true)
include hn h
end
end
end Go.Proofs.YtgpafcehehaiiaaGreat
namespace Go.Proofs.YtgpafcehehaiiaaGreat
theorem W64_pow (k:Nat):W64 ^ k=2 ^ (64*k):=by
 rw [show W64=2 ^ 64 from rfl,<- Nat.pow_mul]
theorem bit_step (x j:Nat):x % 2 ^ (j+1)=x % 2 ^ j+(x.testBit j).toNat*2 ^ j:=by
 rw [Nat.pow_succ,Nat.mod_mul]
 rw [Nat.testBit_eq_decide_div_mod_eq]
 have h:x / 2 ^ j % 2<2:=Nat.mod_lt _ (by decide)
 rcases (by omega:x / 2 ^ j % 2=0 \/ x / 2 ^ j % 2=1) with h1 | h1
 ·rw [h1];simp
 ·rw [h1];simp
theorem eLow_in (e:List UInt64) (k:Nat) (hk:eLow e (64*k)=valAt e k) : ∀ j,j<=64->eLow e (64*k+j)=valAt e k+(atF e k).toNat % 2 ^ j*2 ^ (64*k)
 | 0,_=>by rw [Nat.add_zero,hk,Nat.pow_zero,Nat.mod_one,Nat.zero_mul,Nat.add_zero]
 | j+1,h=>by
  rw [show 64*k+(j+1)=(64*k+j)+1 from rfl]
  simp only [eLow]
  rw [eLow_in e k hk j (by omega),bit_step,Nat.add_mul]
  have hb:bitAt e (64*k+j)=(atF e k).toNat.testBit j:=by
   unfold bitAt atF
   rw [show (64*k+j) / 64=k by omega,show (64*k+j) % 64=j by omega]
  rw [hb,Nat.add_assoc,show 2 ^ (64*k+j)=2 ^ j*2 ^ (64*k) by rw [Nat.pow_add,Nat.mul_comm],Nat.mul_assoc]
theorem eLow_val (e:List UInt64) : ∀ k,eLow e (64*k)=valAt e k
 | 0=>rfl
 | k+1=>by
  rw [show 64*(k+1)=64*k+64 by omega,eLow_in e k (eLow_val e k) 64 (Nat.le_refl _)]
  simp only [valAt]
  rw [W64_pow,Nat.mod_eq_of_lt (UInt64.toNat_lt _)]
theorem eLow_valL (e:List UInt64):eLow e (64*e.length)=valL e:=eLow_val e _
end Go.Proofs.YtgpafcehehaiiaaGreat
namespace Go.Proofs.YtgpafcehehaiiaaGreat
def dblG {α:Type} (tw pl:α->α) (e:List UInt64):Nat->α->α
 | 0,x=>x
 | n+1,x=>dblG tw pl e n (match bitAt e n with | true=>pl (tw x) | false=>tw x)
theorem dblG_pt {α K:Type} [Fld K] [Crv K] (R:α->Pt K->Prop) {tw pl:α->α} {p:Pt K} (hp:p.on) (h1 : ∀ {o:α} {q:Pt K},q.on->R o q->R (tw o) (q.add q)) (h2 : ∀ {o:α} {q:Pt K},q.on->R o q->R (pl o) (q.add p)) (e:List UInt64) :
  ∀ (n:Nat) {o:α} {q:Pt K},q.on->R o q->R (dblG tw pl e n o) ((q.mul (2 ^ n)).add (p.mul (eLow e n)))
 | 0,o,q,hq,h=>by
  show R o ((q.mul 1).add (p.mul 0))
  rw [mul_one_pt,mul_zero_pt,add_inf]
  exact h
 | n+1,o,q,hq,h=>by
  have e2:(2:Nat) ^ (n+1)=2 ^ n+2 ^ n:=by rw [Nat.pow_succ];omega
  have hqq:=add_on hq hq
  simp only [dblG]
  cases hb:bitAt e n with
  | true =>
   have ih:=dblG_pt R hp h1 h2 e n (add_on hqq hp) (h2 hqq (h1 hq h))
   have el:eLow e (n+1)=2 ^ n+eLow e n:=by simp only [eLow,hb,Bool.toNat_true,Nat.one_mul];exact Nat.add_comm _ _
   rw [add_mul_pt hqq hp,add_mul_pt hq hq,<- mul_add_pt hq,<- e2,add_assoc_pt (mul_on hq _) (mul_on hp _) (mul_on hp _),<- mul_add_pt hp,<- el] at ih
   exact ih
  | false =>
   have ih:=dblG_pt R hp h1 h2 e n hqq (h1 hq h)
   have el:eLow e (n+1)=eLow e n:=by simp only [eLow,hb,Bool.toNat_false,Nat.zero_mul,Nat.add_zero]
   rw [add_mul_pt hq hq,<- mul_add_pt hq,<- e2,<- el] at ih
   exact ih
theorem dblG_all {α K:Type} [Fld K] [Crv K] (R:α->Pt K->Prop) {tw pl:α->α} {p:Pt K} (hp:p.on) (h1 : ∀ {o:α} {q:Pt K},q.on->R o q->R (tw o) (q.add q)) (h2 : ∀ {o:α} {q:Pt K},q.on->R o q->R (pl o) (q.add p)) (e:List UInt64) {o:α} (h:R o .inf) :
  R (dblG tw pl e (64*e.length) o) (p.mul (valL e)):=by
 have:=dblG_pt R hp h1 h2 e (64*e.length) (q := .inf) trivial h
 rw [mul_inf_pt,inf_add,eLow_valL] at this
 exact this
theorem V1.four_cube : ∀ x:V1,x*x*x+4 ≠ 0:=fun x h=>by
 have hx:x ≠ 0:=fun e=>by
  rw [e] at h
  have h4:(4:V1)=0:=by grind
  have:=congrArg V1.nat h4
  exact absurd this (by decide +kernel)
 have h1:x ^ 3 = -4:=by grind
 have h2:(-4:V1) ^ ((pN-1) / 3)=1:=by
  rw [<- h1,<- pow_mul',Nat.mul_comm,third]
  exact V1.fermat hx
 have h3:=congrArg V1.nat h2
 have h4:(-4:V1).nat=pN-4:=by decide +kernel
 rw [V1.nat_pow,h4,V1.nat_one,<- mpow_eq pN 381 _ _ (by decide +kernel)] at h3
 exact absurd h3 (by decide +kernel)
instance crv1 : Crv V1 where
 b:=4
 two:=two_ne
 no:=V1.four_cube
def bb2:V2:=⟨4,4⟩
theorem bb2_norm:bb2.norm=32:=by
 rw [V2.norm_eq]
 show (4:V1)*4+4*4=32
 grind
theorem V2.two_ne:(2:V2) ≠ 0:=fun e=>Go.Proofs.YtgpafcehehaiiaaGreat.two_ne (by
 have:=congrArg Qd.a e
 exact this)
theorem V2.four_cube : ∀ x:V2,x*x*x+bb2 ≠ 0:=fun x h=>by
 have h1:x*x*x = -bb2:=by grind
 have h2:x.norm*x.norm*x.norm=32:=by
  rw [<- Qd.norm_mul,<- Qd.norm_mul,h1,<- bb2_norm,V2.norm_eq,V2.norm_eq]
  show -bb2.a * -bb2.a + -bb2.b * -bb2.b=_
  grind
 have hx:x.norm ≠ 0:=fun e=>by
  rw [e] at h2
  have h4:(32:V1)=0:=h2.symm.trans (CR.mul_zero _)
  have:=congrArg V1.nat h4
  exact absurd this (by decide +kernel)
 have h3:(32:V1) ^ ((pN-1) / 3)=1:=by
  have e:(32:V1)=x.norm ^ 3:=by rw [<- h2];grind
  rw [e,<- pow_mul',Nat.mul_comm,third]
  exact V1.fermat hx
 have h5:=congrArg V1.nat h3
 have h4:(32:V1).nat=32:=by decide +kernel
 rw [V1.nat_pow,h4,V1.nat_one,<- mpow_eq pN 381 _ _ (by decide +kernel)] at h5
 exact absurd h5 (by decide +kernel)
instance crv2 : Crv V2 where
 b:=bb2
 two:=V2.two_ne
 no:=V2.four_cube
theorem add_ok1 {a b:Fp} (ha:a.ok) (hb:b.ok):(addF a b).ok:=add_ok' ha hb
theorem sub_ok1 {a b:Fp} (ha:a.ok) (hb:b.ok):(subF a b).ok:=sub_ok' ha hb
theorem neg_ok1 {a:Fp} (ha:a.ok):(negF a).ok:=neg_ok' ha
theorem mul_ok1 {a b:Fp} (ha:a.ok) (hb:b.ok):(mulF a b).ok:=mul_ok' ha
theorem half_ok1 {a b:Fp} (ha:a.ok) (hb:b.ok):(halfF a b).ok:=half_ok' ha
theorem whole_ok1 {a:Fp} (ha:a.ok):(wholeF a).ok:=whole_ok' ha
theorem low_ok1 {a:Fp} (ha:a.ok):(lowF a).ok:=low_ok' ha
theorem zero_ok1:zeroFp.ok:=zero_ok'
theorem one_ok1:oneFp.ok:=one_ok'
theorem v_add1 {a b:Fp} (ha:a.ok) (hb:b.ok):(addF a b).v=a.v+b.v:=v_add ha hb
theorem v_sub1 {a b:Fp} (ha:a.ok) (hb:b.ok):(subF a b).v=a.v-b.v:=v_sub ha hb
theorem v_neg1 {a:Fp} (ha:a.ok):(negF a).v = -a.v:=v_neg ha
theorem v_mul1 {a b:Fp} (ha:a.ok) (hb:b.ok):(mulF a b).v=a.v*b.v:=v_mul ha hb
theorem v_half1 {a b:Fp} (ha:a.ok) (hb:b.ok):(halfF a b).v=ri*(a.v*b.v):=v_half ha hb
theorem v_whole1 {a:Fp} (ha:a.ok):(wholeF a).v=rv*a.v:=v_whole ha
theorem v_low1 {a:Fp} (ha:a.ok):(lowF a).v=ri*a.v:=v_low ha
theorem v_zero1:zeroFp.v=0:=v_zero
theorem v_one1:oneFp.v=1:=v_one
theorem inv_v1 {a:Fp} (ha:a.ok):(a.v=0->(invF a).2=7)/\(a.v ≠ 0->(invF a).2=0/\(invF a).1.ok/\(invF a).1.v=Fld.inv a.v):=inv_v ha
theorem inv_v2' {a:Fp2} (ha:a.ok):(a.v=0->(invF2 a).2=7)/\(a.v ≠ 0->(invF2 a).2=0/\(invF2 a).1.ok/\(invF2 a).1.v=Fld.inv a.v):=⟨fun h=>congrArg Prod.snd ((inv_v2 ha).1 h),(inv_v2 ha).2⟩
theorem eq_v1 {a b:Fp} (ha:a.ok) (hb:b.ok):fpEq a b=true <-> a.v=b.v:=fpEq_v ha hb
theorem may1_iff (a:Fp):mayF a=true <-> a.ok:=mayF_ok a
end Go.Proofs.YtgpafcehehaiiaaGreat
namespace Go.Proofs.YtgpafcehehaiiaaGreat
open Go.RowKit
section
abbrev ks1:Kd Sp1:=kRow Sp1
def tmSt1 (e:List UInt64) (x:Sp1) (cs:List Cell) (z:Int):St:=mkSt 31 [(1,inV 0 e),(2,ptrV 1),(4,ptrV 2),(5,ptrV 3),(6,vI z)] [inHE eU64 e,own 122 (Row.cs x),own 122 (zeros 18),own 122 cs]
def tTm1 (tw:Sp1->Sp1) (pl:Sp1->Sp1->Sp1):Table := [(91,K1 ks1.arg ks1.rs.res tw),(92,K2 ks1.arg ks1.arg ks1.rs.res pl)]
theorem tm1_front (T:Table) (x:Sp1) (e:List UInt64):stageT (En T) 100 ((flat (codeOf Tryz.f99)).take 1) (startSt Tryz.f99 [.one (ks1.av x),iL.av 0 e] [inHE eU64 e]) [1,2,4] [0,1,2] = .leaf (mkSt 31 [(1,inV 0 e),(2,ptrV 1),(4,ptrV 2)] [inHE eU64 e,own 122 (Row.cs x),own 122 (zeros 18)]):=by kernel_rfl
theorem tm1_start (tw:Sp1->Sp1) (pl:Sp1->Sp1->Sp1) (x:Sp1) (e:List UInt64):stageT (En (tTm1 tw pl)) 100 ((flat (scopeOf Tryz.f99)).take 3) (mkSt 31 [(1,inV 0 e),(2,ptrV 1),(4,ptrV 2)] [inHE eU64 e,own 122 (Row.cs x),own 122 (zeros 18)]) [1,2,4,5,6] [0,1,2,3] = .vc (0+e.length*1<=(eU64.body e).cells.length/\0<1) (.leaf (tmSt1 e x (zeros 18) (IntKind.i64.wrap (64*e.length)))):=by kernel_rfl
theorem tm1_iter (tw:Sp1->Sp1) (pl:Sp1->Sp1->Sp1) (x o:Sp1) (e:List UInt64) (z:Int):letI za':=IntKind.i64.wrap (z-1);iterT (En (tTm1 tw pl)) ks1.rs.out 100 Tryz.f99 ((flat (scopeOf Tryz.f99)).drop 3) (tmSt1 e x (Row.cs o) z) [1,2,4,5,6] [0,1,2,3] = .br (decide (IntKind.i64.wrap (z-1)<0)) (.leaf (.inr (some (o,.t)))) (.vc ((0<=quoZ z/\quoZ z<e.length)/\0+e.length*1<=(eU64.body e).cells.length/\0<1) (.vc (0+(quoZ z).toNat*1<e.length) (.br (bitZ e z) (.leaf (.inl (.goto 0,tmSt1 e x (Row.cs (pl (tw o) x)) za'))) (.leaf (.inl (.goto 0,tmSt1 e x (Row.cs (tw o)) za')))))):=by kernel_rfl
theorem tm1_first (tw:Sp1->Sp1) (pl:Sp1->Sp1->Sp1) (x:Sp1) (e:List UInt64) (z:Int):letI za':=IntKind.i64.wrap (z-1);iterT (En (tTm1 tw pl)) ks1.rs.out 100 Tryz.f99 ((flat (scopeOf Tryz.f99)).drop 3) (tmSt1 e x (zeros 18) z) [1,2,4,5,6] [0,1,2,3] = .br (decide (IntKind.i64.wrap (z-1)<0)) (.leaf (.inr (some (zeroSp,.t)))) (.vc ((0<=quoZ z/\quoZ z<e.length)/\0+e.length*1<=(eU64.body e).cells.length/\0<1) (.vc (0+(quoZ z).toNat*1<e.length) (.br (bitZ e z) (.leaf (.inl (.goto 0,tmSt1 e x (Row.cs (pl (tw zeroSp) x)) za'))) (.leaf (.inl (.goto 0,tmSt1 e x (Row.cs (tw zeroSp)) za')))))):=by kernel_rfl
def outC1 (b:Bool) (o:Sp1):List Cell:=match b with
 | true=>zeros 18
 | false=>Row.cs o
def timesG1 (x:Sp1) (e:List UInt64):Sp1:=dblG twiceG1 (fun o=>plusG1 o x) e (64*e.length) zeroSp
abbrev Tm1Ok (x:Sp1) (e:List UInt64):Type := { q:Bool × Int × Sp1 // 0<=q.2.1/\q.2.1<=64*e.length/\(q.1=true->q.2.2=zeroSp)/\dblG twiceG1 (fun o=>plusG1 o x) e q.2.1.toNat q.2.2=timesG1 x e }
def tm1I (x:Sp1) (e:List UInt64) (q:Tm1Ok x e):St:=tmSt1 e x (outC1 q.1.1 q.1.2.2) q.1.2.1
theorem tm1_iterB (x:Sp1) (e:List UInt64) (b:Bool) (o:Sp1) (hb:b=true->o=zeroSp) (z:Int):iterT (En (tTm1 twiceG1 plusG1)) ks1.rs.out 100 Tryz.f99 ((flat (scopeOf Tryz.f99)).drop 3) (tmSt1 e x (outC1 b o) z) [1,2,4,5,6] [0,1,2,3] =
  .br (decide (IntKind.i64.wrap (z-1)<0)) (.leaf (.inr (some (o,.t))))
   (.vc ((0<=quoZ z/\quoZ z<e.length)/\0+e.length*1<=(eU64.body e).cells.length/\0<1) (.vc (0+(quoZ z).toNat*1<e.length)
    (.br (bitZ e z) (.leaf (.inl (.goto 0,tmSt1 e x (Row.cs (plusG1 (twiceG1 o) x)) (IntKind.i64.wrap (z-1))))) (.leaf (.inl (.goto 0,tmSt1 e x (Row.cs (twiceG1 o)) (IntKind.i64.wrap (z-1)))))))):=by
 cases b with
 | true =>
  rw [hb rfl]
  exact tm1_first twiceG1 plusG1 x e z
 | false=>exact tm1_iter twiceG1 plusG1 x o e z
theorem timesG1_ok:CallOk Tryz.prog 99 (K2 ks1.arg aL ks1.rs.res timesG1) :=
 Go.Proofs.YtgpafcehehaiiaaGreat.G2 (E:=En (tTm1 twiceG1 plusG1)) Tryz.func99 (c:=codeOf Tryz.f99) (by kernel_rfl) (bodied Tryz.func99 (by kernel_rfl) (by kernel_rfl)) ks1.inp iL ks1.rs.out timesG1 fun x e _ he=>by
  have hE:EnvOk (En (tTm1 twiceG1 plusG1)):=En_ok (.cons twiceG1_ok (.cons plusG1_ok .nil))
  have he:e.length<1125899906842624:=he
  have hw:IntKind.i64.wrap (64*(e.length:Int))=64*(e.length:Int):=IntWalk.i64_in _ (by omega)
  refine DoesL.stageE hE 100 1 [1,2,4] [0,1,2] (tm1_front _ x e) ?_
  refine DoesL.scopeFn (body:=scopeOf Tryz.f99) (rest:=restOf Tryz.f99) (tail := []) (l:=0) hE (by kernel_rfl) (by kernel_rfl) 100 3 (by kernel_rfl) [1,2,4,5,6] [0,1,2,3] (tm1I x e) (fun q=>q.1.2.1.toNat)
   ⟨(true,64*(e.length:Int),zeroSp),by simp only [];omega,by simp only [];omega,fun _=>rfl,by rw [show ((true,64*(e.length:Int),zeroSp):Bool × Int × Sp1).2.1.toNat=64*e.length by simp only [];omega];simp only [timesG1]⟩
   (tm1_start twiceG1 plusG1 x e) ⟨⟨by rw [cells_len];omega,by decide⟩,fun _=>by rw [hw];exact Tree.sat_leaf (by simp only [tm1I,outC1])⟩ fun q => ?_
  obtain ⟨⟨b,z,o⟩,h0,h1,hb,h2⟩:=q
  simp only [] at h0 h1 h2 hb
  have hz:IntKind.i64.wrap (z-1)=z-1:=IntWalk.i64_in _ (by omega)
  refine DoesL.iter hE 100 [1,2,4,5,6] [0,1,2,3] (tm1_iterB x e b o hb z) ?_
  rw [hz]
  refine ⟨fun h => ?_,fun h => ?_⟩
  ·simp only [decide_eq_true_eq] at h
   obtain rfl:z=0:=by omega
   exact ⟨.t,by rw [<- h2];rfl,trivial⟩
  ·simp only [decide_eq_false_iff_not] at h
   obtain ⟨n,rfl⟩ : ∃ n:Nat,z=(n:Int)+1:=⟨(z-1).toNat,by omega⟩
   rw [quoZ_nat n (by omega),bitZ_nat e n (by omega)]
   rw [show ((n:Int)+1).toNat=n+1 by omega] at h2
   simp only [dblG] at h2
   refine ⟨⟨⟨by omega,by omega⟩,by rw [cells_len];omega,by decide⟩,fun _=>⟨by omega,fun _=>⟨fun h3 => ?_,fun h3 => ?_⟩⟩⟩
   all_goals
    have hn:((n:Int)+1-1).toNat=n:=by omega
    rw [h3] at h2
    simp only [] at h2
   ·refine ⟨rfl,⟨(false,(n:Int)+1-1,plusG1 (twiceG1 o) x),?_,?_,?_,?_⟩,?_,by simp only [tm1I,outC1]⟩
    ·show 0<=(n:Int)+1-1;omega
    ·show (n:Int)+1-1<=64*e.length;omega
    ·intro h;cases h
    ·simpa only [hn] using h2
    ·show ((n:Int)+1-1).toNat<((n:Int)+1).toNat;omega
   ·refine ⟨rfl,⟨(false,(n:Int)+1-1,twiceG1 o),?_,?_,?_,?_⟩,?_,by simp only [tm1I,outC1]⟩
    ·show 0<=(n:Int)+1-1;omega
    ·show (n:Int)+1-1<=64*e.length;omega
    ·intro h;cases h
    ·simpa only [hn] using h2
    ·show ((n:Int)+1-1).toNat<((n:Int)+1).toNat;omega
def inG1_G (f0:Pg1->Bool) (f1:Fp->Bool) (f2:Sp1->List UInt64->Sp1) (f3:Pg1->Sp1) (f4:Fr) (a:Pg1):Bool:=(match (f0 a) with | true=>((f1 (f2 (f3 a) [f4.l0,f4.l1,f4.l2,f4.l3]).z)) | false=>((false)))
def inG1_T (f0:Pg1->Bool) (f1:Fp->Bool) (f2:Sp1->List UInt64->Sp1) (f3:Pg1->Sp1) (f4:Fr) (a:Pg1):Tree (Option (Bool)) :=
 (.br (f0 a)
  (.leaf (some ((f1 (f2 (f3 a) [f4.l0,f4.l1,f4.l2,f4.l3]).z))))
  (.leaf (some ((false)))))
theorem inG1_run (f0:Pg1->Bool) (f1:Fp->Bool) (f2:Sp1->List UInt64->Sp1) (f3:Pg1->Sp1) (f4:Fr) (a:Pg1):plainRun (Ens [(97,K1 (kRow Pg1).arg kBool.rs.res f0),(98,K1 (kRow Fp).arg kBool.rs.res f1),(99,K2 ks1.arg aL ks1.rs.res f2),(89,K1 (kRow Pg1).arg (kRow Sp1).rs.res f3),(100,K0 (rS4 24) f4)] [100]) kBool.rs 300 Tryz.f61 [.one ((kRow Pg1).av a)]=inG1_T f0 f1 f2 f3 f4 a:=by kernel_rfl
theorem inG1_sat (f0:Pg1->Bool) (f1:Fp->Bool) (f2:Sp1->List UInt64->Sp1) (f3:Pg1->Sp1) (f4:Fr) (a:Pg1):(inG1_T f0 f1 f2 f3 f4 a).sat fun q=>q=some (inG1_G f0 f1 f2 f3 f4 a):=⟨fun h0=>(show some _=some _ from congrArg some (by unfold inG1_G;rw [h0])),fun h0=>(show some _=some _ from congrArg some (by unfold inG1_G;rw [h0]))⟩
def inG1 (a:Pg1):Bool:=inG1_G onG1 zeroG1 timesG1 liftG1 rLimbs a
theorem inG1_ok:CallOk Tryz.prog 61 (K1 (kRow Pg1).arg kBool.rs.res inG1) :=
 P1 (Ens_ok (.cons onG1_ok (.cons zeroG1_ok (.cons timesG1_ok (.cons liftG1_ok (.cons R4_ok .nil)))))) Tryz.func61 (bodied Tryz.func61 (by kernel_rfl) (by kernel_rfl)) 300 (kRow Pg1) kBool.rs inG1 (inG1_run onG1 zeroG1 timesG1 liftG1 rLimbs) (inG1_sat onG1 zeroG1 timesG1 liftG1 rLimbs)
end
section
abbrev ks2:Kd Fp6:=kRow Fp6
def tmSt2 (e:List UInt64) (x:Fp6) (cs:List Cell) (z:Int):St:=mkSt 31 [(1,inV 0 e),(2,ptrV 1),(4,ptrV 2),(5,ptrV 3),(6,vI z)] [inHE eU64 e,own 138 (Row.cs x),own 138 (zeros 36),own 138 cs]
def tTm2 (tw:Fp6->Fp6) (pl:Fp6->Fp6->Fp6):Table := [(149,K1 ks2.arg ks2.rs.res tw),(150,K2 ks2.arg ks2.arg ks2.rs.res pl)]
theorem tm2_front (T:Table) (x:Fp6) (e:List UInt64):stageT (En T) 100 ((flat (codeOf Tryz.f103)).take 1) (startSt Tryz.f103 [.one (ks2.av x),iL.av 0 e] [inHE eU64 e]) [1,2,4] [0,1,2] = .leaf (mkSt 31 [(1,inV 0 e),(2,ptrV 1),(4,ptrV 2)] [inHE eU64 e,own 138 (Row.cs x),own 138 (zeros 36)]):=by kernel_rfl
theorem tm2_start (tw:Fp6->Fp6) (pl:Fp6->Fp6->Fp6) (x:Fp6) (e:List UInt64):stageT (En (tTm2 tw pl)) 100 ((flat (scopeOf Tryz.f103)).take 3) (mkSt 31 [(1,inV 0 e),(2,ptrV 1),(4,ptrV 2)] [inHE eU64 e,own 138 (Row.cs x),own 138 (zeros 36)]) [1,2,4,5,6] [0,1,2,3] = .vc (0+e.length*1<=(eU64.body e).cells.length/\0<1) (.leaf (tmSt2 e x (zeros 36) (IntKind.i64.wrap (64*e.length)))):=by kernel_rfl
theorem tm2_iter (tw:Fp6->Fp6) (pl:Fp6->Fp6->Fp6) (x o:Fp6) (e:List UInt64) (z:Int):letI za':=IntKind.i64.wrap (z-1);iterT (En (tTm2 tw pl)) ks2.rs.out 100 Tryz.f103 ((flat (scopeOf Tryz.f103)).drop 3) (tmSt2 e x (Row.cs o) z) [1,2,4,5,6] [0,1,2,3] = .br (decide (IntKind.i64.wrap (z-1)<0)) (.leaf (.inr (some (o,.t)))) (.vc ((0<=quoZ z/\quoZ z<e.length)/\0+e.length*1<=(eU64.body e).cells.length/\0<1) (.vc (0+(quoZ z).toNat*1<e.length) (.br (bitZ e z) (.leaf (.inl (.goto 0,tmSt2 e x (Row.cs (pl (tw o) x)) za'))) (.leaf (.inl (.goto 0,tmSt2 e x (Row.cs (tw o)) za')))))):=by kernel_rfl
theorem tm2_first (tw:Fp6->Fp6) (pl:Fp6->Fp6->Fp6) (x:Fp6) (e:List UInt64) (z:Int):letI za':=IntKind.i64.wrap (z-1);iterT (En (tTm2 tw pl)) ks2.rs.out 100 Tryz.f103 ((flat (scopeOf Tryz.f103)).drop 3) (tmSt2 e x (zeros 36) z) [1,2,4,5,6] [0,1,2,3] = .br (decide (IntKind.i64.wrap (z-1)<0)) (.leaf (.inr (some (zeroFp6,.t)))) (.vc ((0<=quoZ z/\quoZ z<e.length)/\0+e.length*1<=(eU64.body e).cells.length/\0<1) (.vc (0+(quoZ z).toNat*1<e.length) (.br (bitZ e z) (.leaf (.inl (.goto 0,tmSt2 e x (Row.cs (pl (tw zeroFp6) x)) za'))) (.leaf (.inl (.goto 0,tmSt2 e x (Row.cs (tw zeroFp6)) za')))))):=by kernel_rfl
def outC2 (b:Bool) (o:Fp6):List Cell:=match b with
 | true=>zeros 36
 | false=>Row.cs o
def timesG2 (x:Fp6) (e:List UInt64):Fp6:=dblG twiceG2 (fun o=>plusG2 o x) e (64*e.length) zeroFp6
abbrev Tm2Ok (x:Fp6) (e:List UInt64):Type := { q:Bool × Int × Fp6 // 0<=q.2.1/\q.2.1<=64*e.length/\(q.1=true->q.2.2=zeroFp6)/\dblG twiceG2 (fun o=>plusG2 o x) e q.2.1.toNat q.2.2=timesG2 x e }
def tm2I (x:Fp6) (e:List UInt64) (q:Tm2Ok x e):St:=tmSt2 e x (outC2 q.1.1 q.1.2.2) q.1.2.1
theorem tm2_iterB (x:Fp6) (e:List UInt64) (b:Bool) (o:Fp6) (hb:b=true->o=zeroFp6) (z:Int):iterT (En (tTm2 twiceG2 plusG2)) ks2.rs.out 100 Tryz.f103 ((flat (scopeOf Tryz.f103)).drop 3) (tmSt2 e x (outC2 b o) z) [1,2,4,5,6] [0,1,2,3] =
  .br (decide (IntKind.i64.wrap (z-1)<0)) (.leaf (.inr (some (o,.t))))
   (.vc ((0<=quoZ z/\quoZ z<e.length)/\0+e.length*1<=(eU64.body e).cells.length/\0<1) (.vc (0+(quoZ z).toNat*1<e.length)
    (.br (bitZ e z) (.leaf (.inl (.goto 0,tmSt2 e x (Row.cs (plusG2 (twiceG2 o) x)) (IntKind.i64.wrap (z-1))))) (.leaf (.inl (.goto 0,tmSt2 e x (Row.cs (twiceG2 o)) (IntKind.i64.wrap (z-1)))))))):=by
 cases b with
 | true =>
  rw [hb rfl]
  exact tm2_first twiceG2 plusG2 x e z
 | false=>exact tm2_iter twiceG2 plusG2 x o e z
theorem timesG2_ok:CallOk Tryz.prog 103 (K2 ks2.arg aL ks2.rs.res timesG2) :=
 Go.Proofs.YtgpafcehehaiiaaGreat.G2 (E:=En (tTm2 twiceG2 plusG2)) Tryz.func103 (c:=codeOf Tryz.f103) (by kernel_rfl) (bodied Tryz.func103 (by kernel_rfl) (by kernel_rfl)) ks2.inp iL ks2.rs.out timesG2 fun x e _ he=>by
  have hE:EnvOk (En (tTm2 twiceG2 plusG2)):=En_ok (.cons twiceG2_ok (.cons plusG2_ok .nil))
  have he:e.length<1125899906842624:=he
  have hw:IntKind.i64.wrap (64*(e.length:Int))=64*(e.length:Int):=IntWalk.i64_in _ (by omega)
  refine DoesL.stageE hE 100 1 [1,2,4] [0,1,2] (tm2_front _ x e) ?_
  refine DoesL.scopeFn (body:=scopeOf Tryz.f103) (rest:=restOf Tryz.f103) (tail := []) (l:=0) hE (by kernel_rfl) (by kernel_rfl) 100 3 (by kernel_rfl) [1,2,4,5,6] [0,1,2,3] (tm2I x e) (fun q=>q.1.2.1.toNat)
   ⟨(true,64*(e.length:Int),zeroFp6),by simp only [];omega,by simp only [];omega,fun _=>rfl,by rw [show ((true,64*(e.length:Int),zeroFp6):Bool × Int × Fp6).2.1.toNat=64*e.length by simp only [];omega];simp only [timesG2]⟩
   (tm2_start twiceG2 plusG2 x e) ⟨⟨by rw [cells_len];omega,by decide⟩,fun _=>by rw [hw];exact Tree.sat_leaf (by simp only [tm2I,outC2])⟩ fun q => ?_
  obtain ⟨⟨b,z,o⟩,h0,h1,hb,h2⟩:=q
  simp only [] at h0 h1 h2 hb
  have hz:IntKind.i64.wrap (z-1)=z-1:=IntWalk.i64_in _ (by omega)
  refine DoesL.iter hE 100 [1,2,4,5,6] [0,1,2,3] (tm2_iterB x e b o hb z) ?_
  rw [hz]
  refine ⟨fun h => ?_,fun h => ?_⟩
  ·simp only [decide_eq_true_eq] at h
   obtain rfl:z=0:=by omega
   exact ⟨.t,by rw [<- h2];rfl,trivial⟩
  ·simp only [decide_eq_false_iff_not] at h
   obtain ⟨n,rfl⟩ : ∃ n:Nat,z=(n:Int)+1:=⟨(z-1).toNat,by omega⟩
   rw [quoZ_nat n (by omega),bitZ_nat e n (by omega)]
   rw [show ((n:Int)+1).toNat=n+1 by omega] at h2
   simp only [dblG] at h2
   refine ⟨⟨⟨by omega,by omega⟩,by rw [cells_len];omega,by decide⟩,fun _=>⟨by omega,fun _=>⟨fun h3 => ?_,fun h3 => ?_⟩⟩⟩
   all_goals
    have hn:((n:Int)+1-1).toNat=n:=by omega
    rw [h3] at h2
    simp only [] at h2
   ·refine ⟨rfl,⟨(false,(n:Int)+1-1,plusG2 (twiceG2 o) x),?_,?_,?_,?_⟩,?_,by simp only [tm2I,outC2]⟩
    ·show 0<=(n:Int)+1-1;omega
    ·show (n:Int)+1-1<=64*e.length;omega
    ·intro h;cases h
    ·simpa only [hn] using h2
    ·show ((n:Int)+1-1).toNat<((n:Int)+1).toNat;omega
   ·refine ⟨rfl,⟨(false,(n:Int)+1-1,twiceG2 o),?_,?_,?_,?_⟩,?_,by simp only [tm2I,outC2]⟩
    ·show 0<=(n:Int)+1-1;omega
    ·show (n:Int)+1-1<=64*e.length;omega
    ·intro h;cases h
    ·simpa only [hn] using h2
    ·show ((n:Int)+1-1).toNat<((n:Int)+1).toNat;omega
def inG2_G (f0:Pg2->Bool) (f1:Fp2->Bool) (f2:Fp6->List UInt64->Fp6) (f3:Pg2->Fp6) (f4:Fr) (a:Pg2):Bool:=(match (f0 a) with | true=>((f1 (f2 (f3 a) [f4.l0,f4.l1,f4.l2,f4.l3]).c2)) | false=>((false)))
def inG2_T (f0:Pg2->Bool) (f1:Fp2->Bool) (f2:Fp6->List UInt64->Fp6) (f3:Pg2->Fp6) (f4:Fr) (a:Pg2):Tree (Option (Bool)) :=
 (.br (f0 a)
  (.leaf (some ((f1 (f2 (f3 a) [f4.l0,f4.l1,f4.l2,f4.l3]).c2))))
  (.leaf (some ((false)))))
theorem inG2_run (f0:Pg2->Bool) (f1:Fp2->Bool) (f2:Fp6->List UInt64->Fp6) (f3:Pg2->Fp6) (f4:Fr) (a:Pg2):plainRun (Ens [(101,K1 (kRow Pg2).arg kBool.rs.res f0),(102,K1 (kRow Fp2).arg kBool.rs.res f1),(103,K2 ks2.arg aL ks2.rs.res f2),(104,K1 (kRow Pg2).arg (kRow Fp6).rs.res f3),(100,K0 (rS4 24) f4)] [100]) kBool.rs 300 Tryz.f62 [.one ((kRow Pg2).av a)]=inG2_T f0 f1 f2 f3 f4 a:=by kernel_rfl
theorem inG2_sat (f0:Pg2->Bool) (f1:Fp2->Bool) (f2:Fp6->List UInt64->Fp6) (f3:Pg2->Fp6) (f4:Fr) (a:Pg2):(inG2_T f0 f1 f2 f3 f4 a).sat fun q=>q=some (inG2_G f0 f1 f2 f3 f4 a):=⟨fun h0=>(show some _=some _ from congrArg some (by unfold inG2_G;rw [h0])),fun h0=>(show some _=some _ from congrArg some (by unfold inG2_G;rw [h0]))⟩
def inG2 (a:Pg2):Bool:=inG2_G onG2 zeroG2 timesG2 liftG2 rLimbs a
theorem inG2_ok:CallOk Tryz.prog 62 (K1 (kRow Pg2).arg kBool.rs.res inG2) :=
 P1 (Ens_ok (.cons onG2_ok (.cons zeroG2_ok (.cons timesG2_ok (.cons liftG2_ok (.cons R4_ok .nil)))))) Tryz.func62 (bodied Tryz.func62 (by kernel_rfl) (by kernel_rfl)) 300 (kRow Pg2) kBool.rs inG2 (inG2_run onG2 zeroG2 timesG2 liftG2 rLimbs) (inG2_sat onG2 zeroG2 timesG2 liftG2 rLimbs)
end
set_option maxRecDepth 100000
section
def prOne_G (f0:Fp12->Fp12) (f1:Fp12):Fp12:=(f0 f1)
def prOne_T (f0:Fp12->Fp12) (f1:Fp12):Tree (Option (Fp12)) :=
 (.leaf (some (f0 f1)))
theorem prOne_run (f0:Fp12->Fp12) (f1:Fp12):plainRun (En [(156,K1 (kRow Fp12).arg (kRow Fp12).rs.res f0),(110,K0 (kRow Fp12).rs.res f1)]) (kRow Fp12).rs 300 Tryz.f160 []=prOne_T f0 f1:=by kernel_rfl
theorem prOne_sat (f0:Fp12->Fp12) (f1:Fp12):(prOne_T f0 f1).sat fun q=>q=some (prOne_G f0 f1):=(show some _=some _ from rfl)
def prOne  : Fp12:=prOne_G wholeF12 oneF12
theorem prOne_ok:CallOk Tryz.prog 160 (K0 (kRow Fp12).rs.res prOne) :=
 P0 (En_ok (.cons wholeF12_ok (.cons oneF12_ok .nil))) Tryz.func160 (bodied Tryz.func160 (by kernel_rfl) (by kernel_rfl)) 300  (kRow Fp12).rs prOne (prOne_run wholeF12 oneF12) (prOne_sat wholeF12 oneF12)
def prQuot_G (f0:Fp2->Fp2 × Int) (f1:Fp2->Fp2) (f2:Fp2->Fp2->Fp2) (f3:Fp2->Fp2) (a:Fp2) (b:Fp2):Fp2:=(f2 a (f3 (f0 (f1 b)).fst))
def prQuot_T (f0:Fp2->Fp2 × Int) (f1:Fp2->Fp2) (f2:Fp2->Fp2->Fp2) (f3:Fp2->Fp2) (a:Fp2) (b:Fp2):Tree (Option (Fp2)) :=
 (.leaf (some (f2 a (f3 (f0 (f1 b)).fst))))
theorem prQuot_run (f0:Fp2->Fp2 × Int) (f1:Fp2->Fp2) (f2:Fp2->Fp2->Fp2) (f3:Fp2->Fp2) (a:Fp2) (b:Fp2):plainRun (En [(199,K1 (kRow Fp2).arg ((kRow Fp2).rs2 kInt).res f0),(180,K1 (kRow Fp2).arg (kRow Fp2).rs.res f1),(177,K2 (kRow Fp2).arg (kRow Fp2).arg (kRow Fp2).rs.res f2),(151,K1 (kRow Fp2).arg (kRow Fp2).rs.res f3)]) (kRow Fp2).rs 300 Tryz.f192 [.one ((kRow Fp2).av a),.one ((kRow Fp2).av b)]=prQuot_T f0 f1 f2 f3 a b:=by kernel_rfl
theorem prQuot_sat (f0:Fp2->Fp2 × Int) (f1:Fp2->Fp2) (f2:Fp2->Fp2->Fp2) (f3:Fp2->Fp2) (a:Fp2) (b:Fp2):(prQuot_T f0 f1 f2 f3 a b).sat fun q=>q=some (prQuot_G f0 f1 f2 f3 a b):=(show some _=some _ from rfl)
def prQuot (a:Fp2) (b:Fp2):Fp2:=prQuot_G invF2 lowF2 halfF2 wholeF2 a b
theorem prQuot_ok:CallOk Tryz.prog 192 (K2 (kRow Fp2).arg (kRow Fp2).arg (kRow Fp2).rs.res prQuot) :=
 P2 (En_ok (.cons invF2_ok (.cons lowF2_ok (.cons halfF2_ok (.cons wholeF2_ok .nil))))) Tryz.func192 (bodied Tryz.func192 (by kernel_rfl) (by kernel_rfl)) 300 (kRow Fp2) (kRow Fp2) (kRow Fp2).rs prQuot (prQuot_run invF2 lowF2 halfF2 wholeF2) (prQuot_sat invF2 lowF2 halfF2 wholeF2)
def prLine_G (f0:Fp2->Fp2) (f1:Fp2->Fp2->Fp2) (f2:Fp2->Fp2->Fp2) (f3:Fp2->Fp2) (t:Pg2) (s:Fp2) (p:Pg1):Fp12:=({ c0 := { c0:=f0 { c0:=p.y,c1:=zeroFp },c1:=zeroFp2,c2:=zeroFp2 },c1 := { c0:=zeroFp2,c1:=f1 (f2 s t.x) t.y,c2:=f3 (f2 s { c0:=p.x,c1:=zeroFp }) } })
def prLine_T (f0:Fp2->Fp2) (f1:Fp2->Fp2->Fp2) (f2:Fp2->Fp2->Fp2) (f3:Fp2->Fp2) (t:Pg2) (s:Fp2) (p:Pg1):Tree (Option (Fp12)) :=
 (.leaf (some ({ c0 := { c0:=f0 { c0:=p.y,c1:=zeroFp },c1:=zeroFp2,c2:=zeroFp2 },c1 := { c0:=zeroFp2,c1:=f1 (f2 s t.x) t.y,c2:=f3 (f2 s { c0:=p.x,c1:=zeroFp }) } })))
theorem prLine_run (f0:Fp2->Fp2) (f1:Fp2->Fp2->Fp2) (f2:Fp2->Fp2->Fp2) (f3:Fp2->Fp2) (t:Pg2) (s:Fp2) (p:Pg1):plainRun (En [(198,K1 (kRow Fp2).arg (kRow Fp2).rs.res f0),(179,K2 (kRow Fp2).arg (kRow Fp2).arg (kRow Fp2).rs.res f1),(177,K2 (kRow Fp2).arg (kRow Fp2).arg (kRow Fp2).rs.res f2),(201,K1 (kRow Fp2).arg (kRow Fp2).rs.res f3)]) (kRow Fp12).rs 300 Tryz.f193 [.one ((kRow Pg2).av t),.one ((kRow Fp2).av s),.one ((kRow Pg1).av p)]=prLine_T f0 f1 f2 f3 t s p:=by kernel_rfl
theorem prLine_sat (f0:Fp2->Fp2) (f1:Fp2->Fp2->Fp2) (f2:Fp2->Fp2->Fp2) (f3:Fp2->Fp2) (t:Pg2) (s:Fp2) (p:Pg1):(prLine_T f0 f1 f2 f3 t s p).sat fun q=>q=some (prLine_G f0 f1 f2 f3 t s p):=(show some _=some _ from rfl)
def prLine (t:Pg2) (s:Fp2) (p:Pg1):Fp12:=prLine_G upF2 subF2 halfF2 negF2 t s p
theorem prLine_ok:CallOk Tryz.prog 193 (K3 (kRow Pg2).arg (kRow Fp2).arg (kRow Pg1).arg (kRow Fp12).rs.res prLine) :=
 P3 (En_ok (.cons upF2_ok (.cons subF2_ok (.cons halfF2_ok (.cons negF2_ok .nil))))) Tryz.func193 (bodied Tryz.func193 (by kernel_rfl) (by kernel_rfl)) 300 (kRow Pg2) (kRow Fp2) (kRow Pg1) (kRow Fp12).rs prLine (prLine_run upF2 subF2 halfF2 negF2) (prLine_sat upF2 subF2 halfF2 negF2)
def prOn_G (f0:Fp2->Fp2->Fp2) (f1:Fp2->Fp2->Fp2) (t:Pg2) (s:Fp2) (x:Fp2):Pg2:=({ x:=f0 (f0 (f1 s s) t.x) x,y:=f0 (f1 s (f0 t.x (f0 (f0 (f1 s s) t.x) x))) t.y,inf:=false })
def prOn_T (f0:Fp2->Fp2->Fp2) (f1:Fp2->Fp2->Fp2) (t:Pg2) (s:Fp2) (x:Fp2):Tree (Option (Pg2)) :=
 (.leaf (some ({ x:=f0 (f0 (f1 s s) t.x) x,y:=f0 (f1 s (f0 t.x (f0 (f0 (f1 s s) t.x) x))) t.y,inf:=false })))
theorem prOn_run (f0:Fp2->Fp2->Fp2) (f1:Fp2->Fp2->Fp2) (t:Pg2) (s:Fp2) (x:Fp2):plainRun (En [(179,K2 (kRow Fp2).arg (kRow Fp2).arg (kRow Fp2).rs.res f0),(177,K2 (kRow Fp2).arg (kRow Fp2).arg (kRow Fp2).rs.res f1)]) (kRow Pg2).rs 300 Tryz.f194 [.one ((kRow Pg2).av t),.one ((kRow Fp2).av s),.one ((kRow Fp2).av x)]=prOn_T f0 f1 t s x:=by kernel_rfl
theorem prOn_sat (f0:Fp2->Fp2->Fp2) (f1:Fp2->Fp2->Fp2) (t:Pg2) (s:Fp2) (x:Fp2):(prOn_T f0 f1 t s x).sat fun q=>q=some (prOn_G f0 f1 t s x):=(show some _=some _ from rfl)
def prOn (t:Pg2) (s:Fp2) (x:Fp2):Pg2:=prOn_G subF2 halfF2 t s x
theorem prOn_ok:CallOk Tryz.prog 194 (K3 (kRow Pg2).arg (kRow Fp2).arg (kRow Fp2).arg (kRow Pg2).rs.res prOn) :=
 P3 (En_ok (.cons subF2_ok (.cons halfF2_ok .nil))) Tryz.func194 (bodied Tryz.func194 (by kernel_rfl) (by kernel_rfl)) 300 (kRow Pg2) (kRow Fp2) (kRow Fp2) (kRow Pg2).rs prOn (prOn_run subF2 halfF2) (prOn_sat subF2 halfF2)
def prMay_G (f0:Pg1->Bool) (f1:Pg2->Bool) (a:Pg1) (b:Pg2):Bool:=(match (f0 a) with | true=>((f1 b)) | false=>((false)))
def prMay_T (f0:Pg1->Bool) (f1:Pg2->Bool) (a:Pg1) (b:Pg2):Tree (Option (Bool)) :=
 (.br (f0 a)
  (.leaf (some ((f1 b))))
  (.leaf (some ((false)))))
theorem prMay_run (f0:Pg1->Bool) (f1:Pg2->Bool) (a:Pg1) (b:Pg2):plainRun (En [(61,K1 (kRow Pg1).arg kBool.rs.res f0),(62,K1 (kRow Pg2).arg kBool.rs.res f1)]) kBool.rs 300 Tryz.f106 [.one ((kRow Pg1).av a),.one ((kRow Pg2).av b)]=prMay_T f0 f1 a b:=by kernel_rfl
theorem prMay_sat (f0:Pg1->Bool) (f1:Pg2->Bool) (a:Pg1) (b:Pg2):(prMay_T f0 f1 a b).sat fun q=>q=some (prMay_G f0 f1 a b):=⟨fun h0=>(show some _=some _ from congrArg some (by unfold prMay_G;rw [h0])),fun h0=>(show some _=some _ from congrArg some (by unfold prMay_G;rw [h0]))⟩
def prMay (a:Pg1) (b:Pg2):Bool:=prMay_G inG1 inG2 a b
theorem prMay_ok:CallOk Tryz.prog 106 (K2 (kRow Pg1).arg (kRow Pg2).arg kBool.rs.res prMay) :=
 P2 (En_ok (.cons inG1_ok (.cons inG2_ok .nil))) Tryz.func106 (bodied Tryz.func106 (by kernel_rfl) (by kernel_rfl)) 300 (kRow Pg1) (kRow Pg2) kBool.rs prMay (prMay_run inG1 inG2) (prMay_sat inG1 inG2)
end
set_option maxRecDepth 100000
section
theorem sixth_run (u:Unit):endT (En []) (oS 22) 100 Tryz.f190 (flat (codeOf Tryz.f190)) (startSt Tryz.f190 [] [])=(.leaf (some (({ l0:=UInt64.ofNat 5308195848297902535,l1:=UInt64.ofNat 368356918586201429,l2:=UInt64.ofNat 16611565823685306630,l3:=UInt64.ofNat 16578843054827078431,l4:=UInt64.ofNat 902017296411783715,l5:=UInt64.ofNat 312299769607923311 },.t)))):=by kernel_rfl
theorem third_run (u:Unit):endT (En []) oL 100 Tryz.f159 (flat (codeOf Tryz.f159)) (startSt Tryz.f159 [] []) =
 (.leaf (some (([UInt64.ofNat 10088250816726084267,UInt64.ofNat 4137836090706223446],.t)))):=by kernel_rfl
abbrev Kf2 (F:Fp2->Fp2):Contract:=K1 (kRow Fp2).arg rF2.res F
abbrev Kf22 (F:Fp2->Fp2->Fp2):Contract:=K2 (kRow Fp2).arg (kRow Fp2).arg rF2.res F
abbrev Kw12 (F:Fp12->Fp12):Contract:=K1 (kRow Fp12).arg rF12.res F
noncomputable abbrev turnedE (s:Fp) (pF:Fp2->List UInt64->Fp2) (wF cF:Fp2->Fp2) (hF:Fp2->Fp2->Fp2):Env:=Ens [(189,K2 (kRow Fp2).arg aL rF2.res pF),(190,K0 (rS 22) s),(151,Kf2 wF),(191,Kf2 cF),(177,Kf22 hF)] [190]
theorem turned_run (s:Fp) (pF:Fp2->List UInt64->Fp2) (wF cF:Fp2->Fp2) (hF:Fp2->Fp2->Fp2) (a:Fp12):letI za':Fp := { l0:=UInt64.ofNat 1,l1:=UInt64.ofNat 0,l2:=UInt64.ofNat 0,l3:=UInt64.ofNat 0,l4:=UInt64.ofNat 0,l5:=UInt64.ofNat 0 };letI zb':Fp := { l0:=UInt64.ofNat 0,l1:=UInt64.ofNat 0,l2:=UInt64.ofNat 0,l3:=UInt64.ofNat 0,l4:=UInt64.ofNat 0,l5:=UInt64.ofNat 0 };endT (turnedE s pF wF cF hF) oF12 900 Tryz.f157 (flat (codeOf Tryz.f157)) (startSt Tryz.f157 [vF12 a] [])=(.leaf (some (({ c0 := { c0:=hF (cF a.c0.c0) (wF { c0:=za',c1:=zb' }),c1:=hF (cF a.c0.c1) (hF (hF (wF { c0:=za',c1:=zb' }) (wF (pF { c0:=za',c1:=za' } [s.l0,s.l1,s.l2,s.l3,s.l4,s.l5]))) (wF (pF { c0:=za',c1:=za' } [s.l0,s.l1,s.l2,s.l3,s.l4,s.l5]))),c2:=hF (cF a.c0.c2) (hF (hF (hF (hF (wF { c0:=za',c1:=zb' }) (wF (pF { c0:=za',c1:=za' } [s.l0,s.l1,s.l2,s.l3,s.l4,s.l5]))) (wF (pF { c0:=za',c1:=za' } [s.l0,s.l1,s.l2,s.l3,s.l4,s.l5]))) (wF (pF { c0:=za',c1:=za' } [s.l0,s.l1,s.l2,s.l3,s.l4,s.l5]))) (wF (pF { c0:=za',c1:=za' } [s.l0,s.l1,s.l2,s.l3,s.l4,s.l5]))) },c1 := { c0:=hF (cF a.c1.c0) (hF (wF { c0:=za',c1:=zb' }) (wF (pF { c0:=za',c1:=za' } [s.l0,s.l1,s.l2,s.l3,s.l4,s.l5]))),c1:=hF (cF a.c1.c1) (hF (hF (hF (wF { c0:=za',c1:=zb' }) (wF (pF { c0:=za',c1:=za' } [s.l0,s.l1,s.l2,s.l3,s.l4,s.l5]))) (wF (pF { c0:=za',c1:=za' } [s.l0,s.l1,s.l2,s.l3,s.l4,s.l5]))) (wF (pF { c0:=za',c1:=za' } [s.l0,s.l1,s.l2,s.l3,s.l4,s.l5]))),c2:=hF (cF a.c1.c2) (hF (hF (hF (hF (hF (wF { c0:=za',c1:=zb' }) (wF (pF { c0:=za',c1:=za' } [s.l0,s.l1,s.l2,s.l3,s.l4,s.l5]))) (wF (pF { c0:=za',c1:=za' } [s.l0,s.l1,s.l2,s.l3,s.l4,s.l5]))) (wF (pF { c0:=za',c1:=za' } [s.l0,s.l1,s.l2,s.l3,s.l4,s.l5]))) (wF (pF { c0:=za',c1:=za' } [s.l0,s.l1,s.l2,s.l3,s.l4,s.l5]))) (wF (pF { c0:=za',c1:=za' } [s.l0,s.l1,s.l2,s.l3,s.l4,s.l5]))) } },.t)))):=by kernel_rfl
noncomputable abbrev powerE (iF:Fp12->Fp12 × Int) (lF wF cF tF:Fp12->Fp12) (hF:Fp12->Fp12->Fp12) (rF':Fp12->List UInt64->Fp12) (t:List UInt64):Env:=Ens [(153,K1 (kRow Fp12).arg ((kRow Fp12).rs2 kInt).res iF),(107,Kw12 lF),(156,Kw12 wF),(155,Kw12 cF),(157,Kw12 tF),(154,Ks2 hF),(158,Kraised rF'),(159,K0 oL.res t)] [159]
theorem power_run (iF:Fp12->Fp12 × Int) (lF wF cF tF:Fp12->Fp12) (hF:Fp12->Fp12->Fp12) (rF':Fp12->List UInt64->Fp12) (t:List UInt64) (a:Fp12):letI za':=hF (cF (rF' (rF' (hF (tF (tF (hF (cF a) (wF (iF (lF a)).fst)))) (hF (cF a) (wF (iF (lF a)).fst))) (List.take t.length (List.drop 0 t))) [UInt64.ofNat 15132376222941642752])) (tF (rF' (hF (tF (tF (hF (cF a) (wF (iF (lF a)).fst)))) (hF (cF a) (wF (iF (lF a)).fst))) (List.take t.length (List.drop 0 t))));letI zb':=hF (cF a) (wF (iF (lF a)).fst);endT (powerE iF lF wF cF tF hF rF' t) oF12 300 Tryz.f108 (flat (codeOf Tryz.f108)) (startSt Tryz.f108 [vF12 a] [])=(.vc (0+t.length<=t.length/\t.length<1125899906842624/\0=0/\1=1) (.leaf (some ((hF (hF (rF' (rF' za' [UInt64.ofNat 15132376222941642752]) [UInt64.ofNat 15132376222941642752]) (hF (tF (tF za')) (cF za'))) (hF (tF (tF zb')) zb'),.t))))):=by kernel_rfl
end
set_option maxRecDepth 100000
section
def tMl (o:Fp12) (wF:Fp->Fp) (w2:Fp2->Fp2) (h2 a2 s2 qF:Fp2->Fp2->Fp2) (hF:Fp12->Fp12->Fp12) (lF:Pg2->Fp2->Pg1->Fp12) (oF:Pg2->Fp2->Fp2->Pg2):Table :=
 [(160,K0 rF12.res o),(136,Kf wF),(151,Kf2 w2),(177,Kf22 h2),(178,Kf22 a2),(179,Kf22 s2),(192,Kf22 qF),(154,Ks2 hF),(193,K3 (kRow Pg2).arg (kRow Fp2).arg (kRow Pg1).arg rF12.res lF),(194,K3 (kRow Pg2).arg (kRow Fp2).arg (kRow Fp2).arg (kRow Pg2).rs.res oF)]
def mlSt (p:Pg1) (q:Pg2) (f:Fp12) (t:Pg2) (z:Int):St:=mkSt 87 [(2,ptrV 0),(3,ptrV 1),(4,ptrV 2),(5,ptrV 3),(6,ptrV 4),(7,vI z)] [own 33 (Row.cs p),own 42 (Row.cs q),own 145 (zeros 72),own 145 (Row.cs f),own 42 (Row.cs t)]
theorem ml_front (T:Table) (p:Pg1) (q:Pg2):stageT (En T) 100 ((flat (codeOf Tryz.f161)).take 1) (startSt Tryz.f161 [.one (kg1.av p),.one (kg2.av q)] []) [2,3,4] [0,1,2]=(.leaf (mkSt 87 [(2,.one (.c (.ptr 0 0))),(3,.one (.c (.ptr 1 0))),(4,.one (.c (.ptr 2 0)))] [.live ⟨true,33,0,(.row (Row.cs (p:Pg1))),false⟩,.live ⟨true,42,0,(.row (Row.cs (q:Pg2))),false⟩,.live ⟨true,145,0,(.row [(.lit .u64 0),(.lit .u64 0),(.lit .u64 0),(.lit .u64 0),(.lit .u64 0),(.lit .u64 0),(.lit .u64 0),(.lit .u64 0),(.lit .u64 0),(.lit .u64 0),(.lit .u64 0),(.lit .u64 0),(.lit .u64 0),(.lit .u64 0),(.lit .u64 0),(.lit .u64 0),(.lit .u64 0),(.lit .u64 0),(.lit .u64 0),(.lit .u64 0),(.lit .u64 0),(.lit .u64 0),(.lit .u64 0),(.lit .u64 0),(.lit .u64 0),(.lit .u64 0),(.lit .u64 0),(.lit .u64 0),(.lit .u64 0),(.lit .u64 0),(.lit .u64 0),(.lit .u64 0),(.lit .u64 0),(.lit .u64 0),(.lit .u64 0),(.lit .u64 0),(.lit .u64 0),(.lit .u64 0),(.lit .u64 0),(.lit .u64 0),(.lit .u64 0),(.lit .u64 0),(.lit .u64 0),(.lit .u64 0),(.lit .u64 0),(.lit .u64 0),(.lit .u64 0),(.lit .u64 0),(.lit .u64 0),(.lit .u64 0),(.lit .u64 0),(.lit .u64 0),(.lit .u64 0),(.lit .u64 0),(.lit .u64 0),(.lit .u64 0),(.lit .u64 0),(.lit .u64 0),(.lit .u64 0),(.lit .u64 0),(.lit .u64 0),(.lit .u64 0),(.lit .u64 0),(.lit .u64 0),(.lit .u64 0),(.lit .u64 0),(.lit .u64 0),(.lit .u64 0),(.lit .u64 0),(.lit .u64 0),(.lit .u64 0),(.lit .u64 0)]),false⟩])):=by kernel_rfl
theorem ml_start (o:Fp12) (wF:Fp->Fp) (w2:Fp2->Fp2) (h2 a2 s2 qF:Fp2->Fp2->Fp2) (hF:Fp12->Fp12->Fp12) (lF:Pg2->Fp2->Pg1->Fp12) (oF:Pg2->Fp2->Fp2->Pg2) (p:Pg1) (q:Pg2):stageG (En (tMl o wF w2 h2 a2 s2 qF hF lF oF)) 100 ((flat (scopeOf Tryz.f161)).take 5) (mkSt 87 [(2,ptrV 0),(3,ptrV 1),(4,ptrV 2)] [own 33 (Row.cs p),own 42 (Row.cs q),own 145 (zeros 72)]) [2,3,4,5,6,7] [0,1,2,3,4] [(2,.as),(3,.as),(4,.as),(5,.as),(6,.as),(7,.int)] [.one .g1,.one .g2,.as,.as,.one .g2] []=(.leaf (mkSt 87 [(2,.one (.c (.ptr 0 0))),(3,.one (.c (.ptr 1 0))),(4,.one (.c (.ptr 2 0))),(5,.one (.c (.ptr 3 0))),(6,.one (.c (.ptr 4 0))),(7,.one (.c (.int .i64 63)))] [.live ⟨true,33,0,(.row (Row.cs ({ x:=wF p.x,y:=wF p.y,inf:=false }:Pg1))),false⟩,.live ⟨true,42,0,(.row (Row.cs ({ x:=w2 q.x,y:=w2 q.y,inf:=false }:Pg2))),false⟩,.live ⟨true,145,0,(.row [(.lit .u64 0),(.lit .u64 0),(.lit .u64 0),(.lit .u64 0),(.lit .u64 0),(.lit .u64 0),(.lit .u64 0),(.lit .u64 0),(.lit .u64 0),(.lit .u64 0),(.lit .u64 0),(.lit .u64 0),(.lit .u64 0),(.lit .u64 0),(.lit .u64 0),(.lit .u64 0),(.lit .u64 0),(.lit .u64 0),(.lit .u64 0),(.lit .u64 0),(.lit .u64 0),(.lit .u64 0),(.lit .u64 0),(.lit .u64 0),(.lit .u64 0),(.lit .u64 0),(.lit .u64 0),(.lit .u64 0),(.lit .u64 0),(.lit .u64 0),(.lit .u64 0),(.lit .u64 0),(.lit .u64 0),(.lit .u64 0),(.lit .u64 0),(.lit .u64 0),(.lit .u64 0),(.lit .u64 0),(.lit .u64 0),(.lit .u64 0),(.lit .u64 0),(.lit .u64 0),(.lit .u64 0),(.lit .u64 0),(.lit .u64 0),(.lit .u64 0),(.lit .u64 0),(.lit .u64 0),(.lit .u64 0),(.lit .u64 0),(.lit .u64 0),(.lit .u64 0),(.lit .u64 0),(.lit .u64 0),(.lit .u64 0),(.lit .u64 0),(.lit .u64 0),(.lit .u64 0),(.lit .u64 0),(.lit .u64 0),(.lit .u64 0),(.lit .u64 0),(.lit .u64 0),(.lit .u64 0),(.lit .u64 0),(.lit .u64 0),(.lit .u64 0),(.lit .u64 0),(.lit .u64 0),(.lit .u64 0),(.lit .u64 0),(.lit .u64 0)]),false⟩,.live ⟨true,145,0,(.row (Row.cs (o:Fp12))),false⟩,.live ⟨true,42,0,(.row (Row.cs ({ x:=w2 q.x,y:=w2 q.y,inf:=false }:Pg2))),false⟩])):=by kernel_rfl
theorem ml_iter (o:Fp12) (wF:Fp->Fp) (w2:Fp2->Fp2) (h2 a2 s2 qF:Fp2->Fp2->Fp2) (hF:Fp12->Fp12->Fp12) (lF:Pg2->Fp2->Pg1->Fp12) (oF:Pg2->Fp2->Fp2->Pg2) (p:Pg1) (q:Pg2) (f:Fp12) (t:Pg2) (z:Int):letI za':=qF (a2 (a2 (h2 t.x t.x) (h2 t.x t.x)) (h2 t.x t.x)) (a2 t.y t.y);letI zb':=oF t za' t.x;letI zc':=qF (s2 q.y zb'.y) (s2 q.x zb'.x);letI zd':=IntKind.i64.wrap (z-1);iterT (En (tMl o wF w2 h2 a2 s2 qF hF lF oF)) oF12 300 Tryz.f161 ((flat (scopeOf Tryz.f161)).drop 5) (mlSt p q f t z) [2,3,4,5,6,7] [0,1,2,3,4]=(.br (decide (IntKind.i64.wrap (z-1)<0)) (.leaf (.inr (some ((f,.t))))) (.br (bits BinOp.and IntKind.u64 (shrI IntKind.u64 15132376222941642752 (↑(UInt64.ofNat (IntKind.i64.wrap (z-1) % 18446744073709551616).toNat).toNat:Int)) 1==1) (.leaf (.inl ((.goto 0,mkSt 87 [(2,.one (.c (.ptr 0 0))),(3,.one (.c (.ptr 1 0))),(4,.one (.c (.ptr 2 0))),(5,.one (.c (.ptr 3 0))),(6,.one (.c (.ptr 4 0))),(7,.one (.c (.int .i64 zd')))] [.live ⟨true,33,0,(.row (Row.cs (p:Pg1))),false⟩,.live ⟨true,42,0,(.row (Row.cs (q:Pg2))),false⟩,.live ⟨true,145,0,(.row [(.lit .u64 0),(.lit .u64 0),(.lit .u64 0),(.lit .u64 0),(.lit .u64 0),(.lit .u64 0),(.lit .u64 0),(.lit .u64 0),(.lit .u64 0),(.lit .u64 0),(.lit .u64 0),(.lit .u64 0),(.lit .u64 0),(.lit .u64 0),(.lit .u64 0),(.lit .u64 0),(.lit .u64 0),(.lit .u64 0),(.lit .u64 0),(.lit .u64 0),(.lit .u64 0),(.lit .u64 0),(.lit .u64 0),(.lit .u64 0),(.lit .u64 0),(.lit .u64 0),(.lit .u64 0),(.lit .u64 0),(.lit .u64 0),(.lit .u64 0),(.lit .u64 0),(.lit .u64 0),(.lit .u64 0),(.lit .u64 0),(.lit .u64 0),(.lit .u64 0),(.lit .u64 0),(.lit .u64 0),(.lit .u64 0),(.lit .u64 0),(.lit .u64 0),(.lit .u64 0),(.lit .u64 0),(.lit .u64 0),(.lit .u64 0),(.lit .u64 0),(.lit .u64 0),(.lit .u64 0),(.lit .u64 0),(.lit .u64 0),(.lit .u64 0),(.lit .u64 0),(.lit .u64 0),(.lit .u64 0),(.lit .u64 0),(.lit .u64 0),(.lit .u64 0),(.lit .u64 0),(.lit .u64 0),(.lit .u64 0),(.lit .u64 0),(.lit .u64 0),(.lit .u64 0),(.lit .u64 0),(.lit .u64 0),(.lit .u64 0),(.lit .u64 0),(.lit .u64 0),(.lit .u64 0),(.lit .u64 0),(.lit .u64 0),(.lit .u64 0)]),false⟩,.live ⟨true,145,0,(.row (Row.cs (hF (hF (hF f f) (lF t za' p)) (lF zb' zc' p):Fp12))),false⟩,.live ⟨true,42,0,(.row (Row.cs (oF zb' zc' q.x:Pg2))),false⟩])))) (.leaf (.inl ((.goto 0,mkSt 87 [(2,.one (.c (.ptr 0 0))),(3,.one (.c (.ptr 1 0))),(4,.one (.c (.ptr 2 0))),(5,.one (.c (.ptr 3 0))),(6,.one (.c (.ptr 4 0))),(7,.one (.c (.int .i64 zd')))] [.live ⟨true,33,0,(.row (Row.cs (p:Pg1))),false⟩,.live ⟨true,42,0,(.row (Row.cs (q:Pg2))),false⟩,.live ⟨true,145,0,(.row [(.lit .u64 0),(.lit .u64 0),(.lit .u64 0),(.lit .u64 0),(.lit .u64 0),(.lit .u64 0),(.lit .u64 0),(.lit .u64 0),(.lit .u64 0),(.lit .u64 0),(.lit .u64 0),(.lit .u64 0),(.lit .u64 0),(.lit .u64 0),(.lit .u64 0),(.lit .u64 0),(.lit .u64 0),(.lit .u64 0),(.lit .u64 0),(.lit .u64 0),(.lit .u64 0),(.lit .u64 0),(.lit .u64 0),(.lit .u64 0),(.lit .u64 0),(.lit .u64 0),(.lit .u64 0),(.lit .u64 0),(.lit .u64 0),(.lit .u64 0),(.lit .u64 0),(.lit .u64 0),(.lit .u64 0),(.lit .u64 0),(.lit .u64 0),(.lit .u64 0),(.lit .u64 0),(.lit .u64 0),(.lit .u64 0),(.lit .u64 0),(.lit .u64 0),(.lit .u64 0),(.lit .u64 0),(.lit .u64 0),(.lit .u64 0),(.lit .u64 0),(.lit .u64 0),(.lit .u64 0),(.lit .u64 0),(.lit .u64 0),(.lit .u64 0),(.lit .u64 0),(.lit .u64 0),(.lit .u64 0),(.lit .u64 0),(.lit .u64 0),(.lit .u64 0),(.lit .u64 0),(.lit .u64 0),(.lit .u64 0),(.lit .u64 0),(.lit .u64 0),(.lit .u64 0),(.lit .u64 0),(.lit .u64 0),(.lit .u64 0),(.lit .u64 0),(.lit .u64 0),(.lit .u64 0),(.lit .u64 0),(.lit .u64 0),(.lit .u64 0)]),false⟩,.live ⟨true,145,0,(.row (Row.cs (hF (hF f f) (lF t za' p):Fp12))),false⟩,.live ⟨true,42,0,(.row (Row.cs (oF t za' t.x:Pg2))),false⟩])))))):=by kernel_rfl
end
set_option maxRecDepth 100000
section
def sixthV:Fp:=⟨UInt64.ofNat 5308195848297902535,UInt64.ofNat 368356918586201429,UInt64.ofNat 16611565823685306630,UInt64.ofNat 16578843054827078431,UInt64.ofNat 902017296411783715,UInt64.ofNat 312299769607923311⟩
theorem sixth_ok:CallOk Tryz.prog 190 (K0 (rS 22) sixthV) :=
 G0 (E:=En []) Tryz.func190 (c:=codeOf Tryz.f190) (by kernel_rfl) (bodied Tryz.func190 (by kernel_rfl) (by kernel_rfl)) (oS 22) sixthV (DoesL.ends (En_ok .nil) 100 (sixth_run ()) ⟨.t,rfl,trivial⟩)
def thirdL:List UInt64 := [UInt64.ofNat 10088250816726084267,UInt64.ofNat 4137836090706223446]
theorem third_ok:CallOk Tryz.prog 159 (K0 oL.res thirdL) :=
 G0 (E:=En []) Tryz.func159 (c:=codeOf Tryz.f159) (by kernel_rfl) (bodied Tryz.func159 (by kernel_rfl) (by kernel_rfl)) oL thirdL (DoesL.ends (En_ok .nil) 100 (third_run ()) ⟨.t,rfl,trivial⟩)
def turnedG (k0 g:Fp2) (cF:Fp2->Fp2) (hF:Fp2->Fp2->Fp2) (a:Fp12):Fp12 :=
 ⟨⟨hF (cF a.c0.c0) k0,hF (cF a.c0.c1) (hF (hF k0 g) g),hF (cF a.c0.c2) (hF (hF (hF (hF k0 g) g) g) g)⟩,⟨hF (cF a.c1.c0) (hF k0 g),hF (cF a.c1.c1) (hF (hF (hF k0 g) g) g),hF (cF a.c1.c2) (hF (hF (hF (hF (hF k0 g) g) g) g) g)⟩⟩
def turnedF (a:Fp12):Fp12:=turnedG (wholeF2 oneFp2) (wholeF2 (powF2 xiFp2 sixthV.list)) conjF2 halfF2 a
theorem turned_ok:CallOk Tryz.prog 157 (Kw12 turnedF) :=
 G1 (E:=turnedE sixthV powF2 wholeF2 conjF2 halfF2) Tryz.func157 (c:=codeOf Tryz.f157) (by kernel_rfl) (bodied Tryz.func157 (by kernel_rfl) (by kernel_rfl)) (kRow Fp12).inp oF12 turnedF fun a _ =>
  DoesL.ends (Ens_ok (.cons pw2_ok (.cons sixth_ok (.cons wholeF2_ok (.cons conjF2_ok (.cons halfF2_ok .nil)))))) 900 (turned_run sixthV powF2 wholeF2 conjF2 halfF2 a) ⟨.t,rfl,trivial⟩
section
variable (iF : Fp12 -> Fp12 × Int) (lF wF cF tF : Fp12 -> Fp12) (hF : Fp12 -> Fp12 -> Fp12) (rF' : Fp12 -> List UInt64 -> Fp12) (t : List UInt64)
def pw0 (a:Fp12):Fp12:=hF (cF a) (wF (iF (lF a)).1)
def pw1 (z:Fp12):Fp12:=hF (tF (tF z)) z
def pwX:List UInt64 := [UInt64.ofNat 15132376222941642752]
def pwA (z:Fp12):Fp12:=hF (cF (rF' (rF' z t) pwX)) (tF (rF' z t))
def pwB (z:Fp12):Fp12:=hF (rF' (rF' z pwX) pwX) (hF (tF (tF z)) (cF z))
def powerG (a:Fp12):Fp12:=hF (pwB cF tF hF rF' (pwA cF tF hF rF' t (pw1 tF hF (pw0 iF lF wF cF hF a)))) (pw1 tF hF (pw0 iF lF wF cF hF a))
end
theorem power_sat (iF:Fp12->Fp12 × Int) (lF wF cF tF:Fp12->Fp12) (hF:Fp12->Fp12->Fp12) (rF':Fp12->List UInt64->Fp12) {t:List UInt64} (ht:t.length<1125899906842624) (a:Fp12) {E:Env} (hE:EnvOk E) {fn:Func} {cs:List Code} {st:St}
  {T:Tree (Option (Fp12 × Pr))} (e:endT E oF12 300 fn cs st=T) (hT:T = .vc (0+t.length<=t.length/\t.length<1125899906842624/\0=0/\1=1) (.leaf (some (powerG iF lF wF cF tF hF rF' (List.take t.length (List.drop 0 t)) a,.t)))):DoesL E cs st (EndsAs E fn (Reads oF12 (powerG iF lF wF cF tF hF rF' t a))):=by
 subst hT
 refine DoesL.ends hE 300 e ⟨⟨by omega,ht,rfl,rfl⟩,fun _=>⟨.t,?_,trivial⟩⟩
 rw [whole]
def powerF (a:Fp12):Fp12:=powerG invF12 lowF12 wholeF12 conjF12 turnedF halfF12 raisedF thirdL a
theorem power_ok:CallOk Tryz.prog 108 (Kw12 powerF) :=
 G1 (E:=powerE invF12 lowF12 wholeF12 conjF12 turnedF halfF12 raisedF thirdL) Tryz.func108 (c:=codeOf Tryz.f108) (by kernel_rfl) (bodied Tryz.func108 (by kernel_rfl) (by kernel_rfl)) (kRow Fp12).inp oF12 powerF fun a _ =>
  power_sat invF12 lowF12 wholeF12 conjF12 turnedF halfF12 raisedF (t:=thirdL) (show 2<1125899906842624 by decide) a (Ens_ok (.cons invF12_ok (.cons lowF12_ok (.cons wholeF12_ok (.cons conjF12_ok (.cons turned_ok (.cons halfF12_ok (.cons raised_ok (.cons third_ok .nil))))))))) (power_run invF12 lowF12 wholeF12 conjF12 turnedF halfF12 raisedF thirdL a) rfl
section
variable (h2 a2 s2 qF : Fp2 -> Fp2 -> Fp2) (hF : Fp12 -> Fp12 -> Fp12) (lF : Pg2 -> Fp2 -> Pg1 -> Fp12) (oF : Pg2 -> Fp2 -> Fp2 -> Pg2)
def tanF (t:Pg2):Fp2:=qF (a2 (a2 (h2 t.x t.x) (h2 t.x t.x)) (h2 t.x t.x)) (a2 t.y t.y)
def chdF (q t:Pg2):Fp2:=qF (s2 q.y t.y) (s2 q.x t.x)
def mlTwo (p:Pg1) (s:Fp12 × Pg2):Fp12 × Pg2:=(hF (hF s.1 s.1) (lF s.2 (tanF h2 a2 qF s.2) p),oF s.2 (tanF h2 a2 qF s.2) s.2.x)
def mlAdd (p:Pg1) (q:Pg2) (s:Fp12 × Pg2):Fp12 × Pg2:=(hF s.1 (lF s.2 (chdF s2 qF q s.2) p),oF s.2 (chdF s2 qF q s.2) q.x)
def loopN:Nat:=15132376222941642752
def millG (p:Pg1) (q:Pg2):Nat->Fp12 × Pg2->Fp12 × Pg2
 | 0,s=>s
 | n+1,s=>match loopN.testBit n with
  | true=>millG p q n (mlAdd s2 qF hF lF oF p q (mlTwo h2 a2 qF hF lF oF p s))
  | false=>millG p q n (mlTwo h2 a2 qF hF lF oF p s)
end
def loopB (z:Int):Bool:=bits BinOp.and IntKind.u64 (shrI IntKind.u64 15132376222941642752 (↑(UInt64.ofNat (z % 18446744073709551616).toNat).toNat:Int)) 1==1
theorem loopB_all:((List.range 63).all fun n=>loopB (n:Int)==loopN.testBit n)=true:=by decide +kernel
theorem loopB_at {n:Nat} (h:n<63):loopB (n:Int)=loopN.testBit n:=eq_of_beq (List.all_eq_true.1 loopB_all n (List.mem_range.2 h))
section
variable (o : Fp12) (wF : Fp -> Fp) (w2 : Fp2 -> Fp2) (h2 a2 s2 qF : Fp2 -> Fp2 -> Fp2) (hF : Fp12 -> Fp12 -> Fp12) (lF : Pg2 -> Fp2 -> Pg1 -> Fp12) (oF : Pg2 -> Fp2 -> Fp2 -> Pg2)
theorem ml_iter' (p:Pg1) (q:Pg2) (f:Fp12) (t:Pg2) (z:Int):iterT (En (tMl o wF w2 h2 a2 s2 qF hF lF oF)) oF12 300 Tryz.f161 ((flat (scopeOf Tryz.f161)).drop 5) (mlSt p q f t z) [2,3,4,5,6,7] [0,1,2,3,4] =
  .br (decide (IntKind.i64.wrap (z-1)<0)) (.leaf (.inr (some (f,.t)))) (.br (loopB (IntKind.i64.wrap (z-1)))
   (.leaf (.inl (.goto 0,mlSt p q (mlAdd s2 qF hF lF oF p q (mlTwo h2 a2 qF hF lF oF p (f,t))).1 (mlAdd s2 qF hF lF oF p q (mlTwo h2 a2 qF hF lF oF p (f,t))).2 (IntKind.i64.wrap (z-1)))))
   (.leaf (.inl (.goto 0,mlSt p q (mlTwo h2 a2 qF hF lF oF p (f,t)).1 (mlTwo h2 a2 qF hF lF oF p (f,t)).2 (IntKind.i64.wrap (z-1)))))):=(ml_iter o wF w2 h2 a2 s2 qF hF lF oF p q f t z).trans (by kernel_rfl)
theorem ml_start' (p:Pg1) (q:Pg2):stageG (En (tMl o wF w2 h2 a2 s2 qF hF lF oF)) 100 ((flat (scopeOf Tryz.f161)).take 5) (mkSt 87 [(2,ptrV 0),(3,ptrV 1),(4,ptrV 2)] [own 33 (Row.cs p),own 42 (Row.cs q),own 145 (zeros 72)]) [2,3,4,5,6,7] [0,1,2,3,4] [(2,.as),(3,.as),(4,.as),(5,.as),(6,.as),(7,.int)] [.one .g1,.one .g2,.as,.as,.one .g2] [] =
  .leaf (mlSt ⟨wF p.x,wF p.y,false⟩ ⟨w2 q.x,w2 q.y,false⟩ o ⟨w2 q.x,w2 q.y,false⟩ 63):=(ml_start o wF w2 h2 a2 s2 qF hF lF oF p q).trans (by kernel_rfl)
theorem ml_front' (T:Table) (p:Pg1) (q:Pg2):stageT (En T) 100 ((flat (codeOf Tryz.f161)).take 1) (startSt Tryz.f161 [.one (kg1.av p),.one (kg2.av q)] []) [2,3,4] [0,1,2] =
  .leaf (mkSt 87 [(2,ptrV 0),(3,ptrV 1),(4,ptrV 2)] [own 33 (Row.cs p),own 42 (Row.cs q),own 145 (zeros 72)]):=(ml_front T p q).trans (by kernel_rfl)
abbrev MilQ (p:Pg1) (q:Pg2):Type := { s:Nat × Fp12 × Pg2 // s.1<=63/\millG h2 a2 s2 qF hF lF oF p q s.1 s.2=millG h2 a2 s2 qF hF lF oF p q 63 (o,q) }
def milI (p:Pg1) (q:Pg2) (s:MilQ o h2 a2 s2 qF hF lF oF p q):St:=mlSt p q s.1.2.1 s.1.2.2 (s.1.1:Int)
theorem miller_does (hE:EnvOk (En (tMl o wF w2 h2 a2 s2 qF hF lF oF))) (p:Pg1) (q:Pg2):DoesL (En (tMl o wF w2 h2 a2 s2 qF hF lF oF)) (flat (codeOf Tryz.f161)) (startSt Tryz.f161 [.one (kg1.av p),.one (kg2.av q)] [])
  (EndsAs (En (tMl o wF w2 h2 a2 s2 qF hF lF oF)) Tryz.f161 (Reads oF12 (millG h2 a2 s2 qF hF lF oF ⟨wF p.x,wF p.y,false⟩ ⟨w2 q.x,w2 q.y,false⟩ 63 (o,⟨w2 q.x,w2 q.y,false⟩)).1)):=by
 refine DoesL.stageE hE 100 1 [2,3,4] [0,1,2] (ml_front' _ p q) ?_
 have st:=ml_start' o wF w2 h2 a2 s2 qF hF lF oF p q
 generalize (⟨wF p.x,wF p.y,false⟩:Pg1)=p' at *
 generalize (⟨w2 q.x,w2 q.y,false⟩:Pg2)=q' at *
 refine DoesL.scopeFnG (body:=scopeOf Tryz.f161) (rest:=restOf Tryz.f161) (tail := []) (l:=0) hE (by kernel_rfl) (by kernel_rfl) 5 (by kernel_rfl) (milI o h2 a2 s2 qF hF lF oF p' q') (fun s=>s.1.1)
  ⟨(63,o,q'),Nat.le_refl _,rfl⟩ ?_ fun s => ?_
 ·rw [<- show List.take 5 (List.take 5 (flat (scopeOf Tryz.f161)))=List.take 5 (flat (scopeOf Tryz.f161)) by rw [List.take_take];rfl] at st
  refine DoesL.stageG hE 100 5 _ _ _ _ _ st ?_
  show DoesL (En (tMl o wF w2 h2 a2 s2 qF hF lF oF)) (List.drop 5 (List.take 5 (flat (scopeOf Tryz.f161)))) (mlSt p' q' o q' 63) _
  rw [show List.drop 5 (List.take 5 (flat (scopeOf Tryz.f161))) = [] by kernel_rfl]
  exact ⟨_,Wk.refl _,rfl⟩
 ·obtain ⟨⟨m,f,t⟩,h0,h1⟩:=s
  simp only [] at h0 h1
  have hz:IntKind.i64.wrap ((m:Int)-1)=(m:Int)-1:=IntWalk.i64_in _ (by omega)
  refine DoesL.iter hE 300 [2,3,4,5,6,7] [0,1,2,3,4] (ml_iter' o wF w2 h2 a2 s2 qF hF lF oF p' q' f t m) ?_
  rw [hz]
  refine ⟨fun h => ?_,fun h => ?_⟩
  ·simp only [decide_eq_true_eq] at h
   obtain rfl:m=0:=by omega
   exact ⟨.t,by rw [<- h1];rfl,trivial⟩
  ·simp only [decide_eq_false_iff_not] at h
   obtain ⟨n,rfl⟩ : ∃ n:Nat,m=n+1:=⟨m-1,by omega⟩
   have e1:((n+1:Nat):Int)-1=(n:Int):=by omega
   rw [e1,loopB_at (by omega)]
   unfold millG at h1
   refine ⟨fun h3 => ?_,fun h3 => ?_⟩
   all_goals
    rw [h3] at h1
    simp only [] at h1
   ·exact ⟨rfl,⟨(n,mlAdd s2 qF hF lF oF p' q' (mlTwo h2 a2 qF hF lF oF p' (f,t))),by show n<=63;omega,h1⟩,Nat.lt_succ_self n,rfl⟩
   ·exact ⟨rfl,⟨(n,mlTwo h2 a2 qF hF lF oF p' (f,t)),by show n<=63;omega,h1⟩,Nat.lt_succ_self n,rfl⟩
end
def millerF (p:Pg1) (q:Pg2):Fp12:=(millG halfF2 addF2 subF2 prQuot halfF12 prLine prOn ⟨wholeF p.x,wholeF p.y,false⟩ ⟨wholeF2 q.x,wholeF2 q.y,false⟩ 63 (prOne,⟨wholeF2 q.x,wholeF2 q.y,false⟩)).1
theorem miller_ok:CallOk Tryz.prog 161 (K2 kg1.arg kg2.arg rF12.res millerF) :=
 G2 (E:=En (tMl prOne wholeF wholeF2 halfF2 addF2 subF2 prQuot halfF12 prLine prOn)) Tryz.func161 (c:=codeOf Tryz.f161) (by kernel_rfl) (bodied Tryz.func161 (by kernel_rfl) (by kernel_rfl)) kg1.inp kg2.inp oF12 millerF fun p q _ _ =>
  miller_does prOne wholeF wholeF2 halfF2 addF2 subF2 prQuot halfF12 prLine prOn (En_ok (.cons prOne_ok (.cons whole_ok (.cons wholeF2_ok (.cons halfF2_ok (.cons addF2_ok (.cons subF2_ok (.cons prQuot_ok (.cons halfF12_ok (.cons prLine_ok (.cons prOn_ok .nil))))))))))) p q
end
set_option maxRecDepth 100000
section
noncomputable abbrev pdC:List Code:=flat (codeOf Tryz.f109)
def pdT (o:Fp12) (mF:Pg1->Pg2->Fp12) (hF:Fp12->Fp12->Fp12):Table := [(160,K0 rF12.res o),(161,K2 kg1.arg kg2.arg rF12.res mF),(154,Ks2 hF)]
def pdSt (l:List Duo) (f:Fp12) (z:Int):St:=mkSt 32 [(2,ptrV 1),(3,ptrV 2),(7,rwV .duo 0 l),(8,vI (l.length:Int)),(9,vI z)] [rwHE .duo l,own 145 (zeros 72),own 145 (Row.cs f)]
theorem pd_start (o:Fp12) (mF:Pg1->Pg2->Fp12) (hF:Fp12->Fp12->Fp12) (l:List Duo):stageG (En (pdT o mF hF)) 100 (pdC.take 3) (startSt Tryz.f109 [rwV .duo 0 l] [rwHE .duo l]) [2,3,7,8,9] [0,1,2] [(2,.as),(3,.as),(7,.as),(8,.int),(9,.int)] [.as,.as,.as] []=(.vc (0+l.length*38<=(rowsC RK.duo l).length/\0<38) (.leaf (mkSt 32 [(2,.one (.c (.ptr 1 0))),(3,.one (.c (.ptr 2 0))),(7,.one (.c (.slc 0 0 (l.length) 38 (.of 0) false))),(8,.one (.c (.int .i64 ((↑l.length:Int))))),(9,.one (.c (.int .i64 0)))] [.live ⟨false,0,38,(.rows .duo (l:List Duo)),false⟩,.live ⟨true,145,0,(.row [(.lit .u64 0),(.lit .u64 0),(.lit .u64 0),(.lit .u64 0),(.lit .u64 0),(.lit .u64 0),(.lit .u64 0),(.lit .u64 0),(.lit .u64 0),(.lit .u64 0),(.lit .u64 0),(.lit .u64 0),(.lit .u64 0),(.lit .u64 0),(.lit .u64 0),(.lit .u64 0),(.lit .u64 0),(.lit .u64 0),(.lit .u64 0),(.lit .u64 0),(.lit .u64 0),(.lit .u64 0),(.lit .u64 0),(.lit .u64 0),(.lit .u64 0),(.lit .u64 0),(.lit .u64 0),(.lit .u64 0),(.lit .u64 0),(.lit .u64 0),(.lit .u64 0),(.lit .u64 0),(.lit .u64 0),(.lit .u64 0),(.lit .u64 0),(.lit .u64 0),(.lit .u64 0),(.lit .u64 0),(.lit .u64 0),(.lit .u64 0),(.lit .u64 0),(.lit .u64 0),(.lit .u64 0),(.lit .u64 0),(.lit .u64 0),(.lit .u64 0),(.lit .u64 0),(.lit .u64 0),(.lit .u64 0),(.lit .u64 0),(.lit .u64 0),(.lit .u64 0),(.lit .u64 0),(.lit .u64 0),(.lit .u64 0),(.lit .u64 0),(.lit .u64 0),(.lit .u64 0),(.lit .u64 0),(.lit .u64 0),(.lit .u64 0),(.lit .u64 0),(.lit .u64 0),(.lit .u64 0),(.lit .u64 0),(.lit .u64 0),(.lit .u64 0),(.lit .u64 0),(.lit .u64 0),(.lit .u64 0),(.lit .u64 0),(.lit .u64 0)]),false⟩,.live ⟨true,145,0,(.row (Row.cs (o:Fp12))),false⟩]))):=by kernel_rfl
theorem pd_round (o:Fp12) (mF:Pg1->Pg2->Fp12) (hF:Fp12->Fp12->Fp12) (l:List Duo) (f:Fp12) (z:Int):letI za':=(↑l.length:Int);letI zb':=IntKind.i64.wrap (z+1);letI zc':=(Row.cs (f:Fp12));roundT (En (pdT o mF hF)) 300 (loopAt Tryz.f109 0) (pdSt l f z) (same [2,3,7,8,9] [0,1,2])=(.br (decide (z<za')) (.vc ((0<=z/\z<za')/\0+l.length*38<=(rowsC RK.duo l).length/\0<38/\0=0) (.vc (0+z.toNat<l.length) (.br (!((l.getD (0+z.toNat) { p:=pg10,q:=pg20 }).p.inf)) (.br (!((l.getD (0+z.toNat) { p:=pg10,q:=pg20 }).q.inf)) (.leaf ((.normal,mkSt 32 [(2,.one (.c (.ptr 1 0))),(3,.one (.c (.ptr 2 0))),(7,.one (.c (.slc 0 0 (l.length) 38 (.of 0) false))),(8,.one (.c (.int .i64 (za')))),(9,.one (.c (.int .i64 zb')))] [.live ⟨false,0,38,(.rows .duo (l:List Duo)),false⟩,.live ⟨true,145,0,(.row [(.lit .u64 0),(.lit .u64 0),(.lit .u64 0),(.lit .u64 0),(.lit .u64 0),(.lit .u64 0),(.lit .u64 0),(.lit .u64 0),(.lit .u64 0),(.lit .u64 0),(.lit .u64 0),(.lit .u64 0),(.lit .u64 0),(.lit .u64 0),(.lit .u64 0),(.lit .u64 0),(.lit .u64 0),(.lit .u64 0),(.lit .u64 0),(.lit .u64 0),(.lit .u64 0),(.lit .u64 0),(.lit .u64 0),(.lit .u64 0),(.lit .u64 0),(.lit .u64 0),(.lit .u64 0),(.lit .u64 0),(.lit .u64 0),(.lit .u64 0),(.lit .u64 0),(.lit .u64 0),(.lit .u64 0),(.lit .u64 0),(.lit .u64 0),(.lit .u64 0),(.lit .u64 0),(.lit .u64 0),(.lit .u64 0),(.lit .u64 0),(.lit .u64 0),(.lit .u64 0),(.lit .u64 0),(.lit .u64 0),(.lit .u64 0),(.lit .u64 0),(.lit .u64 0),(.lit .u64 0),(.lit .u64 0),(.lit .u64 0),(.lit .u64 0),(.lit .u64 0),(.lit .u64 0),(.lit .u64 0),(.lit .u64 0),(.lit .u64 0),(.lit .u64 0),(.lit .u64 0),(.lit .u64 0),(.lit .u64 0),(.lit .u64 0),(.lit .u64 0),(.lit .u64 0),(.lit .u64 0),(.lit .u64 0),(.lit .u64 0),(.lit .u64 0),(.lit .u64 0),(.lit .u64 0),(.lit .u64 0),(.lit .u64 0),(.lit .u64 0)]),false⟩,.live ⟨true,145,0,(.row (Row.cs (hF f (mF (l.getD (0+z.toNat) { p:=pg10,q:=pg20 }).p (l.getD (0+z.toNat) { p:=pg10,q:=pg20 }).q):Fp12))),false⟩]))) (.leaf ((.normal,mkSt 32 [(2,.one (.c (.ptr 1 0))),(3,.one (.c (.ptr 2 0))),(7,.one (.c (.slc 0 0 (l.length) 38 (.of 0) false))),(8,.one (.c (.int .i64 (za')))),(9,.one (.c (.int .i64 zb')))] [.live ⟨false,0,38,(.rows .duo (l:List Duo)),false⟩,.live ⟨true,145,0,(.row [(.lit .u64 0),(.lit .u64 0),(.lit .u64 0),(.lit .u64 0),(.lit .u64 0),(.lit .u64 0),(.lit .u64 0),(.lit .u64 0),(.lit .u64 0),(.lit .u64 0),(.lit .u64 0),(.lit .u64 0),(.lit .u64 0),(.lit .u64 0),(.lit .u64 0),(.lit .u64 0),(.lit .u64 0),(.lit .u64 0),(.lit .u64 0),(.lit .u64 0),(.lit .u64 0),(.lit .u64 0),(.lit .u64 0),(.lit .u64 0),(.lit .u64 0),(.lit .u64 0),(.lit .u64 0),(.lit .u64 0),(.lit .u64 0),(.lit .u64 0),(.lit .u64 0),(.lit .u64 0),(.lit .u64 0),(.lit .u64 0),(.lit .u64 0),(.lit .u64 0),(.lit .u64 0),(.lit .u64 0),(.lit .u64 0),(.lit .u64 0),(.lit .u64 0),(.lit .u64 0),(.lit .u64 0),(.lit .u64 0),(.lit .u64 0),(.lit .u64 0),(.lit .u64 0),(.lit .u64 0),(.lit .u64 0),(.lit .u64 0),(.lit .u64 0),(.lit .u64 0),(.lit .u64 0),(.lit .u64 0),(.lit .u64 0),(.lit .u64 0),(.lit .u64 0),(.lit .u64 0),(.lit .u64 0),(.lit .u64 0),(.lit .u64 0),(.lit .u64 0),(.lit .u64 0),(.lit .u64 0),(.lit .u64 0),(.lit .u64 0),(.lit .u64 0),(.lit .u64 0),(.lit .u64 0),(.lit .u64 0),(.lit .u64 0),(.lit .u64 0)]),false⟩,.live ⟨true,145,0,(.row zc'),false⟩])))) (.leaf ((.normal,mkSt 32 [(2,.one (.c (.ptr 1 0))),(3,.one (.c (.ptr 2 0))),(7,.one (.c (.slc 0 0 (l.length) 38 (.of 0) false))),(8,.one (.c (.int .i64 (za')))),(9,.one (.c (.int .i64 zb')))] [.live ⟨false,0,38,(.rows .duo (l:List Duo)),false⟩,.live ⟨true,145,0,(.row [(.lit .u64 0),(.lit .u64 0),(.lit .u64 0),(.lit .u64 0),(.lit .u64 0),(.lit .u64 0),(.lit .u64 0),(.lit .u64 0),(.lit .u64 0),(.lit .u64 0),(.lit .u64 0),(.lit .u64 0),(.lit .u64 0),(.lit .u64 0),(.lit .u64 0),(.lit .u64 0),(.lit .u64 0),(.lit .u64 0),(.lit .u64 0),(.lit .u64 0),(.lit .u64 0),(.lit .u64 0),(.lit .u64 0),(.lit .u64 0),(.lit .u64 0),(.lit .u64 0),(.lit .u64 0),(.lit .u64 0),(.lit .u64 0),(.lit .u64 0),(.lit .u64 0),(.lit .u64 0),(.lit .u64 0),(.lit .u64 0),(.lit .u64 0),(.lit .u64 0),(.lit .u64 0),(.lit .u64 0),(.lit .u64 0),(.lit .u64 0),(.lit .u64 0),(.lit .u64 0),(.lit .u64 0),(.lit .u64 0),(.lit .u64 0),(.lit .u64 0),(.lit .u64 0),(.lit .u64 0),(.lit .u64 0),(.lit .u64 0),(.lit .u64 0),(.lit .u64 0),(.lit .u64 0),(.lit .u64 0),(.lit .u64 0),(.lit .u64 0),(.lit .u64 0),(.lit .u64 0),(.lit .u64 0),(.lit .u64 0),(.lit .u64 0),(.lit .u64 0),(.lit .u64 0),(.lit .u64 0),(.lit .u64 0),(.lit .u64 0),(.lit .u64 0),(.lit .u64 0),(.lit .u64 0),(.lit .u64 0),(.lit .u64 0),(.lit .u64 0)]),false⟩,.live ⟨true,145,0,(.row zc'),false⟩])))))) (.leaf ((.exit 0,mkSt 32 [(2,.one (.c (.ptr 1 0))),(3,.one (.c (.ptr 2 0))),(7,.one (.c (.slc 0 0 (l.length) 38 (.of 0) false))),(8,.one (.c (.int .i64 (za')))),(9,.one (.c (.int .i64 (z))))] [.live ⟨false,0,38,(.rows .duo (l:List Duo)),false⟩,.live ⟨true,145,0,(.row [(.lit .u64 0),(.lit .u64 0),(.lit .u64 0),(.lit .u64 0),(.lit .u64 0),(.lit .u64 0),(.lit .u64 0),(.lit .u64 0),(.lit .u64 0),(.lit .u64 0),(.lit .u64 0),(.lit .u64 0),(.lit .u64 0),(.lit .u64 0),(.lit .u64 0),(.lit .u64 0),(.lit .u64 0),(.lit .u64 0),(.lit .u64 0),(.lit .u64 0),(.lit .u64 0),(.lit .u64 0),(.lit .u64 0),(.lit .u64 0),(.lit .u64 0),(.lit .u64 0),(.lit .u64 0),(.lit .u64 0),(.lit .u64 0),(.lit .u64 0),(.lit .u64 0),(.lit .u64 0),(.lit .u64 0),(.lit .u64 0),(.lit .u64 0),(.lit .u64 0),(.lit .u64 0),(.lit .u64 0),(.lit .u64 0),(.lit .u64 0),(.lit .u64 0),(.lit .u64 0),(.lit .u64 0),(.lit .u64 0),(.lit .u64 0),(.lit .u64 0),(.lit .u64 0),(.lit .u64 0),(.lit .u64 0),(.lit .u64 0),(.lit .u64 0),(.lit .u64 0),(.lit .u64 0),(.lit .u64 0),(.lit .u64 0),(.lit .u64 0),(.lit .u64 0),(.lit .u64 0),(.lit .u64 0),(.lit .u64 0),(.lit .u64 0),(.lit .u64 0),(.lit .u64 0),(.lit .u64 0),(.lit .u64 0),(.lit .u64 0),(.lit .u64 0),(.lit .u64 0),(.lit .u64 0),(.lit .u64 0),(.lit .u64 0),(.lit .u64 0)]),false⟩,.live ⟨true,145,0,(.row zc'),false⟩])))):=by kernel_rfl
theorem pd_end (o:Fp12) (mF:Pg1->Pg2->Fp12) (hF:Fp12->Fp12->Fp12) (l:List Duo) (f:Fp12) (z:Int):endT (En (pdT o mF hF)) oF12 100 Tryz.f109 (pdC.drop 4) (pdSt l f z) =
 (.leaf (some ((f,.t)))):=by kernel_rfl
noncomputable abbrev ckC:List Code:=flat (codeOf Tryz.f66)
def ckT (o:Fp12) (mF:Pg1->Pg2->Bool) (pF:List Duo->Fp12) (wF lF:Fp12->Fp12):Table := [(110,K0 rF12.res o),(106,K2 kg1.arg kg2.arg kBool.rs.res mF),(109,K1 (argRw .duo) rF12.res pF),(108,Kw12 wF),(107,Kw12 lF)]
def ckSt (l:List Duo) (z:Int):St:=mkSt 27 [(0,rwV .duo 0 l),(8,rwV .duo 0 l),(9,vI (l.length:Int)),(10,vI z)] [rwHE .duo l]
theorem ck_start (o:Fp12) (mF:Pg1->Pg2->Bool) (pF:List Duo->Fp12) (wF lF:Fp12->Fp12) (l:List Duo):letI za':=0+l.length*38<=(rowsC RK.duo l).length/\0<38;segT (En (ckT o mF pF wF lF)) oB 100 Tryz.f66 (ckC.take 4) (startSt Tryz.f66 [rwV .duo 0 l] [rwHE .duo l]) [0,8,9,10] [0] [(0,.as),(8,.as),(9,.int),(10,.int)] [.as] []=(.vc za' (.br (decide ((↑l.length:Int) > 20)) (.leaf (.inr (some ((false,.t))))) (.vc za' (.leaf (.inl (mkSt 27 [(0,.one (.c (.slc 0 0 (l.length) 38 (.of 0) false))),(8,.one (.c (.slc 0 0 (l.length) 38 (.of 0) false))),(9,.one (.c (.int .i64 ((↑l.length:Int))))),(10,.one (.c (.int .i64 0)))] [.live ⟨false,0,38,(.rows .duo (l:List Duo)),false⟩])))))):=by kernel_rfl
theorem ck_round (o:Fp12) (mF:Pg1->Pg2->Bool) (pF:List Duo->Fp12) (wF lF:Fp12->Fp12) (l:List Duo) (z:Int):letI za':=(↑l.length:Int);iterT (En (ckT o mF pF wF lF)) oB 300 Tryz.f66 [loopAt Tryz.f66 0] (ckSt l z) [0,8,9,10] [0]=(.br (decide (z<za')) (.vc ((0<=z/\z<za')/\0+l.length*38<=(rowsC RK.duo l).length/\0<38/\0=0) (.vc (0+z.toNat<l.length) (.br (!(mF (l.getD (0+z.toNat) { p:=pg10,q:=pg20 }).p (l.getD (0+z.toNat) { p:=pg10,q:=pg20 }).q)) (.leaf (.inr (some ((false,.t))))) (.leaf (.inl ((.normal,mkSt 27 [(0,.one (.c (.slc 0 0 (l.length) 38 (.of 0) false))),(8,.one (.c (.slc 0 0 (l.length) 38 (.of 0) false))),(9,.one (.c (.int .i64 (za')))),(10,.one (.c (.int .i64 (IntKind.i64.wrap (z+1)))))] [.live ⟨false,0,38,(.rows .duo (l:List Duo)),false⟩]))))))) (.leaf (.inl ((.exit 0,mkSt 27 [(0,.one (.c (.slc 0 0 (l.length) 38 (.of 0) false))),(8,.one (.c (.slc 0 0 (l.length) 38 (.of 0) false))),(9,.one (.c (.int .i64 (za')))),(10,.one (.c (.int .i64 (z))))] [.live ⟨false,0,38,(.rows .duo (l:List Duo)),false⟩]))))):=by kernel_rfl
theorem ck_end (o:Fp12) (mF:Pg1->Pg2->Bool) (pF:List Duo->Fp12) (wF lF:Fp12->Fp12) (l:List Duo) (z:Int):letI za':=lF (wF (pF (List.take l.length (List.drop 0 l))));endT (En (ckT o mF pF wF lF)) oB 100 Tryz.f66 (ckC.drop 5) (ckSt l z)=(.vc (0+l.length*38<=(rowsC RK.duo l).length/\0=0/\l.length<1125899906842624/\0=0/\38=38) (.leaf (some ((za'.c0.c0.c0.l0==o.c0.c0.c0.l0 && (za'.c0.c0.c0.l1==o.c0.c0.c0.l1 && (za'.c0.c0.c0.l2==o.c0.c0.c0.l2 && (za'.c0.c0.c0.l3==o.c0.c0.c0.l3 && (za'.c0.c0.c0.l4==o.c0.c0.c0.l4 && (za'.c0.c0.c0.l5==o.c0.c0.c0.l5 && true))))) && (za'.c0.c0.c1.l0==o.c0.c0.c1.l0 && (za'.c0.c0.c1.l1==o.c0.c0.c1.l1 && (za'.c0.c0.c1.l2==o.c0.c0.c1.l2 && (za'.c0.c0.c1.l3==o.c0.c0.c1.l3 && (za'.c0.c0.c1.l4==o.c0.c0.c1.l4 && (za'.c0.c0.c1.l5==o.c0.c0.c1.l5 && true))))) && true) && (za'.c0.c1.c0.l0==o.c0.c1.c0.l0 && (za'.c0.c1.c0.l1==o.c0.c1.c0.l1 && (za'.c0.c1.c0.l2==o.c0.c1.c0.l2 && (za'.c0.c1.c0.l3==o.c0.c1.c0.l3 && (za'.c0.c1.c0.l4==o.c0.c1.c0.l4 && (za'.c0.c1.c0.l5==o.c0.c1.c0.l5 && true))))) && (za'.c0.c1.c1.l0==o.c0.c1.c1.l0 && (za'.c0.c1.c1.l1==o.c0.c1.c1.l1 && (za'.c0.c1.c1.l2==o.c0.c1.c1.l2 && (za'.c0.c1.c1.l3==o.c0.c1.c1.l3 && (za'.c0.c1.c1.l4==o.c0.c1.c1.l4 && (za'.c0.c1.c1.l5==o.c0.c1.c1.l5 && true))))) && true) && (za'.c0.c2.c0.l0==o.c0.c2.c0.l0 && (za'.c0.c2.c0.l1==o.c0.c2.c0.l1 && (za'.c0.c2.c0.l2==o.c0.c2.c0.l2 && (za'.c0.c2.c0.l3==o.c0.c2.c0.l3 && (za'.c0.c2.c0.l4==o.c0.c2.c0.l4 && (za'.c0.c2.c0.l5==o.c0.c2.c0.l5 && true))))) && (za'.c0.c2.c1.l0==o.c0.c2.c1.l0 && (za'.c0.c2.c1.l1==o.c0.c2.c1.l1 && (za'.c0.c2.c1.l2==o.c0.c2.c1.l2 && (za'.c0.c2.c1.l3==o.c0.c2.c1.l3 && (za'.c0.c2.c1.l4==o.c0.c2.c1.l4 && (za'.c0.c2.c1.l5==o.c0.c2.c1.l5 && true))))) && true) && true)) && (za'.c1.c0.c0.l0==o.c1.c0.c0.l0 && (za'.c1.c0.c0.l1==o.c1.c0.c0.l1 && (za'.c1.c0.c0.l2==o.c1.c0.c0.l2 && (za'.c1.c0.c0.l3==o.c1.c0.c0.l3 && (za'.c1.c0.c0.l4==o.c1.c0.c0.l4 && (za'.c1.c0.c0.l5==o.c1.c0.c0.l5 && true))))) && (za'.c1.c0.c1.l0==o.c1.c0.c1.l0 && (za'.c1.c0.c1.l1==o.c1.c0.c1.l1 && (za'.c1.c0.c1.l2==o.c1.c0.c1.l2 && (za'.c1.c0.c1.l3==o.c1.c0.c1.l3 && (za'.c1.c0.c1.l4==o.c1.c0.c1.l4 && (za'.c1.c0.c1.l5==o.c1.c0.c1.l5 && true))))) && true) && (za'.c1.c1.c0.l0==o.c1.c1.c0.l0 && (za'.c1.c1.c0.l1==o.c1.c1.c0.l1 && (za'.c1.c1.c0.l2==o.c1.c1.c0.l2 && (za'.c1.c1.c0.l3==o.c1.c1.c0.l3 && (za'.c1.c1.c0.l4==o.c1.c1.c0.l4 && (za'.c1.c1.c0.l5==o.c1.c1.c0.l5 && true))))) && (za'.c1.c1.c1.l0==o.c1.c1.c1.l0 && (za'.c1.c1.c1.l1==o.c1.c1.c1.l1 && (za'.c1.c1.c1.l2==o.c1.c1.c1.l2 && (za'.c1.c1.c1.l3==o.c1.c1.c1.l3 && (za'.c1.c1.c1.l4==o.c1.c1.c1.l4 && (za'.c1.c1.c1.l5==o.c1.c1.c1.l5 && true))))) && true) && (za'.c1.c2.c0.l0==o.c1.c2.c0.l0 && (za'.c1.c2.c0.l1==o.c1.c2.c0.l1 && (za'.c1.c2.c0.l2==o.c1.c2.c0.l2 && (za'.c1.c2.c0.l3==o.c1.c2.c0.l3 && (za'.c1.c2.c0.l4==o.c1.c2.c0.l4 && (za'.c1.c2.c0.l5==o.c1.c2.c0.l5 && true))))) && (za'.c1.c2.c1.l0==o.c1.c2.c1.l0 && (za'.c1.c2.c1.l1==o.c1.c2.c1.l1 && (za'.c1.c2.c1.l2==o.c1.c2.c1.l2 && (za'.c1.c2.c1.l3==o.c1.c2.c1.l3 && (za'.c1.c2.c1.l4==o.c1.c2.c1.l4 && (za'.c1.c2.c1.l5==o.c1.c2.c1.l5 && true))))) && true) && true)) && true),.t))))):=by kernel_rfl
end
set_option maxRecDepth 100000
section
theorem drop_getD {α:Type} (l:List α) {i:Nat} (h:i<l.length) (d:α):l.drop i=l.getD i d :: l.drop (i+1):=by
 rw [List.drop_eq_getElem_cons h,List.getD_eq_getElem?_getD,List.getElem?_eq_getElem h]
 rfl
section
variable (o : Fp12) (mF : Pg1 -> Pg2 -> Fp12) (hF : Fp12 -> Fp12 -> Fp12)
def pdOne (x:Duo) (f:Fp12):Fp12:=match !x.p.inf with
 | true=>match !x.q.inf with
  | true=>hF f (mF x.p x.q)
  | false=>f
 | false=>f
def prodG:List Duo->Fp12->Fp12
 | [],f=>f
 | x :: l,f=>prodG l (pdOne mF hF x f)
theorem prodG_cons (x:Duo) (l:List Duo) (f:Fp12):prodG mF hF (x :: l) f=prodG mF hF l (pdOne mF hF x f):=rfl
abbrev PdQ (l:List Duo):Type := { s:Nat × Fp12 // s.1<=l.length/\prodG mF hF (l.drop s.1) s.2=prodG mF hF l o }
def pdI (l:List Duo) (s:PdQ o mF hF l):St:=pdSt l s.1.2 (s.1.1:Int)
theorem product_does (hE:EnvOk (En (pdT o mF hF))) (l:List Duo) (hl:l.length<topLen):DoesL (En (pdT o mF hF)) pdC (startSt Tryz.f109 [rwV .duo 0 l] [rwHE .duo l])
  (EndsAs (En (pdT o mF hF)) Tryz.f109 (Reads oF12 (prodG mF hF l o))):=by
 have hl:l.length<1125899906842624:=hl
 refine DoesL.stageG hE 100 3 _ _ _ _ _ (pd_start o mF hF l) ⟨vcLenDuo l,fun _ => ?_⟩
 refine (?_:DoesL _ _ (pdSt l o ((0:Nat):Int)) _)
 refine DoesL.blockLoop (B:=loopAt Tryz.f109 0) (rest:=pdC.drop 4) (id:=0) (by kernel_rfl) (pdI o mF hF l) (fun s=>l.length-s.1.1) ⟨(0,o),Nat.zero_le _,rfl⟩ fun s => ?_
 obtain ⟨⟨i,f⟩,h0,h1⟩:=s
 simp only [] at h0 h1
 refine (?_:Does _ _ (pdSt l f (i:Int)) _)
 refine Does.round hE 300 _ (pd_round o mF hF l f (i:Int)) ⟨fun h => ?_,fun h => ?_⟩
 ·simp only [decide_eq_true_eq] at h
  have hi:i<l.length:=by omega
  refine ⟨vcIdxDuo hi,fun _=>⟨vcGetDuo hi,fun _ => ?_⟩⟩
  have hw:IntKind.i64.wrap ((i:Int)+1)=((i+1:Nat):Int):=(IntWalk.i64_in _ (by omega)).trans (by omega)
  have hd:=drop_getD l hi (⟨pg10,pg20⟩:Duo)
  rw [hd] at h1
  have e0:0+(i:Int).toNat=i:=by omega
  rw [e0,hw]
  rw [prodG_cons] at h1
  unfold pdOne at h1
  generalize l.getD i (⟨pg10,pg20⟩:Duo)=x at *
  refine ⟨fun h2=>⟨fun h3 => ?_,fun h3 => ?_⟩,fun h2 => ?_⟩
  ·rw [h2,h3] at h1
   exact ⟨⟨(i+1,hF f (mF x.p x.q)),hi,h1⟩,by show l.length-(i+1)<l.length-i;omega,rfl⟩
  ·rw [h2,h3] at h1
   exact ⟨⟨(i+1,f),hi,h1⟩,by show l.length-(i+1)<l.length-i;omega,rfl⟩
  ·rw [h2] at h1
   exact ⟨⟨(i+1,f),hi,h1⟩,by show l.length-(i+1)<l.length-i;omega,rfl⟩
 ·simp only [decide_eq_false_iff_not] at h
  obtain rfl:i=l.length:=by omega
  refine ⟨rfl,DoesL.ends hE 100 (pd_end o mF hF l f _) ⟨.t,?_,trivial⟩⟩
  rw [<- h1,List.drop_length]
  rfl
end
def productF (l:List Duo):Fp12:=prodG millerF halfF12 l prOne
theorem product_ok:CallOk Tryz.prog 109 (K1 (argRw .duo) rF12.res productF) :=
 G1 (E:=En (pdT prOne millerF halfF12)) Tryz.func109 (c:=codeOf Tryz.f109) (by kernel_rfl) (bodied Tryz.func109 (by kernel_rfl) (by kernel_rfl)) (inpRw .duo) oF12 productF fun l hl =>
  product_does prOne millerF halfF12 (En_ok (.cons prOne_ok (.cons miller_ok (.cons halfF12_ok .nil)))) l hl
section
variable (o : Fp12) (mF : Pg1 -> Pg2 -> Bool) (pF : List Duo -> Fp12) (wF lF : Fp12 -> Fp12)
def mayAll:List Duo->Bool
 | []=>true
 | x :: l=>match !(mF x.p x.q) with
  | true=>false
  | false=>mayAll l
theorem mayAll_cons (x:Duo) (l:List Duo):mayAll mF (x :: l)=match !(mF x.p x.q) with | true=>false | false=>mayAll mF l:=rfl
def checkG (l:List Duo):Bool:=match decide ((l.length:Int) > 20) with
 | true=>false
 | false=>match mayAll mF l with
  | false=>false
  | true=>fp12Eq (lF (wF (pF l))) o
abbrev CkQ (l:List Duo):Type := { i:Nat // i<=l.length/\mayAll mF (l.drop i)=mayAll mF l }
def ckI (l:List Duo) (i:CkQ mF l):St:=ckSt l (i.1:Int)
theorem check_does (hE:EnvOk (En (ckT o mF pF wF lF))) (l:List Duo) (hl:l.length<topLen):DoesL (En (ckT o mF pF wF lF)) ckC (startSt Tryz.f66 [rwV .duo 0 l] [rwHE .duo l])
  (EndsAs (En (ckT o mF pF wF lF)) Tryz.f66 (Reads oB (checkG o mF pF wF lF l))):=by
 have hl:l.length<1125899906842624:=hl
 refine DoesL.seg hE 100 4 _ _ _ _ _ (ck_start o mF pF wF lF l) ⟨vcLenDuo l,fun _=>⟨fun h => ?_,fun h=>⟨vcLenDuo l,fun _ => ?_⟩⟩⟩
 ·exact ⟨.t,by unfold checkG;rw [h],trivial⟩
 have hc:checkG o mF pF wF lF l=match mayAll mF l with | false=>false | true=>fp12Eq (lF (wF (pF l))) o:=by unfold checkG;rw [h]
 refine (?_:DoesL _ _ (ckSt l ((0:Nat):Int)) _)
 refine DoesL.blockLoopR (B:=loopAt Tryz.f66 0) (rest:=ckC.drop 5) (id:=0) (by kernel_rfl) (ckI mF l) (fun i=>l.length-i.1) ⟨0,Nat.zero_le _,rfl⟩ fun s => ?_
 obtain ⟨i,h0,h1⟩:=s
 refine (?_:DoesL _ _ (ckSt l (i:Int)) _)
 refine DoesL.iter hE 300 _ _ (ck_round o mF pF wF lF l (i:Int)) ⟨fun h => ?_,fun h => ?_⟩
 ·simp only [decide_eq_true_eq] at h
  have hi:i<l.length:=by omega
  refine ⟨vcIdxDuo hi,fun _=>⟨vcGetDuo hi,fun _ => ?_⟩⟩
  have hw:IntKind.i64.wrap ((i:Int)+1)=((i+1:Nat):Int):=(IntWalk.i64_in _ (by omega)).trans (by omega)
  have hd:=drop_getD l hi (⟨pg10,pg20⟩:Duo)
  rw [hd] at h1
  have e0:0+(i:Int).toNat=i:=by omega
  rw [e0,hw]
  rw [mayAll_cons] at h1
  generalize l.getD i (⟨pg10,pg20⟩:Duo)=x at *
  refine ⟨fun h2 => ?_,fun h2 => ?_⟩
  ·rw [h2] at h1
   have h1:false=mayAll mF l:=h1
   exact ⟨.t,by rw [hc,<- h1],trivial⟩
  ·rw [h2] at h1
   exact ⟨⟨i+1,hi,h1⟩,by show l.length-(i+1)<l.length-i;omega,rfl⟩
 ·simp only [decide_eq_false_iff_not] at h
  obtain rfl:i=l.length:=by omega
  rw [List.drop_length] at h1
  have h1:true=mayAll mF l:=h1
  refine ⟨rfl,DoesL.ends hE 100 (ck_end o mF pF wF lF l _) ⟨vcAllDuo hl,fun _=>⟨.t,?_,trivial⟩⟩⟩
  rw [hc,<- h1,wholeTakeDuo rfl]
  rfl
end
def prCheck (l:List Duo):Bool:=checkG oneF12 prMay productF powerF lowF12 l
theorem prCheck_ok:CallOk Tryz.prog 66 (K1 (argRw .duo) kBool.rs.res prCheck) :=
 G1 (E:=En (ckT oneF12 prMay productF powerF lowF12)) Tryz.func66 (c:=codeOf Tryz.f66) (by kernel_rfl) (bodied Tryz.func66 (by kernel_rfl) (by kernel_rfl)) (inpRw .duo) oB prCheck fun l hl =>
  check_does oneF12 prMay productF powerF lowF12 (En_ok (.cons oneF12_ok (.cons prMay_ok (.cons product_ok (.cons power_ok (.cons lowF12_ok .nil)))))) l hl
end
section
def tabF1 (pl:Sp1->Sp1->Sp1) (s:Sp1):Nat->Sp1
 | 0=>zeroSp
 | i+1=>pl (tabF1 pl s i) s
def tabV1 (pl:Sp1->Sp1->Sp1) (s:Sp1):Tab .sp1:=⟨sixteen (tabF1 pl s),rfl⟩
theorem tab1_run (pl:Sp1->Sp1->Sp1) (s:Sp1):plainRun (En [(92,K2 ks1.arg ks1.arg ks1.rs.res pl)]) (kRow (Tab .sp1)).rs 300 Tryz.f88 [.one (ks1.av s)] = .leaf (some (tabV1 pl s)):=by kernel_rfl
theorem tableG1_ok:CallOk Tryz.prog 88 (K1 ks1.arg (kRow (Tab .sp1)).rs.res (tabV1 plusG1)) :=
 P1 (E:=En [(92,K2 ks1.arg ks1.arg ks1.rs.res plusG1)]) (En_ok (.cons plusG1_ok .nil)) Tryz.func88 (bodied Tryz.func88 (by kernel_rfl) (by kernel_rfl)) 300 ks1 (kRow (Tab .sp1)).rs (tabV1 plusG1) (fun s=>tab1_run plusG1 s) (fun s=>Tree.sat_leaf rfl)
noncomputable abbrev sum1C:List Code:=flat (scopeOf Tryz.f55)
noncomputable abbrev sum1B (k:Nat):Code:=loopAt Tryz.f55 k
def sum1K (lf:Pg1->Sp1) (tb:Sp1->Tab .sp1) (tw:Sp1->Sp1) (pl:Sp1->Sp1->Sp1) (ly:Sp1->Pg1):Table := [(89,K1 kg1.arg ks1.rs.res lf),(88,K1 ks1.arg (kRow (Tab .sp1)).rs.res tb),(91,K1 ks1.arg ks1.rs.res tw),(92,K2 ks1.arg ks1.arg ks1.rs.res pl),(90,K1 ks1.arg kg1.rs.res ly)]
def zerosG1:List Cell:=zeros 12 ++ [.ff]
theorem sum1_front (T:Table) (ps:List Pg1) (ks:List Fr):stageT (En T) 100 ((flat (codeOf Tryz.f55)).take 1) (startSt Tryz.f55 [rwV .g1 0 ps,rwV .fr 1 ks] [rwHE .g1 ps,rwHE .fr ks]) [0,1,4] [0,1,2] = .leaf (mkSt 67 [(0,rwV .g1 0 ps),(1,rwV .fr 1 ks),(4,ptrV 2)] [rwHE .g1 ps,rwHE .fr ks,own 33 zerosG1]):=by kernel_rfl
theorem sum1_start (lf:Pg1->Sp1) (tb:Sp1->Tab .sp1) (tw:Sp1->Sp1) (pl:Sp1->Sp1->Sp1) (ly:Sp1->Pg1) (ps:List Pg1) (ks:List Fr):letI za':=(if (↑ks.length:Int)<(↑ps.length:Int) then (↑ks.length:Int) else (↑ps.length:Int));letI zb':=rowsC RK.g1 ps;letI zc':=za'.toNat-0;letI zd':=(↑ks.length:Int);letI ze':=(↑ps.length:Int);stageG (En (sum1K lf tb tw pl ly)) 300 (sum1C.take 3) (mkSt 67 [(0,rwV .g1 0 ps),(1,rwV .fr 1 ks),(4,ptrV 2)] [rwHE .g1 ps,rwHE .fr ks,own 33 zerosG1]) [0,1,4,5,6,19,20,21] [0,1,2] [(0,.as),(1,.as),(4,.as),(5,.int),(6,.nilE 3 288),(19,.slc),(20,.int),(21,.int)] [.as,.as,.as] [(123,.rowsM .sp1 15)]=(.vc (0+ps.length*13<=zb'.length/\0<13) (.vc (0+ks.length*4<=(rowsC RK.fr ks).length/\0<4) (.vc ((0<=if zd'<ze' then zd' else ze')/\0<=za'.toNat/\za'.toNat<=ps.length/\0+ps.length*13<=zb'.length/\0<13/\(0=0 \/ 0<za'.toNat)/\0=0/\13=13) (.vc (0+zc'*13<=zb'.length/\0<13) (.leaf (mkSt 67 [(0,.one (.c (.slc 0 0 (ps.length) 13 (.of 0) false))),(1,.one (.c (.slc 1 0 (ks.length) 4 (.of 0) false))),(4,.one (.c (.ptr 2 0))),(5,.one (.c (.int .i64 za'))),(6,.one (.c (.slc 3 0 0 288 (.of 0) false))),(19,.one (.c (.slc 0 0 zc' 13 (.of 0) false))),(20,.one (.c (.int .i64 ((↑zc':Int))))),(21,.one (.c (.int .i64 0)))] [.live ⟨false,0,13,(.rows .g1 (ps:List Pg1)),false⟩,.live ⟨false,0,4,(.rows .fr (ks:List Fr)),false⟩,.live ⟨true,33,0,(.row [(.lit .u64 0),(.lit .u64 0),(.lit .u64 0),(.lit .u64 0),(.lit .u64 0),(.lit .u64 0),(.lit .u64 0),(.lit .u64 0),(.lit .u64 0),(.lit .u64 0),(.lit .u64 0),(.lit .u64 0),.ff]),false⟩,.live ⟨true,123,288,(.rows .sp1 ([]:List Sp1)),false⟩])))))):=by kernel_rfl
def ownTab1 (l:List Sp1):HE := .live ⟨true,123,288,.rows .sp1 l,false⟩
def sum1S1 (ps:List Pg1) (ks:List Fr) (n z:Int) (c:Nat) (tl:List Sp1):St:=mkSt 67 [(0,rwV .g1 0 ps),(1,rwV .fr 1 ks),(4,ptrV 2),(5,vI n),(6,.one (.c (.slc 3 0 c 288 (.of 0) false))),(19,.one (.c (.slc 0 0 n.toNat 13 (.of 0) false))),(20,vI n),(21,vI z)] [rwHE .g1 ps,rwHE .fr ks,own 33 zerosG1,ownTab1 tl]
theorem sum1_round1 (lf:Pg1->Sp1) (tb:Sp1->Tab .sp1) (tw:Sp1->Sp1) (pl:Sp1->Sp1->Sp1) (ly:Sp1->Pg1) (ps:List Pg1) (ks:List Fr) (n z:Int) (c:Nat) (tl:List Sp1):letI za':=tb (lf (ps.getD (0+z.toNat) pg10));roundP (En (sum1K lf tb tw pl ly)) 300 (sum1B 0) (sum1S1 ps ks n z c tl) (following [0,1,4,5,6,19,20,21] [0,1,2] [6])=(.br (decide (z<n)) (.vc ((0<=z/\z<(↑n.toNat:Int))/\0+n.toNat*13<=(rowsC RK.g1 ps).length/\0<13/\0=0) (.vc (0+z.toNat<ps.length) (.vc ((0+c*288<=(rowsC RK.sp1 tl).length/\0=0)/\c+1<=9223372036854775807/\(c+1)*2304<=140737488355328) (.leaf ((.normal,mkSt 67 [(0,.one (.c (.slc 0 0 (ps.length) 13 (.of 0) false))),(1,.one (.c (.slc 1 0 (ks.length) 4 (.of 0) false))),(4,.one (.c (.ptr 2 0))),(5,.one (.c (.int .i64 (n)))),(6,.one (.c (.slc 3 0 (c+1) 288 (.of 0) false))),(19,.one (.c (.slc 0 0 (n.toNat) 13 (.of 0) false))),(20,.one (.c (.int .i64 (n)))),(21,.one (.c (.int .i64 (IntKind.i64.wrap (z+1)))))] [.live ⟨false,0,13,(.rows .g1 (ps:List Pg1)),false⟩,.live ⟨false,0,4,(.rows .fr (ks:List Fr)),false⟩,.live ⟨true,33,0,(.row [(.lit .u64 0),(.lit .u64 0),(.lit .u64 0),(.lit .u64 0),(.lit .u64 0),(.lit .u64 0),(.lit .u64 0),(.lit .u64 0),(.lit .u64 0),(.lit .u64 0),(.lit .u64 0),(.lit .u64 0),.ff]),false⟩,.live ⟨true,123,288,(.rows .sp1 (List.take (mulNn c (288 / 18)) (List.drop 0 tl) ++ [za'.xs.getD 0 { x:=fp0,y:=fp0,z:=fp0 },za'.xs.getD 1 { x:=fp0,y:=fp0,z:=fp0 },za'.xs.getD 2 { x:=fp0,y:=fp0,z:=fp0 },za'.xs.getD 3 { x:=fp0,y:=fp0,z:=fp0 },za'.xs.getD 4 { x:=fp0,y:=fp0,z:=fp0 },za'.xs.getD 5 { x:=fp0,y:=fp0,z:=fp0 },za'.xs.getD 6 { x:=fp0,y:=fp0,z:=fp0 },za'.xs.getD 7 { x:=fp0,y:=fp0,z:=fp0 },za'.xs.getD 8 { x:=fp0,y:=fp0,z:=fp0 },za'.xs.getD 9 { x:=fp0,y:=fp0,z:=fp0 },za'.xs.getD 10 { x:=fp0,y:=fp0,z:=fp0 },za'.xs.getD 11 { x:=fp0,y:=fp0,z:=fp0 },za'.xs.getD 12 { x:=fp0,y:=fp0,z:=fp0 },za'.xs.getD 13 { x:=fp0,y:=fp0,z:=fp0 },za'.xs.getD 14 { x:=fp0,y:=fp0,z:=fp0 },za'.xs.getD 15 { x:=fp0,y:=fp0,z:=fp0 }]:List Sp1)),false⟩])))))) (.leaf ((.exit 0,mkSt 67 [(0,.one (.c (.slc 0 0 (ps.length) 13 (.of 0) false))),(1,.one (.c (.slc 1 0 (ks.length) 4 (.of 0) false))),(4,.one (.c (.ptr 2 0))),(5,.one (.c (.int .i64 (n)))),(6,.one (.c (.slc 3 0 (c) 288 (.of 0) false))),(19,.one (.c (.slc 0 0 (n.toNat) 13 (.of 0) false))),(20,.one (.c (.int .i64 (n)))),(21,.one (.c (.int .i64 (z))))] [.live ⟨false,0,13,(.rows .g1 (ps:List Pg1)),false⟩,.live ⟨false,0,4,(.rows .fr (ks:List Fr)),false⟩,.live ⟨true,33,0,(.row [(.lit .u64 0),(.lit .u64 0),(.lit .u64 0),(.lit .u64 0),(.lit .u64 0),(.lit .u64 0),(.lit .u64 0),(.lit .u64 0),(.lit .u64 0),(.lit .u64 0),(.lit .u64 0),(.lit .u64 0),.ff]),false⟩,.live ⟨true,123,288,(.rows .sp1 (tl:List Sp1)),false⟩])))):=by kernel_rfl
theorem sum1_mid (lf:Pg1->Sp1) (tb:Sp1->Tab .sp1) (tw:Sp1->Sp1) (pl:Sp1->Sp1->Sp1) (ly:Sp1->Pg1) (ps:List Pg1) (ks:List Fr) (n z:Int) (c:Nat) (tl:List Sp1):letI za':Fp := { l0:=UInt64.ofNat 0,l1:=UInt64.ofNat 0,l2:=UInt64.ofNat 0,l3:=UInt64.ofNat 0,l4:=UInt64.ofNat 0,l5:=UInt64.ofNat 0 };stageG (En (sum1K lf tb tw pl ly)) 300 ((sum1C.drop 4).take 3) (sum1S1 ps ks n z c tl) [1,4,5,6,9,10] [1,2,3,4] [(1,.as),(4,.as),(5,.as),(6,.as),(9,.as),(10,.int)] [.as,.as,.as,.one .sp1] []=(.leaf (mkSt 67 [(1,.one (.c (.slc 0 0 (ks.length) 4 (.of 0) false))),(4,.one (.c (.ptr 1 0))),(5,.one (.c (.int .i64 (n)))),(6,.one (.c (.slc 2 0 (c) 288 (.of 0) false))),(9,.one (.c (.ptr 3 0))),(10,.one (.c (.int .i64 256)))] [.live ⟨false,0,4,(.rows .fr (ks:List Fr)),false⟩,.live ⟨true,33,0,(.row [(.lit .u64 0),(.lit .u64 0),(.lit .u64 0),(.lit .u64 0),(.lit .u64 0),(.lit .u64 0),(.lit .u64 0),(.lit .u64 0),(.lit .u64 0),(.lit .u64 0),(.lit .u64 0),(.lit .u64 0),.ff]),false⟩,.live ⟨true,123,288,(.rows .sp1 (tl:List Sp1)),false⟩,.live ⟨true,122,0,(.row (Row.cs ({ x:=za',y:=za',z:=za' }:Sp1))),false⟩])):=by kernel_rfl
def sum1S2 (ks:List Fr) (n z:Int) (c:Nat) (tl:List Sp1) (o:Sp1):St:=mkSt 67 [(1,rwV .fr 0 ks),(4,ptrV 1),(5,vI n),(6,.one (.c (.slc 2 0 c 288 (.of 0) false))),(9,ptrV 3),(10,vI z)] [rwHE .fr ks,own 33 zerosG1,ownTab1 tl,own 122 (Row.cs o)]
theorem sum1_top (lf:Pg1->Sp1) (tb:Sp1->Tab .sp1) (tw:Sp1->Sp1) (pl:Sp1->Sp1->Sp1) (ly:Sp1->Pg1) (ks:List Fr) (n z:Int) (c:Nat) (tl:List Sp1) (o:Sp1):segT (En (sum1K lf tb tw pl ly)) kg1.rs.out 300 Tryz.f55 ((sum1C.drop 7).take 6) (sum1S2 ks n z c tl o) [1,4,5,6,9,10,43,44] [0,1,2,3] [(1,.as),(4,.as),(5,.as),(6,.as),(9,.as),(10,.as),(43,.as),(44,.int)] [.as,.as,.as,.as] []=(.br (decide (IntKind.i64.wrap (z-4)<0)) (.leaf (.inr (some ((ly o,.t))))) (.leaf (.inl (mkSt 67 [(1,.one (.c (.slc 0 0 (ks.length) 4 (.of 0) false))),(4,.one (.c (.ptr 1 0))),(5,.one (.c (.int .i64 (n)))),(6,.one (.c (.slc 2 0 (c) 288 (.of 0) false))),(9,.one (.c (.ptr 3 0))),(10,.one (.c (.int .i64 (IntKind.i64.wrap (z-4))))),(43,.one (.c (.int .i64 (n)))),(44,.one (.c (.int .i64 0)))] [.live ⟨false,0,4,(.rows .fr (ks:List Fr)),false⟩,.live ⟨true,33,0,(.row [(.lit .u64 0),(.lit .u64 0),(.lit .u64 0),(.lit .u64 0),(.lit .u64 0),(.lit .u64 0),(.lit .u64 0),(.lit .u64 0),(.lit .u64 0),(.lit .u64 0),(.lit .u64 0),(.lit .u64 0),.ff]),false⟩,.live ⟨true,123,288,(.rows .sp1 (tl:List Sp1)),false⟩,.live ⟨true,122,0,(.row (Row.cs (tw (tw (tw (tw o))):Sp1))),false⟩])))):=by kernel_rfl
def sum1S3 (ks:List Fr) (n z j:Int) (c:Nat) (tl:List Sp1) (o:Sp1):St:=mkSt 67 [(1,rwV .fr 0 ks),(4,ptrV 1),(5,vI n),(6,.one (.c (.slc 2 0 c 288 (.of 0) false))),(9,ptrV 3),(10,vI z),(43,vI n),(44,vI j)] [rwHE .fr ks,own 33 zerosG1,ownTab1 tl,own 122 (Row.cs o)]
def digU (k:Fr) (z:Int):UInt64:=shrU (k.limb (IntKind.i64.wrap (z.tdiv 64)).toNat) ((UInt64.ofNat (z.tmod 64 % 18446744073709551616).toNat).toNat:Int) % UInt64.ofNat 16
def fr0:Fr:=⟨0,0,0,0⟩
def sp0:Sp1:=⟨fp0,fp0,fp0⟩
theorem sum1_round3 (lf:Pg1->Sp1) (tb:Sp1->Tab .sp1) (tw:Sp1->Sp1) (pl:Sp1->Sp1->Sp1) (ly:Sp1->Pg1) (ks:List Fr) (n z j:Int) (c:Nat) (tl:List Sp1) (o:Sp1):letI za':=((digU (ks.getD (0+j.toNat) fr0) z).toNat:Int);roundT (En (sum1K lf tb tw pl ly)) 300 (sum1B 2) (sum1S3 ks n z j c tl o) (same [1,4,5,6,9,10,43,44] [0,1,2,3]) = .br (decide (j<n)) (.vc ((0<=j/\j<(ks.length:Int))/\0+ks.length*4<=(rowsC RK.fr ks).length/\0<4/\0=0) (.vc ((0<=IntKind.i64.wrap (z.tdiv 64)/\IntKind.i64.wrap (z.tdiv 64)<4)/\(0+j.toNat)*4<(rowsC RK.fr ks).length) (.vc (0+j.toNat<ks.length/\(IntKind.i64.wrap (z.tdiv 64)).toNat<4) (.vc ((0<=j/\j<(c:Int))/\0+c*288<=(rowsC RK.sp1 tl).length/\0<288/\0=0) (.vc ((0<=za'/\za'<16)/\(0+j.toNat)*288<(rowsC RK.sp1 tl).length) (.vc ((0+j.toNat)*16+za'.toNat<tl.length) (.leaf (.normal,sum1S3 ks n z (IntKind.i64.wrap (j+1)) c tl (pl o (tl.getD ((0+j.toNat)*16+za'.toNat) sp0)))))))))) (.leaf (.exit 4,sum1S3 ks n z j c tl o)):=by kernel_rfl
theorem sum1_back (T:Table) (ks:List Fr) (n z j:Int) (c:Nat) (tl:List Sp1) (o:Sp1):iterT (En T) kg1.rs.out 100 Tryz.f55 [.goto 0] (sum1S3 ks n z j c tl o) [1,4,5,6,9,10] [0,1,2,3] = .leaf (.inl (.goto 0,sum1S2 ks n z c tl o)):=by kernel_rfl
theorem digU_lt (k:Fr) (z:Int):(digU k z).toNat<16:=by
 unfold digU
 rw [UInt64.toNat_mod]
 exact Nat.mod_lt _ (by decide)
def sumIn1 (pl:Sp1->Sp1->Sp1) (tl:List Sp1) (ks:List Fr) (z:Int):Nat->Sp1->Sp1
 | 0,o=>o
 | j+1,o=>pl (sumIn1 pl tl ks z j o) (tl.getD (j*16+(digU (ks.getD j fr0) z).toNat) sp0)
def sumOut1 (tw:Sp1->Sp1) (pl:Sp1->Sp1->Sp1) (tl:List Sp1) (ks:List Fr) (n:Nat):Nat->Sp1->Sp1
 | 0,o=>o
 | m+1,o=>sumOut1 tw pl tl ks n m (sumIn1 pl tl ks ((4*m:Nat):Int) n (tw (tw (tw (tw o)))))
def tabs1 (f:Pg1->Tab .sp1) (ps:List Pg1):List Sp1:=ps.flatMap fun p=>(f p).xs
theorem tabs1_len (f:Pg1->Tab .sp1) : ∀ ps:List Pg1,(tabs1 f ps).length=ps.length*16
 | []=>rfl
 | p :: ps=>by
  have:=tabs1_len f ps
  have h16:(f p).xs.length=16:=(f p).len
  simp only [tabs1,List.flatMap_cons,List.length_append,List.length_cons] at this ⊢
  rw [this,h16]
  omega
theorem tabs1_snoc (f:Pg1->Tab .sp1) (ps:List Pg1) (p:Pg1):tabs1 f (ps ++ [p])=tabs1 f ps++sixteen (fun i=>(f p).xs.getD i sp0):=by
 have:=Tab.cells (f p)
 simp only [tabs1,List.flatMap_append,List.flatMap_cons,List.flatMap_nil,List.append_nil]
 exact congrArg _ this.symm
abbrev sumN1 (ps:List Pg1) (ks:List Fr):Nat:=min ks.length ps.length
def tab1V (p:Pg1):Tab .sp1:=tabV1 plusG1 (liftG1 p)
def sumG1 (ps:List Pg1) (ks:List Fr):Pg1:=laysG1 (sumOut1 twiceG1 plusG1 (tabs1 tab1V (ps.take (sumN1 ps ks))) ks (sumN1 ps ks) 64 zeroSp)
theorem minmax_min (a b:Nat):(if (a:Int)<(b:Int) then (a:Int) else (b:Int))=((min a b:Nat):Int):=by
 split <;> omega
theorem wholeTab (c:Nat) (tl:List Sp1) (h:tl.length=c*16):List.take (mulNn c 16) (List.drop 0 tl)=tl:=by
 rw [mulNn_eq,List.drop_zero,<- h,List.take_length]
theorem sum1K_ok:EnvOk (En (sum1K liftG1 (tabV1 plusG1) twiceG1 plusG1 laysG1)):=En_ok (.cons liftG1_ok (.cons tableG1_ok (.cons twiceG1_ok (.cons plusG1_ok (.cons laysG1_ok .nil)))))
theorem sum1_ahead (ps:List Pg1) (ks:List Fr) (hp:ps.length<topLen) (hk:ks.length<topLen) (hs:sumN1 ps ks<4294967296) :
  DoesL (En (sum1K liftG1 (tabV1 plusG1) twiceG1 plusG1 laysG1)) (sum1C.take 7) (mkSt 67 [(0,rwV .g1 0 ps),(1,rwV .fr 1 ks),(4,ptrV 2)] [rwHE .g1 ps,rwHE .fr ks,own 33 zerosG1])
   fun r=>match r.1 with | .normal=>r.2=sum1S2 ks (sumN1 ps ks:Nat) 256 (sumN1 ps ks) (tabs1 tab1V (ps.take (sumN1 ps ks))) zeroSp | _=>False:=by
 have hE:=sum1K_ok
 have hN:sumN1 ps ks<=ps.length:=Nat.min_le_right _ _
 refine DoesL.stageG hE 300 3 _ _ _ _ _ ((congrArg (fun c=>stageG _ 300 c _ _ _ _ _ _) (List.take_take (i:=3) (j:=7) (l:=sum1C))).trans (sum1_start liftG1 (tabV1 plusG1) twiceG1 plusG1 laysG1 ps ks)) ?_
 rw [minmax_min]
 refine ⟨⟨by rw [rowsC_g1];omega,by decide⟩,fun _=>⟨⟨by rw [rowsC_fr];omega,by decide⟩,fun _=>⟨⟨by omega,by omega,by rw [Int.toNat_natCast];exact hN,by rw [rowsC_g1];omega,by decide,.inl rfl,rfl,rfl⟩,fun _=>⟨⟨by rw [rowsC_g1,Int.toNat_natCast,Nat.sub_zero];have:=Nat.mul_le_mul_right 13 hN;omega,by decide⟩,?_⟩⟩⟩⟩
 intro _
 show DoesL _ _ (sum1S1 ps ks ((sumN1 ps ks:Nat):Int) ((0:Nat):Int) 0 (tabs1 tab1V (ps.take 0))) _
 refine DoesL.blockLoop (B:=sum1B 0) (rest:=(sum1C.take 7).drop 4) (id:=0) (by kernel_rfl) (fun j : { j:Nat // j<=sumN1 ps ks }=>sum1S1 ps ks ((sumN1 ps ks:Nat):Int) (j.1:Int) j.1 (tabs1 tab1V (ps.take j.1))) (fun j=>sumN1 ps ks-j.1) ⟨0,Nat.zero_le _⟩ fun j => ?_
 obtain ⟨j,hj⟩:=j
 show Does _ _ (sum1S1 ps ks ((sumN1 ps ks:Nat):Int) (j:Int) j (tabs1 tab1V (ps.take j))) _
 have hlen:(tabs1 tab1V (ps.take j)).length=j*16:=by rw [tabs1_len,List.length_take,Nat.min_eq_left (by omega)]
 refine Does.roundP hE 300 _ (sum1_round1 liftG1 (tabV1 plusG1) twiceG1 plusG1 laysG1 ps ks ((sumN1 ps ks:Nat):Int) (j:Int) j (tabs1 tab1V (ps.take j))) ⟨fun h => ?_,fun h => ?_⟩
 ·simp only [decide_eq_true_eq] at h
  have hj1:j<sumN1 ps ks:=by omega
  refine ⟨⟨⟨by omega,by rw [Int.toNat_natCast];omega⟩,by rw [rowsC_g1,Int.toNat_natCast];have:=Nat.mul_le_mul_right 13 hN;omega,by decide,rfl⟩,fun _=>⟨by rw [Int.toNat_natCast];omega,fun _=>⟨⟨⟨by rw [rowsC_sp1,hlen];omega,rfl⟩,by omega,by omega⟩,fun _ => ?_⟩⟩⟩
  refine ⟨⟨j+1,hj1⟩,by show sumN1 ps ks-(j+1)<sumN1 ps ks-j;omega,?_⟩
  rw [wrap_succ j (by omega),Int.toNat_natCast,Nat.zero_add,wholeTab j _ hlen]
  have e1:ps.take (j+1)=ps.take j ++ [ps.getD j pg10]:=by
   rw [List.take_add_one,List.getD]
   rw [List.getElem?_eq_getElem (by omega)]
   rfl
  have e2:tabs1 tab1V (ps.take (j+1))=tabs1 tab1V (ps.take j)++sixteen (fun i=>(tab1V (ps.getD j pg10)).xs.getD i sp0):=by rw [e1,tabs1_snoc]
  show _=sum1S1 ps ks ((sumN1 ps ks:Nat):Int) ((j+1:Nat):Int) (j+1) (tabs1 tab1V (ps.take (j+1)))
  rw [e2]
  rfl
 ·simp only [decide_eq_false_iff_not] at h
  obtain rfl:j=sumN1 ps ks:=by omega
  refine ⟨rfl,?_⟩
  refine DoesL.stageG hE 300 3 _ _ _ _ _ ((congrArg (fun c=>stageG _ 300 c _ _ _ _ _ _) (show List.take 3 (List.drop 4 (List.take 7 sum1C))=(sum1C.drop 4).take 3 by kernel_rfl)).trans (sum1_mid liftG1 (tabV1 plusG1) twiceG1 plusG1 laysG1 ps ks ((sumN1 ps ks:Nat):Int) ((sumN1 ps ks:Nat):Int) (sumN1 ps ks) (tabs1 tab1V (ps.take (sumN1 ps ks))))) ?_
  exact ⟨_,Wk.refl _,rfl⟩
abbrev Sum1Ok (ps:List Pg1) (ks:List Fr):Type := { q:Nat × Sp1 // q.1<=64/\laysG1 (sumOut1 twiceG1 plusG1 (tabs1 tab1V (ps.take (sumN1 ps ks))) ks (sumN1 ps ks) q.1 q.2)=sumG1 ps ks }
def sum1I (ps:List Pg1) (ks:List Fr) (q:Sum1Ok ps ks):St:=sum1S2 ks (sumN1 ps ks:Nat) ((4*q.1.1:Nat):Int) (sumN1 ps ks) (tabs1 tab1V (ps.take (sumN1 ps ks))) q.1.2
def sum1_i0 (ps:List Pg1) (ks:List Fr):Sum1Ok ps ks:=⟨(64,zeroSp),Nat.le_refl _,by unfold sumG1;rfl⟩
theorem sum1_i0_eq (ps:List Pg1) (ks:List Fr):sum1I ps ks (sum1_i0 ps ks)=sum1S2 ks (sumN1 ps ks:Nat) 256 (sumN1 ps ks) (tabs1 tab1V (ps.take (sumN1 ps ks))) zeroSp:=by
 unfold sum1I
 have e:((4*(sum1_i0 ps ks).1.1:Nat):Int)=256:=by
  show ((4*64:Nat):Int)=256
  decide
 rw [e]
 rfl
theorem sum1_outer (ps:List Pg1) (ks:List Fr) (hp:ps.length<topLen) (hk:ks.length<topLen) (hf:ps.length<4294967296) (m:Nat) (hm:m<=64) (o:Sp1) (tl:List Sp1) (htl:tabs1 tab1V (ps.take (sumN1 ps ks))=tl)
  (hq:laysG1 (sumOut1 twiceG1 plusG1 tl ks (sumN1 ps ks) m o)=sumG1 ps ks) :
  DoesL (En (sum1K liftG1 (tabV1 plusG1) twiceG1 plusG1 laysG1)) (sum1C.drop 7) (sum1S2 ks (sumN1 ps ks:Nat) ((4*m:Nat):Int) (sumN1 ps ks) tl o)
   (Within (En (sum1K liftG1 (tabV1 plusG1) twiceG1 plusG1 laysG1)) Tryz.f55 kg1.rs.out (sumG1 ps ks) (Wn fun r=>match r.1 with | .goto l'=>l'=0 /\ ∃ j:Sum1Ok ps ks,j.1.1<m/\r.2=sum1I ps ks j | _=>False)):=by
  have hE:=sum1K_ok
  have hN:sumN1 ps ks<=ps.length:=Nat.min_le_right _ _
  have hK:sumN1 ps ks<=ks.length:=Nat.min_le_left _ _
  have hlen:tl.length=sumN1 ps ks*16:=by rw [<- htl,tabs1_len,List.length_take,Nat.min_eq_left hN]
  refine DoesL.segW hE 300 6 _ _ _ _ _ (sum1_top liftG1 (tabV1 plusG1) twiceG1 plusG1 laysG1 ks ((sumN1 ps ks:Nat):Int) ((4*m:Nat):Int) (sumN1 ps ks) tl o) ?_
  rw [IntWalk.i64_in (((4*m:Nat):Int)-4) (by omega)]
  refine ⟨fun h => ?_,fun h => ?_⟩
  ·simp only [decide_eq_true_eq] at h
   obtain rfl:m=0:=by omega
   exact ⟨.t,by rw [<- hq];rfl,trivial⟩
  ·simp only [decide_eq_false_iff_not] at h
   obtain ⟨m',rfl⟩ : ∃ m',m=m'+1:=⟨m-1,by omega⟩
   rw [show ((4*(m'+1):Nat):Int)-4=((4*m':Nat):Int) by omega]
   simp only [sumOut1] at hq
   obtain ⟨o4,ho4⟩ : ∃ o4,twiceG1 (twiceG1 (twiceG1 (twiceG1 o)))=o4:=⟨_,rfl⟩
   rw [ho4] at hq ⊢
   show DoesL _ _ (sum1S3 ks (sumN1 ps ks:Nat) ((4*m':Nat):Int) ((0:Nat):Int) (sumN1 ps ks) tl (sumIn1 plusG1 tl ks ((4*m':Nat):Int) 0 o4)) _
   refine DoesL.blockLoop (B:=sum1B 2) (rest := [.goto 0]) (id:=4) (by kernel_rfl) (fun j : { j:Nat // j<=sumN1 ps ks }=>sum1S3 ks (sumN1 ps ks:Nat) ((4*m':Nat):Int) (j.1:Int) (sumN1 ps ks) tl (sumIn1 plusG1 tl ks ((4*m':Nat):Int) j.1 o4)) (fun j=>sumN1 ps ks-j.1) ⟨0,Nat.zero_le _⟩ fun j => ?_
   obtain ⟨j,hj⟩:=j
   show Does _ _ (sum1S3 ks (sumN1 ps ks:Nat) ((4*m':Nat):Int) (j:Int) (sumN1 ps ks) tl (sumIn1 plusG1 tl ks ((4*m':Nat):Int) j o4)) _
   refine Does.round hE 300 _ (sum1_round3 liftG1 (tabV1 plusG1) twiceG1 plusG1 laysG1 ks ((sumN1 ps ks:Nat):Int) ((4*m':Nat):Int) (j:Int) (sumN1 ps ks) tl (sumIn1 plusG1 tl ks ((4*m':Nat):Int) j o4)) ⟨fun h => ?_,fun h => ?_⟩
   ·simp only [decide_eq_true_eq] at h
    have hj1:j<sumN1 ps ks:=by omega
    have hw:IntKind.i64.wrap (((4*m':Nat):Int).tdiv 64)=((4*m' / 64:Nat):Int):=by
     rw [show (((4*m':Nat):Int).tdiv 64)=((4*m' / 64:Nat):Int) from rfl]
     exact IntWalk.i64_in _ (by omega)
    have hd:=digU_lt (ks.getD j fr0) ((4*m':Nat):Int)
    rw [show (0+((j:Nat):Int).toNat)=j by omega,Int.toNat_natCast]
    refine ⟨⟨⟨by omega,by omega⟩,by rw [rowsC_fr];omega,by decide,rfl⟩,fun _=>⟨⟨⟨by rw [hw];omega,by rw [hw];omega⟩,by rw [rowsC_fr];omega⟩,fun _=>⟨⟨by omega,by rw [hw,Int.toNat_natCast];omega⟩,fun _=>⟨⟨⟨by omega,by omega⟩,by rw [rowsC_sp1,hlen];omega,by decide,rfl⟩,fun _ => ?_⟩⟩⟩⟩
    refine ⟨⟨⟨by omega,?_⟩,by rw [rowsC_sp1,hlen];omega⟩,fun _=>⟨?_,fun _ => ?_⟩⟩
    ·omega
    ·rw [hlen]
     omega
    ·refine ⟨⟨j+1,hj1⟩,by show sumN1 ps ks-(j+1)<sumN1 ps ks-j;omega,?_⟩
     rw [wrap_succ j (by omega)]
     rw [sumIn1]
   ·simp only [decide_eq_false_iff_not] at h
    obtain rfl:j=sumN1 ps ks:=by omega
    refine ⟨rfl,?_⟩
    refine DoesL.mono (DoesL.iter (o:=kg1.rs.out) (fn:=Tryz.f55) (x:=sumG1 ps ks) (R:=fun r=>match r.1 with | .goto l'=>l'=0 /\ ∃ j:Sum1Ok ps ks,j.1.1<m'+1/\r.2=sum1I ps ks j | _=>False) hE 100 _ _ (sum1_back _ ks _ _ _ _ _ _) ?_) fun r hr=>hr
    refine ⟨rfl,⟨(m',sumIn1 plusG1 tl ks ((4*m':Nat):Int) (sumN1 ps ks) o4),by show m'<=64;omega,by rw [htl];exact hq⟩,Nat.lt_succ_self _,?_⟩
    exact congrArg (fun t=>sum1S2 ks (sumN1 ps ks:Nat) ((4*m':Nat):Int) (sumN1 ps ks) t (sumIn1 plusG1 tl ks ((4*m':Nat):Int) (sumN1 ps ks) o4)) htl.symm
abbrev few (xs:List Pg1):Prop:=xs.length<4294967296
theorem sumG1_ok:CallOk Tryz.prog 55 (K2 ((argRw .g1).such few) (argRw .fr) kg1.rs.res sumG1) :=
 Go.Proofs.YtgpafcehehaiiaaGreat.G2 (E:=En (sum1K liftG1 (tabV1 plusG1) twiceG1 plusG1 laysG1)) Tryz.func55 (c:=codeOf Tryz.f55) (by kernel_rfl) (bodied Tryz.func55 (by kernel_rfl) (by kernel_rfl)) ((inpRw .g1).such few) (inpRw .fr) kg1.rs.out sumG1 fun ps ks hp hk=>by
  have hE:=sum1K_ok
  obtain ⟨hp,hf⟩:=hp
  have hp:ps.length<topLen:=hp
  have hk:ks.length<topLen:=hk
  have hf:ps.length<4294967296:=hf
  have hN:sumN1 ps ks<=ps.length:=Nat.min_le_right _ _
  have hK:sumN1 ps ks<=ks.length:=Nat.min_le_left _ _
  refine DoesL.stageE hE 100 1 [0,1,4] [0,1,2] (sum1_front _ ps ks) ?_
  refine DoesL.scopeFnG (body:=scopeOf Tryz.f55) (rest:=restOf Tryz.f55) (tail := []) (l:=0) hE (by kernel_rfl) (by kernel_rfl) 7 (by kernel_rfl) (sum1I ps ks) (fun q=>q.1.1)
   (sum1_i0 ps ks) (by rw [sum1_i0_eq];exact sum1_ahead ps ks hp hk (by omega)) fun q => ?_
  obtain ⟨⟨m,o⟩,hm,hq⟩:=q
  exact sum1_outer ps ks hp hk hf m hm o _ rfl hq
end
section
abbrev kp6:Kd Fp6:=kRow Fp6
noncomputable abbrev tmRC:List Code:=flat (codeOf Tryz.f75)
noncomputable abbrev tmRB:Code:=loopAt Tryz.f75 0
abbrev Kadd5 (F:Fp6->Fp6->Bool->Fp6):Contract:=K3 kp6.arg kp6.arg kBool.arg kp6.rs.res F
noncomputable abbrev tmRE (o:Fp6) (aF:Fp6->Fp6->Bool->Fp6) (bF:List UInt64->Nat->Bool):Env:=En [(119,K0 kp6.rs.res o),(73,Kadd5 aF),(121,Kbit bF)]
def tmRSt (e:List UInt64) (b:Bool) (p x:Fp6) (z:Int):St:=mkSt 30 [(1,inV 0 e),(2,.one (kBool.av b)),(3,ptrV 1),(6,ptrV 2),(7,ptrV 3),(8,vI z)] [inHE eU64 e,own 106 (Row.cs p),own 106 (zeros 36),own 106 (Row.cs x)]
theorem tmR_start (o:Fp6) (aF:Fp6->Fp6->Bool->Fp6) (bF:List UInt64->Nat->Bool) (p:Fp6) (e:List UInt64) (b:Bool):stageT (tmRE o aF bF) 100 (tmRC.take 3) (startSt Tryz.f75 [.one (kp6.av p),iL.av 0 e,.one (kBool.av b)] [inHE eU64 e]) [1,2,3,6,7,8] [0,1,2,3]=(.vc (0+e.length*1<=(List.map EK.u64.cell e).length/\0<1) (.leaf (mkSt 30 [(1,.one (.c (.slc 0 0 (e.length) 1 (.of 0) false))),(2,.one (.c (.bool (b)))),(3,.one (.c (.ptr 1 0))),(6,.one (.c (.ptr 2 0))),(7,.one (.c (.ptr 3 0))),(8,.one (.c (.int .i64 (IntKind.i64.wrap (IntKind.i64.wrap (64*(↑e.length:Int))-1)))))] [.live ⟨false,0,1,(.elts .u64 (e:List UInt64)),false⟩,.live ⟨true,106,0,(.row (Row.cs (p:Fp6))),false⟩,.live ⟨true,106,0,(.row [(.lit .u64 0),(.lit .u64 0),(.lit .u64 0),(.lit .u64 0),(.lit .u64 0),(.lit .u64 0),(.lit .u64 0),(.lit .u64 0),(.lit .u64 0),(.lit .u64 0),(.lit .u64 0),(.lit .u64 0),(.lit .u64 0),(.lit .u64 0),(.lit .u64 0),(.lit .u64 0),(.lit .u64 0),(.lit .u64 0),(.lit .u64 0),(.lit .u64 0),(.lit .u64 0),(.lit .u64 0),(.lit .u64 0),(.lit .u64 0),(.lit .u64 0),(.lit .u64 0),(.lit .u64 0),(.lit .u64 0),(.lit .u64 0),(.lit .u64 0),(.lit .u64 0),(.lit .u64 0),(.lit .u64 0),(.lit .u64 0),(.lit .u64 0),(.lit .u64 0)]),false⟩,.live ⟨true,106,0,(.row (Row.cs (o:Fp6))),false⟩]))):=by kernel_rfl
theorem tmR_round (o:Fp6) (aF:Fp6->Fp6->Bool->Fp6) (bF:List UInt64->Nat->Bool) (p x:Fp6) (e:List UInt64) (b:Bool) (z:Int):letI za':=List.take e.length (List.drop 0 e);letI zb':=(Row.cs (p:Fp6));letI zc':=IntKind.i64.wrap (z-1);roundT (tmRE o aF bF) 100 tmRB (tmRSt e b p x z) (same [1,2,3,6,7,8] [0,1,2,3])=(.br (decide (z >= 0)) (.vc (((0+e.length<=e.length/\e.length<1125899906842624/\0=0/\1=1)/\0<=z)/\bitIn za' z.toNat) (.br (bF za' z.toNat) (.leaf ((.normal,mkSt 30 [(1,.one (.c (.slc 0 0 (e.length) 1 (.of 0) false))),(2,.one (.c (.bool (b)))),(3,.one (.c (.ptr 1 0))),(6,.one (.c (.ptr 2 0))),(7,.one (.c (.ptr 3 0))),(8,.one (.c (.int .i64 zc')))] [.live ⟨false,0,1,(.elts .u64 (e:List UInt64)),false⟩,.live ⟨true,106,0,(.row zb'),false⟩,.live ⟨true,106,0,(.row [(.lit .u64 0),(.lit .u64 0),(.lit .u64 0),(.lit .u64 0),(.lit .u64 0),(.lit .u64 0),(.lit .u64 0),(.lit .u64 0),(.lit .u64 0),(.lit .u64 0),(.lit .u64 0),(.lit .u64 0),(.lit .u64 0),(.lit .u64 0),(.lit .u64 0),(.lit .u64 0),(.lit .u64 0),(.lit .u64 0),(.lit .u64 0),(.lit .u64 0),(.lit .u64 0),(.lit .u64 0),(.lit .u64 0),(.lit .u64 0),(.lit .u64 0),(.lit .u64 0),(.lit .u64 0),(.lit .u64 0),(.lit .u64 0),(.lit .u64 0),(.lit .u64 0),(.lit .u64 0),(.lit .u64 0),(.lit .u64 0),(.lit .u64 0),(.lit .u64 0)]),false⟩,.live ⟨true,106,0,(.row (Row.cs (aF (aF x x b) p b:Fp6))),false⟩]))) (.leaf ((.normal,mkSt 30 [(1,.one (.c (.slc 0 0 (e.length) 1 (.of 0) false))),(2,.one (.c (.bool (b)))),(3,.one (.c (.ptr 1 0))),(6,.one (.c (.ptr 2 0))),(7,.one (.c (.ptr 3 0))),(8,.one (.c (.int .i64 zc')))] [.live ⟨false,0,1,(.elts .u64 (e:List UInt64)),false⟩,.live ⟨true,106,0,(.row zb'),false⟩,.live ⟨true,106,0,(.row [(.lit .u64 0),(.lit .u64 0),(.lit .u64 0),(.lit .u64 0),(.lit .u64 0),(.lit .u64 0),(.lit .u64 0),(.lit .u64 0),(.lit .u64 0),(.lit .u64 0),(.lit .u64 0),(.lit .u64 0),(.lit .u64 0),(.lit .u64 0),(.lit .u64 0),(.lit .u64 0),(.lit .u64 0),(.lit .u64 0),(.lit .u64 0),(.lit .u64 0),(.lit .u64 0),(.lit .u64 0),(.lit .u64 0),(.lit .u64 0),(.lit .u64 0),(.lit .u64 0),(.lit .u64 0),(.lit .u64 0),(.lit .u64 0),(.lit .u64 0),(.lit .u64 0),(.lit .u64 0),(.lit .u64 0),(.lit .u64 0),(.lit .u64 0),(.lit .u64 0)]),false⟩,.live ⟨true,106,0,(.row (Row.cs (aF x x b:Fp6))),false⟩]))))) (.leaf ((.exit 0,mkSt 30 [(1,.one (.c (.slc 0 0 (e.length) 1 (.of 0) false))),(2,.one (.c (.bool (b)))),(3,.one (.c (.ptr 1 0))),(6,.one (.c (.ptr 2 0))),(7,.one (.c (.ptr 3 0))),(8,.one (.c (.int .i64 (z))))] [.live ⟨false,0,1,(.elts .u64 (e:List UInt64)),false⟩,.live ⟨true,106,0,(.row zb'),false⟩,.live ⟨true,106,0,(.row [(.lit .u64 0),(.lit .u64 0),(.lit .u64 0),(.lit .u64 0),(.lit .u64 0),(.lit .u64 0),(.lit .u64 0),(.lit .u64 0),(.lit .u64 0),(.lit .u64 0),(.lit .u64 0),(.lit .u64 0),(.lit .u64 0),(.lit .u64 0),(.lit .u64 0),(.lit .u64 0),(.lit .u64 0),(.lit .u64 0),(.lit .u64 0),(.lit .u64 0),(.lit .u64 0),(.lit .u64 0),(.lit .u64 0),(.lit .u64 0),(.lit .u64 0),(.lit .u64 0),(.lit .u64 0),(.lit .u64 0),(.lit .u64 0),(.lit .u64 0),(.lit .u64 0),(.lit .u64 0),(.lit .u64 0),(.lit .u64 0),(.lit .u64 0),(.lit .u64 0)]),false⟩,.live ⟨true,106,0,(.row (Row.cs (x:Fp6))),false⟩])))):=by kernel_rfl
theorem tmR_end (o:Fp6) (aF:Fp6->Fp6->Bool->Fp6) (bF:List UInt64->Nat->Bool) (p x:Fp6) (e:List UInt64) (b:Bool) (z:Int):endT (tmRE o aF bF) kp6.rs.out 100 Tryz.f75 (tmRC.drop 4) (tmRSt e b p x z) =
 (.leaf (some ((x,.t)))):=by kernel_rfl
def timesR (p:Fp6) (e:List UInt64) (b:Bool):Fp6:=dblG (fun x=>addS5 x x b) (fun x=>addS5 x p b) e (64*e.length) none5
abbrev TmROk (p:Fp6) (e:List UInt64) (b:Bool):Type := { q:Int × Fp6 // -1<=q.1/\q.1<64*e.length/\dblG (fun x=>addS5 x x b) (fun x=>addS5 x p b) e (q.1+1).toNat q.2=timesR p e b }
theorem timesR_ok:CallOk Tryz.prog 75 (K3 kp6.arg aL kBool.arg kp6.rs.res timesR) :=
 Go.Proofs.YtgpafcehehaiiaaGreat.G3 (E:=tmRE none5 addS5 bitAt) Tryz.func75 (c:=codeOf Tryz.f75) (by kernel_rfl) (bodied Tryz.func75 (by kernel_rfl) (by kernel_rfl)) kp6.inp iL kBool.inp kp6.rs.out timesR fun p e b _ he _=>by
  have hE:EnvOk (tmRE none5 addS5 bitAt):=En_ok (.cons none5_ok (.cons addS5_ok (.cons bit5_ok .nil)))
  have he:e.length<1125899906842624:=he
  refine DoesL.stageE hE 100 3 _ _ (tmR_start none5 addS5 bitAt p e b) ⟨vcLen e,fun _ => ?_⟩
  have hw:IntKind.i64.wrap (IntKind.i64.wrap (64*(e.length:Int))-1)=64*(e.length:Int)-1:=by rw [IntWalk.i64_in (64*(e.length:Int)) (by omega),IntWalk.i64_in _ (by omega)]
  rw [hw]
  refine DoesL.blockLoop (B:=tmRB) (rest:=tmRC.drop 4) (id:=0) (by kernel_rfl) (fun q:TmROk p e b=>tmRSt e b p q.1.2 q.1.1) (fun q=>(q.1.1+1).toNat) ⟨(64*(e.length:Int)-1,none5),by simp only [];omega,by simp only [];omega,by
   simp only []
   rw [show (64*(e.length:Int)-1+1).toNat=64*e.length by omega]
   simp only [timesR]⟩ fun q => ?_
  obtain ⟨⟨z,x⟩,h0,h1,h2⟩:=q
  simp only [] at h0 h1 h2
  show Does _ _ (tmRSt e b p x z) _
  refine Does.round hE 100 _ (tmR_round none5 addS5 bitAt p x e b z) ⟨fun h => ?_,fun h => ?_⟩
  ·simp only [ge_iff_le,decide_eq_true_eq] at h
   obtain ⟨n,rfl⟩ : ∃ n:Nat,z=(n:Int):=⟨z.toNat,by omega⟩
   rw [wrap_pred n (by omega),whole,Int.toNat_natCast]
   rw [show ((n:Int)+1).toNat=n+1 by omega] at h2
   simp only [dblG] at h2
   refine ⟨⟨⟨okL' he,by omega⟩,by show n<64*e.length;omega⟩,fun _=>⟨fun h3 => ?_,fun h3 => ?_⟩⟩
   all_goals
    have hn:((n:Int)-1+1).toNat=n:=by omega
    rw [h3] at h2
    simp only [] at h2
   ·refine ⟨⟨((n:Int)-1,addS5 (addS5 x x b) p b),?_,?_,?_⟩,?_,?_⟩
    ·show -1<=(n:Int)-1;omega
    ·show (n:Int)-1<64*e.length;omega
    ·simpa only [hn] using h2
    ·show ((n:Int)-1+1).toNat<((n:Int)+1).toNat;omega
    ·kernel_rfl
   ·refine ⟨⟨((n:Int)-1,addS5 x x b),?_,?_,?_⟩,?_,?_⟩
    ·show -1<=(n:Int)-1;omega
    ·show (n:Int)-1<64*e.length;omega
    ·simpa only [hn] using h2
    ·show ((n:Int)-1+1).toNat<((n:Int)+1).toNat;omega
    ·kernel_rfl
  ·simp only [ge_iff_le,decide_eq_false_iff_not] at h
   obtain rfl:z = -1:=by omega
   exact ⟨rfl,DoesL.ends hE 100 (tmR_end none5 addS5 bitAt p x e b (-1)) (reads_t (by
    rw [show ((-1:Int)+1).toNat=0 from rfl] at h2
    simp only [dblG] at h2
    exact h2))⟩
def times1R_G (f0:Fp6->Pg1) (f1:Fp6->List UInt64->Bool->Fp6) (f2:Pg1->Fp6) (a:Pg1) (k:Fr):Pg1:=(f0 (f1 (f2 a) [k.l0,k.l1,k.l2,k.l3] true))
def times1R_T (f0:Fp6->Pg1) (f1:Fp6->List UInt64->Bool->Fp6) (f2:Pg1->Fp6) (a:Pg1) (k:Fr):Tree (Option (Pg1)) :=
 (.leaf (some (f0 (f1 (f2 a) [k.l0,k.l1,k.l2,k.l3] true))))
theorem times1R_run (f0:Fp6->Pg1) (f1:Fp6->List UInt64->Bool->Fp6) (f2:Pg1->Fp6) (a:Pg1) (k:Fr):plainRun (En [(72,K1 (kRow Fp6).arg (kRow Pg1).rs.res f0),(75,K3 kp6.arg aL kBool.arg kp6.rs.res f1),(74,K1 (kRow Pg1).arg (kRow Fp6).rs.res f2)]) (kRow Pg1).rs 300 Tryz.f36 [.one ((kRow Pg1).av a),.one ((kRow Fr).av k)]=times1R_T f0 f1 f2 a k:=by kernel_rfl
theorem times1R_sat (f0:Fp6->Pg1) (f1:Fp6->List UInt64->Bool->Fp6) (f2:Pg1->Fp6) (a:Pg1) (k:Fr):(times1R_T f0 f1 f2 a k).sat fun q=>q=some (times1R_G f0 f1 f2 a k):=(show some _=some _ from rfl)
def times1R (a:Pg1) (k:Fr):Pg1:=times1R_G to1R timesR of1R a k
theorem times1R_ok:CallOk Tryz.prog 36 (K2 (kRow Pg1).arg (kRow Fr).arg (kRow Pg1).rs.res times1R) :=
 P2 (En_ok (.cons to1R_ok (.cons timesR_ok (.cons of1R_ok .nil)))) Tryz.func36 (bodied Tryz.func36 (by kernel_rfl) (by kernel_rfl)) 300 (kRow Pg1) (kRow Fr) (kRow Pg1).rs times1R (times1R_run to1R timesR of1R) (times1R_sat to1R timesR of1R)
def times2R_G (f0:Fp6->Pg2) (f1:Fp6->List UInt64->Bool->Fp6) (f2:Pg2->Fp6) (a:Pg2) (k:Fr):Pg2:=(f0 (f1 (f2 a) [k.l0,k.l1,k.l2,k.l3] false))
def times2R_T (f0:Fp6->Pg2) (f1:Fp6->List UInt64->Bool->Fp6) (f2:Pg2->Fp6) (a:Pg2) (k:Fr):Tree (Option (Pg2)) :=
 (.leaf (some (f0 (f1 (f2 a) [k.l0,k.l1,k.l2,k.l3] false))))
theorem times2R_run (f0:Fp6->Pg2) (f1:Fp6->List UInt64->Bool->Fp6) (f2:Pg2->Fp6) (a:Pg2) (k:Fr):plainRun (En [(112,K1 (kRow Fp6).arg (kRow Pg2).rs.res f0),(75,K3 kp6.arg aL kBool.arg kp6.rs.res f1),(113,K1 (kRow Pg2).arg (kRow Fp6).rs.res f2)]) (kRow Pg2).rs 300 Tryz.f69 [.one ((kRow Pg2).av a),.one ((kRow Fr).av k)]=times2R_T f0 f1 f2 a k:=by kernel_rfl
theorem times2R_sat (f0:Fp6->Pg2) (f1:Fp6->List UInt64->Bool->Fp6) (f2:Pg2->Fp6) (a:Pg2) (k:Fr):(times2R_T f0 f1 f2 a k).sat fun q=>q=some (times2R_G f0 f1 f2 a k):=(show some _=some _ from rfl)
def times2R (a:Pg2) (k:Fr):Pg2:=times2R_G to2R timesR of2R a k
theorem times2R_ok:CallOk Tryz.prog 69 (K2 (kRow Pg2).arg (kRow Fr).arg (kRow Pg2).rs.res times2R) :=
 P2 (En_ok (.cons to2R_ok (.cons timesR_ok (.cons of2R_ok .nil)))) Tryz.func69 (bodied Tryz.func69 (by kernel_rfl) (by kernel_rfl)) 300 (kRow Pg2) (kRow Fr) (kRow Pg2).rs times2R (times2R_run to2R timesR of2R) (times2R_sat to2R timesR of2R)
end
set_option maxRecDepth 100000
section
def commG_G (f0:Pg1->Fr->Pg1) (f1:Pg1) (k:Fr):Pg1:=(f0 f1 k)
def commG_T (f0:Pg1->Fr->Pg1) (f1:Pg1) (k:Fr):Tree (Option (Pg1)) :=
 (.leaf (some (f0 f1 k)))
theorem commG_run (f0:Pg1->Fr->Pg1) (f1:Pg1) (k:Fr):plainRun (En [(36,K2 (kRow Pg1).arg (kRow Fr).arg (kRow Pg1).rs.res f0),(39,K0 (kRow Pg1).rs.res f1)]) (kRow Pg1).rs 300 Tryz.f32 [.one ((kRow Fr).av k)]=commG_T f0 f1 k:=by kernel_rfl
theorem commG_sat (f0:Pg1->Fr->Pg1) (f1:Pg1) (k:Fr):(commG_T f0 f1 k).sat fun q=>q=some (commG_G f0 f1 k):=(show some _=some _ from rfl)
def commG (k:Fr):Pg1:=commG_G times1R gen1R k
theorem commG_ok:CallOk Tryz.prog 32 (K1 (kRow Fr).arg (kRow Pg1).rs.res commG) :=
 P1 (En_ok (.cons times1R_ok (.cons gen1R_ok .nil))) Tryz.func32 (bodied Tryz.func32 (by kernel_rfl) (by kernel_rfl)) 300 (kRow Fr) (kRow Pg1).rs commG (commG_run times1R gen1R) (commG_sat times1R gen1R)
def commH_G (f0:Pg2->Fr->Pg2) (f1:Pg2) (k:Fr):Pg2:=(f0 f1 k)
def commH_T (f0:Pg2->Fr->Pg2) (f1:Pg2) (k:Fr):Tree (Option (Pg2)) :=
 (.leaf (some (f0 f1 k)))
theorem commH_run (f0:Pg2->Fr->Pg2) (f1:Pg2) (k:Fr):plainRun (En [(69,K2 (kRow Pg2).arg (kRow Fr).arg (kRow Pg2).rs.res f0),(70,K0 (kRow Pg2).rs.res f1)]) (kRow Pg2).rs 300 Tryz.f31 [.one ((kRow Fr).av k)]=commH_T f0 f1 k:=by kernel_rfl
theorem commH_sat (f0:Pg2->Fr->Pg2) (f1:Pg2) (k:Fr):(commH_T f0 f1 k).sat fun q=>q=some (commH_G f0 f1 k):=(show some _=some _ from rfl)
def commH (k:Fr):Pg2:=commH_G times2R gen2R k
theorem commH_ok:CallOk Tryz.prog 31 (K1 (kRow Fr).arg (kRow Pg2).rs.res commH) :=
 P1 (En_ok (.cons times2R_ok (.cons gen2R_ok .nil))) Tryz.func31 (bodied Tryz.func31 (by kernel_rfl) (by kernel_rfl)) 300 (kRow Fr) (kRow Pg2).rs commH (commH_run times2R gen2R) (commH_sat times2R gen2R)
end
set_option maxRecDepth 100000
section
section
variable {hF : Fr -> Pg2} {oF : UInt64 -> Fr} {gF : Fr -> Pg1} {mF : Fr -> Fr -> Fr}
end
def kCheck_T (f0:Pg1->Bool) (f1:Pg2->Bool) (f2:Pg1) (f3:UInt64->Fr) (f4:Fr->Fr) (f5:List Pg1->List Fr->Pg1) (f6:Pg2) (f7:Pg1->Pg1) (f8:List Duo->Bool) (t:Pg2) (c:Pg1) (z:Fr) (y:Fr) (w:Pg1):Tree (Option ((Bool) × Pr)) :=
 (.br (!(f0 c)) (.leaf (some ((false,.t)))) (.br (!(f0 w)) (.leaf (some ((false,.t)))) (.br (!(f1 t)) (.leaf (some ((false,.t)))) (.vc (few [c,f2,w]) (.leaf (some ((f8 [{ p:=f5 [c,f2,w] [f3 (UInt64.ofNat 1),f4 y,z],q:=f6 },{ p:=f7 w,q:=t }],.t))))))))
theorem kCheck_run (f0:Pg1->Bool) (f1:Pg2->Bool) (f2:Pg1) (f3:UInt64->Fr) (f4:Fr->Fr) (f5:List Pg1->List Fr->Pg1) (f6:Pg2) (f7:Pg1->Pg1) (f8:List Duo->Bool) (t:Pg2) (c:Pg1) (z:Fr) (y:Fr) (w:Pg1):endT (Ens [(61,K1 (kRow Pg1).arg kBool.rs.res f0),(62,K1 (kRow Pg2).arg kBool.rs.res f1),(63,K0 (kRow Pg1).rs.res f2),(64,K1 kU64.arg r4.res f3),(65,Kr1 f4),(55,K2 ((argRw .g1).such few) (argRw .fr) kg1.rs.res f5),(67,K0 (kRow Pg2).rs.res f6),(68,K1 (kRow Pg1).arg (kRow Pg1).rs.res f7),(66,K1 (argRw .duo) kBool.rs.res f8)] []) kBool.rs.out 300 Tryz.f30 (flat (codeOf Tryz.f30)) (startSt Tryz.f30 [.one ((kRow Pg2).av t),.one ((kRow Pg1).av c),.one ((kRow Fr).av z),.one ((kRow Fr).av y),.one ((kRow Pg1).av w)] [])=kCheck_T f0 f1 f2 f3 f4 f5 f6 f7 f8 t c z y w:=by kernel_rfl
def kCheck (t:Pg2) (c:Pg1) (z:Fr) (y:Fr) (w:Pg1):Bool:=(kCheck_T inG1 inG2 oneG1 ofPR negPR sumG1 oneG2 negG1 prCheck t c z y w).outD false
theorem kCheck_ok' (h : ∀ (t:Pg2) (c:Pg1) (z:Fr) (y:Fr) (w:Pg1),(kCheck_T inG1 inG2 oneG1 ofPR negPR sumG1 oneG2 negG1 prCheck t c z y w).full=true/\(kCheck_T inG1 inG2 oneG1 ofPR negPR sumG1 oneG2 negG1 prCheck t c z y w).okAll):CallOk Tryz.prog 30 (KL (ArgL.cons (kRow Pg2).arg (ArgL.cons (kRow Pg1).arg (ArgL.cons (kRow Fr).arg (ArgL.cons (kRow Fr).arg (ArgL.cons (kRow Pg1).arg ArgL.nil))))) kBool.rs.out.res (fun x=>kCheck x.1 x.2.1 x.2.2.1 x.2.2.2.1 x.2.2.2.2.1)) :=
 Go.Proofs.YtgpafcehehaiiaaGreat.GL (E:=Ens [(61,K1 (kRow Pg1).arg kBool.rs.res inG1),(62,K1 (kRow Pg2).arg kBool.rs.res inG2),(63,K0 (kRow Pg1).rs.res oneG1),(64,K1 kU64.arg r4.res ofPR),(65,Kr1 negPR),(55,K2 ((argRw .g1).such few) (argRw .fr) kg1.rs.res sumG1),(67,K0 (kRow Pg2).rs.res oneG2),(68,K1 (kRow Pg1).arg (kRow Pg1).rs.res negG1),(66,K1 (argRw .duo) kBool.rs.res prCheck)] []) Tryz.func30 (c:=codeOf Tryz.f30) (by kernel_rfl) (bodied Tryz.func30 (by kernel_rfl) (by kernel_rfl)) (InpL.cons (kRow Pg2).inp (InpL.cons (kRow Pg1).inp (InpL.cons (kRow Fr).inp (InpL.cons (kRow Fr).inp (InpL.cons (kRow Pg1).inp InpL.nil))))) kBool.rs.out (fun x=>kCheck x.1 x.2.1 x.2.2.1 x.2.2.2.1 x.2.2.2.2.1) fun x g=>DoesL.outs (Ens_ok (.cons inG1_ok (.cons inG2_ok (.cons oneG1_ok (.cons ofPR_ok (.cons negPR_ok (.cons sumG1_ok (.cons oneG2_ok (.cons negG1_ok (.cons prCheck_ok .nil)))))))))) 300 false (kCheck_run inG1 inG2 oneG1 ofPR negPR sumG1 oneG2 negG1 prCheck x.1 x.2.1 x.2.2.1 x.2.2.2.1 x.2.2.2.2.1) (h x.1 x.2.1 x.2.2.1 x.2.2.2.1 x.2.2.2.2.1).1 (h x.1 x.2.1 x.2.2.1 x.2.2.2.1 x.2.2.2.2.1).2
theorem kCheck_ok:CallOk Tryz.prog 30 (KL (ArgL.cons (kRow Pg2).arg (ArgL.cons (kRow Pg1).arg (ArgL.cons (kRow Fr).arg (ArgL.cons (kRow Fr).arg (ArgL.cons (kRow Pg1).arg ArgL.nil))))) kBool.rs.out.res (fun x=>kCheck x.1 x.2.1 x.2.2.1 x.2.2.2.1 x.2.2.2.2.1)):=kCheck_ok' fun t c z y w =>
 ⟨rfl,fun _=>trivial,fun _=>⟨fun _=>trivial,fun _=>⟨fun _=>trivial,fun _=>⟨by show 3<4294967296;decide,trivial⟩⟩⟩⟩
end
set_option maxRecDepth 100000
section
theorem pat_run (l:List Fr) (i:Int):endT (En []) r4.out 100 Tryz.f170 (flat (codeOf Tryz.f170)) (startSt Tryz.f170 [rwV .fr 0 l,vI i] [rwHE .fr l])=(.vc (0+l.length*4<=(rowsC RK.fr l).length/\0<4) (.br (decide (i<(↑l.length:Int))) (.vc ((0<=i/\i<(↑l.length:Int))/\0+l.length*4<=(rowsC RK.fr l).length/\0<4/\0=0) (.vc (0+i.toNat<l.length) (.leaf (some ((l.getD (0+i.toNat) { l0:=0,l1:=0,l2:=0,l3:=0 },.t)))))) (.leaf (some (({ l0:=UInt64.ofNat 0,l1:=UInt64.ofNat 0,l2:=UInt64.ofNat 0,l3:=UInt64.ofNat 0 },.t)))))):=by kernel_rfl
noncomputable abbrev pbC:List Code:=flat (codeOf Tryz.f129)
abbrev aAt:Arg Int:=kInt.arg.such natI
noncomputable abbrev pbE (tF:List Fr->Int->Fr) (aF:Fr->Fr->Fr) (cF:List Fr->List Fr):Env:=Ens [(170,K2 (argRw .fr) aAt r4.res tF),(85,Kr2 aF),(54,Kcut cF)] [54]
def pbSt (l m:List Fr) (n z:Int) (c:Nat) (q:List Fr):St:=mkSt 34 [(0,rwV .fr 0 l),(1,rwV .fr 1 m),(2,.one ((kFn 85).av ())),(7,slFr 2 c),(16,vI n),(17,vI z)] [rwHE .fr l,rwHE .fr m,ownFrs q]
theorem pb_start (tF:List Fr->Int->Fr) (aF:Fr->Fr->Fr) (cF:List Fr->List Fr) (l m:List Fr):letI za':=(if (↑m.length:Int) > (↑l.length:Int) then (↑m.length:Int) else (↑l.length:Int));letI zb':=(↑m.length:Int);letI zc':=(↑l.length:Int);letI zd':Fr := { l0:=0,l1:=0,l2:=0,l3:=0 };stageG (pbE tF aF cF) 100 (pbC.take 3) (startSt Tryz.f129 [rwV .fr 0 l,rwV .fr 1 m,.one ((kFn 85).av ())] [rwHE .fr l,rwHE .fr m]) [0,1,2,7,16,17] [0,1,2] [(0,.as),(1,.as),(2,.as),(7,.as),(16,.as),(17,.int)] [.as,.as,.as] []=(.vc (0+l.length*4<=(rowsC RK.fr l).length/\0<4) (.vc (0+m.length*4<=(rowsC RK.fr m).length/\0<4) (.vc ((0<=if zb' > zc' then zb' else zc')/\(za'<=if zb' > zc' then zb' else zc')/\((↑32:Int)*if zb' > zc' then zb' else zc')<=281474976710656/\za'<1125899906842624) (.vc (0+za'.toNat*4<=(rowsC RK.fr (List.replicate za'.toNat zd')).length/\0<4) (.leaf (mkSt 34 [(0,.one (.c (.slc 0 0 (l.length) 4 (.of 0) false))),(1,.one (.c (.slc 1 0 (m.length) 4 (.of 0) false))),(2,.one (.c (.fn 85))),(7,.one (.c (.slc 2 0 (za'.toNat) 4 (.of 0) false))),(16,.one (.c (.int .i64 ((↑za'.toNat:Int))))),(17,.one (.c (.int .i64 0)))] [.live ⟨false,0,4,(.rows .fr (l:List Fr)),false⟩,.live ⟨false,0,4,(.rows .fr (m:List Fr)),false⟩,.live ⟨true,24,4,(.rows .fr (List.replicate za'.toNat zd':List Fr)),false⟩])))))):=by kernel_rfl
theorem pb_round (tF:List Fr->Int->Fr) (aF:Fr->Fr->Fr) (cF:List Fr->List Fr) (l m:List Fr) (n z:Int) (c:Nat) (q:List Fr):roundT (pbE tF aF cF) 300 (loopAt Tryz.f129 0) (pbSt l m n z c q) (same [0,1,2,7,16,17] [0,1,2])=(.br (decide (z<n)) (.vc ((0+l.length*4<=(rowsC RK.fr l).length/\0=0/\l.length<1125899906842624/\0=0/\4=4)/\natI z) (.vc ((0+m.length*4<=(rowsC RK.fr m).length/\0=0/\m.length<1125899906842624/\0=0/\4=4)/\natI z) (.vc ((0<=z/\z<(↑c:Int))/\0+c*4<=(rowsC RK.fr q).length/\0<4/\0=0) (.vc (0+z.toNat<q.length) (.leaf ((.normal,mkSt 34 [(0,.one (.c (.slc 0 0 (l.length) 4 (.of 0) false))),(1,.one (.c (.slc 1 0 (m.length) 4 (.of 0) false))),(2,.one (.c (.fn 85))),(7,.one (.c (.slc 2 0 (c) 4 (.of 0) false))),(16,.one (.c (.int .i64 (n)))),(17,.one (.c (.int .i64 (IntKind.i64.wrap (z+1)))))] [.live ⟨false,0,4,(.rows .fr (l:List Fr)),false⟩,.live ⟨false,0,4,(.rows .fr (m:List Fr)),false⟩,.live ⟨true,24,4,(.rows .fr (q.set (0+z.toNat) (aF (tF (List.take l.length (List.drop 0 l)) z) (tF (List.take m.length (List.drop 0 m)) z)):List Fr)),false⟩]))))))) (.leaf ((.exit 0,mkSt 34 [(0,.one (.c (.slc 0 0 (l.length) 4 (.of 0) false))),(1,.one (.c (.slc 1 0 (m.length) 4 (.of 0) false))),(2,.one (.c (.fn 85))),(7,.one (.c (.slc 2 0 (c) 4 (.of 0) false))),(16,.one (.c (.int .i64 (n)))),(17,.one (.c (.int .i64 (z))))] [.live ⟨false,0,4,(.rows .fr (l:List Fr)),false⟩,.live ⟨false,0,4,(.rows .fr (m:List Fr)),false⟩,.live ⟨true,24,4,(.rows .fr (q:List Fr)),false⟩])))):=by kernel_rfl
theorem pb_end (tF:List Fr->Int->Fr) (aF:Fr->Fr->Fr) (cF:List Fr->List Fr) (l m:List Fr) (n z:Int) (c:Nat) (q:List Fr):letI za':=List.take c (List.drop 0 q);endT (pbE tF aF cF) oFrs 100 Tryz.f129 (pbC.drop 4) (pbSt l m n z c q)=(.vc ((0+c*4<=(rowsC RK.fr q).length/\0=0/\c<1125899906842624/\0=0/\4=4)/\fewR za') (.leaf (some ((List.take (cF za').length (cF za'),(.p ((cF za').length<=(cF za').length))))))):=by kernel_rfl
noncomputable abbrev pcE (tF:List Fr->Int->Fr) (gF:Fr->Fr->Fr->Fr) (cF:List Fr->List Fr):Env:=Ens [(170,K2 (argRw .fr) aAt r4.res tF),(130,K3 (kRow Fr).arg (kRow Fr).arg (argBox Fr) r4.res gF),(54,Kcut cF)] [54]
def pcSt (l m:List Fr) (x:Fr) (n z:Int) (c:Nat) (q:List Fr):St:=mkSt 34 [(0,rwV .fr 0 l),(1,rwV .fr 1 m),(2,.one (.c (.clo 130 2 0))),(7,slFr 3 c),(16,vI n),(17,vI z)] [rwHE .fr l,rwHE .fr m,boxHE Fr x,ownFrs q]
theorem pc_start (tF:List Fr->Int->Fr) (gF:Fr->Fr->Fr->Fr) (cF:List Fr->List Fr) (l m:List Fr) (x:Fr):letI za':=(if (↑m.length:Int) > (↑l.length:Int) then (↑m.length:Int) else (↑l.length:Int));letI zb':=(↑m.length:Int);letI zc':=(↑l.length:Int);letI zd':Fr := { l0:=0,l1:=0,l2:=0,l3:=0 };stageG (pcE tF gF cF) 100 (pbC.take 3) (startSt Tryz.f129 [rwV .fr 0 l,rwV .fr 1 m,.one (.c (.clo 130 2 0))] [rwHE .fr l,rwHE .fr m,boxHE Fr x]) [0,1,2,7,16,17] [0,1,2,3] [(0,.as),(1,.as),(2,.as),(7,.as),(16,.as),(17,.int)] [.as,.as,.as,.as] []=(.vc (0+l.length*4<=(rowsC RK.fr l).length/\0<4) (.vc (0+m.length*4<=(rowsC RK.fr m).length/\0<4) (.vc ((0<=if zb' > zc' then zb' else zc')/\(za'<=if zb' > zc' then zb' else zc')/\((↑32:Int)*if zb' > zc' then zb' else zc')<=281474976710656/\za'<1125899906842624) (.vc (0+za'.toNat*4<=(rowsC RK.fr (List.replicate za'.toNat zd')).length/\0<4) (.leaf (mkSt 34 [(0,.one (.c (.slc 0 0 (l.length) 4 (.of 0) false))),(1,.one (.c (.slc 1 0 (m.length) 4 (.of 0) false))),(2,.one (.c (.clo 130 2 0))),(7,.one (.c (.slc 3 0 (za'.toNat) 4 (.of 0) false))),(16,.one (.c (.int .i64 ((↑za'.toNat:Int))))),(17,.one (.c (.int .i64 0)))] [.live ⟨false,0,4,(.rows .fr (l:List Fr)),false⟩,.live ⟨false,0,4,(.rows .fr (m:List Fr)),false⟩,.live ⟨false,0,0,(.row (Row.cs (x:Fr))),false⟩,.live ⟨true,24,4,(.rows .fr (List.replicate za'.toNat zd':List Fr)),false⟩])))))):=by kernel_rfl
theorem pc_round (tF:List Fr->Int->Fr) (gF:Fr->Fr->Fr->Fr) (cF:List Fr->List Fr) (l m:List Fr) (x:Fr) (n z:Int) (c:Nat) (q:List Fr):roundT (pcE tF gF cF) 300 (loopAt Tryz.f129 0) (pcSt l m x n z c q) (same [0,1,2,7,16,17] [0,1,2,3])=(.br (decide (z<n)) (.vc ((0+l.length*4<=(rowsC RK.fr l).length/\0=0/\l.length<1125899906842624/\0=0/\4=4)/\natI z) (.vc ((0+m.length*4<=(rowsC RK.fr m).length/\0=0/\m.length<1125899906842624/\0=0/\4=4)/\natI z) (.vc ((0<=z/\z<(↑c:Int))/\0+c*4<=(rowsC RK.fr q).length/\0<4/\0=0) (.vc (0+z.toNat<q.length) (.leaf ((.normal,mkSt 34 [(0,.one (.c (.slc 0 0 (l.length) 4 (.of 0) false))),(1,.one (.c (.slc 1 0 (m.length) 4 (.of 0) false))),(2,.one (.c (.clo 130 2 0))),(7,.one (.c (.slc 3 0 (c) 4 (.of 0) false))),(16,.one (.c (.int .i64 (n)))),(17,.one (.c (.int .i64 (IntKind.i64.wrap (z+1)))))] [.live ⟨false,0,4,(.rows .fr (l:List Fr)),false⟩,.live ⟨false,0,4,(.rows .fr (m:List Fr)),false⟩,.live ⟨false,0,0,(.row (Row.cs (x:Fr))),false⟩,.live ⟨true,24,4,(.rows .fr (q.set (0+z.toNat) (gF (tF (List.take l.length (List.drop 0 l)) z) (tF (List.take m.length (List.drop 0 m)) z) x):List Fr)),false⟩]))))))) (.leaf ((.exit 0,mkSt 34 [(0,.one (.c (.slc 0 0 (l.length) 4 (.of 0) false))),(1,.one (.c (.slc 1 0 (m.length) 4 (.of 0) false))),(2,.one (.c (.clo 130 2 0))),(7,.one (.c (.slc 3 0 (c) 4 (.of 0) false))),(16,.one (.c (.int .i64 (n)))),(17,.one (.c (.int .i64 (z))))] [.live ⟨false,0,4,(.rows .fr (l:List Fr)),false⟩,.live ⟨false,0,4,(.rows .fr (m:List Fr)),false⟩,.live ⟨false,0,0,(.row (Row.cs (x:Fr))),false⟩,.live ⟨true,24,4,(.rows .fr (q:List Fr)),false⟩])))):=by kernel_rfl
theorem pc_end (tF:List Fr->Int->Fr) (gF:Fr->Fr->Fr->Fr) (cF:List Fr->List Fr) (l m:List Fr) (x:Fr) (n z:Int) (c:Nat) (q:List Fr):letI za':=List.take c (List.drop 0 q);endT (pcE tF gF cF) oFrs 100 Tryz.f129 (pbC.drop 4) (pcSt l m x n z c q)=(.vc ((0+c*4<=(rowsC RK.fr q).length/\0=0/\c<1125899906842624/\0=0/\4=4)/\fewR za') (.leaf (some ((List.take (cF za').length (cF za'),(.p ((cF za').length<=(cF za').length))))))):=by kernel_rfl
noncomputable abbrev psE (bF:List Fr->List Fr->Fr->List Fr):Env:=Ens [(129,K3 aFew aFew (argClo Fr 130) oFrs.res bF)] [129]
theorem ps_run (bF:List Fr->List Fr->Fr->List Fr) (l:List Fr) (x:Fr):letI za':=List.take l.length (List.drop 0 l);endT (psE bF) oFrs 100 Tryz.f83 (flat (codeOf Tryz.f83)) (startSt Tryz.f83 [rwV .fr 0 l,v4 x] [rwHE .fr l])=(.vc (((0+l.length*4<=(rowsC RK.fr l).length/\0=0/\l.length<1125899906842624/\0=0/\4=4)/\fewR za')/\fewR []) (.leaf (some ((List.take (bF za' [] x).length (bF za' [] x),(.p ((bF za' [] x).length<=(bF za' [] x).length))))))):=by kernel_rfl
noncomputable abbrev paE (bF:List Fr->List Fr->Unit->List Fr):Env:=Ens [(129,K3 aFew aFew (kFn 85).arg oFrs.res bF)] [129]
theorem pa_run (bF:List Fr->List Fr->Unit->List Fr) (l m:List Fr):letI za':=bF (List.take l.length (List.drop 0 l)) (List.take m.length (List.drop 0 m)) ();endT (paE bF) oFrs 100 Tryz.f82 (flat (codeOf Tryz.f82)) (startSt Tryz.f82 [rwV .fr 0 l,rwV .fr 1 m] [rwHE .fr l,rwHE .fr m])=(.vc (((0+l.length*4<=(rowsC RK.fr l).length/\0=0/\l.length<1125899906842624/\0=0/\4=4)/\fewR (List.take l.length (List.drop 0 l)))/\(0+m.length*4<=(rowsC RK.fr m).length/\0=0/\m.length<1125899906842624/\0=0/\4=4)/\fewR (List.take m.length (List.drop 0 m))) (.leaf (some ((List.take za'.length za',(.p (za'.length<=za'.length))))))):=by kernel_rfl
noncomputable abbrev s1E (mF:Fr->Fr->Fr):Env:=En [(86,Kr2 mF)]
theorem s1_run (mF:Fr->Fr->Fr) (x y k:Fr):endT (s1E mF) r4.out 100 Tryz.f130 (flat (codeOf Tryz.f130)) (startSt Tryz.f130 [v4 x,v4 y,.one (.c (.ptr 0 0))] [boxHE Fr k]) =
 (.leaf (some ((mF x k,.t)))):=by kernel_rfl
end
set_option maxRecDepth 100000
section
theorem pat_ok:CallOk Tryz.prog 170 (K2 (argRw .fr) aAt r4.res atLi) :=
 G2 (E:=En []) Tryz.func170 (c:=codeOf Tryz.f170) (by kernel_rfl) (bodied Tryz.func170 (by kernel_rfl) (by kernel_rfl)) (inpRw .fr) (kInt.inp.such natI) r4.out atLi fun l i hl hi=>by
  have hi:0<=i:=hi.2
  refine DoesL.ends (En_ok .nil) 100 (pat_run l i) ⟨vcLenFr l,fun _=>⟨fun h => ?_,fun h => ?_⟩⟩
  ·simp only [decide_eq_true_eq] at h
   refine ⟨⟨⟨hi,h⟩,by rw [rowsC_fr];omega,by decide,rfl⟩,fun _=>⟨by omega,fun _=>⟨.t,?_,trivial⟩⟩⟩
   rw [Nat.zero_add]
   rfl
  ·simp only [decide_eq_false_iff_not] at h
   refine ⟨.t,?_,trivial⟩
   unfold atLi atL
   rw [List.getD_eq_getElem?_getD,List.getElem?_eq_none (by omega)]
   rfl
def bothTo (g:Nat->Fr) (n i:Nat):List Fr:=(List.range i).map g++List.replicate (n-i) frZ
theorem bothTo_len (g:Nat->Fr) {n i:Nat} (h:i<=n):(bothTo g n i).length=n:=by
 unfold bothTo
 rw [List.length_append,List.length_map,List.length_range,List.length_replicate]
 omega
theorem bothTo_zero (g:Nat->Fr) (n:Nat):bothTo g n 0=List.replicate n frZ:=by
 unfold bothTo
 rw [List.range_zero,List.map_nil,List.nil_append,Nat.sub_zero]
theorem bothTo_full (g:Nat->Fr) (n:Nat):bothTo g n n=(List.range n).map g:=by
 unfold bothTo
 rw [Nat.sub_self,List.replicate_zero,List.append_nil]
theorem bothTo_set (g:Nat->Fr) {n i:Nat} (h:i<n):(bothTo g n i).set i (g i)=bothTo g n (i+1):=by
 unfold bothTo
 obtain ⟨k,hk⟩ : ∃ k,n-i=k+1:=⟨n-i-1,by omega⟩
 rw [List.set_append_right _ _ (by rw [List.length_map,List.length_range];exact Nat.le_refl _),List.length_map,List.length_range,Nat.sub_self,hk,List.replicate_succ,List.set_cons_zero,List.range_succ,List.map_append,List.append_assoc,show n-(i+1)=k by omega]
 rfl
theorem maxN_toNat (l m:List Fr):(if (m.length:Int) > (l.length:Int) then (m.length:Int) else (l.length:Int)).toNat=maxN l m:=by rw [maxN_if,Int.toNat_natCast]
def pbG (tF:List Fr->Int->Fr) (aF:Fr->Fr->Fr) (l m:List Fr) (i:Nat):Fr:=aF (tF l i) (tF m i)
theorem pb_does {tF:List Fr->Int->Fr} {aF:Fr->Fr->Fr} {cF:List Fr->List Fr} (hE:EnvOk (pbE tF aF cF)) (l m:List Fr) (hl:l.length<4294967296) (hm:m.length<4294967296) :
  DoesL (pbE tF aF cF) (flat (codeOf Tryz.f129)) (startSt Tryz.f129 [rwV .fr 0 l,rwV .fr 1 m,.one ((kFn 85).av ())] [rwHE .fr l,rwHE .fr m])
   (EndsAs (pbE tF aF cF) Tryz.f129 (Reads oFrs (cF ((List.range (maxN l m)).map (pbG tF aF l m))))):=by
 have hN:maxN l m<4294967296:=Nat.max_lt.2 ⟨hm,hl⟩
 refine DoesL.stageG hE 100 3 _ _ _ _ _ (pb_start tF aF cF l m) ⟨vcLenFr l,fun _=>⟨vcLenFr m,fun _ => ?_⟩⟩
 rw [maxN_toNat,maxN_if]
 refine ⟨⟨by omega,by omega,by omega,by omega⟩,fun _=>⟨by rw [rowsC_fr,List.length_replicate];omega,fun _ => ?_⟩⟩
 refine (?_:DoesL _ _ (pbSt l m (maxN l m:Int) ((0:Nat):Int) (maxN l m) (List.replicate (maxN l m) frZ)) _)
 rw [<- bothTo_zero (pbG tF aF l m)]
 refine DoesL.blockLoop (B:=loopAt Tryz.f129 0) (rest:=pbC.drop 4) (id:=0) (by kernel_rfl) (fun j : { j:Nat // j<=maxN l m }=>pbSt l m (maxN l m:Int) (j.1:Int) (maxN l m) (bothTo (pbG tF aF l m) (maxN l m) j.1)) (fun j=>maxN l m-j.1) ⟨0,Nat.zero_le _⟩ fun j => ?_
 obtain ⟨j,hj⟩:=j
 refine (?_:Does _ _ (pbSt l m (maxN l m:Int) (j:Int) (maxN l m) (bothTo (pbG tF aF l m) (maxN l m) j)) _)
 have hlen:=bothTo_len (pbG tF aF l m) hj
 refine Does.round hE 300 _ (pb_round tF aF cF l m _ (j:Int) _ (bothTo (pbG tF aF l m) (maxN l m) j)) ⟨fun h => ?_,fun h => ?_⟩
 ·simp only [decide_eq_true_eq] at h
  have hj1:j<maxN l m:=by omega
  refine ⟨⟨vcAllFr (by show l.length<1125899906842624;omega),natI_nat j⟩,fun _=>⟨⟨vcAllFr (by show m.length<1125899906842624;omega),natI_nat j⟩,fun _=>⟨⟨⟨by omega,by omega⟩,by rw [rowsC_fr,hlen];omega,by decide,rfl⟩,fun _=>⟨by rw [hlen];omega,fun _ => ?_⟩⟩⟩⟩
  refine ⟨⟨j+1,hj1⟩,by show maxN l m-(j+1)<maxN l m-j;omega,?_⟩
  show _=pbSt l m (maxN l m:Int) ((j+1:Nat):Int) (maxN l m) (bothTo (pbG tF aF l m) (maxN l m) (j+1))
  rw [wrapU j (by omega),wholeTakeFr rfl,wholeTakeFr rfl,zeroN,<- bothTo_set _ hj1]
  rfl
 ·simp only [decide_eq_false_iff_not] at h
  obtain rfl:j=maxN l m:=by omega
  refine ⟨rfl,DoesL.ends hE 100 (pb_end tF aF cF l m _ _ _ _) ⟨⟨⟨by rw [rowsC_fr,hlen];omega,rfl,by omega,rfl,rfl⟩,?_⟩,fun _ => ?_⟩⟩
  ·show (List.take (maxN l m) (List.drop 0 _)).length<4294967296
   rw [List.length_take]
   omega
  ·rw [wholeTakeFr hlen,List.take_length,bothTo_full]
   exact ⟨_,rfl,Nat.le_refl _⟩
def pcG (tF:List Fr->Int->Fr) (gF:Fr->Fr->Fr->Fr) (l m:List Fr) (x:Fr) (i:Nat):Fr:=gF (tF l i) (tF m i) x
theorem pc_does {tF:List Fr->Int->Fr} {gF:Fr->Fr->Fr->Fr} {cF:List Fr->List Fr} (hE:EnvOk (pcE tF gF cF)) (l m:List Fr) (x:Fr) (hl:l.length<4294967296) (hm:m.length<4294967296) :
  DoesL (pcE tF gF cF) (flat (codeOf Tryz.f129)) (startSt Tryz.f129 [rwV .fr 0 l,rwV .fr 1 m,.one (.c (.clo 130 2 0))] [rwHE .fr l,rwHE .fr m,boxHE Fr x])
   (EndsAs (pcE tF gF cF) Tryz.f129 (Reads oFrs (cF ((List.range (maxN l m)).map (pcG tF gF l m x))))):=by
 have hN:maxN l m<4294967296:=Nat.max_lt.2 ⟨hm,hl⟩
 refine DoesL.stageG hE 100 3 _ _ _ _ _ (pc_start tF gF cF l m x) ⟨vcLenFr l,fun _=>⟨vcLenFr m,fun _ => ?_⟩⟩
 rw [maxN_toNat,maxN_if]
 refine ⟨⟨by omega,by omega,by omega,by omega⟩,fun _=>⟨by rw [rowsC_fr,List.length_replicate];omega,fun _ => ?_⟩⟩
 refine (?_:DoesL _ _ (pcSt l m x (maxN l m:Int) ((0:Nat):Int) (maxN l m) (List.replicate (maxN l m) frZ)) _)
 rw [<- bothTo_zero (pcG tF gF l m x)]
 refine DoesL.blockLoop (B:=loopAt Tryz.f129 0) (rest:=pbC.drop 4) (id:=0) (by kernel_rfl) (fun j : { j:Nat // j<=maxN l m }=>pcSt l m x (maxN l m:Int) (j.1:Int) (maxN l m) (bothTo (pcG tF gF l m x) (maxN l m) j.1)) (fun j=>maxN l m-j.1) ⟨0,Nat.zero_le _⟩ fun j => ?_
 obtain ⟨j,hj⟩:=j
 refine (?_:Does _ _ (pcSt l m x (maxN l m:Int) (j:Int) (maxN l m) (bothTo (pcG tF gF l m x) (maxN l m) j)) _)
 have hlen:=bothTo_len (pcG tF gF l m x) hj
 refine Does.round hE 300 _ (pc_round tF gF cF l m x _ (j:Int) _ (bothTo (pcG tF gF l m x) (maxN l m) j)) ⟨fun h => ?_,fun h => ?_⟩
 ·simp only [decide_eq_true_eq] at h
  have hj1:j<maxN l m:=by omega
  refine ⟨⟨vcAllFr (by show l.length<1125899906842624;omega),natI_nat j⟩,fun _=>⟨⟨vcAllFr (by show m.length<1125899906842624;omega),natI_nat j⟩,fun _=>⟨⟨⟨by omega,by omega⟩,by rw [rowsC_fr,hlen];omega,by decide,rfl⟩,fun _=>⟨by rw [hlen];omega,fun _ => ?_⟩⟩⟩⟩
  refine ⟨⟨j+1,hj1⟩,by show maxN l m-(j+1)<maxN l m-j;omega,?_⟩
  show _=pcSt l m x (maxN l m:Int) ((j+1:Nat):Int) (maxN l m) (bothTo (pcG tF gF l m x) (maxN l m) (j+1))
  rw [wrapU j (by omega),wholeTakeFr rfl,wholeTakeFr rfl,zeroN,<- bothTo_set _ hj1]
  rfl
 ·simp only [decide_eq_false_iff_not] at h
  obtain rfl:j=maxN l m:=by omega
  refine ⟨rfl,DoesL.ends hE 100 (pc_end tF gF cF l m x _ _ _ _) ⟨⟨⟨by rw [rowsC_fr,hlen];omega,rfl,by omega,rfl,rfl⟩,?_⟩,fun _ => ?_⟩⟩
  ·show (List.take (maxN l m) (List.drop 0 _)).length<4294967296
   rw [List.length_take]
   omega
  ·rw [wholeTakeFr hlen,List.take_length,bothTo_full]
   exact ⟨_,rfl,Nat.le_refl _⟩
def pBothA (l m:List Fr) (_:Unit):List Fr:=cutL ((List.range (maxN l m)).map (pbG atLi addPR l m))
theorem pBothA_ok:CallOk Tryz.prog 129 (K3 aFew aFew (kFn 85).arg oFrs.res pBothA) :=
 G3 (E:=pbE atLi addPR cutL) Tryz.func129 (c:=codeOf Tryz.f129) (by kernel_rfl) (bodied Tryz.func129 (by kernel_rfl) (by kernel_rfl)) iFew iFew (kFn 85).inp oFrs pBothA fun l m u hl hm _ =>
  pb_does (Ens_ok (.cons pat_ok (.cons addPR_ok (.cons pcut_ok .nil)))) l m hl.2 hm.2
def scaleOne (x y k:Fr):Fr:=mulPR x k
theorem scaleOne_ok:CallOk Tryz.prog 130 (K3 (kRow Fr).arg (kRow Fr).arg (argBox Fr) r4.res scaleOne) :=
 G3 (E:=s1E mulPR) Tryz.func130 (c:=codeOf Tryz.f130) (by kernel_rfl) (bodied Tryz.func130 (by kernel_rfl) (by kernel_rfl)) (kRow Fr).inp (kRow Fr).inp (inpBox Fr) r4.out scaleOne fun x y k _ _ _ =>
  DoesL.ends (En_ok (.cons mulPR_ok .nil)) 100 (s1_run mulPR x y k) ⟨_,rfl,trivial⟩
def pBothS (l m:List Fr) (x:Fr):List Fr:=cutL ((List.range (maxN l m)).map (pcG atLi scaleOne l m x))
theorem pBothS_ok:CallOk Tryz.prog 129 (K3 aFew aFew (argClo Fr 130) oFrs.res pBothS) :=
 G3 (E:=pcE atLi scaleOne cutL) Tryz.func129 (c:=codeOf Tryz.f129) (by kernel_rfl) (bodied Tryz.func129 (by kernel_rfl) (by kernel_rfl)) iFew iFew (inpClo Fr 130) oFrs pBothS fun l m x hl hm _ =>
  pc_does (Ens_ok (.cons pat_ok (.cons scaleOne_ok (.cons pcut_ok .nil)))) l m x hl.2 hm.2
def pAddF (l m:List Fr):List Fr:=pBothA l m ()
def pScaleF (l:List Fr) (k:Fr):List Fr:=pBothS l [] k
theorem vcFewP {f:List Fr} (h:f.length<4294967296):(0+f.length*4<=(rowsC RK.fr f).length/\0=0/\f.length<1125899906842624/\0=0/\4=4)/\fewR (List.take f.length (List.drop 0 f)):=by
 rw [wholeTakeFr rfl]
 exact ⟨vcAllFr (Nat.lt_of_lt_of_le h (by decide)),h⟩
theorem pAddF_ok:CallOk Tryz.prog 82 (K2 aFew aFew oFrs.res pAddF) :=
 G2 (E:=paE pBothA) Tryz.func82 (c:=codeOf Tryz.f82) (by kernel_rfl) (bodied Tryz.func82 (by kernel_rfl) (by kernel_rfl)) iFew iFew oFrs pAddF fun l m hl hm=>by
  refine DoesL.ends (Ens_ok (.cons pBothA_ok .nil)) 100 (pa_run pBothA l m) ⟨⟨vcFewP hl.2,vcFewP hm.2⟩,fun _ => ?_⟩
  rw [wholeTakeFr rfl,wholeTakeFr rfl,List.take_length]
  exact ⟨_,rfl,Nat.le_refl _⟩
theorem pScaleF_ok:CallOk Tryz.prog 83 (K2 aFew (kRow Fr).arg oFrs.res pScaleF) :=
 G2 (E:=psE pBothS) Tryz.func83 (c:=codeOf Tryz.f83) (by kernel_rfl) (bodied Tryz.func83 (by kernel_rfl) (by kernel_rfl)) iFew (kRow Fr).inp oFrs pScaleF fun l x hl _=>by
  refine DoesL.ends (Ens_ok (.cons pBothS_ok .nil)) 100 (ps_run pBothS l x) ⟨⟨vcFewP hl.2,by decide⟩,fun _ => ?_⟩
  rw [wholeTakeFr rfl,List.take_length]
  exact ⟨_,rfl,Nat.le_refl _⟩
end
set_option maxRecDepth 100000
section
abbrev oG1s:Out (List Pg1):=outRw .g1 33
abbrev lowI (n:Int):Prop:=0<=n/\n<4294967296
abbrev aLow:Arg Int:=kInt.arg.such lowI
abbrev fewLs (l:List (List Fr)):Prop:=l.length<4294967296 /\ ∀ xs ∈ l,xs.length<4294967296
abbrev aFls:Arg (List (List Fr)):=(argLs .fr).such fewLs
abbrev iFls:Inp (List (List Fr)):=(inpLs .fr).such fewLs
def ownG1s (l:List Pg1):HE := .live ⟨true,33,13,.rows .g1 l,false⟩
def slG1 (i c:Nat):AV := .one (.c (.slc i 0 c 13 (.of 0) false))
noncomputable abbrev bpC:List Code:=flat (codeOf Tryz.f84)
noncomputable abbrev bpE (oF:UInt64->Fr) (mF:Fr->Fr->Fr):Env:=En [(64,K1 kU64.arg r4.res oF),(86,Kr2 mF)]
def bpSt (x k:Fr) (n z:Int) (c:Nat) (l:List Fr):St:=mkSt 20 [(2,ptrV 0),(5,slFr 2 c),(6,ptrV 1),(8,vI n),(9,vI z)] [own 24 (Row.cs x),own 24 (Row.cs k),ownFrs l]
theorem bp_start (oF:UInt64->Fr) (mF:Fr->Fr->Fr) (x:Fr) (n:Int):stageG (bpE oF mF) 100 (bpC.take 4) (startSt Tryz.f84 [v4 x,vI n] []) [2,5,6,8,9] [0,1] [(2,.as),(5,.nilE 2 4),(6,.as),(8,.as),(9,.int)] [.as,.as] [(24,.rows .fr)]=(.leaf (mkSt 20 [(2,.one (.c (.ptr 0 0))),(5,.one (.c (.slc 2 0 0 4 (.of 0) false))),(6,.one (.c (.ptr 1 0))),(8,.one (.c (.int .i64 (n)))),(9,.one (.c (.int .i64 0)))] [.live ⟨true,24,0,(.row (Row.cs (x:Fr))),false⟩,.live ⟨true,24,0,(.row (Row.cs (oF (UInt64.ofNat 1):Fr))),false⟩,.live ⟨true,24,4,(.rows .fr ([]:List Fr)),false⟩])):=by kernel_rfl
theorem bp_round (oF:UInt64->Fr) (mF:Fr->Fr->Fr) (x k:Fr) (n z:Int) (c:Nat) (l:List Fr):roundP (bpE oF mF) 300 (loopAt Tryz.f84 0) (bpSt x k n z c l) (following [2,5,6,8,9] [0,1] [5])=(.br (decide (z<n)) (.vc ((0+c*4<=(rowsC RK.fr l).length/\0=0)/\c+1<=9223372036854775807/\(c+1)*32<=140737488355328) (.leaf ((.normal,mkSt 20 [(2,.one (.c (.ptr 0 0))),(5,.one (.c (.slc 2 0 (c+1) 4 (.of 0) false))),(6,.one (.c (.ptr 1 0))),(8,.one (.c (.int .i64 (n)))),(9,.one (.c (.int .i64 (IntKind.i64.wrap (z+1)))))] [.live ⟨true,24,0,(.row (Row.cs (x:Fr))),false⟩,.live ⟨true,24,0,(.row (Row.cs (mF k x:Fr))),false⟩,.live ⟨true,24,4,(.rows .fr (List.take (mulNn c (4 / 4)) (List.drop 0 l) ++ [k]:List Fr)),false⟩])))) (.leaf ((.exit 0,mkSt 20 [(2,.one (.c (.ptr 0 0))),(5,.one (.c (.slc 2 0 (c) 4 (.of 0) false))),(6,.one (.c (.ptr 1 0))),(8,.one (.c (.int .i64 (n)))),(9,.one (.c (.int .i64 (z))))] [.live ⟨true,24,0,(.row (Row.cs (x:Fr))),false⟩,.live ⟨true,24,0,(.row (Row.cs (k:Fr))),false⟩,.live ⟨true,24,4,(.rows .fr (l:List Fr)),false⟩])))):=by kernel_rfl
theorem bp_end (oF:UInt64->Fr) (mF:Fr->Fr->Fr) (x k:Fr) (n z:Int) (c:Nat) (l:List Fr):endT (bpE oF mF) oFrs 100 Tryz.f84 (bpC.drop 5) (bpSt x k n z c l) =
 (.leaf (some ((List.take c l,(.p (c<=l.length)))))):=by kernel_rfl
noncomputable abbrev bsC:List Code:=flat (codeOf Tryz.f44)
noncomputable abbrev bsE (pF:Fr->Int->List Fr) (aF mF:Fr->Fr->Fr):Env:=Ens [(84,K2 (kRow Fr).arg aLow oFrs.res pF),(85,Kr2 aF),(86,Kr2 mF)] [84]
def bsSt (y:List Fr) (a:Fr) (n z:Int) (c:Nat) (k:List Fr):St:=mkSt 28 [(0,rwV .fr 0 y),(4,ptrV 1),(5,ptrV 2),(11,slFr 3 c),(12,vI n),(13,vI z)] [rwHE .fr y,own 24 (zeros 4),own 24 (Row.cs a),ownFrs k]
theorem bs_start (pF:Fr->Int->List Fr) (aF mF:Fr->Fr->Fr) (y:List Fr) (v:Fr):letI za':=(↑y.length:Int);letI zb':=UInt64.ofNat 0;stageG (bsE pF aF mF) 100 (bsC.take 3) (startSt Tryz.f44 [rwV .fr 0 y,v4 v] [rwHE .fr y]) [0,4,5,11,12,13] [0,2,3,4] [(0,.as),(4,.as),(5,.as),(11,.as),(12,.as),(13,.int)] [.as,.as,.one .fr,.as] []=(.vc (0+y.length*4<=(rowsC RK.fr y).length/\0<4) (.vc (lowI za') (.vc (0+(pF v za').length*4<=(rowsC RK.fr (pF v za')).length/\0<4) (.leaf (mkSt 28 [(0,.one (.c (.slc 0 0 (y.length) 4 (.of 0) false))),(4,.one (.c (.ptr 1 0))),(5,.one (.c (.ptr 2 0))),(11,.one (.c (.slc 3 0 ((pF v za').length) 4 (.of 0) false))),(12,.one (.c (.int .i64 ((↑(pF v za').length:Int))))),(13,.one (.c (.int .i64 0)))] [.live ⟨false,0,4,(.rows .fr (y:List Fr)),false⟩,.live ⟨true,24,0,(.row [(.lit .u64 0),(.lit .u64 0),(.lit .u64 0),(.lit .u64 0)]),false⟩,.live ⟨true,24,0,(.row [(.u64 zb'),(.u64 zb'),(.u64 zb'),(.u64 zb')]),false⟩,.live ⟨true,24,4,(.rows .fr (pF v za':List Fr)),false⟩]))))):=by kernel_rfl
theorem bs_round (pF:Fr->Int->List Fr) (aF mF:Fr->Fr->Fr) (y:List Fr) (a:Fr) (n z:Int) (c:Nat) (k:List Fr):letI za':Fr := { l0:=0,l1:=0,l2:=0,l3:=0 };roundT (bsE pF aF mF) 300 (loopAt Tryz.f44 0) (bsSt y a n z c k) (same [0,4,5,11,12,13] [0,1,2,3])=(.br (decide (z<n)) (.vc ((0<=z/\z<(↑c:Int))/\0+c*4<=(rowsC RK.fr k).length/\0<4/\0=0) (.vc (0+z.toNat<k.length) (.vc ((0<=z/\z<(↑y.length:Int))/\0+y.length*4<=(rowsC RK.fr y).length/\0<4/\0=0) (.vc (0+z.toNat<y.length) (.leaf ((.normal,mkSt 28 [(0,.one (.c (.slc 0 0 (y.length) 4 (.of 0) false))),(4,.one (.c (.ptr 1 0))),(5,.one (.c (.ptr 2 0))),(11,.one (.c (.slc 3 0 (c) 4 (.of 0) false))),(12,.one (.c (.int .i64 (n)))),(13,.one (.c (.int .i64 (IntKind.i64.wrap (z+1)))))] [.live ⟨false,0,4,(.rows .fr (y:List Fr)),false⟩,.live ⟨true,24,0,(.row [(.lit .u64 0),(.lit .u64 0),(.lit .u64 0),(.lit .u64 0)]),false⟩,.live ⟨true,24,0,(.row (Row.cs (aF a (mF (y.getD (0+z.toNat) za') (k.getD (0+z.toNat) za')):Fr))),false⟩,.live ⟨true,24,4,(.rows .fr (k:List Fr)),false⟩]))))))) (.leaf ((.exit 0,mkSt 28 [(0,.one (.c (.slc 0 0 (y.length) 4 (.of 0) false))),(4,.one (.c (.ptr 1 0))),(5,.one (.c (.ptr 2 0))),(11,.one (.c (.slc 3 0 (c) 4 (.of 0) false))),(12,.one (.c (.int .i64 (n)))),(13,.one (.c (.int .i64 (z))))] [.live ⟨false,0,4,(.rows .fr (y:List Fr)),false⟩,.live ⟨true,24,0,(.row [(.lit .u64 0),(.lit .u64 0),(.lit .u64 0),(.lit .u64 0)]),false⟩,.live ⟨true,24,0,(.row (Row.cs (a:Fr))),false⟩,.live ⟨true,24,4,(.rows .fr (k:List Fr)),false⟩])))):=by kernel_rfl
theorem bs_end (pF:Fr->Int->List Fr) (aF mF:Fr->Fr->Fr) (y:List Fr) (a:Fr) (n z:Int) (c:Nat) (k:List Fr):endT (bsE pF aF mF) r4.out 100 Tryz.f44 (bsC.drop 4) (bsSt y a n z c k) =
 (.leaf (some ((a,.t)))):=by kernel_rfl
noncomputable abbrev bqE (pF:Fr->Int->List Fr) (sF:List Pg1->List Fr->Pg1):Env:=Ens [(84,K2 (kRow Fr).arg aLow oFrs.res pF),(55,K2 ((argRw .g1).such few) (argRw .fr) kg1.rs.res sF)] [84]
theorem bq_run (pF:Fr->Int->List Fr) (sF:List Pg1->List Fr->Pg1) (l:List Pg1) (v:Fr):letI za':=(pF v (↑l.length:Int));letI zb':=List.take l.length (List.drop 0 l);endT (bqE pF sF) kg1.rs.out 100 Tryz.f45 (flat (codeOf Tryz.f45)) (startSt Tryz.f45 [rwV .g1 0 l,v4 v] [rwHE .g1 l])=(.vc (0+l.length*13<=(rowsC RK.g1 l).length/\0<13) (.vc (lowI (↑l.length:Int)) (.vc (((0+l.length*13<=(rowsC RK.g1 l).length/\0=0/\l.length<1125899906842624/\0=0/\13=13)/\few zb')/\0+za'.length*4<=(rowsC RK.fr za').length/\0=0/\za'.length<1125899906842624/\0=0/\4=4) (.leaf (some ((sF zb' (List.take za'.length (List.drop 0 za')),.t))))))):=by kernel_rfl
noncomputable abbrev bfE (sF:List Fr->Fr->List Fr) (aF:List Fr->List Fr->List Fr):Env:=Ens [(83,K2 aFew (kRow Fr).arg oFrs.res sF),(82,K2 aFew aFew oFrs.res aF)] [83,82,loadCode 28]
def bfSt (f:List (List Fr)) (v:Fr) (i:Int) (c:Nat) (q:List Fr):St:=mkSt 23 [(0,lsV 0 .fr f),(3,ptrV 1),(5,slFr 2 c),(6,vI i)] [.lists .fr f,own 24 (Row.cs v),ownFrs q]
theorem bf_front (sF:List Fr->Fr->List Fr) (aF:List Fr->List Fr->List Fr) (f:List (List Fr)) (v:Fr):stageT (bfE sF aF) 100 ((flat (codeOf Tryz.f43)).take 1) (startSt Tryz.f43 [lsV 0 .fr f,v4 v] [.lists .fr f]) [0,3] [0,1]=(.leaf (mkSt 23 [(0,.one (.c (.slc 0 0 (f.length) 1 (.of 0) false))),(3,.one (.c (.ptr 1 0)))] [.lists .fr (f),.live ⟨true,24,0,(.row (Row.cs (v:Fr))),false⟩])):=by kernel_rfl
theorem bf_start (sF:List Fr->Fr->List Fr) (aF:List Fr->List Fr->List Fr) (f:List (List Fr)) (v:Fr):stageG (bfE sF aF) 100 ((flat (scopeOf Tryz.f43)).take 3) (mkSt 23 [(0,lsV 0 .fr f),(3,ptrV 1)] [.lists .fr f,own 24 (Row.cs v)]) [0,3,5,6] [0,1,2] [(0,.as),(3,.as),(5,.slc),(6,.as)] [.as,.as,.rws .fr] []=(.vc (f.length=f.length) (.leaf (mkSt 23 [(0,.one (.c (.slc 0 0 (f.length) 1 (.of 0) false))),(3,.one (.c (.ptr 1 0))),(5,.one (.c (.slc 2 0 0 4 (.of 0) false))),(6,.one (.c (.int .i64 ((↑f.length:Int)))))] [.lists .fr (f),.live ⟨true,24,0,(.row (Row.cs (v:Fr))),false⟩,.live ⟨true,24,4,(.rows .fr ([]:List Fr)),false⟩]))):=by kernel_rfl
theorem bf_iter (sF:List Fr->Fr->List Fr) (aF:List Fr->List Fr->List Fr) (f:List (List Fr)) (v:Fr) (i:Int) (c:Nat) (q:List Fr):letI za':=sF (List.take c (List.drop 0 q)) v;letI zb':=IntKind.i64.wrap (i-1);letI zc':=List.take za'.length (List.drop 0 za');iterP (bfE sF aF) oFrs 300 Tryz.f43 ((flat (scopeOf Tryz.f43)).drop 3) (bfSt f v i c q) (following [0,3,5,6] [0,1] [5])=(.br (decide (IntKind.i64.wrap (i-1)<0)) (.leaf (.inr (some ((List.take c q,(.p (c<=q.length))))))) (.vc ((0+c*4<=(rowsC RK.fr q).length/\0=0/\c<1125899906842624/\0=0/\4=4)/\fewR (List.take c (List.drop 0 q))) (.vc ((0<=IntKind.i64.wrap (i-1)/\IntKind.i64.wrap (i-1)<(↑f.length:Int))/\f.length<=f.length) (.vc (zb'.toNat<f.length) (.vc (((0+za'.length*4<=(rowsC RK.fr za').length/\0=0/\za'.length<1125899906842624/\0=0/\4=4)/\fewR zc')/\(0+(f.getD zb'.toNat []).length*4<=(rowsC RK.fr (f.getD zb'.toNat [])).length/\0=0/\(f.getD zb'.toNat []).length<1125899906842624/\0=0/\4=4)/\fewR (List.take (f.getD zb'.toNat []).length (List.drop 0 (f.getD zb'.toNat [])))) (.leaf (.inl ((.goto 0,mkSt 23 [(0,.one (.c (.slc 0 0 (f.length) 1 (.of 0) false))),(3,.one (.c (.ptr 1 0))),(5,.one (.c (.slc 2 0 ((aF zc' (List.take (f.getD zb'.toNat []).length (List.drop 0 (f.getD zb'.toNat [])))).length) 4 (.of 0) false))),(6,.one (.c (.int .i64 zb')))] [.lists .fr (f),.live ⟨true,24,0,(.row (Row.cs (v:Fr))),false⟩,.live ⟨true,24,4,(.rows .fr (aF zc' (List.take (f.getD zb'.toNat []).length (List.drop 0 (f.getD zb'.toNat []))):List Fr)),false⟩]))))))))):=by kernel_rfl
noncomputable abbrev lpC:List Code:=flat (codeOf Tryz.f42)
noncomputable abbrev lpE (gF:Fr->Pg1):Env:=En [(32,K1 (kRow Fr).arg kg1.rs.res gF)]
def lpSt (l:List Fr) (z:Int) (c:Nat) (q:List Pg1):St:=mkSt 20 [(0,rwV .fr 0 l),(3,slG1 1 c),(4,vI z)] [rwHE .fr l,ownG1s q]
theorem lp_start (gF:Fr->Pg1) (l:List Fr):stageG (lpE gF) 100 (lpC.take 3) (startSt Tryz.f42 [rwV .fr 0 l] [rwHE .fr l]) [0,3,4] [0] [(0,.as),(3,.nilE 1 13),(4,.int)] [.as] [(33,.rows .g1)]=(.leaf (mkSt 20 [(0,.one (.c (.slc 0 0 (l.length) 4 (.of 0) false))),(3,.one (.c (.slc 1 0 0 13 (.of 0) false))),(4,.one (.c (.int .i64 0)))] [.live ⟨false,0,4,(.rows .fr (l:List Fr)),false⟩,.live ⟨true,33,13,(.rows .g1 ([]:List Pg1)),false⟩])):=by kernel_rfl
theorem lp_round (gF:Fr->Pg1) (l:List Fr) (z:Int) (c:Nat) (q:List Pg1):roundP (lpE gF) 300 (loopAt Tryz.f42 0) (lpSt l z c q) (following [0,3,4] [0] [3])=(.vc (0+l.length*4<=(rowsC RK.fr l).length/\0<4) (.br (decide (z<(↑l.length:Int))) (.vc ((0<=z/\z<(↑l.length:Int))/\0+l.length*4<=(rowsC RK.fr l).length/\0<4/\0=0) (.vc (0+z.toNat<l.length) (.vc ((0+c*13<=(rowsC RK.g1 q).length/\0=0)/\c+1<=9223372036854775807/\(c+1)*104<=140737488355328) (.leaf ((.normal,mkSt 20 [(0,.one (.c (.slc 0 0 (l.length) 4 (.of 0) false))),(3,.one (.c (.slc 1 0 (c+1) 13 (.of 0) false))),(4,.one (.c (.int .i64 (IntKind.i64.wrap (z+1)))))] [.live ⟨false,0,4,(.rows .fr (l:List Fr)),false⟩,.live ⟨true,33,13,(.rows .g1 (List.take (mulNn c (13 / 13)) (List.drop 0 q) ++ [gF (l.getD (0+z.toNat) { l0:=0,l1:=0,l2:=0,l3:=0 })]:List Pg1)),false⟩])))))) (.leaf ((.exit 0,mkSt 20 [(0,.one (.c (.slc 0 0 (l.length) 4 (.of 0) false))),(3,.one (.c (.slc 1 0 (c) 13 (.of 0) false))),(4,.one (.c (.int .i64 (z))))] [.live ⟨false,0,4,(.rows .fr (l:List Fr)),false⟩,.live ⟨true,33,13,(.rows .g1 (q:List Pg1)),false⟩]))))):=by kernel_rfl
theorem lp_end (gF:Fr->Pg1) (l:List Fr) (z:Int) (c:Nat) (q:List Pg1):endT (lpE gF) oG1s 100 Tryz.f42 (lpC.drop 4) (lpSt l z c q) =
 (.leaf (some ((List.take c q,(.p (c<=q.length)))))):=by kernel_rfl
noncomputable abbrev lbE (fF:List (List Fr)->Fr->List Fr) (sF:List Fr->Fr->Fr) (g:Pg1) (pF:List Pg1->Fr->Pg1):Env:=Ens [(43,K2 aFls (kRow Fr).arg oFrs.res fF),(44,K2 aFew (kRow Fr).arg r4.res sF),(39,K0 kg1.rs.res g),(45,K2 ((argRw .g1).such few) (kRow Fr).arg kg1.rs.res pF)] [43]
theorem lb_run (fF:List (List Fr)->Fr->List Fr) (sF:List Fr->Fr->Fr) (g:Pg1) (pF:List Pg1->Fr->Pg1):letI za':=(fF [[{ l0:=UInt64.ofNat 1,l1:=UInt64.ofNat 0,l2:=UInt64.ofNat 0,l3:=UInt64.ofNat 0 }],[{ l0:=UInt64.ofNat 2,l1:=UInt64.ofNat 0,l2:=UInt64.ofNat 0,l3:=UInt64.ofNat 0 }]] { l0:=UInt64.ofNat 3,l1:=UInt64.ofNat 0,l2:=UInt64.ofNat 0,l3:=UInt64.ofNat 0 });letI zb':=(pF [g] { l0:=UInt64.ofNat 3,l1:=UInt64.ofNat 0,l2:=UInt64.ofNat 0,l3:=UInt64.ofNat 0 });letI zc':Fr := { l0:=UInt64.ofNat 1,l1:=UInt64.ofNat 0,l2:=UInt64.ofNat 0,l3:=UInt64.ofNat 0 };letI zd':Fr := { l0:=UInt64.ofNat 2,l1:=UInt64.ofNat 0,l2:=UInt64.ofNat 0,l3:=UInt64.ofNat 0 };letI ze':=({ l0:=UInt64.ofNat 7,l1:=UInt64.ofNat 0,l2:=UInt64.ofNat 0,l3:=UInt64.ofNat 0 });endT (lbE fF sF g pF) oB 300 Tryz.f13 (flat (codeOf Tryz.f13)) (startSt Tryz.f13 [] [])=(.vc (fewLs [[zc'],[zd']]) (.vc (0+za'.length*4<=(rowsC RK.fr za').length/\0<4) (.br ((↑za'.length:Int)==1) (.vc (0<za'.length/\0+za'.length*4<=(rowsC RK.fr za').length/\0<4/\0=0) (.vc (0<za'.length) (.br (frEq (za'.getD 0 { l0:=0,l1:=0,l2:=0,l3:=0 }) ze') (.vc (fewR [zc',zd']) (.br (frEq (sF [zc',zd'] { l0:=UInt64.ofNat 3,l1:=UInt64.ofNat 0,l2:=UInt64.ofNat 0,l3:=UInt64.ofNat 0 }) ze') (.vc (few [g]) (.leaf (some ((zb'.x.l0==g.x.l0 && (zb'.x.l1==g.x.l1 && (zb'.x.l2==g.x.l2 && (zb'.x.l3==g.x.l3 && (zb'.x.l4==g.x.l4 && (zb'.x.l5==g.x.l5 && true))))) && (zb'.y.l0==g.y.l0 && (zb'.y.l1==g.y.l1 && (zb'.y.l2==g.y.l2 && (zb'.y.l3==g.y.l3 && (zb'.y.l4==g.y.l4 && (zb'.y.l5==g.y.l5 && true))))) && (zb'.inf==g.inf && true)),.t))))) (.leaf (some ((false,.t)))))) (.leaf (some ((false,.t))))))) (.leaf (some ((false,.t))))))):=by kernel_rfl
end
set_option maxRecDepth 100000
section
def pwK (o:Fr) (mF:Fr->Fr->Fr) (x:Fr):Nat->Fr
 | 0=>o
 | n+1=>mF (pwK o mF x n) x
theorem pwK_succ (o:Fr) (mF:Fr->Fr->Fr) (x:Fr) (n:Nat):pwK o mF x (n+1)=mF (pwK o mF x n) x:=rfl
def pwL (o:Fr) (mF:Fr->Fr->Fr) (x:Fr) (n:Nat):List Fr:=(List.range n).map (pwK o mF x)
theorem pwL_len (o:Fr) (mF:Fr->Fr->Fr) (x:Fr) (n:Nat):(pwL o mF x n).length=n:=by unfold pwL;rw [List.length_map,List.length_range]
theorem pwL_succ (o:Fr) (mF:Fr->Fr->Fr) (x:Fr) (n:Nat):pwL o mF x (n+1)=pwL o mF x n ++ [pwK o mF x n]:=by unfold pwL;rw [List.range_succ,List.map_append];rfl
theorem bp_does {oF:UInt64->Fr} {mF:Fr->Fr->Fr} (hE:EnvOk (bpE oF mF)) (x:Fr) (n:Nat) (hn:n<4294967296):DoesL (bpE oF mF) (flat (codeOf Tryz.f84)) (startSt Tryz.f84 [v4 x,vI n] [])
  (EndsAs (bpE oF mF) Tryz.f84 (Reads oFrs (pwL (oF (UInt64.ofNat 1)) mF x n))):=by
 refine DoesL.stageG hE 100 4 _ _ _ _ _ (bp_start oF mF x n) ?_
 refine (?_:DoesL _ _ (bpSt x (pwK (oF (UInt64.ofNat 1)) mF x 0) n ((0:Nat):Int) 0 (pwL (oF (UInt64.ofNat 1)) mF x 0)) _)
 generalize oF (UInt64.ofNat 1)=o
 refine DoesL.blockLoop (B:=loopAt Tryz.f84 0) (rest:=bpC.drop 5) (id:=0) (by kernel_rfl) (fun j : { j:Nat // j<=n }=>bpSt x (pwK o mF x j.1) n (j.1:Int) j.1 (pwL o mF x j.1)) (fun j=>n-j.1) ⟨0,Nat.zero_le _⟩ fun j => ?_
 obtain ⟨j,hj⟩:=j
 refine (?_:Does _ _ (bpSt x (pwK o mF x j) n (j:Int) j (pwL o mF x j)) _)
 have hlen:=pwL_len o mF x j
 refine Does.roundP hE 300 _ (bp_round oF mF x (pwK o mF x j) n (j:Int) j (pwL o mF x j)) ⟨fun h => ?_,fun h => ?_⟩
 ·simp only [decide_eq_true_eq] at h
  refine ⟨⟨⟨by rw [rowsC_fr,hlen];omega,rfl⟩,by omega,by omega⟩,?_⟩
  intro _
  refine ⟨⟨j+1,by omega⟩,by show n-(j+1)<n-j;omega,?_⟩
  rw [wrapU j (by omega),wholeAppFr hlen,<- pwL_succ,<- pwK_succ o mF x j]
  rfl
 ·simp only [decide_eq_false_iff_not] at h
  obtain rfl:j=n:=by omega
  refine ⟨rfl,DoesL.ends hE 100 (bp_end oF mF x _ _ _ _ _) ?_⟩
  rw [List.take_of_length_le (Nat.le_of_eq hlen)]
  exact ⟨_,rfl,Nat.le_of_eq hlen.symm⟩
def powsP (x:Fr) (n:Int):List Fr:=pwL (ofPR (UInt64.ofNat 1)) mulPR x n.toNat
theorem powsP_ok:CallOk Tryz.prog 84 (K2 (kRow Fr).arg aLow oFrs.res powsP) :=
 G2 (E:=bpE ofPR mulPR) Tryz.func84 (c:=codeOf Tryz.f84) (by kernel_rfl) (bodied Tryz.func84 (by kernel_rfl) (by kernel_rfl)) (kRow Fr).inp (kInt.inp.such lowI) oFrs powsP fun x n _ hn=>by
  obtain ⟨h1,h2⟩:lowI n:=hn.2
  obtain ⟨m,rfl⟩ : ∃ m:Nat,n=(m:Int):=⟨n.toNat,by omega⟩
  exact bp_does (En_ok (.cons ofPR_ok (.cons mulPR_ok .nil))) x m (by omega)
def accS (aF mF:Fr->Fr->Fr) (y k:List Fr):Nat->Fr
 | 0=>frZ
 | n+1=>aF (accS aF mF y k n) (mF (y.getD n frZ) (k.getD n frZ))
theorem accS_succ (aF mF:Fr->Fr->Fr) (y k:List Fr) (n:Nat):accS aF mF y k (n+1)=aF (accS aF mF y k n) (mF (y.getD n frZ) (k.getD n frZ)):=rfl
theorem bs_does {pF:Fr->Int->List Fr} {aF mF:Fr->Fr->Fr} (hE:EnvOk (bsE pF aF mF)) (y:List Fr) (v:Fr) (hy:y.length<4294967296) (hp:(pF v (y.length:Int)).length=y.length):DoesL (bsE pF aF mF) (flat (codeOf Tryz.f44)) (startSt Tryz.f44 [rwV .fr 0 y,v4 v] [rwHE .fr y])
  (EndsAs (bsE pF aF mF) Tryz.f44 (Reads r4.out (accS aF mF y (pF v (y.length:Int)) y.length))):=by
 have st:=bs_start pF aF mF y v
 generalize pF v (y.length:Int)=k at *
 refine DoesL.stageG hE 100 3 _ _ _ _ _ st ⟨vcLenFr y,fun _=>⟨⟨by omega,by omega⟩,fun _=>⟨vcLenFr _,fun _ => ?_⟩⟩⟩
 rw [hp]
 refine (?_:DoesL _ _ (bsSt y (accS aF mF y k 0) (y.length:Int) ((0:Nat):Int) y.length k) _)
 refine DoesL.blockLoop (B:=loopAt Tryz.f44 0) (rest:=bsC.drop 4) (id:=0) (by kernel_rfl) (fun j : { j:Nat // j<=y.length }=>bsSt y (accS aF mF y k j.1) (y.length:Int) (j.1:Int) y.length k) (fun j=>y.length-j.1) ⟨0,Nat.zero_le _⟩ fun j => ?_
 obtain ⟨j,hj⟩:=j
 refine (?_:Does _ _ (bsSt y (accS aF mF y k j) (y.length:Int) (j:Int) y.length k) _)
 refine Does.round hE 300 _ (bs_round pF aF mF y (accS aF mF y k j) _ (j:Int) _ k) ⟨fun h => ?_,fun h => ?_⟩
 ·simp only [decide_eq_true_eq] at h
  have hj1:j<y.length:=by omega
  refine ⟨⟨⟨by omega,by omega⟩,by rw [rowsC_fr,hp];omega,by decide,rfl⟩,fun _=>⟨by rw [hp];omega,fun _=>⟨vcIdxFr hj1,fun _=>⟨vcGetFr hj1,fun _ => ?_⟩⟩⟩⟩
  refine ⟨⟨j+1,hj1⟩,by show y.length-(j+1)<y.length-j;omega,?_⟩
  rw [wrapU j (by omega),zeroN]
  rfl
 ·simp only [decide_eq_false_iff_not] at h
  obtain rfl:j=y.length:=by omega
  exact ⟨rfl,DoesL.ends hE 100 (bs_end pF aF mF y _ _ _ _ k) ⟨_,rfl,trivial⟩⟩
theorem powsP_len (x:Fr) (n:Nat):(powsP x (n:Int)).length=n:=by
 unfold powsP
 rw [pwL_len,Int.toNat_natCast]
def scalP (y:List Fr) (v:Fr):Fr:=accS addPR mulPR y (powsP v (y.length:Int)) y.length
theorem scalP_ok:CallOk Tryz.prog 44 (K2 aFew (kRow Fr).arg r4.res scalP) :=
 G2 (E:=bsE powsP addPR mulPR) Tryz.func44 (c:=codeOf Tryz.f44) (by kernel_rfl) (bodied Tryz.func44 (by kernel_rfl) (by kernel_rfl)) iFew (kRow Fr).inp r4.out scalP fun y v hy _ =>
  bs_does (Ens_ok (.cons powsP_ok (.cons addPR_ok (.cons mulPR_ok .nil)))) y v hy.2 (powsP_len v _)
def pntP (l:List Pg1) (v:Fr):Pg1:=sumG1 l (powsP v (l.length:Int))
theorem pntP_ok:CallOk Tryz.prog 45 (K2 ((argRw .g1).such few) (kRow Fr).arg kg1.rs.res pntP) :=
 G2 (E:=bqE powsP sumG1) Tryz.func45 (c:=codeOf Tryz.f45) (by kernel_rfl) (bodied Tryz.func45 (by kernel_rfl) (by kernel_rfl)) ((inpRw .g1).such few) (kRow Fr).inp kg1.rs.out pntP fun l v hl _=>by
  have hl:l.length<4294967296:=hl.2
  refine DoesL.ends (Ens_ok (.cons powsP_ok (.cons sumG1_ok .nil))) 100 (bq_run powsP sumG1 l v) ⟨vcLenG1 l,fun _=>⟨⟨by omega,by omega⟩,fun _=>⟨⟨⟨⟨by rw [rowsC_g1];omega,rfl,by omega,rfl,rfl⟩,?_⟩,by rw [rowsC_fr];omega,rfl,by rw [powsP_len];omega,rfl,rfl⟩,fun _ => ?_⟩⟩⟩
  ·show (List.take _ (List.drop 0 l)).length<4294967296
   rw [List.length_take]
   omega
  ·rw [wholeTakeFr rfl,List.drop_zero,List.take_length]
   exact ⟨_,rfl,trivial⟩
theorem maxN_le (l m:List Fr) {n:Nat} (hl:l.length<=n) (hm:m.length<=n):maxN l m<=n:=Nat.max_le.2 ⟨hm,hl⟩
theorem pAdd_le (l m:List Fr) {n:Nat} (hl:l.length<=n) (hm:m.length<=n):(pAddF l m).length<=n:=by
 unfold pAddF pBothA
 refine Nat.le_trans (cutL_le _) ?_
 rw [List.length_map,List.length_range]
 exact maxN_le l m hl hm
theorem pScale_le (l:List Fr) (k:Fr):(pScaleF l k).length<=l.length:=by
 unfold pScaleF pBothS
 refine Nat.le_trans (cutL_le _) ?_
 rw [List.length_map,List.length_range]
 exact maxN_le l [] (Nat.le_refl _) (Nat.zero_le _)
def foldK (sF:List Fr->Fr->List Fr) (aF:List Fr->List Fr->List Fr) (f:List (List Fr)) (v:Fr):Nat->List Fr->List Fr
 | 0,q=>q
 | n+1,q=>foldK sF aF f v n (aF (sF q v) (f.getD n []))
theorem foldK_succ (sF:List Fr->Fr->List Fr) (aF:List Fr->List Fr->List Fr) (f:List (List Fr)) (v:Fr) (n:Nat) (q:List Fr):foldK sF aF f v (n+1) q=foldK sF aF f v n (aF (sF q v) (f.getD n [])):=rfl
theorem getD_few {f:List (List Fr)} (h:fewLs f) (n:Nat):(f.getD n []).length<4294967296:=by
 rw [List.getD_eq_getElem?_getD]
 cases e:f[n]? with
 | none=>decide
 | some x=>exact h.2 x (List.mem_of_getElem? e)
abbrev BfQ (f:List (List Fr)) (v:Fr):Type := { s:Nat × List Fr // s.1<=f.length/\s.2.length<4294967296/\foldK pScaleF pAddF f v s.1 s.2=foldK pScaleF pAddF f v f.length [] }
def foldP (f:List (List Fr)) (v:Fr):List Fr:=foldK pScaleF pAddF f v f.length []
theorem bf_ahead (hE:EnvOk (bfE pScaleF pAddF)) (f:List (List Fr)) (v:Fr):DoesL (bfE pScaleF pAddF) ((flat (scopeOf Tryz.f43)).take 3) (mkSt 23 [(0,lsV 0 .fr f),(3,ptrV 1)] [.lists .fr f,own 24 (Row.cs v)])
  fun r=>match r.1 with | .normal=>r.2=bfSt f v (f.length:Int) 0 [] | _=>False:=by
 have st:=bf_start pScaleF pAddF f v
 rw [<- show List.take 3 (List.take 3 (flat (scopeOf Tryz.f43)))=List.take 3 (flat (scopeOf Tryz.f43)) by rw [List.take_take];rfl] at st
 refine DoesL.stageG hE 100 3 _ _ _ _ _ st ⟨rfl,fun _ => ?_⟩
 rw [show List.drop 3 (List.take 3 (flat (scopeOf Tryz.f43))) = [] by kernel_rfl]
 exact ⟨_,Wk.refl _,rfl⟩
theorem vcFewT {f:List Fr} {c:Nat} (hc:f.length=c) (h:c<4294967296):(0+c*4<=(rowsC RK.fr f).length/\0=0/\c<1125899906842624/\0=0/\4=4)/\fewR (List.take c (List.drop 0 f)):=by
 subst hc
 exact vcFewP h
theorem foldP_ok:CallOk Tryz.prog 43 (K2 aFls (kRow Fr).arg oFrs.res foldP) :=
 G2 (E:=bfE pScaleF pAddF) Tryz.func43 (c:=codeOf Tryz.f43) (by kernel_rfl) (bodied Tryz.func43 (by kernel_rfl) (by kernel_rfl)) iFls (kRow Fr).inp oFrs foldP fun f v hf _=>by
  have hf:fewLs f:=hf.2
  have hE:EnvOk (bfE pScaleF pAddF):=Ens_ok (.cons pScaleF_ok (.cons pAddF_ok .nil))
  refine DoesL.stageE hE 100 1 _ _ (bf_front pScaleF pAddF f v) ?_
  refine DoesL.scopeFnG (body:=scopeOf Tryz.f43) (rest:=restOf Tryz.f43) (tail := []) (l:=0) hE (by kernel_rfl) (by kernel_rfl) 3 (by kernel_rfl) (fun s:BfQ f v=>bfSt f v (s.1.1:Int) s.1.2.length s.1.2) (fun s=>s.1.1)
   ⟨(f.length,[]),Nat.le_refl _,Nat.zero_lt_succ _,rfl⟩ (bf_ahead hE f v) fun s => ?_
  obtain ⟨⟨m,q⟩,h0,h1,h2⟩:=s
  simp only [] at h0 h1 h2
  have hlf:=hf.1
  have hz:IntKind.i64.wrap ((m:Int)-1)=(m:Int)-1:=IntWalk.i64_in _ (by omega)
  refine DoesL.iterP hE 300 _ (bf_iter pScaleF pAddF f v (m:Int) q.length q) ?_
  rw [hz]
  refine ⟨fun h => ?_,fun h => ?_⟩
  ·simp only [decide_eq_true_eq] at h
   obtain rfl:m=0:=by omega
   have h2:q=foldP f v:=h2
   rw [List.take_length,<- h2]
   exact ⟨_,rfl,Nat.le_refl _⟩
  ·simp only [decide_eq_false_iff_not] at h
   obtain ⟨n,rfl⟩ : ∃ n:Nat,m=n+1:=⟨m-1,by omega⟩
   have e1:((n+1:Nat):Int)-1=(n:Int):=by omega
   rw [e1,Int.toNat_natCast]
   have hs:(pScaleF q v).length<4294967296:=Nat.lt_of_le_of_lt (pScale_le q v) h1
   have hg:=getD_few hf n
   rw [foldK_succ] at h2
   generalize f.getD n []=fn at *
   have eq:List.take q.length (List.drop 0 q)=q:=wholeTakeFr rfl
   refine ⟨vcFewT rfl h1,fun _=>⟨⟨⟨by omega,by omega⟩,Nat.le_refl _⟩,fun _=>⟨by omega,fun _ => ?_⟩⟩⟩
   rw [eq]
   refine ⟨⟨vcFewT rfl hs,vcFewT rfl hg⟩,fun _ => ?_⟩
   rw [wholeTakeFr (xs:=pScaleF q v) rfl,wholeTakeFr (xs:=fn) rfl]
   refine ⟨rfl,⟨(n,pAddF (pScaleF q v) fn),by show n<=f.length;omega,?_,h2⟩,Nat.lt_succ_self _,rfl⟩
   refine Nat.lt_of_le_of_lt (pAdd_le _ _ (n:=4294967295) ?_ ?_) (by decide)
   ·omega
   ·omega
end
set_option maxRecDepth 100000
section
def pntsF (l:List Fr):List Pg1:=l.map commG
theorem pnts_take (l:List Fr) (j:Nat) (hj:j<=l.length):((l.take j).map commG).length=j:=by rw [List.length_map,List.length_take,Nat.min_eq_left hj]
theorem pntsF_ok:CallOk Tryz.prog 42 (K1 aFew oG1s.res pntsF) :=
 G1 (E:=lpE commG) Tryz.func42 (c:=codeOf Tryz.f42) (by kernel_rfl) (bodied Tryz.func42 (by kernel_rfl) (by kernel_rfl)) iFew oG1s pntsF fun l hl=>by
  have hl:l.length<4294967296:=hl.2
  have hE:EnvOk (lpE commG):=En_ok (.cons commG_ok .nil)
  refine DoesL.stageG hE 100 3 _ _ _ _ _ (lp_start commG l) ?_
  refine (?_:DoesL _ _ (lpSt l ((0:Nat):Int) 0 ((l.take 0).map commG)) _)
  refine DoesL.blockLoop (B:=loopAt Tryz.f42 0) (rest:=lpC.drop 4) (id:=0) (by kernel_rfl) (fun j : { j:Nat // j<=l.length }=>lpSt l (j.1:Int) j.1 ((l.take j.1).map commG)) (fun j=>l.length-j.1) ⟨0,Nat.zero_le _⟩ fun j => ?_
  obtain ⟨j,hj⟩:=j
  refine (?_:Does _ _ (lpSt l (j:Int) j ((l.take j).map commG)) _)
  have hlen:=pnts_take l j hj
  refine Does.roundP hE 300 _ (lp_round commG l (j:Int) j ((l.take j).map commG)) ⟨vcLenFr l,fun _=>⟨fun h => ?_,fun h => ?_⟩⟩
  ·simp only [decide_eq_true_eq] at h
   have hj1:j<l.length:=by omega
   refine ⟨vcIdxFr hj1,fun _=>⟨vcGetFr hj1,fun _=>⟨⟨⟨by rw [rowsC_g1,hlen];omega,rfl⟩,by omega,by omega⟩,fun _ => ?_⟩⟩⟩
   refine ⟨⟨j+1,hj1⟩,by show l.length-(j+1)<l.length-j;omega,?_⟩
   show _=lpSt l ((j+1:Nat):Int) (j+1) ((l.take (j+1)).map commG)
   rw [wrapU j (by omega),wholeAppG1 hlen,take_snocR l hj1,List.map_append,zeroN]
   rfl
  ·simp only [decide_eq_false_iff_not] at h
   obtain rfl:j=l.length:=by omega
   rw [List.take_length] at hlen ⊢
   refine ⟨rfl,DoesL.ends hE 100 (lp_end commG l _ _ _) ?_⟩
   rw [List.take_of_length_le (Nat.le_of_eq hlen)]
   exact ⟨_,rfl,Nat.le_of_eq hlen.symm⟩
def fr1:Fr:=⟨UInt64.ofNat 1,UInt64.ofNat 0,UInt64.ofNat 0,UInt64.ofNat 0⟩
def fr2:Fr:=⟨UInt64.ofNat 2,UInt64.ofNat 0,UInt64.ofNat 0,UInt64.ofNat 0⟩
def fr3:Fr:=⟨UInt64.ofNat 3,UInt64.ofNat 0,UInt64.ofNat 0,UInt64.ofNat 0⟩
def fr7:Fr:=⟨UInt64.ofNat 7,UInt64.ofNat 0,UInt64.ofNat 0,UInt64.ofNat 0⟩
def begG (fF:List (List Fr)->Fr->List Fr) (sF:List Fr->Fr->Fr) (g:Pg1) (pF:List Pg1->Fr->Pg1):Bool :=
 match ((fF [[fr1],[fr2]] fr3).length:Int)==1 with
 | true=>match frEq ((fF [[fr1],[fr2]] fr3).getD 0 frZ) fr7 with
  | true=>match frEq (sF [fr1,fr2] fr3) fr7 with
   | true=>pg1Eq (pF [g] fr3) g
   | false=>false
  | false=>false
 | false=>false
theorem beg_does {fF:List (List Fr)->Fr->List Fr} {sF:List Fr->Fr->Fr} {g:Pg1} {pF:List Pg1->Fr->Pg1} (hE:EnvOk (lbE fF sF g pF)):DoesL (lbE fF sF g pF) (flat (codeOf Tryz.f13)) (startSt Tryz.f13 [] [])
  (EndsAs (lbE fF sF g pF) Tryz.f13 (Reads oB (begG fF sF g pF))):=by
 refine DoesL.ends hE 300 (lb_run fF sF g pF) ⟨⟨by decide,by decide⟩,fun _=>⟨vcLenFr _,fun _=>⟨fun h1 => ?_,fun h1 => ?_⟩⟩⟩
 ·have hp:0<(fF [[fr1],[fr2]] fr3).length:=by
   have:=of_decide_eq_true h1
   have h1':((fF [[fr1],[fr2]] fr3).length:Int)=1:=eq_of_beq h1
   omega
  refine ⟨⟨hp,by rw [rowsC_fr];omega,by decide,rfl⟩,fun _=>⟨hp,fun _=>⟨fun h2 => ?_,fun h2 => ?_⟩⟩⟩
  ·refine ⟨by decide,fun _=>⟨fun h3 => ?_,fun h3 => ?_⟩⟩
   ·refine ⟨Nat.succ_lt_succ (Nat.zero_lt_succ _),fun _=>⟨.t,?_,trivial⟩⟩
    have h1:(((fF [[fr1],[fr2]] fr3).length:Int)==1)=true:=h1
    have h2:frEq ((fF [[fr1],[fr2]] fr3).getD 0 frZ) fr7=true:=h2
    have h3:frEq (sF [fr1,fr2] fr3) fr7=true:=h3
    unfold begG
    rw [h1,h2,h3]
    rfl
   ·have h1:(((fF [[fr1],[fr2]] fr3).length:Int)==1)=true:=h1
    have h2:frEq ((fF [[fr1],[fr2]] fr3).getD 0 frZ) fr7=true:=h2
    have h3:frEq (sF [fr1,fr2] fr3) fr7=false:=h3
    refine ⟨.t,?_,trivial⟩
    unfold begG
    rw [h1,h2,h3]
  ·have h1:(((fF [[fr1],[fr2]] fr3).length:Int)==1)=true:=h1
   have h2:frEq ((fF [[fr1],[fr2]] fr3).getD 0 frZ) fr7=false:=h2
   refine ⟨.t,?_,trivial⟩
   unfold begG
   rw [h1,h2]
 ·have h1:(((fF [[fr1],[fr2]] fr3).length:Int)==1)=false:=h1
  refine ⟨.t,?_,trivial⟩
  unfold begG
  rw [h1]
def begun19:Bool:=begG foldP scalP gen1R pntP
theorem begun19_ok:CallOk Tryz.prog 13 (K0 kBool.rs.res begun19) :=
 G0 (E:=lbE foldP scalP gen1R pntP) Tryz.func13 (c:=codeOf Tryz.f13) (by kernel_rfl) (bodied Tryz.func13 (by kernel_rfl) (by kernel_rfl)) oB begun19
  (beg_does (Ens_ok (.cons foldP_ok (.cons scalP_ok (.cons gen1R_ok (.cons pntP_ok .nil))))))
end
end Go.Proofs.YtgpafcehehaiiaaGreat
