/- Texts of the proof, joined. -/
import Derived.Test.YtibfppbffdedoaaRows
import Derived.IntWalk
import Derived.Test.YtibfppbffdedoaaZM4
set_option linter.unusedSectionVars false
set_option linter.unusedSimpArgs false
set_option linter.unusedVariables false
namespace Go.Proofs.Ytibfppbffdedoaa
open Go.RowKit
theorem ae {f : Nat} {fn : Func} (h : Try.prog.funcs[f]? = some fn) (h1 : fn.body.isSome = true) (h2 : (fn.name == "runtime.NumGoroutine") = false) : Bodied Try.prog f := ⟨fn, h, h1, h2⟩
theorem cb:Try.prog.follows .mixedOrders=true:=by kernel_rfl
theorem fM:CallOk Try.prog 145 (K3x dm bw):=N4 Try.func145 (by kernel_rfl) (by kernel_rfl) (by kernel_rfl) (by kernel_rfl)
theorem mK:CallOk Try.prog 161 (K3x dJ cB):=N3 Try.func161 (by kernel_rfl) (by kernel_rfl) (by kernel_rfl) (by kernel_rfl)
noncomputable def T0:eO := [(145,K3x dm bw),(161,K3x dJ cB)]
theorem LD:TableOk Try.prog T0 := .cons fM (.cons mK .nil)
def pLimbs:Fp:=⟨0xb9feffffffffaaab,0x1eabfffeb153ffff,0x6730d2a0f6b0f624,0x64774b84f38512bf,0x4b1ba7b6434bacd7,0x1a0111ea397fe69a⟩
noncomputable def E0:Env:=qZ Try.prog T0 []
theorem BW:EnvOk E0:=gM cb LD
theorem qY:CallOk Try.prog 128 (K0 (aa Fp).rs.res pLimbs):=P0 BW Try.func128 (ae Try.func128 (by kernel_rfl) (by kernel_rfl)) 100 (aa Fp).rs pLimbs (T := .leaf (some pLimbs)) (by kernel_rfl) rfl
noncomputable def T1:eO:=(128,K0 (aa Fp).rs.res pLimbs) :: T0
theorem OP:TableOk Try.prog T1 := .cons qY LD
noncomputable def E1:Env:=qZ Try.prog T1 []
theorem OW:EnvOk E1:=gM cb OP
def wT (a:Fp):Fp × Bool :=
 let c0:=cB a.l0 pLimbs.l0 false
 let c1:=cB a.l1 pLimbs.l1 c0
 let c2:=cB a.l2 pLimbs.l2 c1
 let c3:=cB a.l3 pLimbs.l3 c2
 let c4:=cB a.l4 pLimbs.l4 c3
 (⟨dJ a.l0 pLimbs.l0 false,dJ a.l1 pLimbs.l1 c0,dJ a.l2 pLimbs.l2 c1,dJ a.l3 pLimbs.l3 c2,dJ a.l4 pLimbs.l4 c3,dJ a.l5 pLimbs.l5 c4⟩,cB a.l5 pLimbs.l5 c4)
def i5 (a:Fp) (over:UInt64):Fp:=match decide (over<b2u (wT a).2) with | true=>a | false=>(wT a).1
theorem Dl:CallOk Try.prog 160 (K2 (aa Fp).arg kU64.arg (aa Fp).rs.res i5) :=
 P2 OW Try.func160 (ae Try.func160 (by kernel_rfl) (by kernel_rfl)) 100 (aa Fp) kU64 (aa Fp).rs i5
  (T:=fun a o => .br (decide (o<b2u (wT a).2)) (.leaf (some a)) (.leaf (some (wT a).1))) (by intro a o;kernel_rfl)
  (by intro a o;exact ⟨fun h=>congrArg some (by unfold i5;rw [h]),fun h=>congrArg some (by unfold i5;rw [h])⟩)
end Go.Proofs.Ytibfppbffdedoaa
namespace Go.Proofs.Ytibfppbffdedoaa
open Go.RowKit
def dY (x y:UInt64):UInt64 :=
 let t:=fu x 32*(y &&& 4294967295)+fu ((x &&& 4294967295)*(y &&& 4294967295)) 32
 fu x 32*fu y 32+fu t 32+fu ((t &&& 4294967295)+(x &&& 4294967295)*fu y 32) 32
theorem mZ:CallOk Try.prog 147 (K2 kU64.arg kU64.arg (kU64.rs2 kU64).res fun x y=>(dY x y,x*y)) :=
 P2 BW Try.func147 (ae Try.func147 (by kernel_rfl) (by kernel_rfl)) 100 kU64 kU64 (kU64.rs2 kU64) (fun x y=>(dY x y,x*y))
  (T:=fun x y => .leaf (some (dY x y,x*y))) (by intro x y;kernel_rfl) (fun _ _=>rfl)
theorem Ao (x:UInt64):(fu x 32).toNat=x.toNat / 4294967296:=by
 have:=x.toNat_lt
 unfold fu
 rw [show (min (Int.toNat 32) 64)=32 from rfl,UInt64.toNat_ofNat']
 omega
theorem F9 (x:UInt64):(x &&& 4294967295).toNat=x.toNat % 4294967296:=by
 rw [UInt64.toNat_and]
 exact Nat.and_two_pow_sub_one_eq_mod x.toNat 32
theorem fm (x y:UInt64):(dY x y).toNat=x.toNat*y.toNat / 18446744073709551616:=by
 have hx:=x.toNat_lt
 have hy:=y.toNat_lt
 have h1:x.toNat=4294967296*(x.toNat / 4294967296)+x.toNat % 4294967296:=by omega
 have h2:y.toNat=4294967296*(y.toNat / 4294967296)+y.toNat % 4294967296:=by omega
 have b0:x.toNat % 4294967296<=4294967295:=by omega
 have b1:x.toNat / 4294967296<=4294967295:=by omega
 have c0:y.toNat % 4294967296<=4294967295:=by omega
 have c1:y.toNat / 4294967296<=4294967295:=by omega
 unfold dY
 simp only [UInt64.toNat_add,UInt64.toNat_mul,Ao,F9]
 generalize hx0:x.toNat % 4294967296=x0 at *
 generalize hx1:x.toNat / 4294967296=x1 at *
 generalize hy0:y.toNat % 4294967296=y0 at *
 generalize hy1:y.toNat / 4294967296=y1 at *
 have p00:x0*y0<=4294967295*4294967295:=Nat.mul_le_mul b0 c0
 have p01:x0*y1<=4294967295*4294967295:=Nat.mul_le_mul b0 c1
 have p10:x1*y0<=4294967295*4294967295:=Nat.mul_le_mul b1 c0
 have p11:x1*y1<=4294967295*4294967295:=Nat.mul_le_mul b1 c1
 have e:x.toNat*y.toNat=18446744073709551616*(x1*y1)+4294967296*(x1*y0)+4294967296*(x0*y1)+x0*y0:=by
  rw [h1,h2]
  simp only [Nat.mul_add,Nat.add_mul]
  have q1:4294967296*x1*(4294967296*y1)=18446744073709551616*(x1*y1):=by
   rw [Nat.mul_mul_mul_comm]
  have q2:4294967296*x1*y0=4294967296*(x1*y0):=Nat.mul_assoc _ _ _
  have q3:x0*(4294967296*y1)=4294967296*(x0*y1):=by rw [Nat.mul_left_comm]
  omega
 rw [e]
 generalize x0*y0=p at *
 generalize x0*y1=q at *
 generalize x1*y0=r at *
 generalize x1*y1=s at *
 omega
def fP (x y t c:UInt64):UInt64:=dm (dm (x*y) t false) c false
def dK (x y t c:UInt64):UInt64:=dY x y+b2u (bw (x*y) t false)+b2u (bw (dm (x*y) t false) c false)
theorem Nb (x y t c:UInt64):(dK x y t c).toNat*18446744073709551616+(fP x y t c).toNat=x.toNat*y.toNat+t.toNat+c.toNat:=by
 have hx:=x.toNat_lt
 have hy:=y.toNat_lt
 have ht:=t.toNat_lt
 have hc:=c.toNat_lt
 have hp:x.toNat*y.toNat<=18446744073709551615*18446744073709551615:=Nat.mul_le_mul (by omega) (by omega)
 unfold dK fP
 simp only [UInt64.toNat_add,bW,j9,gP,fm,UInt64.toNat_mul,Bool.toNat_false]
 generalize x.toNat*y.toNat=p at *
 omega
end Go.Proofs.Ytibfppbffdedoaa
namespace Go.Proofs.Ytibfppbffdedoaa
open Go.RowKit
noncomputable def T2:eO:=(160,K2 (aa Fp).arg kU64.arg (aa Fp).rs.res i5) :: (147,K2 kU64.arg kU64.arg (kU64.rs2 kU64).res fun x y=>(dY x y,x*y)) :: T1
theorem RB:TableOk Try.prog T2 := .cons Dl (.cons mZ OP)
noncomputable def E2:Env:=qZ Try.prog T2 []
theorem oZ:EnvOk E2:=gM cb RB
structure L7 where
 t0:UInt64
 t1:UInt64
 t2:UInt64
 t3:UInt64
 t4:UInt64
 t5:UInt64
 t6:UInt64
def qE:UInt64:=0x89f3fffcfffcfffd
def sU (t0 t1 t2 t3 t4 t5 top:UInt64) (more:Bool):L7 :=
 let x:=t0*qE
 let d0:=dY x pLimbs.l0+b2u (bw (x*pLimbs.l0) t0 false)
 let d1:=dK x pLimbs.l1 t1 d0
 let d2:=dK x pLimbs.l2 t2 d1
 let d3:=dK x pLimbs.l3 t3 d2
 let d4:=dK x pLimbs.l4 t4 d3
 let d5:=dK x pLimbs.l5 t5 d4
 ⟨fP x pLimbs.l1 t1 d0,fP x pLimbs.l2 t2 d1,fP x pLimbs.l3 t3 d2,fP x pLimbs.l4 t4 d3,fP x pLimbs.l5 t5 d4,dm top d5 false,b2u more+b2u (bw top d5 false)⟩
def dh (a:Fp) (b:UInt64) (t:L7):L7 :=
 let c0:=dK a.l0 b t.t0 0
 let c1:=dK a.l1 b t.t1 c0
 let c2:=dK a.l2 b t.t2 c1
 let c3:=dK a.l3 b t.t3 c2
 let c4:=dK a.l4 b t.t4 c3
 let c5:=dK a.l5 b t.t5 c4
 sU (fP a.l0 b t.t0 0) (fP a.l1 b t.t1 c0) (fP a.l2 b t.t2 c1) (fP a.l3 b t.t3 c2) (fP a.l4 b t.t4 c3) (fP a.l5 b t.t5 c4) (dm t.t6 c5 false) (bw t.t6 c5 false)
def tH (a b:Fp):L7:=dh a b.l0 ⟨0,0,0,0,0,0,0⟩
def tG (a b:Fp):L7:=dh a b.l1 (tH a b)
def tE (a b:Fp):L7:=dh a b.l2 (tG a b)
def tD (a b:Fp):L7:=dh a b.l3 (tE a b)
def tC (a b:Fp):L7:=dh a b.l4 (tD a b)
def eF (a b:Fp):L7:=dh a b.l5 (tC a b)
def L7.low (t:L7):Fp:=⟨t.t0,t.t1,t.t2,t.t3,t.t4,t.t5⟩
def aJ (a b:Fp):Fp:=i5 (eF a b).low (eF a b).t6
def cn (n:Nat):AV := .one (.c (.ptr n 0))
def KA (n:Nat):AV := .one (.c (.lit .i64 n))
def own (ty:TypeId) (cs:List Cell):HE := .live ⟨true,ty,0,.row cs,false⟩
def L7.cs (t:L7):List Cell := [.u64 t.t0,.u64 t.t1,.u64 t.t2,.u64 t.t3,.u64 t.t4,.u64 t.t5,.u64 t.t6]
def dS (n:Nat):List Cell:=List.replicate n (.lit .u64 0)
def hSt (a b:Fp) (k:Nat) (t:List Cell):St :=
 ax 139 [(2,cn 0),(3,cn 1),(4,cn 2),(5,cn 3),(6,cn 4),(18,KA k)] [own 28 (Row.cs a),own 28 (Row.cs b),own 28 (dS 6),own 28 (Row.cs pLimbs),own 151 t]
def i7:X->Option (List Nat × List Nat):=same [2,3,4,5,6,18] [0,1,2,3,4]
noncomputable def hCode:List Code:=flat (ad Try.f115)
noncomputable def rl:Code:=aG Try.f115 0
set_option maxRecDepth 100000
theorem Bt (a b:Fp):dw E2 100 (hCode.take 4) (af Try.f115 [.one ((aa Fp).av a),.one ((aa Fp).av b)] []) [2,3,4,5,6,18] [0,1,2,3,4] = .leaf (hSt a b 0 (dS 7)):=by kernel_rfl
theorem xT (a b:Fp):aM E2 100 rl (hSt a b 0 (dS 7)) i7 = .leaf (.normal,hSt a b 1 (dh a b.l0 ⟨0,0,0,0,0,0,0⟩).cs):=by kernel_rfl
theorem xS (a b:Fp) (t:L7):aM E2 100 rl (hSt a b 1 t.cs) i7 = .leaf (.normal,hSt a b 2 (dh a b.l1 t).cs):=by kernel_rfl
theorem xR (a b:Fp) (t:L7):aM E2 100 rl (hSt a b 2 t.cs) i7 = .leaf (.normal,hSt a b 3 (dh a b.l2 t).cs):=by kernel_rfl
theorem xQ (a b:Fp) (t:L7):aM E2 100 rl (hSt a b 3 t.cs) i7 = .leaf (.normal,hSt a b 4 (dh a b.l3 t).cs):=by kernel_rfl
theorem xP (a b:Fp) (t:L7):aM E2 100 rl (hSt a b 4 t.cs) i7 = .leaf (.normal,hSt a b 5 (dh a b.l4 t).cs):=by kernel_rfl
theorem xO (a b:Fp) (t:L7):aM E2 100 rl (hSt a b 5 t.cs) i7 = .leaf (.normal,hSt a b 6 (dh a b.l5 t).cs):=by kernel_rfl
theorem I9 (a b:Fp) (t:L7):aM E2 100 rl (hSt a b 6 t.cs) i7 = .leaf (.exit 0,hSt a b 6 t.cs):=by kernel_rfl
theorem Jb (a b:Fp) (t:L7):OE E2 (aa Fp).rs 100 Try.f115 (hCode.drop 5) (hSt a b 6 t.cs) = .leaf (some (i5 t.low t.t6)):=by kernel_rfl
theorem Bu:hCode.drop 4 = .block 0 (.loop rl) :: hCode.drop 5:=by kernel_rfl
def GK (a b:Fp) (k:Fin 7):St :=
 match k with
 | 0=>hSt a b 0 (dS 7)
 | 1=>hSt a b 1 (tH a b).cs
 | 2=>hSt a b 2 (tG a b).cs
 | 3=>hSt a b 3 (tE a b).cs
 | 4=>hSt a b 4 (tD a b).cs
 | 5=>hSt a b 5 (tC a b).cs
 | 6=>hSt a b 6 (eF a b).cs
theorem lr:CallOk Try.prog 115 (K2 (aa Fp).arg (aa Fp).arg (aa Fp).rs.res aJ):=by
 refine Q2 (E:=E2) Try.func115 (c:=ad Try.f115) (by kernel_rfl) (ae Try.func115 (by kernel_rfl) (by kernel_rfl)) (aa Fp) (aa Fp) (aa Fp).rs aJ fun a b => ?_
 refine DoesL.stageTo oZ 100 4 [2,3,4,5,6,18] [0,1,2,3,4] (Bt a b) ?_
 refine DoesL.blockLoop Bu (GK a b) (fun k=>6-k.1) 0 fun k => ?_
 match k with
 | 0=>exact Does.round oZ 100 i7 (xT a b) ⟨1,by decide,by simp only [GK,tH]⟩
 | 1=>exact Does.round oZ 100 i7 (xS a b _) ⟨2,by decide,by simp only [GK,tG]⟩
 | 2=>exact Does.round oZ 100 i7 (xR a b _) ⟨3,by decide,by simp only [GK,tE]⟩
 | 3=>exact Does.round oZ 100 i7 (xQ a b _) ⟨4,by decide,by simp only [GK,tD]⟩
 | 4=>exact Does.round oZ 100 i7 (xP a b _) ⟨5,by decide,by simp only [GK,tC]⟩
 | 5=>exact Does.round oZ 100 i7 (xO a b _) ⟨6,by decide,by simp only [GK,eF]⟩
 | 6=>exact Does.round oZ 100 i7 (I9 a b _) ⟨rfl,DoesL.fin oZ 100 (Jb a b _) (Tree.sat_leaf (by simp only [aJ]))⟩
end Go.Proofs.Ytibfppbffdedoaa
namespace Go.Proofs.Ytibfppbffdedoaa
open Go.RowKit
abbrev Kc (x:Fp):ay:=K0 (aa Fp).rs.res x
abbrev Kf (F:Fp->Fp):ay:=K1 (aa Fp).arg (aa Fp).rs.res F
abbrev Kff (F:Fp->Fp->Fp):ay:=K2 (aa Fp).arg (aa Fp).arg (aa Fp).rs.res F
noncomputable abbrev En (T:eO):Env:=qZ Try.prog T []
theorem aw {T:eO} (h:TableOk Try.prog T):EnvOk (En T):=gM cb h
abbrev vF (a:Fp):AV := .one ((aa Fp).av a)
abbrev vU (a:UInt64):AV := .one (kU64.av a)
abbrev rF:Rs Fp:=(aa Fp).rs
def sqLimbs:Fp:=⟨0xf4df1f341c341746,0x0a76e6a609d104f1,0x8de5476c4c95b6d5,0x67eb88a9939d83c0,0x9a793e85b519952d,0x11988fe592cae3aa⟩
theorem Eb:CallOk Try.prog 162 (Kc sqLimbs):=P0 BW Try.func162 (ae Try.func162 (by kernel_rfl) (by kernel_rfl)) 100 rF sqLimbs (T := .leaf (some sqLimbs)) (by kernel_rfl) rfl
def bq (a:Fp):Fp:=aJ a sqLimbs
def oneFp:Fp:=⟨1,0,0,0,0,0⟩
def zeroFp:Fp:=⟨0,0,0,0,0,0⟩
def hJ (a:Fp):Fp:=aJ a oneFp
theorem DU (hF:Fp->Fp->Fp) (q a:Fp):ag (En [(115,Kff hF),(162,Kc q)]) rF 100 Try.f119 [vF a] = .leaf (some (hF a q)):=by kernel_rfl
theorem Nh (hF:Fp->Fp->Fp) (a:Fp):ag (En [(115,Kff hF)]) rF 100 Try.f114 [vF a] = .leaf (some (hF a oneFp)):=by kernel_rfl
theorem rW:CallOk Try.prog 119 (Kf bq):=P1 (aw (.cons lr (.cons Eb .nil))) Try.func119 (ae Try.func119 (by kernel_rfl) (by kernel_rfl)) 100 (aa Fp) rF bq (DU aJ sqLimbs) (fun _=>Tree.sat_leaf (by simp only [bq]))
theorem Ky:CallOk Try.prog 114 (Kf hJ):=P1 (aw (.cons lr .nil)) Try.func114 (ae Try.func114 (by kernel_rfl) (by kernel_rfl)) 100 (aa Fp) rF hJ (Nh aJ) (fun _=>Tree.sat_leaf (by simp only [hJ]))
def fW (a b:Fp):Fp × Bool :=
 let c0:=bw a.l0 b.l0 false
 let c1:=bw a.l1 b.l1 c0
 let c2:=bw a.l2 b.l2 c1
 let c3:=bw a.l3 b.l3 c2
 let c4:=bw a.l4 b.l4 c3
 (⟨dm a.l0 b.l0 false,dm a.l1 b.l1 c0,dm a.l2 b.l2 c1,dm a.l3 b.l3 c2,dm a.l4 b.l4 c3,dm a.l5 b.l5 c4⟩,bw a.l5 b.l5 c4)
def jp (a b:Fp):Fp:=i5 (fW a b).1 (b2u (fW a b).2)
theorem NX (lF:Fp->UInt64->Fp) (a b:Fp):ag (En [(145,K3x dm bw),(160,K2 (aa Fp).arg kU64.arg rF.res lF)]) rF 100 Try.f118 [vF a,vF b] = .leaf (some (lF (fW a b).1 (b2u (fW a b).2))):=by kernel_rfl
theorem KY:CallOk Try.prog 118 (Kff jp):=P2 (aw (.cons fM (.cons Dl .nil))) Try.func118 (ae Try.func118 (by kernel_rfl) (by kernel_rfl)) 100 (aa Fp) (aa Fp) rF jp (NX i5) (fun _ _=>Tree.sat_leaf (by simp only [jp]))
def cz (a b:Fp):Fp × Bool :=
 let c0:=cB a.l0 b.l0 false
 let c1:=cB a.l1 b.l1 c0
 let c2:=cB a.l2 b.l2 c1
 let c3:=cB a.l3 b.l3 c2
 let c4:=cB a.l4 b.l4 c3
 (⟨dJ a.l0 b.l0 false,dJ a.l1 b.l1 c0,dJ a.l2 b.l2 c1,dJ a.l3 b.l3 c2,dJ a.l4 b.l4 c3,dJ a.l5 b.l5 c4⟩,cB a.l5 b.l5 c4)
def gl (a b:Fp):Fp:=match decide (b2u (cz a b).2=0) with | true=>(cz a b).1 | false=>(fW (cz a b).1 pLimbs).1
theorem LZ (a b:Fp):ag E1 rF 100 Try.f116 [vF a,vF b] = .br (decide (b2u (cz a b).2=0)) (.leaf (some (cz a b).1)) (.leaf (some (fW (cz a b).1 pLimbs).1)):=by kernel_rfl
theorem sub_ok:CallOk Try.prog 116 (Kff gl):=P2 OW Try.func116 (ae Try.func116 (by kernel_rfl) (by kernel_rfl)) 100 (aa Fp) (aa Fp) rF gl LZ
 (by intro a b;exact ⟨fun h=>congrArg some (by unfold gl;rw [h]),fun h=>congrArg some (by unfold gl;rw [h])⟩)
def wc (a:Fp):Fp:=gl zeroFp a
def ll (a b:Fp):Fp:=bq (aJ a b)
def ofF (n:UInt64):Fp:=⟨n,0,0,0,0,0⟩
theorem M5 (hF:Fp->Fp->Fp) (wF:Fp->Fp) (a b:Fp):ag (En [(115,Kff hF),(119,Kf wF)]) rF 100 Try.f69 [vF a,vF b] = .leaf (some (wF (hF a b))):=by kernel_rfl
theorem PJ:CallOk Try.prog 69 (Kff ll):=P2 (aw (.cons lr (.cons rW .nil))) Try.func69 (ae Try.func69 (by kernel_rfl) (by kernel_rfl)) 100 (aa Fp) (aa Fp) rF ll (M5 aJ bq) (fun _ _=>Tree.sat_leaf (by simp only [ll]))
end Go.Proofs.Ytibfppbffdedoaa
namespace Go.Proofs.Ytibfppbffdedoaa
open Go.RowKit
def w8:Arg Nat where
 rd:=fun _ v=>match v with
  | .one (.c (.lit .i64 n))=>match decide (0<=n) with
   | true=>some (n.toNat,.t,[])
   | false=>none
  | .one (.c (.int .i64 n))=>some (n.toNat,.p (0<=n),[])
  | _=>none
 is:=fun _ v x=>v = .int .i64 (x:Int)
 ok:=fun {w0 β h w v x p rs} e hp _ _=>by
  split at e
  ·split at e
   ·rename_i hd
    cases e
    simp only [decide_eq_true_eq] at hd
    simp only [gv,g1,gc]
    congr 1
    omega
   ·cases e
  ·cases e
   have:(0:Int)<=_:=hp
   simp only [gv,g1,gc]
   congr 1
   omega
  ·cases e
 near:=fun e _=>e
def inpNat:Inp Nat where
 arg:=w8
 av:=fun _ x => .one (.c (.int .i64 (x:Int)))
 hes:=fun _ => []
 fact:=fun _=>True
 known:=fun _=>trivial
 intro:=fun {w0 β heap w v x} hr _ hv=>⟨β,by rw [List.append_nil];exact hr,hv.symm,al rfl,fun _ _=>rfl⟩
abbrev oU:Out UInt64:=kU64.rs.out
abbrev iL:Inp (List UInt64):=Rp eU64
abbrev aL:Arg (List UInt64):=OO eU64
def atF (xs:List UInt64) (i:Nat):UInt64:=xs.getD i 0
def qn:Code->Option Code
 | .scope a=>some a
 | .seq a b=>match qn a with | some c=>some c | none=>qn b
 | .block _ a=>qn a
 | _=>none
def dx (fn:Func):Code:=match qn (ad fn) with | some c=>c | none => .skip
def B3 (fn:Func):Code:=match findLabel (dx fn) 0 with | some c=>c | none => .skip
abbrev vI (z:Int):AV := .one (.c (.int .i64 z))
abbrev oI:Out Int:=kInt.rs.out
def RT (xs ys:List UInt64):Int:=if (ys.length:Int) > xs.length then ys.length else xs.length
def kK (xs ys:List UInt64):Nat->Int
 | 0=>0
 | n+1=>if atF xs n<atF ys n then -1 else if atF xs n > atF ys n then 1 else kK xs ys n
def OI (xs ys:List UInt64):Int:=kK xs ys (RT xs ys).toNat
theorem cells_len (xs:List UInt64):(eU64.body xs).cells.length=xs.length:=eU64.cells_len xs
end Go.Proofs.Ytibfppbffdedoaa
namespace Go.Proofs.Ytibfppbffdedoaa
open Go.RowKit
def Fp.list (a:Fp):List UInt64 := [a.l0,a.l1,a.l2,a.l3,a.l4,a.l5]
def Do (a:Fp):Fp:=⟨fu a.l0 1 ||| Ap a.l1 63,fu a.l1 1 ||| Ap a.l2 63,fu a.l2 1 ||| Ap a.l3 63,fu a.l3 1 ||| Ap a.l4 63,fu a.l4 1 ||| Ap a.l5 63,fu a.l5 1⟩
def ls (a:Fp):Bool:=decide (OI a.list (Do pLimbs).list > 0)
abbrev oF:Out Fp:=rF.out
def AN (e:List UInt64) (x o:Fp) (z:Int):St:=ax 38 [(1,inV 0 e),(4,cn 1),(5,cn 2),(6,cn 3),(7,vI z)] [iu eU64 e,own 28 (dS 6),own 28 (Row.cs x),own 28 (Row.cs o)]
def Oc (wF:Fp->Fp) (hF:Fp->Fp->Fp) (lF:Fp->Fp):eO := [(119,Kf wF),(115,Kff hF),(114,Kf lF)]
theorem EB (T:eO) (a:Fp) (e:List UInt64):dw (En T) 100 ((flat (ad Try.f159)).take 1) (af Try.f159 [vF a,iL.av 0 e] [iu eU64 e]) [1,2,4] [0,1,2] = .leaf (ax 38 [(1,inV 0 e),(2,cn 1),(4,cn 2)] [iu eU64 e,own 28 (Row.cs a),own 28 (dS 6)]):=by kernel_rfl
theorem EA (hF:Fp->Fp->Fp) (wF lF:Fp->Fp) (a:Fp) (e:List UInt64):dw (En (Oc wF hF lF)) 100 ((flat (dx Try.f159)).take 3) (ax 38 [(1,inV 0 e),(2,cn 1),(4,cn 2)] [iu eU64 e,own 28 (Row.cs a),own 28 (dS 6)]) [1,4,5,6,7] [0,2,3,4] = .vc (0+e.length*1<=(eU64.body e).cells.length/\0<1) (.leaf (AN e (wF a) (wF oneFp) (IntKind.i64.wrap (64*e.length)))):=by kernel_rfl
def J4 (z:Int):Int:=IntKind.i64.wrap ((IntKind.i64.wrap (z-1)).tdiv 64)
def QR (z:Int):UInt64:=UInt64.ofNat (((IntKind.i64.wrap (z-1)).tmod 64) % 18446744073709551616).toNat
def QY (e:List UInt64) (z:Int):Bool:=fu (e.getD (0+(J4 z).toNat*1) 0) ((QR z).toNat:Int) &&& 1==1
theorem HW (hF:Fp->Fp->Fp) (wF lF:Fp->Fp) (x o:Fp) (e:List UInt64) (z:Int):letI za':=IntKind.i64.wrap (z-1);oQ (En (Oc wF hF lF)) oF 100 Try.f159 ((flat (dx Try.f159)).drop 3) (AN e x o z) [1,4,5,6,7] [0,1,2,3] = .br (decide (IntKind.i64.wrap (z-1)<0)) (.leaf (.inr (some (lF o,.t)))) (.vc ((0<=J4 z/\J4 z<e.length)/\0+e.length*1<=(eU64.body e).cells.length/\0<1) (.vc (0+(J4 z).toNat*1<e.length) (.br (QY e z) (.leaf (.inl (.goto 0,AN e x (hF (hF o o) x) za'))) (.leaf (.inl (.goto 0,AN e x (hF o o) za')))))):=by kernel_rfl
def dd (e:List UInt64) (i:Nat):Bool:=(e.getD (i / 64) 0).toNat.testBit (i % 64)
theorem vN (x:UInt64) (k:Nat) (hk:k<64):(fu x (k:Int) &&& 1==1)=x.toNat.testBit k:=by
 have h1:(fu x (k:Int)).toNat=x.toNat / 2 ^ k:=by
  have:=x.toNat_lt
  unfold fu
  rw [Int.toNat_natCast,Nat.min_eq_left (by omega),UInt64.toNat_ofNat']
  exact Nat.mod_eq_of_lt (Nat.lt_of_le_of_lt (Nat.div_le_self _ _) this)
 have h2:(fu x (k:Int) &&& 1).toNat=x.toNat / 2 ^ k % 2:=by
  rw [UInt64.toNat_and,h1]
  exact Nat.and_one_is_mod _
 rw [Nat.testBit_eq_decide_div_mod_eq]
 rw [<- h2]
 have h3:(fu x (k:Int) &&& 1==1)=decide ((fu x (k:Int) &&& 1)=1):=rfl
 rw [h3]
 have:((fu x (k:Int) &&& 1)=1) <-> (fu x (k:Int) &&& 1).toNat=1:=⟨fun h=>by rw [h];rfl,fun h=>UInt64.toNat.inj (by rw [h];rfl)⟩
 exact decide_eq_decide.2 this
theorem yN (n:Nat) (h:n<576460752303423488):J4 ((n:Int)+1)=((n / 64:Nat):Int):=by
 unfold J4
 rw [show (n:Int)+1-1=n by omega,IntWalk.i64_in (n:Int) (by omega),show ((n:Int)).tdiv 64=((n / 64:Nat):Int) by rw [Int.tdiv_eq_ediv_of_nonneg (by omega)];omega,IntWalk.i64_in _ (by omega)]
theorem JC (e:List UInt64) (n:Nat) (h:n<576460752303423488):QY e ((n:Int)+1)=dd e n:=by
 unfold QY dd
 rw [yN n h]
 have h1:(QR ((n:Int)+1)).toNat=n % 64:=by
  unfold QR
  rw [show (n:Int)+1-1=n by omega,IntWalk.i64_in (n:Int) (by omega),show ((n:Int)).tmod 64=((n % 64:Nat):Int) by rw [Int.tmod_eq_emod_of_nonneg (by omega)];omega]
  rw [show (((n % 64:Nat):Int) % 18446744073709551616).toNat=n % 64 by omega,UInt64.toNat_ofNat']
  omega
 rw [h1,vN _ _ (by omega)]
 simp only [Nat.zero_add,Nat.mul_one,Int.toNat_natCast]
def tv (x:Fp) (e:List UInt64):Nat->Fp->Fp
 | 0,o=>hJ o
 | n+1,o=>tv x e n (match dd e n with | true=>aJ (aJ o o) x | false=>aJ o o)
def yQ (a:Fp) (e:List UInt64):Fp:=tv (bq a) e (64*e.length) (bq oneFp)
abbrev RD (a:Fp) (e:List UInt64):Type := { q:Int × Fp // 0<=q.1/\q.1<=64*e.length/\tv (bq a) e q.1.toNat q.2=yQ a e }
def Om (a:Fp) (e:List UInt64) (q:RD a e):St:=AN e (bq a) q.1.2 q.1.1
theorem Pv:CallOk Try.prog 159 (K2 (aa Fp).arg aL rF.res yQ) :=
 G2 (E:=En (Oc bq aJ hJ)) Try.func159 (c:=ad Try.f159) (by kernel_rfl) (ae Try.func159 (by kernel_rfl) (by kernel_rfl)) (aa Fp).inp iL oF yQ fun a e _ he=>by
  have hE:EnvOk (En (Oc bq aJ hJ)):=aw (.cons rW (.cons lr (.cons Ky .nil)))
  have he:e.length<1125899906842624:=he
  have hw:IntKind.i64.wrap (64*(e.length:Int))=64*(e.length:Int):=IntWalk.i64_in _ (by omega)
  refine DoesL.stageE hE 100 1 [1,2,4] [0,1,2] (EB _ a e) ?_
  refine DoesL.scopeFn (body:=dx Try.f159) (rest:=B3 Try.f159) (tail := []) (l:=0) hE (by kernel_rfl) (by kernel_rfl) 100 3 (by kernel_rfl) [1,4,5,6,7] [0,2,3,4] (Om a e) (fun q=>q.1.1.toNat)
   ⟨(64*(e.length:Int),bq oneFp),by simp only [];omega,by simp only [];omega,by rw [show ((64*(e.length:Int),bq oneFp):Int × Fp).1.toNat=64*e.length by simp only [];omega];simp only [yQ]⟩
   (EA aJ bq hJ a e) ⟨⟨by rw [cells_len];omega,by decide⟩,fun _=>by rw [hw];exact Tree.sat_leaf (by simp only [Om])⟩ fun q => ?_
  obtain ⟨⟨z,o⟩,h0,h1,h2⟩:=q
  simp only [] at h0 h1 h2
  have hz:IntKind.i64.wrap (z-1)=z-1:=IntWalk.i64_in _ (by omega)
  refine DoesL.iter hE 100 [1,4,5,6,7] [0,1,2,3] (HW aJ bq hJ (bq a) o e z) ?_
  rw [hz]
  refine ⟨fun h => ?_,fun h => ?_⟩
  ·simp only [decide_eq_true_eq] at h
   obtain rfl:z=0:=by omega
   exact ⟨.t,by rw [<- h2];rfl,trivial⟩
  ·simp only [decide_eq_false_iff_not] at h
   obtain ⟨n,rfl⟩ : ∃ n:Nat,z=(n:Int)+1:=⟨(z-1).toNat,by omega⟩
   rw [yN n (by omega),JC e n (by omega)]
   rw [show ((n:Int)+1).toNat=n+1 by omega] at h2
   simp only [tv] at h2
   refine ⟨⟨⟨by omega,by omega⟩,by rw [cells_len];omega,by decide⟩,fun _=>⟨by omega,fun _=>⟨fun h3 => ?_,fun h3 => ?_⟩⟩⟩
   all_goals
    have hn:((n:Int)+1-1).toNat=n:=by omega
    rw [h3] at h2
    simp only [] at h2
   ·refine ⟨rfl,⟨((n:Int)+1-1,aJ (aJ o o) (bq a)),?_,?_,?_⟩,?_,by simp only [Om]⟩
    ·show 0<=(n:Int)+1-1;omega
    ·show (n:Int)+1-1<=64*e.length;omega
    ·simpa only [hn] using h2
    ·show ((n:Int)+1-1).toNat<((n:Int)+1).toNat;omega
   ·refine ⟨rfl,⟨((n:Int)+1-1,aJ o o),?_,?_,?_⟩,?_,by simp only [Om]⟩
    ·show 0<=(n:Int)+1-1;omega
    ·show (n:Int)+1-1<=64*e.length;omega
    ·simpa only [hn] using h2
    ·show ((n:Int)+1-1).toNat<((n:Int)+1).toNat;omega
end Go.Proofs.Ytibfppbffdedoaa
namespace Go.Proofs.Ytibfppbffdedoaa
open Go.RowKit
abbrev rFI:Rs (Fp × Int):=(aa Fp).rs2 kInt
abbrev Sf (pF:Fp->List UInt64->Fp):ay:=K2 (aa Fp).arg aL rF.res pF
def jl (a b:Fp):Bool:=a.l0==b.l0 && (a.l1==b.l1 && (a.l2==b.l2 && (a.l3==b.l3 && (a.l4==b.l4 && (a.l5==b.l5 && true)))))
theorem iH (a b:Fp):jl a b=true <-> a=b:=by
 cases a;cases b
 simp [jl]
def hO (a:Fp):Fp × Int:=match jl a zeroFp with | true=>(a,7) | false=>(yQ a [pLimbs.l0-2,pLimbs.l1,pLimbs.l2,pLimbs.l3,pLimbs.l4,pLimbs.l5],0)
theorem Nt (pF:Fp->List UInt64->Fp) (m a:Fp):ag (En [(128,Kc m),(159,Sf pF)]) rFI 100 Try.f113 [vF a] =
  .br (jl a zeroFp) (.leaf (some (a,7))) (.leaf (some (pF a [m.l0-2,m.l1,m.l2,m.l3,m.l4,m.l5],0))):=by kernel_rfl
theorem P5:CallOk Try.prog 113 (K1 (aa Fp).arg rFI.res hO):=P1 (aw (.cons qY (.cons Pv .nil))) Try.func113 (ae Try.func113 (by kernel_rfl) (by kernel_rfl)) 100 (aa Fp) rFI hO (Nt yQ pLimbs)
 (fun a=>⟨fun h=>congrArg some (by simp only [hO,h]),fun h=>congrArg some (by simp only [hO,h])⟩)
end Go.Proofs.Ytibfppbffdedoaa
namespace Go.Proofs.Ytibfppbffdedoaa
open Go.RowKit
noncomputable abbrev Ens (T:eO) (ns:List Nat):Env:=qZ Try.prog T ns
theorem bP {T:eO} {ns:List Nat} (h:TableOk Try.prog T):EnvOk (Ens T ns):=gM cb h
abbrev oS (ty:TypeId):Out Fp:=Kh Fp ty 6 (fun _=>rfl)
abbrev iS:Inp Fp:=KB Fp 6 (fun _=>rfl)
abbrev aS:Arg Fp:=Ct Fp
abbrev rS (ty:TypeId):Res Fp:=B4 Fp ty 6 (fun _=>rfl)
abbrev oB:Out Bool:=kBool.rs.out
theorem HI:cD (En []) (oS 22) 100 Try.f133 (flat (ad Try.f133)) (af Try.f133 [] []) = .leaf (some (pLimbs,.t)):=by kernel_rfl
theorem qB:CallOk Try.prog 133 (K0 (rS 22) pLimbs) :=
 G0 (E:=En []) Try.func133 (c:=ad Try.f133) (by kernel_rfl) (ae Try.func133 (by kernel_rfl) (by kernel_rfl)) (oS 22) pLimbs (DoesL.ends (aw .nil) 100 HI ⟨.t,rfl,trivial⟩)
def b6 (a m:Fp):Bool :=
 match a.l5 != m.l5 with
 | true=>decide (a.l5<m.l5)
 | false=>match a.l4 != m.l4 with
  | true=>decide (a.l4<m.l4)
  | false=>match a.l3 != m.l3 with
   | true=>decide (a.l3<m.l3)
   | false=>match a.l2 != m.l2 with
    | true=>decide (a.l2<m.l2)
    | false=>match a.l1 != m.l1 with
     | true=>decide (a.l1<m.l1)
     | false=>match a.l0 != m.l0 with
      | true=>decide (a.l0<m.l0)
      | false=>false
def lfB (b:Bool):Tree (Option (Bool × Pr)) := .leaf (some (b,.t))
def KV (a m:Fp):Tree (Option (Bool × Pr)) :=
 .br (a.l5 != m.l5) (lfB (decide (a.l5<m.l5))) (.br (a.l4 != m.l4) (lfB (decide (a.l4<m.l4))) (.br (a.l3 != m.l3) (lfB (decide (a.l3<m.l3))) (.br (a.l2 != m.l2) (lfB (decide (a.l2<m.l2))) (.br (a.l1 != m.l1) (lfB (decide (a.l1<m.l1))) (.br (a.l0 != m.l0) (lfB (decide (a.l0<m.l0))) (lfB false))))))
theorem FZ (a m:Fp):cD (En []) oB 100 Try.f56 (flat (ad Try.f56)) (af Try.f56 [iS.av 0 a,iS.av 1 m] (iS.hes a++iS.hes m))=KV a m:=by kernel_rfl
theorem BM (a m:Fp):(KV a m).sat fun q => ∃ p,q=some (b6 a m,p)/\p.holds:=by
 unfold b6
 refine ⟨fun h => ?_,fun h => ?_⟩ <;> rw [h]
 ·exact ⟨.t,rfl,trivial⟩
 refine ⟨fun h => ?_,fun h => ?_⟩ <;> rw [h]
 ·exact ⟨.t,rfl,trivial⟩
 refine ⟨fun h => ?_,fun h => ?_⟩ <;> rw [h]
 ·exact ⟨.t,rfl,trivial⟩
 refine ⟨fun h => ?_,fun h => ?_⟩ <;> rw [h]
 ·exact ⟨.t,rfl,trivial⟩
 refine ⟨fun h => ?_,fun h => ?_⟩ <;> rw [h]
 ·exact ⟨.t,rfl,trivial⟩
 refine ⟨fun h => ?_,fun h => ?_⟩ <;> rw [h]
 ·exact ⟨.t,rfl,trivial⟩
 ·exact ⟨.t,rfl,trivial⟩
theorem zK:CallOk Try.prog 56 (K2 aS aS oB.res b6) :=
 G2 (E:=En []) Try.func56 (c:=ad Try.f56) (by kernel_rfl) (ae Try.func56 (by kernel_rfl) (by kernel_rfl)) iS iS oB b6 fun a m _ _=>DoesL.ends (aw .nil) 100 (FZ a m) (BM a m)
end Go.Proofs.Ytibfppbffdedoaa
namespace Go.Proofs.Ytibfppbffdedoaa
open Go.RowKit
abbrev RZ (iF:Fp->Fp × Int):ay:=K1 (aa Fp).arg rFI.res iF
abbrev Kof (oF':UInt64->Fp):ay:=K1 kU64.arg rF.res oF'
end Go.Proofs.Ytibfppbffdedoaa
namespace Go.Proofs.Ytibfppbffdedoaa
open Go.RowKit
abbrev rL:Res (List UInt64):=Gs eU64 22
abbrev oL:Out (List UInt64):=Lp eU64 22
abbrev ql (xs:List UInt64):Prop:=xs.length<1099511627776
abbrev aLc:Arg (List UInt64):=aL.such ql
abbrev iLc:Inp (List UInt64):=iL.such ql
abbrev Ob (xs:List UInt64):Prop:=xs.length<4294967296
abbrev aLt:Arg (List UInt64):=aL.such Ob
abbrev iLt:Inp (List UInt64):=iL.such Ob
theorem gj (xs:List UInt64):(List.map EK.u64.cell xs).length=xs.length:=List.length_map ..
theorem I4 (xs:List UInt64) (i:Nat):letI za':=List.map EK.u64.cell xs;letI zb':=(↑xs.length:Int);cD (En []) oU 100 Try.f168 (flat (ad Try.f168)) (af Try.f168 [iL.av 0 xs,inpNat.av 1 i] [iu eU64 xs])=(.vc (0+xs.length*1<=za'.length/\0<1) (.br (decide ((↑i:Int)<zb')) (.vc ((0<=(↑i:Int)/\(↑i:Int)<zb')/\0+xs.length*1<=za'.length/\0<1) (.vc (0+(↑i:Int).toNat*1<xs.length) (.leaf (some ((xs.getD (0+(↑i:Int).toNat*1) 0,.t)))))) (.leaf (some ((UInt64.ofNat 0,.t)))))):=by kernel_rfl
theorem Np:CallOk Try.prog 168 (K2 aL w8 kU64.rs.res atF) :=
 G2 (E:=En []) Try.func168 (c:=ad Try.f168) (by kernel_rfl) (ae Try.func168 (by kernel_rfl) (by kernel_rfl)) iL inpNat oU atF fun xs i _ _=>by
  refine DoesL.ends (aw .nil) 100 (I4 xs i) ⟨⟨by rw [gj];omega,by decide⟩,fun _=>⟨fun h => ?_,fun h => ?_⟩⟩
  ·simp only [decide_eq_true_eq] at h
   refine ⟨⟨⟨by omega,h⟩,by rw [gj];omega,by decide⟩,fun _=>⟨by omega,fun _=>⟨.t,?_,trivial⟩⟩⟩
   simp [atF]
  ·simp only [decide_eq_false_iff_not] at h
   refine ⟨.t,?_,trivial⟩
   have:xs.length<=i:=by omega
   simp [atF,List.getElem?_eq_none this]
theorem NP (xs:List UInt64) (i:Nat):letI za':=((↑i:Int).tdiv 64);letI zb':=List.map EK.u64.cell xs;letI zc':=IntKind.i64.wrap za';letI zd':=(↑xs.length:Int);cD (En []) oU 100 Try.f167 (flat (ad Try.f167)) (af Try.f167 [iL.av 0 xs,inpNat.av 1 i] [iu eU64 xs])=(.vc (0+xs.length*1<=zb'.length/\0<1) (.br (decide (IntKind.i64.wrap za' >= zd')) (.leaf (some ((UInt64.ofNat 0,.t)))) (.vc ((0<=IntKind.i64.wrap za'/\IntKind.i64.wrap za'<zd')/\0+xs.length*1<=zb'.length/\0<1) (.vc (0+zc'.toNat*1<xs.length) (.vc (0<=(↑i:Int).tmod 64) (.leaf (some ((fu (xs.getD (0+zc'.toNat*1) 0) ((↑i:Int).tmod 64) &&& UInt64.ofNat 1,.t))))))))):=by kernel_rfl
theorem FY (xs:List UInt64) (i:Nat):fu (xs.getD (i / 64) 0) ((i % 64:Nat):Int) &&& 1=b2u (dd xs i):=by
 have h:=vN (xs.getD (i / 64) 0) (i % 64) (by omega)
 unfold dd
 rw [<- h]
 have h2 : ∀ y:UInt64,y &&& 1=b2u (y &&& 1==1):=fun y=>by
  have:(y &&& 1).toNat=y.toNat % 2:=by rw [UInt64.toNat_and];exact Nat.and_one_is_mod _
  have h3:(y &&& 1)=0 \/ (y &&& 1)=1:=by
   rcases Nat.mod_two_eq_zero_or_one y.toNat with h | h
   ·exact .inl (UInt64.toNat.inj (by rw [this,h];rfl))
   ·exact .inr (UInt64.toNat.inj (by rw [this,h];rfl))
  rcases h3 with h | h <;> rw [h] <;> rfl
 exact h2 _
theorem sn (i:Nat) (h:i<9223372036854775808):IntKind.i64.wrap (((i:Nat):Int).tdiv 64)=((i / 64:Nat):Int):=by
 rw [show ((i:Int)).tdiv 64=((i / 64:Nat):Int) by rw [Int.tdiv_eq_ediv_of_nonneg (by omega)];omega,IntWalk.i64_in _ (by omega)]
theorem sm (i:Nat):((i:Nat):Int).tmod 64=((i % 64:Nat):Int):=by rw [Int.tmod_eq_emod_of_nonneg (by omega)];omega
def Cu:Arg Nat where
 rd:=fun _ v=>match v with
  | .one (.c (.lit .i64 n))=>match decide (0<=n) && decide (n<9223372036854775808) with
   | true=>some (n.toNat,.t,[])
   | false=>none
  | .one (.c (.int .i64 n))=>some (n.toNat,.p (0<=n/\n<9223372036854775808),[])
  | _=>none
 is:=fun _ v x=>v = .int .i64 (x:Int)/\x<9223372036854775808
 ok:=fun {w0 β h w v x p rs} e hp _ _=>by
  split at e
  ·split at e
   ·rename_i hd
    cases e
    simp only [Bool.and_eq_true,decide_eq_true_eq] at hd
    refine ⟨?_,by omega⟩
    simp only [gv,g1,gc]
    congr 1
    omega
   ·cases e
  ·cases e
   have hp:(0:Int)<=_/\_<(9223372036854775808:Int):=hp
   refine ⟨?_,by omega⟩
   simp only [gv,g1,gc]
   congr 1
   omega
  ·cases e
 near:=fun e _=>e
def P6:Inp Nat where
 arg:=Cu
 av:=fun _ x => .one (.c (.int .i64 (x:Int)))
 hes:=fun _ => []
 fact:=fun x=>x<9223372036854775808
 known:=fun h=>h.2
 intro:=fun {w0 β heap w v x} hr _ hv=>⟨β,by rw [List.append_nil];exact hr,hv.1.symm,al rfl,fun _ _=>rfl⟩
def zJ (xs:List UInt64) (i:Nat):UInt64:=b2u (dd xs i)
theorem QB:CallOk Try.prog 167 (K2 aL Cu kU64.rs.res zJ) :=
 G2 (E:=En []) Try.func167 (c:=ad Try.f167) (by kernel_rfl) (ae Try.func167 (by kernel_rfl) (by kernel_rfl)) iL P6 oU zJ fun xs i _ hi=>by
  have hi:i<9223372036854775808:=hi
  refine DoesL.ends (aw .nil) 100 (NP xs i) ⟨⟨by rw [gj];omega,by decide⟩,fun _=>⟨fun h => ?_,fun h => ?_⟩⟩
  ·simp only [decide_eq_true_eq] at h
   rw [sn i hi] at h
   refine ⟨.t,?_,trivial⟩
   have:xs.length<=i / 64:=by omega
   simp [zJ,dd,List.getD_eq_getElem?_getD,List.getElem?_eq_none this]
   rfl
  ·simp only [decide_eq_false_iff_not] at h
   rw [sn i hi] at h ⊢
   refine ⟨⟨⟨by omega,by omega⟩,by rw [gj];omega,by decide⟩,fun _=>⟨by omega,fun _=>⟨by rw [sm];omega,fun _=>⟨.t,?_,trivial⟩⟩⟩⟩
   rw [sm]
   have:=FY xs i
   simp only [Nat.zero_add,Nat.mul_one,Int.toNat_natCast]
   exact congrArg (fun z=>some (z,Pr.t)) this.symm ▸ rfl
end Go.Proofs.Ytibfppbffdedoaa
namespace Go.Proofs.Ytibfppbffdedoaa
open Go.RowKit
noncomputable abbrev cutC:List Code:=flat (ad Try.f169)
def Lx (xs:List UInt64) (z:Int):St:=ax 23 [(0,inV 0 xs),(3,vI z)] [iu eU64 xs]
theorem FP (xs:List UInt64):stageG (En []) 100 (cutC.take 2) (af Try.f169 [iL.av 0 xs] [iu eU64 xs]) [0,3] [0] [(0,.as),(3,.int)] [] []=(.vc (0+xs.length*1<=(List.map EK.u64.cell xs).length/\0<1) (.leaf (ax 23 [(0,.one (.c (.slc 0 0 (xs.length) 1 (.of 0) false))),(3,.one (.c (.int .i64 ((↑xs.length:Int)))))] [.live ⟨false,0,1,(.elts .u64 (xs:List UInt64)),false⟩]))):=by kernel_rfl
theorem FR (xs:List UInt64) (z:Int):letI za':=IntKind.i64.wrap (z-1);aM (En []) 100 (aG Try.f169 0) (Lx xs z) (same [0,3] [0])=(.br (decide (z > 0)) (.vc ((0<=IntKind.i64.wrap (z-1)/\IntKind.i64.wrap (z-1)<(↑xs.length:Int))/\0+xs.length*1<=(List.map EK.u64.cell xs).length/\0<1) (.vc (0+za'.toNat*1<xs.length) (.br (xs.getD (0+za'.toNat*1) 0==UInt64.ofNat 0) (.leaf ((.normal,ax 23 [(0,.one (.c (.slc 0 0 (xs.length) 1 (.of 0) false))),(3,.one (.c (.int .i64 za')))] [.live ⟨false,0,1,(.elts .u64 (xs:List UInt64)),false⟩]))) (.leaf ((.exit 0,ax 23 [(0,.one (.c (.slc 0 0 (xs.length) 1 (.of 0) false))),(3,.one (.c (.int .i64 (z))))] [.live ⟨false,0,1,(.elts .u64 (xs:List UInt64)),false⟩])))))) (.leaf ((.exit 0,ax 23 [(0,.one (.c (.slc 0 0 (xs.length) 1 (.of 0) false))),(3,.one (.c (.int .i64 (z))))] [.live ⟨false,0,1,(.elts .u64 (xs:List UInt64)),false⟩])))):=by kernel_rfl
theorem Dy (xs:List UInt64) (z:Int):cD (En []) oL 100 Try.f169 (cutC.drop 3) (Lx xs z)=(.vc (0<=z/\0<=z.toNat/\z.toNat<=xs.length/\0+xs.length*1<=(List.map EK.u64.cell xs).length/\0<1/\(0=0 \/ 0<z.toNat)/\0=0/\1=1) (.vc (0+(z.toNat-0)<=xs.length/\0+(z.toNat-0)<=9223372036854775807/\(0+(z.toNat-0))*8<=140737488355328) (.leaf (some ((List.take (0+(z.toNat-0)) ([]++List.take (z.toNat-0) (List.drop 0 xs)),(.p (0+(z.toNat-0)<=([]++List.take (z.toNat-0) (List.drop 0 xs)).length)))))))):=by kernel_rfl
theorem FQ:cutC.drop 2 = .block 0 (.loop (aG Try.f169 0)) :: cutC.drop 3:=by kernel_rfl
def GN (xs:List UInt64):Nat->Nat
 | 0=>0
 | n+1=>if atF xs n=0 then GN xs n else n+1
def eI (xs:List UInt64):List UInt64:=xs.take (GN xs xs.length)
abbrev RH (xs:List UInt64):Type := { n:Nat // n<=xs.length/\GN xs n=GN xs xs.length }
theorem KP:CallOk Try.prog 169 (K1 aLc rL eI) :=
 G1 (E:=En []) Try.func169 (c:=ad Try.f169) (by kernel_rfl) (ae Try.func169 (by kernel_rfl) (by kernel_rfl)) iLc oL eI fun xs hx=>by
  have hx:xs.length<1099511627776:=hx.2
  refine DoesL.stageG (aw .nil) 100 2 [0,3] [0] [(0,.as),(3,.int)] [] [] (FP xs) ⟨⟨by rw [gj];omega,by decide⟩,fun _ => ?_⟩
  refine DoesL.blockLoop FQ (fun n:RH xs=>Lx xs (n.1:Int)) (fun n=>n.1) ⟨xs.length,Nat.le_refl _,rfl⟩ fun n => ?_
  obtain ⟨n,h1,h2⟩:=n
  refine Does.round (aw .nil) 100 _ (FR xs n) ⟨fun h => ?_,fun h => ?_⟩
  ·simp only [decide_eq_true_eq] at h
   obtain ⟨m,rfl⟩ : ∃ m,n=m+1:=⟨n-1,by omega⟩
   have hw:IntKind.i64.wrap (((m+1:Nat):Int)-1)=(m:Int):=by rw [IntWalk.i64_in _ (by omega)];omega
   rw [hw]
   refine ⟨⟨⟨by omega,by omega⟩,by rw [gj];omega,by decide⟩,fun _=>⟨by omega,fun _=>⟨fun h3 => ?_,fun h3 => ?_⟩⟩⟩
   ·refine ⟨⟨m,by omega,?_⟩,by show m<m+1;omega,rfl⟩
    rw [<- h2]
    have:atF xs m=0:=by
     simp only [beq_iff_eq,Nat.zero_add,Nat.mul_one,Int.toNat_natCast] at h3
     exact h3
    simp only [GN,if_pos this]
   ·refine ⟨rfl,DoesL.ends (aw .nil) 100 (Dy xs ((m+1:Nat):Int)) ⟨?_,fun _=>⟨?_,fun _=>vV ?_ ?_⟩⟩⟩
    ·rw [gj,Int.toNat_natCast];exact ⟨by omega,by omega,by omega,by omega,by decide,.inl rfl,rfl,rfl⟩
    ·rw [Int.toNat_natCast];omega
    ·simp only [Int.toNat_natCast,Nat.zero_add,Nat.sub_zero,List.drop_zero,List.nil_append,List.take_take,Nat.min_self]
     unfold eI
     rw [<- h2]
     have:atF xs m ≠ 0:=by
      simp only [beq_eq_false_iff_ne,Nat.zero_add,Nat.mul_one,Int.toNat_natCast] at h3
      exact h3
     simp only [GN,if_neg this]
    ·simp only [Int.toNat_natCast,Nat.zero_add,Nat.sub_zero,List.drop_zero,List.nil_append,List.length_take]
     omega
  ·simp only [decide_eq_false_iff_not] at h
   obtain rfl:n=0:=by omega
   refine ⟨rfl,DoesL.ends (aw .nil) 100 (Dy xs 0) ⟨?_,fun _=>⟨?_,fun _=>vV ?_ ?_⟩⟩⟩
   ·rw [gj];exact ⟨by omega,by omega,by simp,by omega,by decide,.inl rfl,rfl,rfl⟩
   ·simp
   ·unfold eI
    rw [<- h2]
    simp [GN]
   ·simp
end Go.Proofs.Ytibfppbffdedoaa
namespace Go.Proofs.Ytibfppbffdedoaa
open Go.RowKit
noncomputable abbrev rcmpC:List Code:=flat (ad Try.f170)
noncomputable abbrev Oh:Code:=aG Try.f170 0
def MR (xs:List UInt64):HE := .live ⟨true,22,1,.elts .u64 xs,false⟩
def slV (i:Nat) (xs:List UInt64):AV := .one (.c (.slc i 0 xs.length 1 (.of 0) false))
def Pm (a b:List UInt64):St:=ax 45 [(0,slV 0 a),(1,slV 1 b)] [MR a,MR b]
def B5 (a b:List UInt64) (z:Int):St:=ax 45 [(0,slV 0 a),(1,slV 1 b),(5,vI z)] [MR a,MR b]
noncomputable abbrev wC (cF:List UInt64->List UInt64):Env:=Ens [(169,K1 aLc rL cF)] [169]
theorem HO:EnvOk (wC eI):=bP (.cons KP .nil)
theorem AB (cF:List UInt64->List UInt64) (xs ys:List UInt64):letI za':=List.take xs.length (List.drop 0 xs);letI zb':=List.take ys.length (List.drop 0 ys);dw (wC cF) 100 (rcmpC.take 2) (af Try.f170 [iL.av 0 xs,iL.av 1 ys] [iu eU64 xs,iu eU64 ys]) [0,1] [2,3]=(.vc ((0+xs.length<=xs.length/\xs.length<1125899906842624/\0=0/\1=1)/\ql za') (.vc ((0+ys.length<=ys.length/\ys.length<1125899906842624/\0=0/\1=1)/\ql zb') (.leaf (ax 45 [(0,.one (.c (.slc 0 0 ((cF za').length) 1 (.of 0) false))),(1,.one (.c (.slc 1 0 ((cF zb').length) 1 (.of 0) false)))] [.live ⟨true,22,1,(.elts .u64 (cF za':List UInt64)),false⟩,.live ⟨true,22,1,(.elts .u64 (cF zb':List UInt64)),false⟩])))):=by kernel_rfl
theorem HM (cF:List UInt64->List UInt64) (a b:List UInt64):letI za':=0+a.length*1<=(List.map EK.u64.cell a).length/\0<1;letI zb':=0+b.length*1<=(List.map EK.u64.cell b).length/\0<1;letI zc':=(↑a.length:Int);CS (wC cF) oI 100 Try.f170 ((rcmpC.drop 2).take 3) (Pm a b) [0,1,5] [0,1] [(0,.as),(1,.as),(5,.int)] [] []=(.vc za' (.vc zb' (.br (zc' != (↑b.length:Int)) (.vc za' (.vc zb' (.br (decide (zc'<(↑b.length:Int))) (.leaf (.inr (some ((-1,.t))))) (.leaf (.inr (some ((1,.t)))))))) (.vc za' (.leaf (.inl (ax 45 [(0,.one (.c (.slc 0 0 (a.length) 1 (.of 0) false))),(1,.one (.c (.slc 1 0 (b.length) 1 (.of 0) false))),(5,.one (.c (.int .i64 (IntKind.i64.wrap (zc'-1)))))] [.live ⟨true,22,1,(.elts .u64 (a:List UInt64)),false⟩,.live ⟨true,22,1,(.elts .u64 (b:List UInt64)),false⟩]))))))):=by kernel_rfl
theorem AC (cF:List UInt64->List UInt64) (a b:List UInt64) (z:Int):letI za':=((0<=z/\z<(↑a.length:Int))/\0+a.length*1<=(List.map EK.u64.cell a).length/\0<1);letI zb':=((0<=z/\z<(↑b.length:Int))/\0+b.length*1<=(List.map EK.u64.cell b).length/\0<1);letI zc':=0+z.toNat*1;letI zd':=0+z.toNat*1<a.length;letI ze':=0+z.toNat*1<b.length;oQ (wC cF) oI 100 Try.f170 [Oh] (B5 a b z) [0,1,5] [0,1]=(.br (decide (z >= 0)) (.vc za' (.vc zd' (.vc zb' (.vc ze' (.br (decide (a.getD zc' 0<b.getD zc' 0)) (.leaf (.inr (some ((-1,.t))))) (.vc za' (.vc zd' (.vc zb' (.vc ze' (.br (decide (b.getD zc' 0<a.getD zc' 0)) (.leaf (.inr (some ((1,.t))))) (.leaf (.inl ((.normal,ax 45 [(0,.one (.c (.slc 0 0 (a.length) 1 (.of 0) false))),(1,.one (.c (.slc 1 0 (b.length) 1 (.of 0) false))),(5,.one (.c (.int .i64 (IntKind.i64.wrap (z-1)))))] [.live ⟨true,22,1,(.elts .u64 (a:List UInt64)),false⟩,.live ⟨true,22,1,(.elts .u64 (b:List UInt64)),false⟩])))))))))))))) (.leaf (.inl ((.exit 0,ax 45 [(0,.one (.c (.slc 0 0 (a.length) 1 (.of 0) false))),(1,.one (.c (.slc 1 0 (b.length) 1 (.of 0) false))),(5,.one (.c (.int .i64 (z))))] [.live ⟨true,22,1,(.elts .u64 (a:List UInt64)),false⟩,.live ⟨true,22,1,(.elts .u64 (b:List UInt64)),false⟩]))))):=by kernel_rfl
theorem HN (cF:List UInt64->List UInt64) (a b:List UInt64) (z:Int):cD (wC cF) oI 100 Try.f170 (rcmpC.drop 6) (B5 a b z) =
 (.leaf (some ((0,.t)))):=by kernel_rfl
theorem lI (xs:List UInt64):0+xs.length*1<=(List.map EK.u64.cell xs).length/\0<1:=⟨by rw [gj];omega,by decide⟩
theorem pU {xs:List UInt64} {n:Nat} (h:n<xs.length):((0:Int)<=(n:Int)/\(n:Int)<(xs.length:Int))/\0+xs.length*1<=(List.map EK.u64.cell xs).length/\0<1:=⟨⟨by omega,by omega⟩,lI xs⟩
theorem pW {xs:List UInt64} {n:Nat} (h:n<xs.length):0+((n:Int)).toNat*1<xs.length:=by rw [Int.toNat_natCast];omega
theorem Ny (xs:List UInt64) (n:Nat):xs.getD (0+((n:Int)).toNat*1) 0=atF xs n:=by rw [Int.toNat_natCast,Nat.zero_add,Nat.mul_one];rfl
theorem ki (n:Nat) (h:n<9223372036854775807):IntKind.i64.wrap ((n:Int)-1)=(n:Int)-1:=IntWalk.i64_in _ (by omega)
theorem kg (n:Nat) (h:n<9223372036854775807):IntKind.i64.wrap ((n:Int)+1)=((n+1:Nat):Int):=by rw [IntWalk.i64_in _ (by omega)];omega
theorem whole (xs:List UInt64):List.take xs.length (List.drop 0 xs)=xs:=by rw [List.drop_zero,List.take_length]
theorem Kl {xs:List UInt64} (h:xs.length<1125899906842624):0+xs.length<=xs.length/\xs.length<1125899906842624/\0=0/\1=1:=⟨by omega,h,rfl,rfl⟩
theorem okC {xs:List UInt64} (h:xs.length<1099511627776):(0+xs.length<=xs.length/\xs.length<1125899906842624/\0=0/\1=1)/\ql (List.take xs.length (List.drop 0 xs)):=⟨Kl (by omega),by rw [whole];exact h⟩
def BI (xs ys:List UInt64):Int :=
 if (eI xs).length ≠ (eI ys).length then (if (eI xs).length<(eI ys).length then -1 else 1) else kK (eI xs) (eI ys) (eI xs).length
abbrev Se (a b:List UInt64):Type := { z:Int // -1<=z/\z<a.length/\kK a b (z+1).toNat=kK a b a.length }
theorem Mq:CallOk Try.prog 170 (K2 aLc aLc kInt.rs.res BI) :=
 G2 (E:=wC eI) Try.func170 (c:=ad Try.f170) (by kernel_rfl) (ae Try.func170 (by kernel_rfl) (by kernel_rfl)) iLc iLc oI BI fun xs ys hx hy=>by
  have hx:xs.length<1099511627776:=hx.2
  have hy:ys.length<1099511627776:=hy.2
  have hE:=HO
  have hcl : ∀ zs:List UInt64,(eI zs).length<=zs.length:=fun zs=>by unfold eI;rw [List.length_take];omega
  have cx:=hcl xs
  have cy:=hcl ys
  refine DoesL.stageE hE 100 2 [0,1] [2,3] (AB eI xs ys) ?_
  simp only [List.drop_zero,List.take_length]
  refine ⟨⟨⟨by omega,by omega,trivial,trivial⟩,hx⟩,fun _=>⟨⟨⟨by omega,by omega,trivial,trivial⟩,hy⟩,fun _ => ?_⟩⟩
  have ex:BI xs ys=if (eI xs).length ≠ (eI ys).length then (if (eI xs).length<(eI ys).length then -1 else 1) else kK (eI xs) (eI ys) (eI xs).length:=rfl
  generalize eI xs=a at *
  generalize eI ys=b at *
  refine DoesL.seg hE 100 3 [0,1,5] [0,1] [(0,.as),(1,.as),(5,.int)] [] [] (HM eI a b) ⟨lI a,fun _=>⟨lI b,fun _=>⟨fun h=>⟨lI a,fun _=>⟨lI b,fun _=>⟨fun h2 => ?_,fun h2 => ?_⟩⟩⟩,fun h=>⟨lI a,fun _ => ?_⟩⟩⟩⟩
  ·simp only [bne_iff_ne,ne_eq,decide_eq_true_eq] at h h2
   exact aV (by rw [ex,if_pos (by omega),if_pos (by omega)])
  ·simp only [bne_iff_ne,ne_eq,decide_eq_false_iff_not] at h h2
   exact aV (by rw [ex,if_pos (by omega),if_neg (by omega)])
  ·simp only [bne_eq_false_iff_eq] at h
   have hl:a.length=b.length:=by omega
   rw [if_neg (by omega)] at ex
   have hw:IntKind.i64.wrap ((a.length:Int)-1)=(a.length:Int)-1:=ki _ (by omega)
   rw [hw]
   refine DoesL.blockLoopR (B:=Oh) (rest:=rcmpC.drop 6) (id:=0) (by kernel_rfl) (fun z:Se a b=>B5 a b z.1) (fun z=>(z.1+1).toNat) ⟨(a.length:Int)-1,by omega,by omega,by rw [show ((a.length:Int)-1+1).toNat=a.length by omega]⟩ fun z => ?_
   obtain ⟨z,z1,z2,z3⟩:=z
   refine DoesL.iter hE 100 [0,1,5] [0,1] (AC eI a b z) ⟨fun h0 => ?_,fun h0 => ?_⟩
   ·simp only [ge_iff_le,decide_eq_true_eq] at h0
    obtain ⟨n,rfl⟩ : ∃ n:Nat,z=(n:Int):=⟨z.toNat,by omega⟩
    have na:n<a.length:=by omega
    have nb:n<b.length:=by omega
    rw [Ny,Ny,ki _ (by omega)]
    rw [show ((n:Int)+1).toNat=n+1 by omega] at z3
    have st:kK a b (n+1)=if atF a n<atF b n then -1 else if atF a n > atF b n then 1 else kK a b n:=rfl
    refine ⟨pU na,fun _=>⟨pW na,fun _=>⟨by exact pU nb,fun _=>⟨pW nb,fun _=>⟨fun h1 => ?_,fun h1=>⟨pU na,fun _=>⟨pW na,fun _=>⟨pU nb,fun _=>⟨pW nb,fun _=>⟨fun h2 => ?_,fun h2 => ?_⟩⟩⟩⟩⟩⟩⟩⟩⟩⟩
    ·simp only [decide_eq_true_eq] at h1
     exact aV (by rw [ex,<- z3,st,if_pos h1])
    ·simp only [decide_eq_true_eq,decide_eq_false_iff_not] at h1 h2
     exact aV (by rw [ex,<- z3,st,if_neg h1,if_pos h2])
    ·simp only [decide_eq_false_iff_not] at h1 h2
     refine ⟨⟨(n:Int)-1,by omega,by omega,?_⟩,?_,rfl⟩
     ·rw [show ((n:Int)-1+1).toNat=n by omega,<- z3,st,if_neg h1,if_neg h2]
     ·simp only [];omega
   ·simp only [ge_iff_le,decide_eq_false_iff_not] at h0
    obtain rfl:z = -1:=by omega
    refine ⟨rfl,DoesL.ends hE 100 (HN eI a b (-1)) (aV ?_)⟩
    rw [ex,<- z3]
    rfl
end Go.Proofs.Ytibfppbffdedoaa
namespace Go.Proofs.Ytibfppbffdedoaa
open Go.RowKit
abbrev RX (b:Bool):AV := .one (.c (.bit b))
theorem Kv (a b:Nat):(if (b:Int) > (a:Int) then (b:Int) else (a:Int))=((max a b:Nat):Int):=by split <;> omega
theorem PF (xs:List UInt64) (x:UInt64):List.take xs.length (List.drop 0 xs) ++ [x]=xs ++ [x]:=by rw [List.drop_zero,List.take_length]
theorem I6 (xs:List UInt64) (x:UInt64):xs.length+1=(xs ++ [x]).length:=by simp
noncomputable abbrev rlessC:List Code:=flat (ad Try.f163)
noncomputable abbrev JZ:Code:=aG Try.f163 0
abbrev rLI:Res (List UInt64 × Int):=J0 eU64 22
abbrev oLI:Out (List UInt64 × Int):=PG eU64 22
def qu (xs ys out:List UInt64) (c:Bool) (z:Int):St:=ax 42 [(0,inV 0 xs),(1,inV 1 ys),(6,slV 2 out),(7,RX c),(8,vI z)] [iu eU64 xs,iu eU64 ys,MR out]
noncomputable abbrev sX (pF:List UInt64->List UInt64->Int) (lF:List UInt64->Nat->UInt64) (S:UInt64->UInt64->Bool->UInt64) (C:UInt64->UInt64->Bool->Bool) (cF:List UInt64->List UInt64):Env :=
 Ens [(170,K2 aLc aLc kInt.rs.res pF),(168,K2 aL w8 kU64.rs.res lF),(161,K3x S C),(169,K1 aLc rL cF)] [169]
theorem Es:EnvOk (sX BI atF dJ cB eI):=bP (.cons Mq (.cons Np (.cons mK (.cons KP .nil))))
theorem xq (pF:List UInt64->List UInt64->Int) (lF:List UInt64->Nat->UInt64) (S:UInt64->UInt64->Bool->UInt64) (C:UInt64->UInt64->Bool->Bool) (cF:List UInt64->List UInt64) (xs ys:List UInt64):letI za':=List.take xs.length (List.drop 0 xs);letI zb':=List.take ys.length (List.drop 0 ys);CS (sX pF lF S C cF) oLI 100 Try.f163 (rlessC.take 6) (af Try.f163 [iL.av 0 xs,iL.av 1 ys] [iu eU64 xs,iu eU64 ys]) [0,1,6,7,8] [0,1] [(0,.as),(1,.as),(6,.nil 2),(7,.bit),(8,.int)] [] [(22,.u64)]=(.vc (((0+xs.length<=xs.length/\xs.length<1125899906842624/\0=0/\1=1)/\ql za')/\(0+ys.length<=ys.length/\ys.length<1125899906842624/\0=0/\1=1)/\ql zb') (.br (decide (pF za' zb'<0)) (.leaf (.inr (some ((([],1),.t))))) (.leaf (.inl (ax 42 [(0,.one (.c (.slc 0 0 (xs.length) 1 (.of 0) false))),(1,.one (.c (.slc 1 0 (ys.length) 1 (.of 0) false))),(6,.one (.c (.slc 2 0 0 1 (.of 0) false))),(7,.one (.c (.bit (false)))),(8,.one (.c (.int .i64 0)))] [.live ⟨false,0,1,(.elts .u64 (xs:List UInt64)),false⟩,.live ⟨false,0,1,(.elts .u64 (ys:List UInt64)),false⟩,.live ⟨true,22,1,(.elts .u64 ([]:List UInt64)),false⟩]))))):=by kernel_rfl
theorem xr (pF:List UInt64->List UInt64->Int) (lF:List UInt64->Nat->UInt64) (S:UInt64->UInt64->Bool->UInt64) (C:UInt64->UInt64->Bool->Bool) (cF:List UInt64->List UInt64) (xs ys out:List UInt64) (c:Bool) (z:Int):letI za':=lF (List.take xs.length (List.drop 0 xs)) z.toNat;letI zb':=lF (List.take ys.length (List.drop 0 ys)) z.toNat;letI zc':=(↑ys.length:Int);letI zd':=(↑xs.length:Int);aM (sX pF lF S C cF) 100 JZ (qu xs ys out c z) (fun x=>match x with | .normal=>some ([0,1,6,7,8],[0,1,4]) | _=>some ([0,1,6,7,8],[0,1,2]))=(.vc (0+xs.length*1<=(List.map EK.u64.cell xs).length/\0<1) (.vc (0+ys.length*1<=(List.map EK.u64.cell ys).length/\0<1) (.br (decide (z<if zc' > zd' then zc' else zd')) (.vc ((0+xs.length<=xs.length/\xs.length<1125899906842624/\0=0/\1=1)/\0<=z) (.vc ((0+ys.length<=ys.length/\ys.length<1125899906842624/\0=0/\1=1)/\0<=z) (.vc (0+out.length<=out.length/\out.length+1<=9223372036854775807/\(out.length+1)*8<=140737488355328) (.leaf ((.normal,ax 42 [(0,.one (.c (.slc 0 0 (xs.length) 1 (.of 0) false))),(1,.one (.c (.slc 1 0 (ys.length) 1 (.of 0) false))),(6,.one (.c (.slc 2 0 (out.length+1) 1 (.of 0) false))),(7,.one (.c (.bit (C za' zb' c)))),(8,.one (.c (.int .i64 (IntKind.i64.wrap (z+1)))))] [.live ⟨false,0,1,(.elts .u64 (xs:List UInt64)),false⟩,.live ⟨false,0,1,(.elts .u64 (ys:List UInt64)),false⟩,.live ⟨true,22,1,(.elts .u64 (List.take out.length (List.drop 0 out) ++ [S za' zb' c]:List UInt64)),false⟩])))))) (.leaf ((.exit 0,ax 42 [(0,.one (.c (.slc 0 0 (xs.length) 1 (.of 0) false))),(1,.one (.c (.slc 1 0 (ys.length) 1 (.of 0) false))),(6,.one (.c (.slc 2 0 (out.length) 1 (.of 0) false))),(7,.one (.c (.bit (c)))),(8,.one (.c (.int .i64 (z))))] [.live ⟨false,0,1,(.elts .u64 (xs:List UInt64)),false⟩,.live ⟨false,0,1,(.elts .u64 (ys:List UInt64)),false⟩,.live ⟨true,22,1,(.elts .u64 (out:List UInt64)),false⟩])))))):=by kernel_rfl
theorem Er (pF:List UInt64->List UInt64->Int) (lF:List UInt64->Nat->UInt64) (S:UInt64->UInt64->Bool->UInt64) (C:UInt64->UInt64->Bool->Bool) (cF:List UInt64->List UInt64) (xs ys out:List UInt64) (c:Bool) (z:Int):letI za':=List.take out.length (List.drop 0 out);cD (sX pF lF S C cF) oLI 100 Try.f163 (rlessC.drop 7) (qu xs ys out c z)=(.vc ((0+out.length<=out.length/\out.length<1125899906842624/\0=0/\1=1)/\ql za') (.leaf (some (((List.take (cF za').length (cF za'),0),(.p ((cF za').length<=(cF za').length))))))):=by kernel_rfl
def js (xs ys:List UInt64):Nat->List UInt64 × Bool
 | 0=>([],false)
 | k+1=>((js xs ys k).1 ++ [dJ (atF xs k) (atF ys k) (js xs ys k).2],cB (atF xs k) (atF ys k) (js xs ys k).2)
theorem nS (xs ys:List UInt64) : ∀ k,(js xs ys k).1.length=k
 | 0=>rfl
 | k+1=>by simp only [js,List.length_append,nS xs ys k,List.length_singleton]
def iB (xs ys:List UInt64):List UInt64 × Int:=if BI xs ys<0 then ([],1) else (eI (js xs ys (max xs.length ys.length)).1,0)
theorem HC:CallOk Try.prog 163 (K2 aLt aLt rLI iB) :=
 G2 (E:=sX BI atF dJ cB eI) Try.func163 (c:=ad Try.f163) (by kernel_rfl) (ae Try.func163 (by kernel_rfl) (by kernel_rfl)) iLt iLt oLI iB fun xs ys hx hy=>by
  have hx:xs.length<4294967296:=hx.2
  have hy:ys.length<4294967296:=hy.2
  have hE:=Es
  refine DoesL.seg hE 100 6 _ _ _ _ _ (xq BI atF dJ cB eI xs ys) ?_
  refine ⟨⟨okC (by omega),okC (by omega)⟩,fun _=>⟨fun h => ?_,fun h => ?_⟩⟩
  ·rw [whole,whole] at h
   simp only [decide_eq_true_eq] at h
   exact aV (by rw [iB,if_pos h])
  rw [whole,whole] at h
  simp only [decide_eq_false_iff_not] at h
  have ex:iB xs ys=(eI (js xs ys (max xs.length ys.length)).1,0):=by rw [iB,if_neg h]
  refine DoesL.blockLoop (B:=JZ) (rest:=rlessC.drop 7) (id:=0) (by kernel_rfl) (fun k : { k:Nat // k<=max xs.length ys.length }=>qu xs ys (js xs ys k.1).1 (js xs ys k.1).2 (k.1:Int)) (fun k=>max xs.length ys.length-k.1) ⟨0,by omega⟩ fun k => ?_
  obtain ⟨k,hk⟩:=k
  have hl:=nS xs ys k
  show Does _ _ (qu xs ys (js xs ys k).1 (js xs ys k).2 (k:Int)) _
  refine Does.round hE 100 _ (xr BI atF dJ cB eI xs ys _ _ (k:Int)) ⟨lI xs,fun _=>⟨lI ys,fun _=>⟨fun h => ?_,fun h => ?_⟩⟩⟩
  ·rw [Kv] at h
   simp only [decide_eq_true_eq] at h
   refine ⟨⟨Kl (by omega),by omega⟩,fun _=>⟨⟨Kl (by omega),by omega⟩,fun _=>⟨⟨by omega,by omega,by omega⟩,fun _ => ?_⟩⟩⟩
   refine ⟨⟨k+1,by omega⟩,by show max xs.length ys.length-(k+1)<max xs.length ys.length-k;omega,?_⟩
   rw [kg k (by omega),PF,I6 _ (dJ (atF xs k) (atF ys k) (js xs ys k).2),whole,whole,Int.toNat_natCast]
   rfl
  ·rw [Kv] at h
   simp only [decide_eq_false_iff_not] at h
   obtain rfl:k=max xs.length ys.length:=by omega
   refine ⟨rfl,DoesL.ends hE 100 (Er BI atF dJ cB eI xs ys _ _ _) ⟨okC (by omega),fun _ => ?_⟩⟩
   rw [whole]
   refine vV ?_ (Nat.le_refl _)
   rw [List.take_length,ex]
end Go.Proofs.Ytibfppbffdedoaa
namespace Go.Proofs.Ytibfppbffdedoaa
open Go.RowKit
end Go.Proofs.Ytibfppbffdedoaa
namespace Go.Proofs.Ytibfppbffdedoaa
open Go.RowKit
noncomputable abbrev rsubC:List Code:=flat (ad Try.f146)
noncomputable abbrev Oe:Code:=aG Try.f146 0
def o7 (ty ty':TypeId) (xs ys:List UInt64) (c:Bool) (z:Int):St:=ax 28 [(0,slW 0 xs),(1,slW 1 ys),(4,RX c),(5,vI z)] (N9 ty ty' xs ys)
noncomputable abbrev Ax (S:UInt64->UInt64->Bool->UInt64) (C:UInt64->UInt64->Bool->Bool):Env:=En [(161,K3x S C)]
theorem Hy:EnvOk (Ax dJ cB):=aw (.cons mK .nil)
theorem Av (S:UInt64->UInt64->Bool->UInt64) (C:UInt64->UInt64->Bool->Bool) (ty ty':TypeId) (xs ys:List UInt64):stageG (Ax S C) 100 (rsubC.take 2) (af Try.f146 [slW 0 xs,slW 1 ys] (N9 ty ty' xs ys)) [0,1,4,5] [0,1] [(0,.as),(1,.as),(4,.bit),(5,.int)] [] []=(.leaf (ax 28 [(0,.one (.c (.slc 0 0 (xs.length) 1 (.of 0) false))),(1,.one (.c (.slc 1 0 (ys.length) 1 (.of 0) false))),(4,.one (.c (.bit (false)))),(5,.one (.c (.int .i64 0)))] [.live ⟨true,(ty),1,(.elts .u64 (xs:List UInt64)),true⟩,.live ⟨false,(ty'),1,(.elts .u64 (ys:List UInt64)),false⟩])):=by kernel_rfl
theorem Aw (S:UInt64->UInt64->Bool->UInt64) (C:UInt64->UInt64->Bool->Bool) (ty ty':TypeId) (xs ys:List UInt64) (c:Bool) (z:Int):letI za':=((0<=z/\z<(↑xs.length:Int))/\0+xs.length*1<=(List.map EK.u64.cell xs).length/\0<1);letI zb':=0+z.toNat*1;letI zc':=0+z.toNat*1<xs.length;letI zd':=List.map EK.u64.cell ys;letI ze':=(↑ys.length:Int);aM (Ax S C) 100 Oe (o7 ty ty' xs ys c z) (same [0,1,4,5] [0,1])=(.vc (0+ys.length*1<=zd'.length/\0<1) (.br (decide (z<ze')) (.vc za' (.vc zc' (.vc ((0<=z/\z<ze')/\0+ys.length*1<=zd'.length/\0<1) (.vc (0+z.toNat*1<ys.length) (.vc za' (.vc zc' (.leaf ((.normal,ax 28 [(0,.one (.c (.slc 0 0 (xs.length) 1 (.of 0) false))),(1,.one (.c (.slc 1 0 (ys.length) 1 (.of 0) false))),(4,.one (.c (.bit (C (xs.getD zb' 0) (ys.getD zb' 0) c)))),(5,.one (.c (.int .i64 (IntKind.i64.wrap (z+1)))))] [.live ⟨true,(ty),1,(.elts .u64 (xs.set zb' (S (xs.getD zb' 0) (ys.getD zb' 0) c):List UInt64)),true⟩,.live ⟨false,(ty'),1,(.elts .u64 (ys:List UInt64)),false⟩]))))))))) (.leaf ((.exit 0,ax 28 [(0,.one (.c (.slc 0 0 (xs.length) 1 (.of 0) false))),(1,.one (.c (.slc 1 0 (ys.length) 1 (.of 0) false))),(4,.one (.c (.bit (c)))),(5,.one (.c (.int .i64 (z))))] [.live ⟨true,(ty),1,(.elts .u64 (xs:List UInt64)),true⟩,.live ⟨false,(ty'),1,(.elts .u64 (ys:List UInt64)),false⟩]))))):=by kernel_rfl
theorem Hx (S:UInt64->UInt64->Bool->UInt64) (C:UInt64->UInt64->Bool->Bool) (ty ty':TypeId) (xs ys:List UInt64) (c:Bool) (z:Int):Lf (Ax S C) 100 Try.f146 (rsubC.drop 3) (o7 ty ty' xs ys c z)=(.leaf (some ((AV.tup [],hpS (N9 ty ty' xs ys) 0)))):=by kernel_rfl
theorem Mk (xs:List UInt64):letI za':=List.take xs.length (List.drop 0 xs);letI zb':=UInt64.ofNat 0;cD (En []) oF 100 Try.f135 (flat (ad Try.f135)) (af Try.f135 [iL.av 0 xs] [iu eU64 xs])=(.vc (0+xs.length<=xs.length) (.leaf (some (({ l0:=gp (Nat.blt 0 xs.length) (za'.getD 0 0) zb',l1:=gp (Nat.blt 1 xs.length) (za'.getD 1 0) zb',l2:=gp (Nat.blt 2 xs.length) (za'.getD 2 0) zb',l3:=gp (Nat.blt 3 xs.length) (za'.getD 3 0) zb',l4:=gp (Nat.blt 4 xs.length) (za'.getD 4 0) zb',l5:=gp (Nat.blt 5 xs.length) (za'.getD 5 0) zb' },.t))))):=by kernel_rfl
theorem Ma (xs:List UInt64) (k:Nat) (v:UInt64) {j:Nat} (h:j ≠ k):atF (xs.set k v) j=atF xs j:=by
 unfold atF
 rw [List.getD_eq_getElem?_getD,List.getD_eq_getElem?_getD,List.getElem?_set_ne (Ne.symm h)]
def kV:Nat->List UInt64->List UInt64->Bool->List UInt64 × Bool
 | 0,xs,ys,c=>(xs,c)
 | k+1,xs,ys,c=>((kV k xs ys c).1.set k (dJ (atF xs k) (atF ys k) (kV k xs ys c).2),cB (atF xs k) (atF ys k) (kV k xs ys c).2)
theorem jS (xs ys:List UInt64) (c:Bool) : ∀ k,(kV k xs ys c).1.length=xs.length
 | 0=>rfl
 | k+1=>by simp only [kV,List.length_set,jS xs ys c k]
theorem CI (xs ys:List UInt64) (c:Bool) : ∀ k j,k<=j->atF (kV k xs ys c).1 j=atF xs j
 | 0,j,_=>rfl
 | k+1,j,h=>by
  simp only [kV]
  rw [Ma _ _ _ (by omega),CI xs ys c k j (by omega)]
theorem qr:CallOk Try.prog 146 (Kwl fun xs ys=>(kV ys.length xs ys false).1):=by
 refine QH (E:=Ax dJ cB) Try.func146 (c:=ad Try.f146) (by kernel_rfl) (ae Try.func146 (by kernel_rfl) (by kernel_rfl)) (fun xs ys=>jS _ _ _ _) fun ty ty' xs ys h0 hl hb => ?_
 have hE:=Hy
 refine DoesL.stageG hE 100 2 _ _ _ _ _ (Av dJ cB ty ty' xs ys) ?_
 refine DoesL.blockLoop (B:=Oe) (rest:=rsubC.drop 3) (id:=0) (by kernel_rfl) (fun k : { k:Nat // k<=ys.length }=>o7 ty ty' (kV k.1 xs ys false).1 ys (kV k.1 xs ys false).2 (k.1:Int)) (fun k=>ys.length-k.1) ⟨0,by omega⟩ fun k => ?_
 obtain ⟨k,hk⟩:=k
 have hw:=jS xs ys false k
 have ha:=CI xs ys false k k (Nat.le_refl _)
 show Does _ _ (o7 ty ty' (kV k xs ys false).1 ys (kV k xs ys false).2 (k:Int)) _
 refine Does.round hE 100 _ (Aw dJ cB ty ty' (kV k xs ys false).1 ys (kV k xs ys false).2 (k:Int)) ⟨lI ys,fun _=>⟨fun h => ?_,fun h => ?_⟩⟩
 ·simp only [decide_eq_true_eq] at h
  have k1:k<ys.length:=by omega
  have k2:k<(kV k xs ys false).1.length:=by omega
  refine ⟨pU k2,fun _=>⟨pW k2,fun _=>⟨pU k1,fun _=>⟨pW k1,fun _=>⟨pU k2,fun _=>⟨pW k2,fun _ => ?_⟩⟩⟩⟩⟩⟩
  refine ⟨⟨k+1,by omega⟩,by show ys.length-(k+1)<ys.length-k;omega,?_⟩
  rw [kg k (by omega),Ny,Ny,Int.toNat_natCast,Nat.zero_add,Nat.mul_one,ha]
  have e:(kV (k+1) xs ys false).1.length=(kV k xs ys false).1.length:=by rw [jS,jS]
  show _=o7 ty ty' (kV (k+1) xs ys false).1 ys (kV (k+1) xs ys false).2 ((k+1:Nat):Int)
  unfold o7 slW
  rw [e]
  rfl
 ·simp only [decide_eq_false_iff_not] at h
  obtain rfl:k=ys.length:=by omega
  exact ⟨rfl,DoesL.wends hE 100 (Hx dJ cB ty ty' _ ys _ _) (Tree.sat_leaf rfl)⟩
def ofL (xs:List UInt64):Fp:=⟨atF xs 0,atF xs 1,atF xs 2,atF xs 3,atF xs 4,atF xs 5⟩
theorem fG (xs:List UInt64) (k:Nat):gp (Nat.blt k xs.length) ((List.take xs.length (List.drop 0 xs)).getD k 0) (UInt64.ofNat 0)=atF xs k:=by
 rw [whole]
 cases h:Nat.blt k xs.length with
 | true=>rfl
 | false =>
  have : ¬ k<xs.length:=fun h2=>by rw [show Nat.blt k xs.length=true from Nat.ble_eq_true_of_le h2] at h;cases h
  simp only [gp,atF,List.getD_eq_getElem?_getD]
  rw [List.getElem?_eq_none (by omega)]
  rfl
theorem B2:CallOk Try.prog 135 (K1 aL oF.res ofL) :=
 G1 (E:=En []) Try.func135 (c:=ad Try.f135) (by kernel_rfl) (ae Try.func135 (by kernel_rfl) (by kernel_rfl)) iL oF ofL fun xs hx=>by
  refine DoesL.ends (aw .nil) 100 (Mk xs) ⟨by omega,fun _=>aV ?_⟩
  rw [fG,fG,fG,fG,fG,fG]
  rfl
abbrev rSu:Res Fp:=rS 22
abbrev oSu:Out Fp:=oS 22
def six (a:Fp):List UInt64 := [a.l0,a.l1,a.l2,a.l3,a.l4,a.l5]
def QJ (a m:Fp):Prop:=0<(six a).length/\(six m).length<=(six a).length/\(six a).length<4294967296
theorem CB (a m:Fp):QJ a m:=⟨Nat.lt_of_lt_of_le (by decide:0<6) (Nat.le_refl 6),Nat.le_refl 6,(by decide:6<4294967296)⟩
abbrev OR:ay:=Kwl fun xs ys=>(kV ys.length xs ys false).1
noncomputable abbrev Lo (bF:Fp->Fp->Bool):Env:=En [(145,K3x dm bw),(56,K2 aS aS oB.res bF),(146,OR)]
theorem H7:EnvOk (Lo b6):=aw (.cons fM (.cons zK (.cons qr .nil)))
def lfF (a:Fp):Tree (Option (Fp × Pr)) := .leaf (some (a,.t))
def On (bF:Fp->Fp->Bool) (a b m:Fp):Tree (Option (Fp × Pr)) :=
 .br (b2u (fW a b).2==1) (.vc (QJ (fW a b).1 m) (lfF (cz (fW a b).1 m).1)) (.br (!(bF (fW a b).1 m)) (.vc (QJ (fW a b).1 m) (lfF (cz (fW a b).1 m).1)) (lfF (fW a b).1))
theorem H3 (bF:Fp->Fp->Bool) (a b m:Fp):cD (Lo bF) oSu 300 Try.f94 (flat (ad Try.f94)) (af Try.f94 [iS.av 0 a,iS.av 1 b,iS.av 2 m] (iS.hes a++iS.hes b++iS.hes m))=On bF a b m:=by kernel_rfl
def oP (a b m:Fp):Fp:=match b2u (fW a b).2==1 with
 | true=>(cz (fW a b).1 m).1
 | false=>match !(b6 (fW a b).1 m) with
  | true=>(cz (fW a b).1 m).1
  | false=>(fW a b).1
theorem EE (a b m:Fp):(On b6 a b m).sat fun q => ∃ p,q=some (oP a b m,p)/\p.holds:=by
 refine ⟨fun h=>⟨CB _ _,fun _ => ?_⟩,fun h=>⟨fun h2=>⟨CB _ _,fun _ => ?_⟩,fun h2 => ?_⟩⟩
 ·exact aV (by unfold oP;rw [h])
 ·exact aV (by unfold oP;rw [h,h2])
 ·exact aV (by unfold oP;rw [h,h2])
theorem MJ:CallOk Try.prog 94 (K3 aS aS aS rSu oP) :=
 G3 (E:=Lo b6) Try.func94 (c:=ad Try.f94) (by kernel_rfl) (ae Try.func94 (by kernel_rfl) (by kernel_rfl)) iS iS iS oSu oP fun a b m _ _ _=>DoesL.ends H7 300 (H3 b6 a b m) (EE a b m)
noncomputable abbrev s9:Env:=En [(145,K3x dm bw),(161,K3x dJ cB)]
theorem uk:EnvOk s9:=aw (.cons fM (.cons mK .nil))
def PL (a b m:Fp):Tree (Option (Fp × Pr)) := .br (b2u (cz a b).2==1) (lfF (fW (cz a b).1 m).1) (lfF (cz a b).1)
theorem Fe (a b m:Fp):cD s9 oSu 300 Try.f165 (flat (ad Try.f165)) (af Try.f165 [iS.av 0 a,iS.av 1 b,iS.av 2 m] (iS.hes a++iS.hes b++iS.hes m))=PL a b m:=by kernel_rfl
def mA (a b m:Fp):Fp:=match b2u (cz a b).2==1 with
 | true=>(fW (cz a b).1 m).1
 | false=>(cz a b).1
theorem IM:CallOk Try.prog 165 (K3 aS aS aS rSu mA) :=
 G3 (E:=s9) Try.func165 (c:=ad Try.f165) (by kernel_rfl) (ae Try.func165 (by kernel_rfl) (by kernel_rfl)) iS iS iS oSu mA fun a b m _ _ _=>DoesL.ends uk 300 (Fe a b m)
  ⟨fun h=>aV (by unfold mA;rw [h]),fun h=>aV (by unfold mA;rw [h])⟩
abbrev K3s (F:Fp->Fp->Fp->Fp):ay:=K3 aS aS aS rSu F
abbrev Kfp (F:List UInt64->Fp):ay:=K1 aL oF.res F
theorem JP (pF:Fp->Fp->Fp->Fp) (m a b:Fp):ag (Ens [(94,K3s pF),(133,K0 rSu m),(135,Kfp ofL)] [94,133]) rF 100 Try.f73 [vF a,vF b] = .leaf (some (pF a b m)):=by kernel_rfl
def mb (a b:Fp):Fp:=oP a b pLimbs
theorem DM:CallOk Try.prog 73 (Kff mb):=P2 (bP (.cons MJ (.cons qB (.cons B2 .nil)))) Try.func73 (ae Try.func73 (by kernel_rfl) (by kernel_rfl)) 100 (aa Fp) (aa Fp) rF mb (JP oP pLimbs) (fun _ _=>Tree.sat_leaf (by simp only [mb]))
theorem Hc (pF:Fp->Fp->Fp->Fp) (m a b:Fp):ag (Ens [(165,K3s pF),(133,K0 rSu m),(135,Kfp ofL)] [165,133]) rF 100 Try.f126 [vF a,vF b] = .leaf (some (pF a b m)):=by kernel_rfl
def lK (a b:Fp):Fp:=mA a b pLimbs
theorem CJ:CallOk Try.prog 126 (Kff lK):=P2 (bP (.cons IM (.cons qB (.cons B2 .nil)))) Try.func126 (ae Try.func126 (by kernel_rfl) (by kernel_rfl)) 100 (aa Fp) (aa Fp) rF lK (Hc mA pLimbs) (fun _ _=>Tree.sat_leaf (by simp only [lK]))
theorem MW (n:UInt64):ag (En []) rF 100 Try.f71 [vU n] = .leaf (some (ofF n)):=by kernel_rfl
theorem B9:CallOk Try.prog 71 (K1 kU64.arg rF.res ofF):=P1 (aw .nil) Try.func71 (ae Try.func71 (by kernel_rfl) (by kernel_rfl)) 100 kU64 rF ofF MW (fun _=>Tree.sat_leaf rfl)
end Go.Proofs.Ytibfppbffdedoaa
namespace Go.Proofs.Ytibfppbffdedoaa
open Go.RowKit
def rmL (x y t c:UInt64):UInt64:=dm (dm t (x*y) false) c false
def rmH (x y t c:UInt64):UInt64:=dY x y+b2u (bw t (x*y) false)+b2u (bw (dm t (x*y) false) c false)
theorem uJ (x y:UInt64) (c:Bool):dm x y c=dm y x c:=UInt64.toNat.inj (by rw [j9,j9,Nat.add_comm x.toNat])
theorem oc (x y:UInt64) (c:Bool):bw x y c=bw y x c:=by
 have h1:=gP x y c
 have h2:=gP y x c
 rw [Nat.add_comm x.toNat,<- h2] at h1
 cases h3:bw x y c <;> cases h4:bw y x c <;> simp [h3,h4] at h1 <;> rfl
theorem sV (x y t c:UInt64):rmL x y t c=fP x y t c:=by unfold rmL fP;rw [uJ t]
theorem sW (x y t c:UInt64):rmH x y t c=dK x y t c:=by unfold rmH dK;rw [uJ t,oc t]
def Lq (m:Fp) (inv:UInt64) (t0 t1 t2 t3 t4 t5 top:UInt64) (more:Bool):L7 :=
 let x:=t0*inv
 let d0:=dY x m.l0+b2u (bw t0 (x*m.l0) false)
 let d1:=rmH x m.l1 t1 d0
 let d2:=rmH x m.l2 t2 d1
 let d3:=rmH x m.l3 t3 d2
 let d4:=rmH x m.l4 t4 d3
 let d5:=rmH x m.l5 t5 d4
 ⟨rmL x m.l1 t1 d0,rmL x m.l2 t2 d1,rmL x m.l3 t3 d2,rmL x m.l4 t4 d3,rmL x m.l5 t5 d4,dm top d5 false,b2u more+b2u (bw top d5 false)⟩
def kD (ai:UInt64) (b:Fp) (t:L7):Bool :=
 let c0:=rmH ai b.l0 t.t0 0
 let c1:=rmH ai b.l1 t.t1 c0
 let c2:=rmH ai b.l2 t.t2 c1
 let c3:=rmH ai b.l3 t.t3 c2
 let c4:=rmH ai b.l4 t.t4 c3
 let c5:=rmH ai b.l5 t.t5 c4
 bw t.t6 c5 false
def iW (m:Fp) (inv:UInt64) (ai:UInt64) (b:Fp) (t:L7):L7 :=
 let c0:=rmH ai b.l0 t.t0 0
 let c1:=rmH ai b.l1 t.t1 c0
 let c2:=rmH ai b.l2 t.t2 c1
 let c3:=rmH ai b.l3 t.t3 c2
 let c4:=rmH ai b.l4 t.t4 c3
 let c5:=rmH ai b.l5 t.t5 c4
 Lq m inv (rmL ai b.l0 t.t0 0) (rmL ai b.l1 t.t1 c0) (rmL ai b.l2 t.t2 c1) (rmL ai b.l3 t.t3 c2) (rmL ai b.l4 t.t4 c3) (rmL ai b.l5 t.t5 c4) (dm t.t6 c5 false) (bw t.t6 c5 false)
noncomputable abbrev montC:List Code:=flat (ad Try.f95)
noncomputable abbrev jA:Code:=aG Try.f95 1
noncomputable abbrev lR (bF:Fp->Fp->Bool):Env:=En [(147,K2 kU64.arg kU64.arg (kU64.rs2 kU64).res fun x y=>(dY x y,x*y)),(145,K3x dm bw),(56,K2 aS aS oB.res bF),(146,OR)]
theorem II:EnvOk (lR b6):=aw (.cons mZ (.cons fM (.cons zK (.cons qr .nil))))
def slR (i n:Nat):AV := .one (.c (.slc i 0 n 1 (.of 0) true))
def mSt (a b m:Fp) (inv:UInt64) (k:Nat) (t:List Cell):St :=
 ax 222 [(0,slR 0 6),(1,slR 1 6),(2,slR 2 6),(7,KA 6),(8,vU inv),(10,slR 3 8),(11,KA k)] [.live ⟨false,0,1,.row (Row.cs a),false⟩,.live ⟨false,0,1,.row (Row.cs b),false⟩,.live ⟨false,0,1,.row (Row.cs m),false⟩,.live ⟨true,22,1,.row t,false⟩]
def iY:X->Option (List Nat × List Nat):=same [0,1,2,7,8,10,11] [0,1,2,3]
def fe (t:L7) (h:Bool):List Cell:=t.cs ++ [.bit h]
def Kr (m x:UInt64):UInt64:=x*(2-m*x)
def ba (m:UInt64):UInt64:=0-Kr m (Kr m (Kr m (Kr m (Kr m (Kr m m)))))
set_option maxRecDepth 100000
theorem Bc (bF:Fp->Fp->Bool) (a b m:Fp):dw (lR bF) 300 (montC.take 8) (af Try.f95 [iS.av 0 a,iS.av 1 b,iS.av 2 m] (iS.hes a++iS.hes b++iS.hes m)) [0,1,2,7,8,10,11] [0,1,2,3] = .leaf (mSt a b m (ba m.l0) 0 (dS 8)):=by kernel_rfl
theorem xH (bF:Fp->Fp->Bool) (a b m:Fp) (inv:UInt64):aM (lR bF) 300 jA (mSt a b m inv 0 (dS 8)) iY = .leaf (.normal,mSt a b m inv 1 (fe (iW m inv a.l0 b ⟨0,0,0,0,0,0,0⟩) (kD a.l0 b ⟨0,0,0,0,0,0,0⟩))):=by kernel_rfl
theorem xG (bF:Fp->Fp->Bool) (a b m:Fp) (inv:UInt64) (t:L7) (h:Bool):aM (lR bF) 300 jA (mSt a b m inv 1 (fe t h)) iY = .leaf (.normal,mSt a b m inv 2 (fe (iW m inv a.l1 b t) (kD a.l1 b t))):=by kernel_rfl
theorem xF (bF:Fp->Fp->Bool) (a b m:Fp) (inv:UInt64) (t:L7) (h:Bool):aM (lR bF) 300 jA (mSt a b m inv 2 (fe t h)) iY = .leaf (.normal,mSt a b m inv 3 (fe (iW m inv a.l2 b t) (kD a.l2 b t))):=by kernel_rfl
theorem xE (bF:Fp->Fp->Bool) (a b m:Fp) (inv:UInt64) (t:L7) (h:Bool):aM (lR bF) 300 jA (mSt a b m inv 3 (fe t h)) iY = .leaf (.normal,mSt a b m inv 4 (fe (iW m inv a.l3 b t) (kD a.l3 b t))):=by kernel_rfl
theorem xD (bF:Fp->Fp->Bool) (a b m:Fp) (inv:UInt64) (t:L7) (h:Bool):aM (lR bF) 300 jA (mSt a b m inv 4 (fe t h)) iY = .leaf (.normal,mSt a b m inv 5 (fe (iW m inv a.l4 b t) (kD a.l4 b t))):=by kernel_rfl
theorem xC (bF:Fp->Fp->Bool) (a b m:Fp) (inv:UInt64) (t:L7) (h:Bool):aM (lR bF) 300 jA (mSt a b m inv 5 (fe t h)) iY = .leaf (.normal,mSt a b m inv 6 (fe (iW m inv a.l5 b t) (kD a.l5 b t))):=by kernel_rfl
theorem IF (bF:Fp->Fp->Bool) (a b m:Fp) (inv:UInt64) (t:L7) (h:Bool):aM (lR bF) 300 jA (mSt a b m inv 6 (fe t h)) iY = .leaf (.exit 2,mSt a b m inv 6 (fe t h)):=by kernel_rfl
def Lc (m:Fp):Prop:=0<8/\6<=8/\8<4294967296
def Ou (bF:Fp->Fp->Bool) (m:Fp) (t:L7):Tree (Option (Fp × Pr)) :=
 .br (t.t6 != 0) (.vc (Lc m) (lfF (cz t.low m).1)) (.br (!(bF t.low m)) (.vc (Lc m) (lfF (cz t.low m).1)) (lfF t.low))
theorem IG (bF:Fp->Fp->Bool) (a b m:Fp) (inv:UInt64) (t:L7) (h:Bool):cD (lR bF) oSu 300 Try.f95 (montC.drop 9) (mSt a b m inv 6 (fe t h))=Ou bF m t:=by kernel_rfl
def my (m:Fp) (t:L7):Fp:=match t.t6 != 0 with
 | true=>(cz t.low m).1
 | false=>match !(b6 t.low m) with
  | true=>(cz t.low m).1
  | false=>t.low
def wQ (a b m:Fp):L7:=iW m (ba m.l0) a.l0 b ⟨0,0,0,0,0,0,0⟩
def wP (a b m:Fp):L7:=iW m (ba m.l0) a.l1 b (wQ a b m)
def wO (a b m:Fp):L7:=iW m (ba m.l0) a.l2 b (wP a b m)
def wN (a b m:Fp):L7:=iW m (ba m.l0) a.l3 b (wO a b m)
def wM (a b m:Fp):L7:=iW m (ba m.l0) a.l4 b (wN a b m)
def qV (a b m:Fp):L7:=iW m (ba m.l0) a.l5 b (wM a b m)
def tB (a b m:Fp):Fp:=my m (qV a b m)
theorem E7 (m:Fp) (t:L7):(Ou b6 m t).sat fun q => ∃ p,q=some (my m t,p)/\p.holds:=by
 have w:Lc m:=⟨by decide,by decide,by decide⟩
 refine ⟨fun h=>⟨w,fun _ => ?_⟩,fun h=>⟨fun h2=>⟨w,fun _ => ?_⟩,fun h2 => ?_⟩⟩
 ·exact aV (by unfold my;rw [h])
 ·exact aV (by unfold my;rw [h,h2])
 ·exact aV (by unfold my;rw [h,h2])
def mAt (a b m:Fp) (q:Fin 7 × Bool):St :=
 match q.1 with
 | 0=>mSt a b m (ba m.l0) 0 (dS 8)
 | 1=>mSt a b m (ba m.l0) 1 (fe (wQ a b m) q.2)
 | 2=>mSt a b m (ba m.l0) 2 (fe (wP a b m) q.2)
 | 3=>mSt a b m (ba m.l0) 3 (fe (wO a b m) q.2)
 | 4=>mSt a b m (ba m.l0) 4 (fe (wN a b m) q.2)
 | 5=>mSt a b m (ba m.l0) 5 (fe (wM a b m) q.2)
 | 6=>mSt a b m (ba m.l0) 6 (fe (qV a b m) q.2)
theorem qT:montC.drop 8 = .block 2 (.loop jA) :: montC.drop 9:=by kernel_rfl
theorem M9:CallOk Try.prog 95 (K3 aS aS aS rSu tB) :=
 G3 (E:=lR b6) Try.func95 (c:=ad Try.f95) (by kernel_rfl) (ae Try.func95 (by kernel_rfl) (by kernel_rfl)) iS iS iS oSu tB fun a b m _ _ _=>by
  have hE:=II
  refine DoesL.stageTo hE 300 8 _ _ (Bc b6 a b m) ?_
  refine DoesL.blockLoop qT (mAt a b m) (fun q=>6-q.1.1) (0,false) fun q => ?_
  obtain ⟨k,h⟩:=q
  match k with
  | 0=>exact Does.round hE 300 iY (xH b6 a b m _) ⟨(1,kD a.l0 b ⟨0,0,0,0,0,0,0⟩),by show 6-1<6-0;decide,by simp only [mAt,wQ]⟩
  | 1=>exact Does.round hE 300 iY (xG b6 a b m _ (wQ a b m) h) ⟨(2,kD a.l1 b (wQ a b m)),by show 6-2<6-1;decide,by simp only [mAt,wP]⟩
  | 2=>exact Does.round hE 300 iY (xF b6 a b m _ (wP a b m) h) ⟨(3,kD a.l2 b (wP a b m)),by show 6-3<6-2;decide,by simp only [mAt,wO]⟩
  | 3=>exact Does.round hE 300 iY (xE b6 a b m _ (wO a b m) h) ⟨(4,kD a.l3 b (wO a b m)),by show 6-4<6-3;decide,by simp only [mAt,wN]⟩
  | 4=>exact Does.round hE 300 iY (xD b6 a b m _ (wN a b m) h) ⟨(5,kD a.l4 b (wN a b m)),by show 6-5<6-4;decide,by simp only [mAt,wM]⟩
  | 5=>exact Does.round hE 300 iY (xC b6 a b m _ (wM a b m) h) ⟨(6,kD a.l5 b (wM a b m)),by show 6-6<6-5;decide,by simp only [mAt,qV]⟩
  | 6=>exact Does.round hE 300 iY (IF b6 a b m _ (qV a b m) h) ⟨rfl,DoesL.ends hE 300 (IG b6 a b m _ (qV a b m) h) (E7 m (qV a b m))⟩
theorem ID (pF:Fp->Fp->Fp->Fp) (m a b:Fp):ag (Ens [(95,K3s pF),(133,K0 rSu m),(135,Kfp ofL)] [95,133]) rF 100 Try.f74 [vF a,vF b] = .leaf (some (pF (pF a b m) sqLimbs m)):=by kernel_rfl
def cU (a b:Fp):Fp:=tB (tB a b pLimbs) sqLimbs pLimbs
theorem qR:CallOk Try.prog 74 (Kff cU):=P2 (bP (.cons M9 (.cons qB (.cons B2 .nil)))) Try.func74 (ae Try.func74 (by kernel_rfl) (by kernel_rfl)) 100 (aa Fp) (aa Fp) rF cU (ID tB pLimbs) (fun _ _=>Tree.sat_leaf (by simp only [cU]))
end Go.Proofs.Ytibfppbffdedoaa
namespace Go.Proofs.Ytibfppbffdedoaa
open Go.RowKit
abbrev Sg (F:UInt64->Fp):ay:=K1 kU64.arg rF.res F
noncomputable abbrev powPC:List Code:=flat (ad Try.f130)
noncomputable abbrev Ol:Code:=aG Try.f130 0
noncomputable abbrev AQ (oF':UInt64->Fp) (mF:Fp->Fp->Fp) (bF:List UInt64->Nat->UInt64):Env:=En [(71,Sg oF'),(74,Kff mF),(167,K2 aL Cu kU64.rs.res bF)]
theorem HZ:EnvOk (AQ ofF cU zJ):=aw (.cons B9 (.cons qR (.cons QB .nil)))
def wG (e:List UInt64) (a x:Fp) (z:Int):St:=ax 27 [(1,inV 0 e),(2,cn 1),(4,cn 2),(5,cn 3),(6,vI z)] [iu eU64 e,own 28 (Row.cs a),own 28 (dS 6),own 28 (Row.cs x)]
theorem AO (oF':UInt64->Fp) (mF:Fp->Fp->Fp) (bF:List UInt64->Nat->UInt64) (a:Fp) (e:List UInt64):dw (AQ oF' mF bF) 100 (powPC.take 3) (af Try.f130 [vF a,iL.av 0 e] [iu eU64 e]) [1,2,4,5,6] [0,1,2,3]=(.vc (0+e.length*1<=(List.map EK.u64.cell e).length/\0<1) (.leaf (ax 27 [(1,.one (.c (.slc 0 0 (e.length) 1 (.of 0) false))),(2,.one (.c (.ptr 1 0))),(4,.one (.c (.ptr 2 0))),(5,.one (.c (.ptr 3 0))),(6,.one (.c (.int .i64 (IntKind.i64.wrap (IntKind.i64.wrap (64*(↑e.length:Int))-1)))))] [.live ⟨false,0,1,(.elts .u64 (e:List UInt64)),false⟩,.live ⟨true,28,0,(.row (Row.cs (a:Fp))),false⟩,.live ⟨true,28,0,(.row [(.lit .u64 0),(.lit .u64 0),(.lit .u64 0),(.lit .u64 0),(.lit .u64 0),(.lit .u64 0)]),false⟩,.live ⟨true,28,0,(.row (Row.cs (oF' (UInt64.ofNat 1):Fp))),false⟩]))):=by kernel_rfl
theorem AP (oF':UInt64->Fp) (mF:Fp->Fp->Fp) (bF:List UInt64->Nat->UInt64) (a x:Fp) (e:List UInt64) (z:Int):letI za':=(Row.cs (a:Fp));letI zb':=IntKind.i64.wrap (z-1);aM (AQ oF' mF bF) 100 Ol (wG e a x z) (same [1,2,4,5,6] [0,1,2,3])=(.br (decide (z >= 0)) (.vc ((0+e.length<=e.length/\e.length<1125899906842624/\0=0/\1=1)/\0<=z/\z<9223372036854775808) (.br (bF (List.take e.length (List.drop 0 e)) z.toNat==UInt64.ofNat 1) (.leaf ((.normal,ax 27 [(1,.one (.c (.slc 0 0 (e.length) 1 (.of 0) false))),(2,.one (.c (.ptr 1 0))),(4,.one (.c (.ptr 2 0))),(5,.one (.c (.ptr 3 0))),(6,.one (.c (.int .i64 zb')))] [.live ⟨false,0,1,(.elts .u64 (e:List UInt64)),false⟩,.live ⟨true,28,0,(.row za'),false⟩,.live ⟨true,28,0,(.row [(.lit .u64 0),(.lit .u64 0),(.lit .u64 0),(.lit .u64 0),(.lit .u64 0),(.lit .u64 0)]),false⟩,.live ⟨true,28,0,(.row (Row.cs (mF (mF x x) a:Fp))),false⟩]))) (.leaf ((.normal,ax 27 [(1,.one (.c (.slc 0 0 (e.length) 1 (.of 0) false))),(2,.one (.c (.ptr 1 0))),(4,.one (.c (.ptr 2 0))),(5,.one (.c (.ptr 3 0))),(6,.one (.c (.int .i64 zb')))] [.live ⟨false,0,1,(.elts .u64 (e:List UInt64)),false⟩,.live ⟨true,28,0,(.row za'),false⟩,.live ⟨true,28,0,(.row [(.lit .u64 0),(.lit .u64 0),(.lit .u64 0),(.lit .u64 0),(.lit .u64 0),(.lit .u64 0)]),false⟩,.live ⟨true,28,0,(.row (Row.cs (mF x x:Fp))),false⟩]))))) (.leaf ((.exit 0,ax 27 [(1,.one (.c (.slc 0 0 (e.length) 1 (.of 0) false))),(2,.one (.c (.ptr 1 0))),(4,.one (.c (.ptr 2 0))),(5,.one (.c (.ptr 3 0))),(6,.one (.c (.int .i64 (z))))] [.live ⟨false,0,1,(.elts .u64 (e:List UInt64)),false⟩,.live ⟨true,28,0,(.row za'),false⟩,.live ⟨true,28,0,(.row [(.lit .u64 0),(.lit .u64 0),(.lit .u64 0),(.lit .u64 0),(.lit .u64 0),(.lit .u64 0)]),false⟩,.live ⟨true,28,0,(.row (Row.cs (x:Fp))),false⟩])))):=by kernel_rfl
theorem HX (oF':UInt64->Fp) (mF:Fp->Fp->Fp) (bF:List UInt64->Nat->UInt64) (a x:Fp) (e:List UInt64) (z:Int):cD (AQ oF' mF bF) oF 100 Try.f130 (powPC.drop 4) (wG e a x z) =
 (.leaf (some ((x,.t)))):=by kernel_rfl
def la (a:Fp) (e:List UInt64):Nat->Fp->Fp
 | 0,x=>x
 | n+1,x=>la a e n (match dd e n with | true=>cU (cU x x) a | false=>cU x x)
def qD (a:Fp) (e:List UInt64):Fp:=la a e (64*e.length) (ofF 1)
abbrev QG (a:Fp) (e:List UInt64):Type := { q:Int × Fp // -1<=q.1/\q.1<64*e.length/\la a e (q.1+1).toNat q.2=qD a e }
theorem MH:CallOk Try.prog 130 (K2 (aa Fp).arg aL rF.res qD) :=
 G2 (E:=AQ ofF cU zJ) Try.func130 (c:=ad Try.f130) (by kernel_rfl) (ae Try.func130 (by kernel_rfl) (by kernel_rfl)) (aa Fp).inp iL oF qD fun a e _ he=>by
  have he:e.length<1125899906842624:=he
  have hE:=HZ
  refine DoesL.stageE hE 100 3 _ _ (AO ofF cU zJ a e) ⟨lI e,fun _ => ?_⟩
  have hw:IntKind.i64.wrap (IntKind.i64.wrap (64*(e.length:Int))-1)=64*(e.length:Int)-1:=by rw [IntWalk.i64_in (64*(e.length:Int)) (by omega),IntWalk.i64_in _ (by omega)]
  rw [hw]
  refine DoesL.blockLoop (B:=Ol) (rest:=powPC.drop 4) (id:=0) (by kernel_rfl) (fun q:QG a e=>wG e a q.1.2 q.1.1) (fun q=>(q.1.1+1).toNat) ⟨(64*(e.length:Int)-1,ofF 1),by simp only [];omega,by simp only [];omega,by
   simp only []
   rw [show (64*(e.length:Int)-1+1).toNat=64*e.length by omega]
   rfl⟩ fun q => ?_
  obtain ⟨⟨z,x⟩,h0,h1,h2⟩:=q
  simp only [] at h0 h1 h2
  show Does _ _ (wG e a x z) _
  refine Does.round hE 100 _ (AP ofF cU zJ a x e z) ⟨fun h => ?_,fun h => ?_⟩
  ·simp only [ge_iff_le,decide_eq_true_eq] at h
   obtain ⟨n,rfl⟩ : ∃ n:Nat,z=(n:Int):=⟨z.toNat,by omega⟩
   rw [ki n (by omega),whole,Int.toNat_natCast]
   rw [show ((n:Int)+1).toNat=n+1 by omega] at h2
   simp only [la] at h2
   have hb:(zJ e n==UInt64.ofNat 1)=dd e n:=by
    unfold zJ
    cases dd e n <;> rfl
   rw [hb]
   refine ⟨⟨Kl he,by omega,by omega⟩,fun _=>⟨fun h3 => ?_,fun h3 => ?_⟩⟩
   all_goals
    have hn:((n:Int)-1+1).toNat=n:=by omega
    rw [h3] at h2
    simp only [] at h2
   ·refine ⟨⟨((n:Int)-1,cU (cU x x) a),?_,?_,?_⟩,?_,?_⟩
    ·show -1<=(n:Int)-1;omega
    ·show (n:Int)-1<64*e.length;omega
    ·simpa only [hn] using h2
    ·show ((n:Int)-1+1).toNat<((n:Int)+1).toNat;omega
    ·kernel_rfl
   ·refine ⟨⟨((n:Int)-1,cU x x),?_,?_,?_⟩,?_,?_⟩
    ·show -1<=(n:Int)-1;omega
    ·show (n:Int)-1<64*e.length;omega
    ·simpa only [hn] using h2
    ·show ((n:Int)-1+1).toNat<((n:Int)+1).toNat;omega
    ·kernel_rfl
  ·simp only [ge_iff_le,decide_eq_false_iff_not] at h
   obtain rfl:z = -1:=by omega
   exact ⟨rfl,DoesL.ends hE 100 (HX ofF cU zJ a x e (-1)) (aV (by
    rw [show ((-1:Int)+1).toNat=0 from rfl] at h2
    simp only [la] at h2
    exact h2))⟩
abbrev RE (F:Fp->List UInt64->Fp):ay:=K2 (aa Fp).arg aL rF.res F
noncomputable abbrev Oz (m:Fp) (lF:List UInt64->List UInt64->List UInt64 × Int) (pF:Fp->List UInt64->Fp):Env:=Ens [(133,K0 rSu m),(163,K2 aLt aLt rLI lF),(130,RE pF)] [133,163]
theorem I7 (m:Fp) (lF:List UInt64->List UInt64->List UInt64 × Int) (pF:Fp->List UInt64->Fp) (a:Fp):letI za':=lF [m.l0,m.l1,m.l2,m.l3,m.l4,m.l5] [UInt64.ofNat 2];ag (Oz m lF pF) rFI 100 Try.f120 [vF a]=(.br (jl (a) ({ l0:=UInt64.ofNat 0,l1:=UInt64.ofNat 0,l2:=UInt64.ofNat 0,l3:=UInt64.ofNat 0,l4:=UInt64.ofNat 0,l5:=UInt64.ofNat 0 })) (.leaf (some ((a,7)))) (.vc (Ob [m.l0,m.l1,m.l2,m.l3,m.l4,m.l5]/\Ob [UInt64.ofNat 2]) (.vc (0+za'.fst.length<=za'.fst.length/\za'.fst.length<1125899906842624/\0=0/\1=1) (.leaf (some ((pF a (List.take za'.fst.length (List.drop 0 za'.fst)),0))))))):=by kernel_rfl
theorem Js (xs:List UInt64):(eI xs).length<=xs.length:=by unfold eI;rw [List.length_take];omega
theorem Ep (xs ys:List UInt64):(iB xs ys).1.length<=max xs.length ys.length:=by
 unfold iB
 split
 ·simp
 ·have h:=Js (js xs ys (max xs.length ys.length)).1
  rw [nS] at h
  exact h
theorem EM:pLimbs.list.length=6:=rfl
def pm2:List UInt64:=(iB pLimbs.list [2]).1
def oR (a:Fp):Fp × Int:=match jl a zeroFp with | true=>(a,7) | false=>(qD a pm2,0)
theorem MI:pm2.length<=6:=Ep pLimbs.list [2]
theorem Nv:CallOk Try.prog 120 (K1 (aa Fp).arg rFI.res oR) :=
 P1 (E:=Oz pLimbs iB qD) (bP (.cons qB (.cons HC (.cons MH .nil)))) Try.func120 (ae Try.func120 (by kernel_rfl) (by kernel_rfl)) 100 (aa Fp) rFI oR (I7 pLimbs iB qD)
  (fun a=>by
   refine ⟨fun h => ?_,fun h=>⟨⟨?_,?_⟩,fun _=>⟨Kl ?_,fun _ => ?_⟩⟩⟩
   ·have h:jl a zeroFp=true:=h
    exact congrArg some (by unfold oR;rw [h])
   ·show pLimbs.list.length<_;rw [EM];decide
   ·show 1<4294967296;decide
   ·exact Nat.lt_of_le_of_lt MI (by decide)
   ·have h:jl a zeroFp=false:=h
    rw [whole]
    exact congrArg some (by unfold oR;rw [h];rfl))
end Go.Proofs.Ytibfppbffdedoaa
namespace Go.Proofs.Ytibfppbffdedoaa
open Go.RowKit
section
def rLimbs:Fr:=⟨0xffffffff00000001,0x53bda402fffe5bfe,0x3339d80809a1d805,0x73eda753299d7d48⟩
def sq4Limbs:Fr:=⟨0xc999e990f3f29c6d,0x2b6cedcb87925c23,0x05d314967254398f,0x0748d9d99f59ff11⟩
def zeroFr:Fr:=⟨0,0,0,0⟩
def oneFr:Fr:=⟨1,0,0,0⟩
abbrev r4:Rs Fr:=(aa Fr).rs
abbrev v4 (a:Fr):AV := .one ((aa Fr).av a)
abbrev Kr1 (F:Fr->Fr):ay:=K1 (aa Fr).arg r4.res F
abbrev Kr2 (F:Fr->Fr->Fr):ay:=K2 (aa Fr).arg (aa Fr).arg r4.res F
abbrev Krb (F:Fr->Bool):ay:=K1 (aa Fr).arg kBool.rs.res F
def Fr.list (a:Fr):List UInt64 := [a.l0,a.l1,a.l2,a.l3]
def fJ (a b:Fr):Bool:=a.l0==b.l0 && (a.l1==b.l1 && (a.l2==b.l2 && (a.l3==b.l3 && true)))
theorem j7 (a b:Fr):fJ a b=true <-> a=b:=by
 cases a;cases b
 simp [fJ]
abbrev oS4 (ty:TypeId):Out Fr:=Kh Fr ty 4 (fun _=>rfl)
abbrev iS4:Inp Fr:=KB Fr 4 (fun _=>rfl)
abbrev aS4:Arg Fr:=Ct Fr
abbrev rS4 (ty:TypeId):Res Fr:=B4 Fr ty 4 (fun _=>rfl)
theorem HH:cD (En []) (oS4 22) 100 Try.f57 (flat (ad Try.f57)) (af Try.f57 [] []) = .leaf (some (rLimbs,.t)):=by kernel_rfl
theorem qA:CallOk Try.prog 57 (K0 (rS4 22) rLimbs) :=
 G0 (E:=En []) Try.func57 (c:=ad Try.f57) (by kernel_rfl) (ae Try.func57 (by kernel_rfl) (by kernel_rfl)) (oS4 22) rLimbs (DoesL.ends (aw .nil) 100 HH ⟨.t,rfl,trivial⟩)
theorem xK:CallOk Try.prog 136 (K0 r4.res rLimbs):=P0 BW Try.func136 (ae Try.func136 (by kernel_rfl) (by kernel_rfl)) 100 r4 rLimbs (T := .leaf (some rLimbs)) (by kernel_rfl) rfl
def bg (a m:Fr):Bool :=
 match a.l3 != m.l3 with
 | true=>decide (a.l3<m.l3)
 | false=>match a.l2 != m.l2 with
  | true=>decide (a.l2<m.l2)
  | false=>match a.l1 != m.l1 with
   | true=>decide (a.l1<m.l1)
   | false=>match a.l0 != m.l0 with
    | true=>decide (a.l0<m.l0)
    | false=>false
def DE (a m:Fr):Tree (Option (Bool × Pr)) :=
 .br (a.l3 != m.l3) (lfB (decide (a.l3<m.l3))) (.br (a.l2 != m.l2) (lfB (decide (a.l2<m.l2))) (.br (a.l1 != m.l1) (lfB (decide (a.l1<m.l1))) (.br (a.l0 != m.l0) (lfB (decide (a.l0<m.l0))) (lfB false))))
theorem BN (a m:Fr):cD (En []) oB 100 Try.f56 (flat (ad Try.f56)) (af Try.f56 [iS4.av 0 a,iS4.av 1 m] (iS4.hes a++iS4.hes m))=DE a m:=by kernel_rfl
theorem yc (a m:Fr):(DE a m).sat fun q => ∃ p,q=some (bg a m,p)/\p.holds:=by
 unfold bg
 refine ⟨fun h => ?_,fun h => ?_⟩ <;> rw [h]
 ·exact ⟨.t,rfl,trivial⟩
 refine ⟨fun h => ?_,fun h => ?_⟩ <;> rw [h]
 ·exact ⟨.t,rfl,trivial⟩
 refine ⟨fun h => ?_,fun h => ?_⟩ <;> rw [h]
 ·exact ⟨.t,rfl,trivial⟩
 refine ⟨fun h => ?_,fun h => ?_⟩ <;> rw [h]
 ·exact ⟨.t,rfl,trivial⟩
 ·exact ⟨.t,rfl,trivial⟩
theorem oa:CallOk Try.prog 56 (K2 aS4 aS4 oB.res bg) :=
 G2 (E:=En []) Try.func56 (c:=ad Try.f56) (by kernel_rfl) (ae Try.func56 (by kernel_rfl) (by kernel_rfl)) iS4 iS4 oB bg fun a m _ _=>DoesL.ends (aw .nil) 100 (BN a m) (yc a m)
def cm (a:Fr):Bool:=bg a rLimbs
theorem IQ (bF:Fr->Fr->Bool) (m a:Fr):ag (Ens [(56,K2 aS4 aS4 oB.res bF),(57,K0 (rS4 22) m)] [57]) kBool.rs 100 Try.f11 [v4 a] = .leaf (some (bF a m)):=by kernel_rfl
theorem Di:CallOk Try.prog 11 (Krb cm):=P1 (bP (.cons oa (.cons qA .nil))) Try.func11 (ae Try.func11 (by kernel_rfl) (by kernel_rfl)) 100 (aa Fr) kBool.rs cm (IQ bg rLimbs) (fun _=>Tree.sat_leaf (by simp only [cm]))
def MX (xs:List UInt64):Fr:=⟨atF xs 0,atF xs 1,atF xs 2,atF xs 3⟩
abbrev oF4:Out Fr:=r4.out
theorem Mj (xs:List UInt64):letI za':=List.take xs.length (List.drop 0 xs);letI zb':=UInt64.ofNat 0;cD (En []) oF4 100 Try.f93 (flat (ad Try.f93)) (af Try.f93 [iL.av 0 xs] [iu eU64 xs])=(.vc (0+xs.length<=xs.length) (.leaf (some (({ l0:=gp (Nat.blt 0 xs.length) (za'.getD 0 0) zb',l1:=gp (Nat.blt 1 xs.length) (za'.getD 1 0) zb',l2:=gp (Nat.blt 2 xs.length) (za'.getD 2 0) zb',l3:=gp (Nat.blt 3 xs.length) (za'.getD 3 0) zb' },.t))))):=by kernel_rfl
theorem B1:CallOk Try.prog 93 (K1 aL oF4.res MX) :=
 G1 (E:=En []) Try.func93 (c:=ad Try.f93) (by kernel_rfl) (ae Try.func93 (by kernel_rfl) (by kernel_rfl)) iL oF4 MX fun xs hx=>by
  refine DoesL.ends (aw .nil) 100 (Mj xs) ⟨by omega,fun _=>aV ?_⟩
  rw [fG,fG,fG,fG]
  rfl
def bn (a b:Fr):Fr × Bool :=
 let c0:=bw a.l0 b.l0 false
 let c1:=bw a.l1 b.l1 c0
 let c2:=bw a.l2 b.l2 c1
 (⟨dm a.l0 b.l0 false,dm a.l1 b.l1 c0,dm a.l2 b.l2 c1,dm a.l3 b.l3 c2⟩,bw a.l3 b.l3 c2)
def bB (a b:Fr):Fr × Bool :=
 let c0:=cB a.l0 b.l0 false
 let c1:=cB a.l1 b.l1 c0
 let c2:=cB a.l2 b.l2 c1
 (⟨dJ a.l0 b.l0 false,dJ a.l1 b.l1 c0,dJ a.l2 b.l2 c1,dJ a.l3 b.l3 c2⟩,cB a.l3 b.l3 c2)
abbrev GJ:Res Fr:=rS4 22
abbrev Kq:Out Fr:=oS4 22
def four (a:Fr):List UInt64 := [a.l0,a.l1,a.l2,a.l3]
def Le (a m:Fr):Prop:=0<(four a).length/\(four m).length<=(four a).length/\(four a).length<4294967296
theorem yj (a m:Fr):Le a m:=⟨Nat.lt_of_lt_of_le (by decide:0<4) (Nat.le_refl 4),Nat.le_refl 4,(by decide:4<4294967296)⟩
noncomputable abbrev B6 (bF:Fr->Fr->Bool):Env:=En [(145,K3x dm bw),(56,K2 aS4 aS4 oB.res bF),(146,OR)]
theorem EI:EnvOk (B6 bg):=aw (.cons fM (.cons oa (.cons qr .nil)))
def lfR (a:Fr):Tree (Option (Fr × Pr)) := .leaf (some (a,.t))
def J5 (bF:Fr->Fr->Bool) (a b m:Fr):Tree (Option (Fr × Pr)) :=
 .br (b2u (bn a b).2==1) (.vc (Le (bn a b).1 m) (lfR (bB (bn a b).1 m).1)) (.br (!(bF (bn a b).1 m)) (.vc (Le (bn a b).1 m) (lfR (bB (bn a b).1 m).1)) (lfR (bn a b).1))
theorem EH (bF:Fr->Fr->Bool) (a b m:Fr):cD (B6 bF) Kq 300 Try.f94 (flat (ad Try.f94)) (af Try.f94 [iS4.av 0 a,iS4.av 1 b,iS4.av 2 m] (iS4.hes a++iS4.hes b++iS4.hes m))=J5 bF a b m:=by kernel_rfl
def jv (a b m:Fr):Fr:=match b2u (bn a b).2==1 with
 | true=>(bB (bn a b).1 m).1
 | false=>match !(bg (bn a b).1 m) with
  | true=>(bB (bn a b).1 m).1
  | false=>(bn a b).1
theorem AW (a b m:Fr):(J5 bg a b m).sat fun q => ∃ p,q=some (jv a b m,p)/\p.holds:=by
 refine ⟨fun h=>⟨yj _ _,fun _ => ?_⟩,fun h=>⟨fun h2=>⟨yj _ _,fun _ => ?_⟩,fun h2 => ?_⟩⟩
 ·exact aV (by unfold jv;rw [h])
 ·exact aV (by unfold jv;rw [h,h2])
 ·exact aV (by unfold jv;rw [h,h2])
theorem H8:CallOk Try.prog 94 (K3 aS4 aS4 aS4 GJ jv) :=
 G3 (E:=B6 bg) Try.func94 (c:=ad Try.f94) (by kernel_rfl) (ae Try.func94 (by kernel_rfl) (by kernel_rfl)) iS4 iS4 iS4 Kq jv fun a b m _ _ _=>DoesL.ends EI 300 (EH bg a b m) (AW a b m)
def Na (a b m:Fr):Tree (Option (Fr × Pr)) := .br (b2u (bB a b).2==1) (lfR (bn (bB a b).1 m).1) (lfR (bB a b).1)
theorem Bh (a b m:Fr):cD s9 Kq 300 Try.f165 (flat (ad Try.f165)) (af Try.f165 [iS4.av 0 a,iS4.av 1 b,iS4.av 2 m] (iS4.hes a++iS4.hes b++iS4.hes m))=Na a b m:=by kernel_rfl
def ic (a b m:Fr):Fr:=match b2u (bB a b).2==1 with
 | true=>(bn (bB a b).1 m).1
 | false=>(bB a b).1
theorem Ff:CallOk Try.prog 165 (K3 aS4 aS4 aS4 GJ ic) :=
 G3 (E:=s9) Try.func165 (c:=ad Try.f165) (by kernel_rfl) (ae Try.func165 (by kernel_rfl) (by kernel_rfl)) iS4 iS4 iS4 Kq ic fun a b m _ _ _=>DoesL.ends uk 300 (Bh a b m)
  ⟨fun h=>aV (by unfold ic;rw [h]),fun h=>aV (by unfold ic;rw [h])⟩
abbrev Q4 (F:Fr->Fr->Fr->Fr):ay:=K3 aS4 aS4 aS4 GJ F
abbrev Kfr (F:List UInt64->Fr):ay:=K1 aL oF4.res F
theorem JN (pF:Fr->Fr->Fr->Fr) (m a b:Fr):ag (Ens [(94,Q4 pF),(57,K0 GJ m),(93,Kfr MX)] [94,57]) r4 100 Try.f39 [v4 a,v4 b] = .leaf (some (pF a b m)):=by kernel_rfl
def df (a b:Fr):Fr:=jv a b rLimbs
theorem DL:CallOk Try.prog 39 (Kr2 df):=P2 (bP (.cons H8 (.cons qA (.cons B1 .nil)))) Try.func39 (ae Try.func39 (by kernel_rfl) (by kernel_rfl)) 100 (aa Fr) (aa Fr) r4 df (JN jv rLimbs) (fun _ _=>Tree.sat_leaf (by simp only [df]))
theorem Hb (pF:Fr->Fr->Fr->Fr) (m a b:Fr):ag (Ens [(165,Q4 pF),(57,K0 GJ m),(93,Kfr MX)] [165,57]) r4 100 Try.f158 [v4 a,v4 b] = .leaf (some (pF a b m)):=by kernel_rfl
def mJ (a b:Fr):Fr:=ic a b rLimbs
theorem L1:CallOk Try.prog 158 (Kr2 mJ):=P2 (bP (.cons Ff (.cons qA (.cons B1 .nil)))) Try.func158 (ae Try.func158 (by kernel_rfl) (by kernel_rfl)) 100 (aa Fr) (aa Fr) r4 mJ (Hb ic rLimbs) (fun _ _=>Tree.sat_leaf (by simp only [mJ]))
theorem Iu (sF:Fr->Fr->Fr) (a:Fr):ag (En [(158,Kr2 sF)]) r4 100 Try.f112 [v4 a] = .leaf (some (sF zeroFr a)):=by kernel_rfl
def mV (a:Fr):Fr:=mJ zeroFr a
theorem M2:CallOk Try.prog 112 (Kr1 mV):=P1 (aw (.cons L1 .nil)) Try.func112 (ae Try.func112 (by kernel_rfl) (by kernel_rfl)) 100 (aa Fr) r4 mV (Iu mJ) (fun _=>Tree.sat_leaf (by simp only [mV]))
structure L5 where
 t0:UInt64
 t1:UInt64
 t2:UInt64
 t3:UInt64
 t4:UInt64
def L5.low (t:L5):Fr:=⟨t.t0,t.t1,t.t2,t.t3⟩
def L5.cs (t:L5):List Cell := [.u64 t.t0,.u64 t.t1,.u64 t.t2,.u64 t.t3,.u64 t.t4]
def s8 (m:Fr) (inv:UInt64) (t0 t1 t2 t3 top:UInt64) (more:Bool):L5 :=
 let x:=t0*inv
 let d0:=dY x m.l0+b2u (bw t0 (x*m.l0) false)
 let d1:=rmH x m.l1 t1 d0
 let d2:=rmH x m.l2 t2 d1
 let d3:=rmH x m.l3 t3 d2
 ⟨rmL x m.l1 t1 d0,rmL x m.l2 t2 d1,rmL x m.l3 t3 d2,dm top d3 false,b2u more+b2u (bw top d3 false)⟩
def lm (ai:UInt64) (b:Fr) (t:L5):Bool :=
 let c0:=rmH ai b.l0 t.t0 0
 let c1:=rmH ai b.l1 t.t1 c0
 let c2:=rmH ai b.l2 t.t2 c1
 let c3:=rmH ai b.l3 t.t3 c2
 bw t.t4 c3 false
def di (m:Fr) (inv:UInt64) (ai:UInt64) (b:Fr) (t:L5):L5 :=
 let c0:=rmH ai b.l0 t.t0 0
 let c1:=rmH ai b.l1 t.t1 c0
 let c2:=rmH ai b.l2 t.t2 c1
 let c3:=rmH ai b.l3 t.t3 c2
 s8 m inv (rmL ai b.l0 t.t0 0) (rmL ai b.l1 t.t1 c0) (rmL ai b.l2 t.t2 c1) (rmL ai b.l3 t.t3 c2) (dm t.t4 c3 false) (bw t.t4 c3 false)
noncomputable abbrev jB (bF:Fr->Fr->Bool):Env:=En [(147,K2 kU64.arg kU64.arg (kU64.rs2 kU64).res fun x y=>(dY x y,x*y)),(145,K3x dm bw),(56,K2 aS4 aS4 oB.res bF),(146,OR)]
theorem Fc:EnvOk (jB bg):=aw (.cons mZ (.cons fM (.cons oa (.cons qr .nil))))
def nE (a b m:Fr) (inv:UInt64) (k:Nat) (t:List Cell):St :=
 ax 222 [(0,slR 0 4),(1,slR 1 4),(2,slR 2 4),(7,KA 4),(8,vU inv),(10,slR 3 6),(11,KA k)] [.live ⟨false,0,1,.row (Row.cs a),false⟩,.live ⟨false,0,1,.row (Row.cs b),false⟩,.live ⟨false,0,1,.row (Row.cs m),false⟩,.live ⟨true,22,1,.row t,false⟩]
def qk (t:L5) (h:Bool):List Cell:=t.cs ++ [.bit h]
set_option maxRecDepth 100000
theorem xI (bF:Fr->Fr->Bool) (a b m:Fr):dw (jB bF) 300 (montC.take 8) (af Try.f95 [iS4.av 0 a,iS4.av 1 b,iS4.av 2 m] (iS4.hes a++iS4.hes b++iS4.hes m)) [0,1,2,7,8,10,11] [0,1,2,3] = .leaf (nE a b m (ba m.l0) 0 (dS 6)):=by kernel_rfl
theorem u6 (bF:Fr->Fr->Bool) (a b m:Fr) (inv:UInt64):aM (jB bF) 300 jA (nE a b m inv 0 (dS 6)) iY = .leaf (.normal,nE a b m inv 1 (qk (di m inv a.l0 b ⟨0,0,0,0,0⟩) (lm a.l0 b ⟨0,0,0,0,0⟩))):=by kernel_rfl
theorem u5 (bF:Fr->Fr->Bool) (a b m:Fr) (inv:UInt64) (t:L5) (h:Bool):aM (jB bF) 300 jA (nE a b m inv 1 (qk t h)) iY = .leaf (.normal,nE a b m inv 2 (qk (di m inv a.l1 b t) (lm a.l1 b t))):=by kernel_rfl
theorem u4 (bF:Fr->Fr->Bool) (a b m:Fr) (inv:UInt64) (t:L5) (h:Bool):aM (jB bF) 300 jA (nE a b m inv 2 (qk t h)) iY = .leaf (.normal,nE a b m inv 3 (qk (di m inv a.l2 b t) (lm a.l2 b t))):=by kernel_rfl
theorem u3 (bF:Fr->Fr->Bool) (a b m:Fr) (inv:UInt64) (t:L5) (h:Bool):aM (jB bF) 300 jA (nE a b m inv 3 (qk t h)) iY = .leaf (.normal,nE a b m inv 4 (qk (di m inv a.l3 b t) (lm a.l3 b t))):=by kernel_rfl
theorem E9 (bF:Fr->Fr->Bool) (a b m:Fr) (inv:UInt64) (t:L5) (h:Bool):aM (jB bF) 300 jA (nE a b m inv 4 (qk t h)) iY = .leaf (.exit 2,nE a b m inv 4 (qk t h)):=by kernel_rfl
def Ld (m:Fr):Prop:=0<6/\4<=6/\6<4294967296
def Kt (bF:Fr->Fr->Bool) (m:Fr) (t:L5):Tree (Option (Fr × Pr)) :=
 .br (t.t4 != 0) (.vc (Ld m) (lfR (bB t.low m).1)) (.br (!(bF t.low m)) (.vc (Ld m) (lfR (bB t.low m).1)) (lfR t.low))
theorem Fa (bF:Fr->Fr->Bool) (a b m:Fr) (inv:UInt64) (t:L5) (h:Bool):cD (jB bF) Kq 300 Try.f95 (montC.drop 9) (nE a b m inv 4 (qk t h))=Kt bF m t:=by kernel_rfl
def mz (m:Fr) (t:L5):Fr:=match t.t4 != 0 with
 | true=>(bB t.low m).1
 | false=>match !(bg t.low m) with
  | true=>(bB t.low m).1
  | false=>t.low
def dE (a b m:Fr):L5:=di m (ba m.l0) a.l0 b ⟨0,0,0,0,0⟩
def dD (a b m:Fr):L5:=di m (ba m.l0) a.l1 b (dE a b m)
def dC (a b m:Fr):L5:=di m (ba m.l0) a.l2 b (dD a b m)
def cJ (a b m:Fr):L5:=di m (ba m.l0) a.l3 b (dC a b m)
def hI (a b m:Fr):Fr:=mz m (cJ a b m)
theorem Bf (m:Fr) (t:L5):(Kt bg m t).sat fun q => ∃ p,q=some (mz m t,p)/\p.holds:=by
 have w:Ld m:=⟨by decide,by decide,by decide⟩
 refine ⟨fun h=>⟨w,fun _ => ?_⟩,fun h=>⟨fun h2=>⟨w,fun _ => ?_⟩,fun h2 => ?_⟩⟩
 ·exact aV (by unfold mz;rw [h])
 ·exact aV (by unfold mz;rw [h,h2])
 ·exact aV (by unfold mz;rw [h,h2])
def Nc (a b m:Fr) (q:Fin 5 × Bool):St :=
 match q.1 with
 | 0=>nE a b m (ba m.l0) 0 (dS 6)
 | 1=>nE a b m (ba m.l0) 1 (qk (dE a b m) q.2)
 | 2=>nE a b m (ba m.l0) 2 (qk (dD a b m) q.2)
 | 3=>nE a b m (ba m.l0) 3 (qk (dC a b m) q.2)
 | 4=>nE a b m (ba m.l0) 4 (qk (cJ a b m) q.2)
theorem IL:CallOk Try.prog 95 (K3 aS4 aS4 aS4 GJ hI) :=
 G3 (E:=jB bg) Try.func95 (c:=ad Try.f95) (by kernel_rfl) (ae Try.func95 (by kernel_rfl) (by kernel_rfl)) iS4 iS4 iS4 Kq hI fun a b m _ _ _=>by
  have hE:=Fc
  refine DoesL.stageTo hE 300 8 _ _ (xI bg a b m) ?_
  refine DoesL.blockLoop qT (Nc a b m) (fun q=>4-q.1.1) (0,false) fun q => ?_
  obtain ⟨k,h⟩:=q
  match k with
  | 0=>exact Does.round hE 300 iY (u6 bg a b m _) ⟨(1,lm a.l0 b ⟨0,0,0,0,0⟩),by show 4-1<4-0;decide,by simp only [Nc,dE]⟩
  | 1=>exact Does.round hE 300 iY (u5 bg a b m _ (dE a b m) h) ⟨(2,lm a.l1 b (dE a b m)),by show 4-2<4-1;decide,by simp only [Nc,dD]⟩
  | 2=>exact Does.round hE 300 iY (u4 bg a b m _ (dD a b m) h) ⟨(3,lm a.l2 b (dD a b m)),by show 4-3<4-2;decide,by simp only [Nc,dC]⟩
  | 3=>exact Does.round hE 300 iY (u3 bg a b m _ (dC a b m) h) ⟨(4,lm a.l3 b (dC a b m)),by show 4-4<4-3;decide,by simp only [Nc,cJ]⟩
  | 4=>exact Does.round hE 300 iY (E9 bg a b m _ (cJ a b m) h) ⟨rfl,DoesL.ends hE 300 (Fa bg a b m _ (cJ a b m) h) (Bf m (cJ a b m))⟩
theorem IB (pF:Fr->Fr->Fr->Fr) (m a b:Fr):ag (Ens [(95,Q4 pF),(57,K0 GJ m),(93,Kfr MX)] [95,57]) r4 100 Try.f40 [v4 a,v4 b] = .leaf (some (pF (pF a b m) sq4Limbs m)):=by kernel_rfl
def bZ (a b:Fr):Fr:=hI (hI a b rLimbs) sq4Limbs rLimbs
theorem wd:CallOk Try.prog 40 (Kr2 bZ):=P2 (bP (.cons IL (.cons qA (.cons B1 .nil)))) Try.func40 (ae Try.func40 (by kernel_rfl) (by kernel_rfl)) 100 (aa Fr) (aa Fr) r4 bZ (IB hI rLimbs) (fun _ _=>Tree.sat_leaf (by simp only [bZ]))
end
section
def eP:Fp2:=⟨zeroFp,zeroFp⟩
def wI:Fp2:=⟨oneFp,zeroFp⟩
structure Fp12 where
 c0:Fp6
 c1:Fp6
def Fp12.rd (xs:List Cell):Option Fp12:=match (Row.rd (xs.take 36):Option Fp6),(Row.rd (xs.drop 36):Option Fp6) with
 | some a,some b=>some ⟨a,b⟩
 | _,_=>none
instance : Row Fp12 where
 rd:=Fp12.rd
 cs:=fun x=>Row.cs x.c0++Row.cs x.c1
 rd_ok:=fun {xs x} h β=>by
  unfold Fp12.rd at h
  split at h
  ·rename_i a b h1 h2
   cases h
   exact rZ 36 h1 h2 β
  ·cases h
 cs_ok:=fun x β=>by rw [List.map_append,List.map_append,Row.cs_ok x.c0,Row.cs_ok x.c1]
 cs_id:=fun x c hc=>by
  rcases List.mem_append.1 hc with h | h
  ·exact Row.cs_id _ c h
  ·exact Row.cs_id _ c h
end
section
def infG1:Pg1:=⟨zeroFp,zeroFp,true⟩
def tx (a b:Pg1):Bool:=jl a.x b.x && (jl a.y b.y && ((a.inf==b.inf) && true))
theorem kv (a b:Pg1):tx a b=true <-> a=b:=by
 unfold tx
 rw [Bool.and_true,Bool.and_eq_true,Bool.and_eq_true,iH,iH,beq_iff_eq]
 cases a;cases b
 simp
def Rq:Pg2:=⟨eP,eP,true⟩
def eS:Sp1:=⟨zeroFp,zeroFp,zeroFp⟩
abbrev kg1:Kd Pg1:=aa Pg1
end
set_option maxRecDepth 100000
section
abbrev Kr0 (x:Fr):ay:=K0 r4.res x
noncomputable def T1r:eO:=(136,Kr0 rLimbs) :: T0
theorem K7:TableOk Try.prog T1r := .cons xK LD
noncomputable def E1r:Env:=qZ Try.prog T1r []
theorem La:EnvOk E1r:=gM cb K7
def ta (a:Fr):Fr × Bool :=
 let c0:=cB a.l0 rLimbs.l0 false
 let c1:=cB a.l1 rLimbs.l1 c0
 let c2:=cB a.l2 rLimbs.l2 c1
 (⟨dJ a.l0 rLimbs.l0 false,dJ a.l1 rLimbs.l1 c0,dJ a.l2 rLimbs.l2 c1,dJ a.l3 rLimbs.l3 c2⟩,cB a.l3 rLimbs.l3 c2)
def fZ (a:Fr) (over:UInt64):Fr:=match decide (over<b2u (ta a).2) with | true=>a | false=>(ta a).1
theorem zj:CallOk Try.prog 153 (K2 (aa Fr).arg kU64.arg r4.res fZ) :=
 P2 La Try.func153 (ae Try.func153 (by kernel_rfl) (by kernel_rfl)) 100 (aa Fr) kU64 r4 fZ
  (T:=fun a o => .br (decide (o<b2u (ta a).2)) (.leaf (some a)) (.leaf (some (ta a).1))) (by intro a o;kernel_rfl)
  (by intro a o;exact ⟨fun h=>congrArg some (by unfold fZ;rw [h]),fun h=>congrArg some (by unfold fZ;rw [h])⟩)
noncomputable def T2r:eO:=(153,K2 (aa Fr).arg kU64.arg r4.res fZ) :: (147,K2 kU64.arg kU64.arg (kU64.rs2 kU64).res fun x y=>(dY x y,x*y)) :: T1r
theorem QE:TableOk Try.prog T2r := .cons zj (.cons mZ K7)
noncomputable def E2r:Env:=qZ Try.prog T2r []
theorem mC:EnvOk E2r:=gM cb QE
def Rc:UInt64:=0xfffffffeffffffff
def vP (t0 t1 t2 t3 top:UInt64) (more:Bool):L5 :=
 let x:=t0*Rc
 let d0:=dY x rLimbs.l0+b2u (bw (x*rLimbs.l0) t0 false)
 let d1:=dK x rLimbs.l1 t1 d0
 let d2:=dK x rLimbs.l2 t2 d1
 let d3:=dK x rLimbs.l3 t3 d2
 ⟨fP x rLimbs.l1 t1 d0,fP x rLimbs.l2 t2 d1,fP x rLimbs.l3 t3 d2,dm top d3 false,b2u more+b2u (bw top d3 false)⟩
def fD (a:Fr) (b:UInt64) (t:L5):L5 :=
 let c0:=dK a.l0 b t.t0 0
 let c1:=dK a.l1 b t.t1 c0
 let c2:=dK a.l2 b t.t2 c1
 let c3:=dK a.l3 b t.t3 c2
 vP (fP a.l0 b t.t0 0) (fP a.l1 b t.t1 c0) (fP a.l2 b t.t2 c1) (fP a.l3 b t.t3 c2) (dm t.t4 c3 false) (bw t.t4 c3 false)
def Cj (a b:Fr):L5:=fD a b.l0 ⟨0,0,0,0,0⟩
def Ci (a b:Fr):L5:=fD a b.l1 (Cj a b)
def Ch (a b:Fr):L5:=fD a b.l2 (Ci a b)
def hZ (a b:Fr):L5:=fD a b.l3 (Ch a b)
def i6 (a b:Fr):Fr:=fZ (hZ a b).low (hZ a b).t4
def nI (a b:Fr) (k:Nat) (t:List Cell):St :=
 ax 139 [(2,cn 0),(3,cn 1),(4,cn 2),(5,cn 3),(6,cn 4),(18,KA k)] [own 24 (Row.cs a),own 24 (Row.cs b),own 24 (dS 4),own 24 (Row.cs rLimbs),own 158 t]
noncomputable def h4Code:List Code:=flat (ad Try.f155)
noncomputable def pg:Code:=aG Try.f155 0
theorem xM (a b:Fr):dw E2r 100 (h4Code.take 4) (af Try.f155 [v4 a,v4 b] []) [2,3,4,5,6,18] [0,1,2,3,4] = .leaf (nI a b 0 (dS 5)):=by kernel_rfl
theorem ve (a b:Fr):aM E2r 100 pg (nI a b 0 (dS 5)) i7 = .leaf (.normal,nI a b 1 (fD a b.l0 ⟨0,0,0,0,0⟩).cs):=by kernel_rfl
theorem vb (a b:Fr) (t:L5):aM E2r 100 pg (nI a b 1 t.cs) i7 = .leaf (.normal,nI a b 2 (fD a b.l1 t).cs):=by kernel_rfl
theorem va (a b:Fr) (t:L5):aM E2r 100 pg (nI a b 2 t.cs) i7 = .leaf (.normal,nI a b 3 (fD a b.l2 t).cs):=by kernel_rfl
theorem u9 (a b:Fr) (t:L5):aM E2r 100 pg (nI a b 3 t.cs) i7 = .leaf (.normal,nI a b 4 (fD a b.l3 t).cs):=by kernel_rfl
theorem Fy (a b:Fr) (t:L5):aM E2r 100 pg (nI a b 4 t.cs) i7 = .leaf (.exit 0,nI a b 4 t.cs):=by kernel_rfl
theorem Fz (a b:Fr) (t:L5):OE E2r r4 100 Try.f155 (h4Code.drop 5) (nI a b 4 t.cs) = .leaf (some (fZ t.low t.t4)):=by kernel_rfl
theorem xN:h4Code.drop 4 = .block 0 (.loop pg) :: h4Code.drop 5:=by kernel_rfl
def Bv (a b:Fr) (k:Fin 5):St :=
 match k with
 | 0=>nI a b 0 (dS 5)
 | 1=>nI a b 1 (Cj a b).cs
 | 2=>nI a b 2 (Ci a b).cs
 | 3=>nI a b 3 (Ch a b).cs
 | 4=>nI a b 4 (hZ a b).cs
theorem zo:CallOk Try.prog 155 (Kr2 i6):=by
 refine Q2 (E:=E2r) Try.func155 (c:=ad Try.f155) (by kernel_rfl) (ae Try.func155 (by kernel_rfl) (by kernel_rfl)) (aa Fr) (aa Fr) r4 i6 fun a b => ?_
 refine DoesL.stageTo mC 100 4 [2,3,4,5,6,18] [0,1,2,3,4] (xM a b) ?_
 refine DoesL.blockLoop xN (Bv a b) (fun k=>4-k.1) 0 fun k => ?_
 match k with
 | 0=>exact Does.round mC 100 i7 (ve a b) ⟨1,by decide,by simp only [Bv,Cj]⟩
 | 1=>exact Does.round mC 100 i7 (vb a b _) ⟨2,by decide,by simp only [Bv,Ci]⟩
 | 2=>exact Does.round mC 100 i7 (va a b _) ⟨3,by decide,by simp only [Bv,Ch]⟩
 | 3=>exact Does.round mC 100 i7 (u9 a b _) ⟨4,by decide,by simp only [Bv,hZ]⟩
 | 4=>exact Does.round mC 100 i7 (Fy a b _) ⟨rfl,DoesL.fin mC 100 (Fz a b _) (Tree.sat_leaf (by simp only [i6]))⟩
theorem Am:CallOk Try.prog 177 (Kr0 sq4Limbs):=P0 BW Try.func177 (ae Try.func177 (by kernel_rfl) (by kernel_rfl)) 100 r4 sq4Limbs (T := .leaf (some sq4Limbs)) (by kernel_rfl) rfl
def sH (a:Fr):Fr:=i6 a sq4Limbs
theorem zX (hF:Fr->Fr->Fr) (q a:Fr):ag (En [(155,Kr2 hF),(177,Kr0 q)]) r4 100 Try.f154 [v4 a] = .leaf (some (hF a q)):=by kernel_rfl
theorem DV:CallOk Try.prog 154 (Kr1 sH):=P1 (aw (.cons zo (.cons Am .nil))) Try.func154 (ae Try.func154 (by kernel_rfl) (by kernel_rfl)) 100 (aa Fr) r4 sH (zX i6 sq4Limbs) (fun _=>Tree.sat_leaf (by simp only [sH]))
def eG (a b:Fr):Fr:=fZ (bn a b).1 (b2u (bn a b).2)
theorem Gd (lF:Fr->UInt64->Fr) (a b:Fr):ag (En [(145,K3x dm bw),(153,K2 (aa Fr).arg kU64.arg r4.res lF)]) r4 100 Try.f105 [v4 a,v4 b] = .leaf (some (lF (bn a b).1 (b2u (bn a b).2))):=by kernel_rfl
theorem sD:CallOk Try.prog 105 (Kr2 eG):=P2 (aw (.cons fM (.cons zj .nil))) Try.func105 (ae Try.func105 (by kernel_rfl) (by kernel_rfl)) 100 (aa Fr) (aa Fr) r4 eG (Gd fZ) (fun _ _=>Tree.sat_leaf (by simp only [eG]))
def qh (a b:Fr):Fr:=match decide (b2u (bB a b).2=0) with | true=>(bB a b).1 | false=>(bn (bB a b).1 rLimbs).1
theorem D8 (a b:Fr):ag E1r r4 100 Try.f157 [v4 a,v4 b] = .br (decide (b2u (bB a b).2=0)) (.leaf (some (bB a b).1)) (.leaf (some (bn (bB a b).1 rLimbs).1)):=by kernel_rfl
theorem Hd:CallOk Try.prog 157 (Kr2 qh):=P2 La Try.func157 (ae Try.func157 (by kernel_rfl) (by kernel_rfl)) 100 (aa Fr) (aa Fr) r4 qh D8 (fun _ _=>⟨fun h=>congrArg some (by unfold qh;rw [h]),fun h=>congrArg some (by unfold qh;rw [h])⟩)
def kB (a:Fr):Fr:=qh zeroFr a
theorem EY (sF:Fr->Fr->Fr) (a:Fr):ag (En [(157,Kr2 sF)]) r4 100 Try.f110 [v4 a] = .leaf (some (sF zeroFr a)):=by kernel_rfl
theorem Iw:CallOk Try.prog 110 (Kr1 kB):=P1 (aw (.cons Hd .nil)) Try.func110 (ae Try.func110 (by kernel_rfl) (by kernel_rfl)) 100 (aa Fr) r4 kB (EY qh) (fun _=>Tree.sat_leaf (by simp only [kB]))
def cZ (a b:Fr):Fr:=sH (i6 a b)
theorem E3 (hF:Fr->Fr->Fr) (wF:Fr->Fr) (a b:Fr):ag (En [(155,Kr2 hF),(154,Kr1 wF)]) r4 100 Try.f106 [v4 a,v4 b] = .leaf (some (wF (hF a b))):=by kernel_rfl
theorem mY:CallOk Try.prog 106 (Kr2 cZ):=P2 (aw (.cons zo (.cons DV .nil))) Try.func106 (ae Try.func106 (by kernel_rfl) (by kernel_rfl)) 100 (aa Fr) (aa Fr) r4 cZ (E3 i6 sH) (fun _ _=>Tree.sat_leaf (by simp only [cZ]))
def oz (n:UInt64):Fr:=⟨n,0,0,0⟩
theorem In (n:UInt64):ag (En []) r4 100 Try.f109 [vU n] = .leaf (some (oz n)):=by kernel_rfl
theorem C7:CallOk Try.prog 109 (K1 kU64.arg r4.res oz):=P1 (aw .nil) Try.func109 (ae Try.func109 (by kernel_rfl) (by kernel_rfl)) 100 kU64 r4 oz In (fun _=>Tree.sat_leaf (by simp only [oz]))
end
set_option maxRecDepth 100000
section
abbrev oFrs:Out (List Fr):=Oq .fr 24
abbrev gG (xs:List Fr):Prop:=xs.length<4294967296
abbrev cQ:Arg (List Fr):=(aB .fr).such gG
abbrev iFew:Inp (List Fr):=(cI .fr).such gG
abbrev K8 (F:List Fr->List Fr):ay:=K1 cQ oFrs.res F
def frZ:Fr:=⟨UInt64.ofNat 0,UInt64.ofNat 0,UInt64.ofNat 0,UInt64.ofNat 0⟩
def cV (xs:List Fr):Nat->Nat
 | 0=>0
 | n+1=>match fJ (xs.getD n frZ) frZ with
  | true=>cV xs n
  | false=>n+1
def cE (xs:List Fr):List Fr:=xs.take (cV xs xs.length)
theorem iI (xs:List Fr) : ∀ n,cV xs n<=n
 | 0=>Nat.le_refl _
 | n+1=>by
  unfold cV
  cases fJ (xs.getD n frZ) frZ with
  | true=>exact Nat.le_succ_of_le (iI xs n)
  | false=>exact Nat.le_refl _
theorem zC (xs:List Fr):(cE xs).length=cV xs xs.length:=by
 unfold cE
 rw [List.length_take,Nat.min_eq_left (iI xs _)]
theorem rH (xs:List Fr):(cE xs).length<=xs.length:=by rw [zC];exact iI xs _
section
variable (aF mF : Fr -> Fr -> Fr)
def rAt (xs:List Fr) (x:Fr):Nat->Fr->Fr
 | 0,y=>y
 | n+1,y=>rAt xs x n (aF (mF y x) (xs.getD n frZ))
theorem yL (xs:List Fr) (x y:Fr):rAt aF mF xs x 0 y=y:=rfl
theorem yM (xs:List Fr) (x y:Fr) (n:Nat):rAt aF mF xs x (n+1) y=rAt aF mF xs x n (aF (mF y x) (xs.getD n frZ)):=rfl
def lU (mF:Fr->Bool):List Fr->Bool
 | []=>true
 | x :: l=>match !(mF x) with
  | true=>false
  | false=>lU mF l
end
def ui (i:Int):Prop:=0<=i
def atL (l:List Fr) (i:Nat):Fr:=l.getD i frZ
def lg (l:List Fr):HE := .live ⟨true,24,4,.rows .fr l,false⟩
def CQ (i c:Nat):AV := .one (.c (.slc i 0 c 4 (.of 0) false))
noncomputable abbrev pcutC:List Code:=flat (ad Try.f176)
def pb (l:List Fr) (z:Int):St:=ax 24 [(0,rwV .fr 0 l),(3,vI z)] [bh .fr l]
theorem A0 (l:List Fr):stageG (En []) 100 (pcutC.take 2) (af Try.f176 [rwV .fr 0 l] [bh .fr l]) [0,3] [0] [(0,.as),(3,.int)] [.as] []=(.vc (0+l.length*4<=(ac RK.fr l).length/\0<4) (.leaf (ax 24 [(0,.one (.c (.slc 0 0 (l.length) 4 (.of 0) false))),(3,.one (.c (.int .i64 ((↑l.length:Int)))))] [.live ⟨false,0,4,(.rows .fr (l:List Fr)),false⟩]))):=by kernel_rfl
theorem A1 (l:List Fr) (z:Int):letI za':=IntKind.i64.wrap (z-1);aM (En []) 100 (aG Try.f176 0) (pb l z) (same [0,3] [0])=(.br (decide (z > 0)) (.vc ((0<=IntKind.i64.wrap (z-1)/\IntKind.i64.wrap (z-1)<(↑l.length:Int))/\0+l.length*4<=(ac RK.fr l).length/\0<4/\0=0) (.vc (0+za'.toNat<l.length) (.br (fJ (l.getD (0+za'.toNat) { l0:=0,l1:=0,l2:=0,l3:=0 }) ({ l0:=UInt64.ofNat 0,l1:=UInt64.ofNat 0,l2:=UInt64.ofNat 0,l3:=UInt64.ofNat 0 })) (.leaf ((.normal,ax 24 [(0,.one (.c (.slc 0 0 (l.length) 4 (.of 0) false))),(3,.one (.c (.int .i64 za')))] [.live ⟨false,0,4,(.rows .fr (l:List Fr)),false⟩]))) (.leaf ((.exit 0,ax 24 [(0,.one (.c (.slc 0 0 (l.length) 4 (.of 0) false))),(3,.one (.c (.int .i64 (z))))] [.live ⟨false,0,4,(.rows .fr (l:List Fr)),false⟩])))))) (.leaf ((.exit 0,ax 24 [(0,.one (.c (.slc 0 0 (l.length) 4 (.of 0) false))),(3,.one (.c (.int .i64 (z))))] [.live ⟨false,0,4,(.rows .fr (l:List Fr)),false⟩])))):=by kernel_rfl
theorem H9 (l:List Fr) (z:Int):cD (En []) oFrs 100 Try.f176 (pcutC.drop 3) (pb l z)=(.vc (0<=z/\0<=z.toNat/\z.toNat<=l.length/\0+l.length*4<=(ac RK.fr l).length/\0<4/\(0=0 \/ 0<z.toNat)/\0=0/\4=4) (.vc ((0+(z.toNat-0)*4<=(ac RK.fr l).length/\0=0)/\0+(z.toNat-0)<=9223372036854775807/\(0+(z.toNat-0))*32<=140737488355328) (.leaf (some ((List.take (0+(z.toNat-0)) ([]++List.take (z.toNat-0) (List.drop 0 l)),(.p (0+(z.toNat-0)<=([]++List.take (z.toNat-0) (List.drop 0 l)).length)))))))):=by kernel_rfl
noncomputable abbrev rcutC:List Code:=flat (ad Try.f152)
def pa (l:List Fr) (z:Int):St:=ax 24 [(0,rwV .fr 0 l),(3,vI z)] [bh .fr l]
theorem Az (l:List Fr):stageG (En []) 100 (rcutC.take 2) (af Try.f152 [rwV .fr 0 l] [bh .fr l]) [0,3] [0] [(0,.as),(3,.int)] [.as] []=(.vc (0+l.length*4<=(ac RK.fr l).length/\0<4) (.leaf (ax 24 [(0,.one (.c (.slc 0 0 (l.length) 4 (.of 0) false))),(3,.one (.c (.int .i64 ((↑l.length:Int)))))] [.live ⟨false,0,4,(.rows .fr (l:List Fr)),false⟩]))):=by kernel_rfl
theorem AA (l:List Fr) (z:Int):letI za':=IntKind.i64.wrap (z-1);aM (En []) 100 (aG Try.f152 0) (pa l z) (same [0,3] [0])=(.br (decide (z > 0)) (.vc ((0<=IntKind.i64.wrap (z-1)/\IntKind.i64.wrap (z-1)<(↑l.length:Int))/\0+l.length*4<=(ac RK.fr l).length/\0<4/\0=0) (.vc (0+za'.toNat<l.length) (.br (fJ (l.getD (0+za'.toNat) { l0:=0,l1:=0,l2:=0,l3:=0 }) ({ l0:=UInt64.ofNat 0,l1:=UInt64.ofNat 0,l2:=UInt64.ofNat 0,l3:=UInt64.ofNat 0 })) (.leaf ((.normal,ax 24 [(0,.one (.c (.slc 0 0 (l.length) 4 (.of 0) false))),(3,.one (.c (.int .i64 za')))] [.live ⟨false,0,4,(.rows .fr (l:List Fr)),false⟩]))) (.leaf ((.exit 0,ax 24 [(0,.one (.c (.slc 0 0 (l.length) 4 (.of 0) false))),(3,.one (.c (.int .i64 (z))))] [.live ⟨false,0,4,(.rows .fr (l:List Fr)),false⟩])))))) (.leaf ((.exit 0,ax 24 [(0,.one (.c (.slc 0 0 (l.length) 4 (.of 0) false))),(3,.one (.c (.int .i64 (z))))] [.live ⟨false,0,4,(.rows .fr (l:List Fr)),false⟩])))):=by kernel_rfl
theorem HL (l:List Fr) (z:Int):cD (En []) oFrs 100 Try.f152 (rcutC.drop 3) (pa l z)=(.vc (0<=z/\0<=z.toNat/\z.toNat<=l.length/\0+l.length*4<=(ac RK.fr l).length/\0<4/\(0=0 \/ 0<z.toNat)/\0=0/\4=4) (.vc ((0+(z.toNat-0)*4<=(ac RK.fr l).length/\0=0)/\0+(z.toNat-0)<=9223372036854775807/\(0+(z.toNat-0))*32<=140737488355328) (.leaf (some ((List.take (0+(z.toNat-0)) ([]++List.take (z.toNat-0) (List.drop 0 l)),(.p (0+(z.toNat-0)<=([]++List.take (z.toNat-0) (List.drop 0 l)).length)))))))):=by kernel_rfl
noncomputable abbrev raC:List Code:=flat (ad Try.f107)
noncomputable abbrev raE (aF mF:Fr->Fr->Fr):Env:=En [(39,Kr2 aF),(40,Kr2 mF)]
def Mt (l:List Fr) (x y:Fr) (z:Int):St:=ax 23 [(0,rwV .fr 0 l),(3,cn 1),(4,cn 2),(5,cn 3),(6,vI z)] [bh .fr l,own 24 (Row.cs x),own 24 (dS 4),own 24 (Row.cs y)]
theorem HP (aF mF:Fr->Fr->Fr) (l:List Fr) (x:Fr):letI za':=UInt64.ofNat 0;stageG (raE aF mF) 100 (raC.take 3) (af Try.f107 [rwV .fr 0 l,v4 x] [bh .fr l]) [0,3,4,5,6] [0,1,2,3] [(0,.as),(3,.as),(4,.as),(5,.as),(6,.int)] [.as,.as,.as,.one .fr] []=(.vc (0+l.length*4<=(ac RK.fr l).length/\0<4) (.leaf (ax 23 [(0,.one (.c (.slc 0 0 (l.length) 4 (.of 0) false))),(3,.one (.c (.ptr 1 0))),(4,.one (.c (.ptr 2 0))),(5,.one (.c (.ptr 3 0))),(6,.one (.c (.int .i64 (IntKind.i64.wrap ((↑l.length:Int)-1)))))] [.live ⟨false,0,4,(.rows .fr (l:List Fr)),false⟩,.live ⟨true,24,0,(.row (Row.cs (x:Fr))),false⟩,.live ⟨true,24,0,(.row [(.lit .u64 0),(.lit .u64 0),(.lit .u64 0),(.lit .u64 0)]),false⟩,.live ⟨true,24,0,(.row [(.u64 za'),(.u64 za'),(.u64 za'),(.u64 za')]),false⟩]))):=by kernel_rfl
theorem HQ (aF mF:Fr->Fr->Fr) (l:List Fr) (x y:Fr) (z:Int):aM (raE aF mF) 300 (aG Try.f107 0) (Mt l x y z) (same [0,3,4,5,6] [0,1,2,3])=(.br (decide (z >= 0)) (.vc ((0<=z/\z<(↑l.length:Int))/\0+l.length*4<=(ac RK.fr l).length/\0<4/\0=0) (.vc (0+z.toNat<l.length) (.leaf ((.normal,ax 23 [(0,.one (.c (.slc 0 0 (l.length) 4 (.of 0) false))),(3,.one (.c (.ptr 1 0))),(4,.one (.c (.ptr 2 0))),(5,.one (.c (.ptr 3 0))),(6,.one (.c (.int .i64 (IntKind.i64.wrap (z-1)))))] [.live ⟨false,0,4,(.rows .fr (l:List Fr)),false⟩,.live ⟨true,24,0,(.row (Row.cs (x:Fr))),false⟩,.live ⟨true,24,0,(.row [(.lit .u64 0),(.lit .u64 0),(.lit .u64 0),(.lit .u64 0)]),false⟩,.live ⟨true,24,0,(.row (Row.cs (aF (mF y x) (l.getD (0+z.toNat) { l0:=0,l1:=0,l2:=0,l3:=0 }):Fr))),false⟩]))))) (.leaf ((.exit 0,ax 23 [(0,.one (.c (.slc 0 0 (l.length) 4 (.of 0) false))),(3,.one (.c (.ptr 1 0))),(4,.one (.c (.ptr 2 0))),(5,.one (.c (.ptr 3 0))),(6,.one (.c (.int .i64 (z))))] [.live ⟨false,0,4,(.rows .fr (l:List Fr)),false⟩,.live ⟨true,24,0,(.row (Row.cs (x:Fr))),false⟩,.live ⟨true,24,0,(.row [(.lit .u64 0),(.lit .u64 0),(.lit .u64 0),(.lit .u64 0)]),false⟩,.live ⟨true,24,0,(.row (Row.cs (y:Fr))),false⟩])))):=by kernel_rfl
theorem Po (aF mF:Fr->Fr->Fr) (l:List Fr) (x y:Fr) (z:Int):cD (raE aF mF) r4.out 100 Try.f107 (raC.drop 4) (Mt l x y z) =
 (.leaf (some ((y,.t)))):=by kernel_rfl
noncomputable abbrev rsC:List Code:=flat (ad Try.f102)
noncomputable abbrev rsE (mF:Fr->Fr->Fr) (cF:List Fr->List Fr):Env:=Ens [(40,Kr2 mF),(152,K8 cF)] [152]
def wB (l:List Fr) (k:Fr) (z:Int) (c:Nat) (q:List Fr):St:=ax 24 [(0,rwV .fr 0 l),(3,cn 1),(5,CQ 2 c),(6,vI z)] [bh .fr l,own 24 (Row.cs k),lg q]
theorem Em (mF:Fr->Fr->Fr) (cF:List Fr->List Fr) (l:List Fr) (k:Fr):stageG (rsE mF cF) 100 (rsC.take 3) (af Try.f102 [rwV .fr 0 l,v4 k] [bh .fr l]) [0,3,5,6] [0,1] [(0,.as),(3,.as),(5,.nilE 2 4),(6,.int)] [.as,.as] [(24,.rows .fr)]=(.leaf (ax 24 [(0,.one (.c (.slc 0 0 (l.length) 4 (.of 0) false))),(3,.one (.c (.ptr 1 0))),(5,.one (.c (.slc 2 0 0 4 (.of 0) false))),(6,.one (.c (.int .i64 0)))] [.live ⟨false,0,4,(.rows .fr (l:List Fr)),false⟩,.live ⟨true,24,0,(.row (Row.cs (k:Fr))),false⟩,.live ⟨true,24,4,(.rows .fr ([]:List Fr)),false⟩])):=by kernel_rfl
theorem Eo (mF:Fr->Fr->Fr) (cF:List Fr->List Fr) (l:List Fr) (k:Fr) (z:Int) (c:Nat) (q:List Fr):roundP (rsE mF cF) 300 (aG Try.f102 0) (wB l k z c q) (fo [0,3,5,6] [0,1] [5])=(.vc (0+l.length*4<=(ac RK.fr l).length/\0<4) (.br (decide (z<(↑l.length:Int))) (.vc ((0<=z/\z<(↑l.length:Int))/\0+l.length*4<=(ac RK.fr l).length/\0<4/\0=0) (.vc (0+z.toNat<l.length) (.vc ((0+c*4<=(ac RK.fr q).length/\0=0)/\c+1<=9223372036854775807/\(c+1)*32<=140737488355328) (.leaf ((.normal,ax 24 [(0,.one (.c (.slc 0 0 (l.length) 4 (.of 0) false))),(3,.one (.c (.ptr 1 0))),(5,.one (.c (.slc 2 0 (c+1) 4 (.of 0) false))),(6,.one (.c (.int .i64 (IntKind.i64.wrap (z+1)))))] [.live ⟨false,0,4,(.rows .fr (l:List Fr)),false⟩,.live ⟨true,24,0,(.row (Row.cs (k:Fr))),false⟩,.live ⟨true,24,4,(.rows .fr (List.take (iV c (4 / 4)) (List.drop 0 q) ++ [mF (l.getD (0+z.toNat) { l0:=0,l1:=0,l2:=0,l3:=0 }) k]:List Fr)),false⟩])))))) (.leaf ((.exit 0,ax 24 [(0,.one (.c (.slc 0 0 (l.length) 4 (.of 0) false))),(3,.one (.c (.ptr 1 0))),(5,.one (.c (.slc 2 0 (c) 4 (.of 0) false))),(6,.one (.c (.int .i64 (z))))] [.live ⟨false,0,4,(.rows .fr (l:List Fr)),false⟩,.live ⟨true,24,0,(.row (Row.cs (k:Fr))),false⟩,.live ⟨true,24,4,(.rows .fr (q:List Fr)),false⟩]))))):=by kernel_rfl
theorem Mh (mF:Fr->Fr->Fr) (cF:List Fr->List Fr) (l:List Fr) (k:Fr) (z:Int) (c:Nat) (q:List Fr):letI za':=List.take c (List.drop 0 q);cD (rsE mF cF) oFrs 100 Try.f102 (rsC.drop 4) (wB l k z c q)=(.vc ((0+c*4<=(ac RK.fr q).length/\0=0/\c<1125899906842624/\0=0/\4=4)/\gG za') (.leaf (some ((List.take (cF za').length (cF za'),(.p ((cF za').length<=(cF za').length))))))):=by kernel_rfl
theorem Mr (l:List Fr) (i:Int):cD (En []) r4.out 100 Try.f151 (flat (ad Try.f151)) (af Try.f151 [rwV .fr 0 l,vI i] [bh .fr l])=(.vc (0+l.length*4<=(ac RK.fr l).length/\0<4) (.br (decide (i<(↑l.length:Int))) (.vc ((0<=i/\i<(↑l.length:Int))/\0+l.length*4<=(ac RK.fr l).length/\0<4/\0=0) (.vc (0+i.toNat<l.length) (.leaf (some ((l.getD (0+i.toNat) { l0:=0,l1:=0,l2:=0,l3:=0 },.t)))))) (.leaf (some (({ l0:=UInt64.ofNat 0,l1:=UInt64.ofNat 0,l2:=UInt64.ofNat 0,l3:=UInt64.ofNat 0 },.t)))))):=by kernel_rfl
noncomputable abbrev rdC:List Code:=flat (ad Try.f101)
noncomputable abbrev rdE (tF:List Fr->Int->Fr) (aF:Fr->Fr->Fr) (cF:List Fr->List Fr):Env:=Ens [(151,K2 (aB .fr) (kInt.arg.such ui) r4.res tF),(39,Kr2 aF),(152,K8 cF)] [152]
def J1 (l m:List Fr) (z:Int) (c:Nat) (q:List Fr):St:=ax 28 [(0,rwV .fr 0 l),(1,rwV .fr 1 m),(5,CQ 2 c),(6,vI z)] [bh .fr l,bh .fr m,lg q]
theorem HJ (tF:List Fr->Int->Fr) (aF:Fr->Fr->Fr) (cF:List Fr->List Fr) (l m:List Fr):stageG (rdE tF aF cF) 100 (rdC.take 3) (af Try.f101 [rwV .fr 0 l,rwV .fr 1 m] [bh .fr l,bh .fr m]) [0,1,5,6] [0,1] [(0,.as),(1,.as),(5,.nilE 2 4),(6,.int)] [.as,.as] [(24,.rows .fr)]=(.leaf (ax 28 [(0,.one (.c (.slc 0 0 (l.length) 4 (.of 0) false))),(1,.one (.c (.slc 1 0 (m.length) 4 (.of 0) false))),(5,.one (.c (.slc 2 0 0 4 (.of 0) false))),(6,.one (.c (.int .i64 0)))] [.live ⟨false,0,4,(.rows .fr (l:List Fr)),false⟩,.live ⟨false,0,4,(.rows .fr (m:List Fr)),false⟩,.live ⟨true,24,4,(.rows .fr ([]:List Fr)),false⟩])):=by kernel_rfl
theorem HK (tF:List Fr->Int->Fr) (aF:Fr->Fr->Fr) (cF:List Fr->List Fr) (l m:List Fr) (z:Int) (c:Nat) (q:List Fr):roundP (rdE tF aF cF) 300 (aG Try.f101 0) (J1 l m z c q) (fo [0,1,5,6] [0,1] [5])=(.vc (0+l.length*4<=(ac RK.fr l).length/\0<4) (.vc (0+m.length*4<=(ac RK.fr m).length/\0<4) (.br (decide (z<if (↑m.length:Int) > (↑l.length:Int) then (↑m.length:Int) else (↑l.length:Int))) (.vc ((0+l.length*4<=(ac RK.fr l).length/\0=0/\l.length<1125899906842624/\0=0/\4=4)/\ui z) (.vc ((0+m.length*4<=(ac RK.fr m).length/\0=0/\m.length<1125899906842624/\0=0/\4=4)/\ui z) (.vc ((0+c*4<=(ac RK.fr q).length/\0=0)/\c+1<=9223372036854775807/\(c+1)*32<=140737488355328) (.leaf ((.normal,ax 28 [(0,.one (.c (.slc 0 0 (l.length) 4 (.of 0) false))),(1,.one (.c (.slc 1 0 (m.length) 4 (.of 0) false))),(5,.one (.c (.slc 2 0 (c+1) 4 (.of 0) false))),(6,.one (.c (.int .i64 (IntKind.i64.wrap (z+1)))))] [.live ⟨false,0,4,(.rows .fr (l:List Fr)),false⟩,.live ⟨false,0,4,(.rows .fr (m:List Fr)),false⟩,.live ⟨true,24,4,(.rows .fr (List.take (iV c (4 / 4)) (List.drop 0 q) ++ [aF (tF (List.take l.length (List.drop 0 l)) z) (tF (List.take m.length (List.drop 0 m)) z)]:List Fr)),false⟩])))))) (.leaf ((.exit 0,ax 28 [(0,.one (.c (.slc 0 0 (l.length) 4 (.of 0) false))),(1,.one (.c (.slc 1 0 (m.length) 4 (.of 0) false))),(5,.one (.c (.slc 2 0 (c) 4 (.of 0) false))),(6,.one (.c (.int .i64 (z))))] [.live ⟨false,0,4,(.rows .fr (l:List Fr)),false⟩,.live ⟨false,0,4,(.rows .fr (m:List Fr)),false⟩,.live ⟨true,24,4,(.rows .fr (q:List Fr)),false⟩])))))):=by kernel_rfl
theorem Pk (tF:List Fr->Int->Fr) (aF:Fr->Fr->Fr) (cF:List Fr->List Fr) (l m:List Fr) (z:Int) (c:Nat) (q:List Fr):letI za':=List.take c (List.drop 0 q);cD (rdE tF aF cF) oFrs 100 Try.f101 (rdC.drop 4) (J1 l m z c q)=(.vc ((0+c*4<=(ac RK.fr q).length/\0=0/\c<1125899906842624/\0=0/\4=4)/\gG za') (.leaf (some ((List.take (cF za').length (cF za'),(.p ((cF za').length<=(cF za').length))))))):=by kernel_rfl
noncomputable abbrev lmC:List Code:=flat (ad Try.f44)
noncomputable abbrev lmE (mF:Fr->Bool):Env:=En [(11,Krb mF)]
def Nm (l:List Fr) (n z:Int):St:=ax 22 [(0,rwV .fr 0 l),(1,vI n),(5,vI z)] [bh .fr l]
theorem I0 (mF:Fr->Bool) (l:List Fr) (n:Int):stageG (lmE mF) 100 (lmC.take 2) (af Try.f44 [rwV .fr 0 l,vI n] [bh .fr l]) [0,1,5] [0] [(0,.as),(1,.as),(5,.int)] [.as] []=(.leaf (ax 22 [(0,.one (.c (.slc 0 0 (l.length) 4 (.of 0) false))),(1,.one (.c (.int .i64 (n)))),(5,.one (.c (.int .i64 0)))] [.live ⟨false,0,4,(.rows .fr (l:List Fr)),false⟩])):=by kernel_rfl
theorem I1 (mF:Fr->Bool) (l:List Fr) (n z:Int):oQ (lmE mF) oB 300 Try.f44 [aG Try.f44 0] (Nm l n z) [0,1,5] [0]=(.vc (0+l.length*4<=(ac RK.fr l).length/\0<4) (.br (decide (z<(↑l.length:Int))) (.vc ((0<=z/\z<(↑l.length:Int))/\0+l.length*4<=(ac RK.fr l).length/\0<4/\0=0) (.vc (0+z.toNat<l.length) (.br (!(mF (l.getD (0+z.toNat) { l0:=0,l1:=0,l2:=0,l3:=0 }))) (.leaf (.inr (some ((false,.t))))) (.leaf (.inl ((.normal,ax 22 [(0,.one (.c (.slc 0 0 (l.length) 4 (.of 0) false))),(1,.one (.c (.int .i64 (n)))),(5,.one (.c (.int .i64 (IntKind.i64.wrap (z+1)))))] [.live ⟨false,0,4,(.rows .fr (l:List Fr)),false⟩]))))))) (.leaf (.inl ((.exit 0,ax 22 [(0,.one (.c (.slc 0 0 (l.length) 4 (.of 0) false))),(1,.one (.c (.int .i64 (n)))),(5,.one (.c (.int .i64 (z))))] [.live ⟨false,0,4,(.rows .fr (l:List Fr)),false⟩])))))):=by kernel_rfl
theorem PX (mF:Fr->Bool) (l:List Fr) (n z:Int):cD (lmE mF) oB 100 Try.f44 (lmC.drop 3) (Nm l n z) =
 (.vc (0+l.length*4<=(ac RK.fr l).length/\0<4)
  (.leaf (some ((decide ((↑l.length:Int)<=n),.t))))):=by kernel_rfl
end
set_option maxRecDepth 100000
section
theorem N8 (m:Nat) (h:m<4294967296):IntKind.i64.wrap (((m+1:Nat):Int)-1)=(m:Int):=(IntWalk.i64_in _ (by omega)).trans (by omega)
theorem pS (m:Nat) (h:m<4294967296):IntKind.i64.wrap ((m:Int)+1)=((m+1:Nat):Int):=(IntWalk.i64_in _ (by omega)).trans (by omega)
theorem kf (m:Nat):0+((m:Nat):Int).toNat=m:=by omega
abbrev R2 (l:List Fr):Type := { n:Nat // n<=l.length/\cV l n=cV l l.length }
theorem yr {l:List Fr} {n:Nat} (h:n=cV l l.length):List.take (0+(((n:Nat):Int).toNat-0)) ([]++List.take (((n:Nat):Int).toNat-0) (List.drop 0 l))=cE l:=by
 rw [Int.toNat_natCast,Nat.sub_zero,Nat.zero_add,List.nil_append,List.drop_zero,List.take_take,Nat.min_self,h]
 rfl
theorem yV {l:List Fr} (hl:l.length<4294967296) {n:Nat} (h:n=cV l l.length):DoesL (En []) (pcutC.drop 3) (pb l (n:Int)) (EndsAs (En []) Try.f176 (bK oFrs (cE l))):=by
 have hle:n<=l.length:=by rw [h];exact iI l _
 have hlen:([]++List.take (((n:Nat):Int).toNat-0) (List.drop 0 l)).length=n:=by
  rw [Int.toNat_natCast,Nat.sub_zero,List.nil_append,List.drop_zero,List.length_take,Nat.min_eq_left hle]
 refine DoesL.ends (aw .nil) 100 (H9 l n) ⟨⟨by omega,by omega,by omega,by rw [aE];omega,by decide,.inl rfl,rfl,rfl⟩,fun _=>⟨⟨⟨by rw [aE];omega,rfl⟩,by omega,by omega⟩,fun _ => ?_⟩⟩
 rw [yr h]
 exact ⟨_,rfl,by show 0+(((n:Nat):Int).toNat-0)<=_;rw [hlen];omega⟩
theorem CZ:CallOk Try.prog 176 (K8 cE) :=
 G1 (E:=En []) Try.func176 (c:=ad Try.f176) (by kernel_rfl) (ae Try.func176 (by kernel_rfl) (by kernel_rfl)) iFew oFrs cE fun l hl=>by
  have hl:l.length<4294967296:=hl.2
  refine DoesL.stageG (aw .nil) 100 2 _ _ _ _ _ (A0 l) ⟨bf l,fun _ => ?_⟩
  refine (?_:DoesL _ _ (pb l (l.length:Int)) _)
  refine DoesL.blockLoop (B:=aG Try.f176 0) (rest:=pcutC.drop 3) (id:=0) (by kernel_rfl) (fun n:R2 l=>pb l (n.1:Int)) (fun n=>n.1) ⟨l.length,Nat.le_refl _,rfl⟩ fun n => ?_
  obtain ⟨n,h1,h2⟩:=n
  refine (?_:Does _ _ (pb l (n:Int)) _)
  refine Does.round (aw .nil) 100 _ (A1 l n) ⟨fun h => ?_,fun h => ?_⟩
  ·simp only [decide_eq_true_eq] at h
   obtain ⟨m,rfl⟩ : ∃ m,n=m+1:=⟨n-1,by omega⟩
   rw [N8 m (by omega),kf]
   refine ⟨gh (by omega),fun _=>⟨by omega,fun _=>⟨fun h3 => ?_,fun h3 => ?_⟩⟩⟩
   ·have h3:fJ (l.getD m frZ) frZ=true:=h3
    refine ⟨⟨m,by omega,?_⟩,Nat.lt_succ_self m,rfl⟩
    rw [<- h2]
    show _=(match fJ (l.getD m frZ) frZ with | true=>cV l m | false=>m+1)
    rw [h3]
   ·have h3:fJ (l.getD m frZ) frZ=false:=h3
    refine ⟨rfl,yV hl ?_⟩
    rw [<- h2]
    show _=(match fJ (l.getD m frZ) frZ with | true=>cV l m | false=>m+1)
    rw [h3]
  ·simp only [decide_eq_false_iff_not] at h
   obtain rfl:n=0:=by omega
   exact ⟨rfl,yV hl h2⟩
theorem yH {l:List Fr} (hl:l.length<4294967296) {n:Nat} (h:n=cV l l.length):DoesL (En []) (rcutC.drop 3) (pa l (n:Int)) (EndsAs (En []) Try.f152 (bK oFrs (cE l))):=by
 have hle:n<=l.length:=by rw [h];exact iI l _
 have hlen:([]++List.take (((n:Nat):Int).toNat-0) (List.drop 0 l)).length=n:=by
  rw [Int.toNat_natCast,Nat.sub_zero,List.nil_append,List.drop_zero,List.length_take,Nat.min_eq_left hle]
 refine DoesL.ends (aw .nil) 100 (HL l n) ⟨⟨by omega,by omega,by omega,by rw [aE];omega,by decide,.inl rfl,rfl,rfl⟩,fun _=>⟨⟨⟨by rw [aE];omega,rfl⟩,by omega,by omega⟩,fun _ => ?_⟩⟩
 rw [yr h]
 exact ⟨_,rfl,by show 0+(((n:Nat):Int).toNat-0)<=_;rw [hlen];omega⟩
theorem CU:CallOk Try.prog 152 (K8 cE) :=
 G1 (E:=En []) Try.func152 (c:=ad Try.f152) (by kernel_rfl) (ae Try.func152 (by kernel_rfl) (by kernel_rfl)) iFew oFrs cE fun l hl=>by
  have hl:l.length<4294967296:=hl.2
  refine DoesL.stageG (aw .nil) 100 2 _ _ _ _ _ (Az l) ⟨bf l,fun _ => ?_⟩
  refine (?_:DoesL _ _ (pa l (l.length:Int)) _)
  refine DoesL.blockLoop (B:=aG Try.f152 0) (rest:=rcutC.drop 3) (id:=0) (by kernel_rfl) (fun n:R2 l=>pa l (n.1:Int)) (fun n=>n.1) ⟨l.length,Nat.le_refl _,rfl⟩ fun n => ?_
  obtain ⟨n,h1,h2⟩:=n
  refine (?_:Does _ _ (pa l (n:Int)) _)
  refine Does.round (aw .nil) 100 _ (AA l n) ⟨fun h => ?_,fun h => ?_⟩
  ·simp only [decide_eq_true_eq] at h
   obtain ⟨m,rfl⟩ : ∃ m,n=m+1:=⟨n-1,by omega⟩
   rw [N8 m (by omega),kf]
   refine ⟨gh (by omega),fun _=>⟨by omega,fun _=>⟨fun h3 => ?_,fun h3 => ?_⟩⟩⟩
   ·have h3:fJ (l.getD m frZ) frZ=true:=h3
    refine ⟨⟨m,by omega,?_⟩,Nat.lt_succ_self m,rfl⟩
    rw [<- h2]
    show _=(match fJ (l.getD m frZ) frZ with | true=>cV l m | false=>m+1)
    rw [h3]
   ·have h3:fJ (l.getD m frZ) frZ=false:=h3
    refine ⟨rfl,yH hl ?_⟩
    rw [<- h2]
    show _=(match fJ (l.getD m frZ) frZ with | true=>cV l m | false=>m+1)
    rw [h3]
  ·simp only [decide_eq_false_iff_not] at h
   obtain rfl:n=0:=by omega
   exact ⟨rfl,yH hl h2⟩
section
variable {aF mF : Fr -> Fr -> Fr}
abbrev RaQ (aF mF:Fr->Fr->Fr) (l:List Fr) (x:Fr):Type := { s:Nat × Fr // s.1<=l.length/\rAt aF mF l x s.1 s.2=rAt aF mF l x l.length frZ }
theorem Ms (hE:EnvOk (raE aF mF)) (l:List Fr) (x:Fr) (hl:l.length<1125899906842624):DoesL (raE aF mF) (flat (ad Try.f107)) (af Try.f107 [rwV .fr 0 l,v4 x] [bh .fr l]) (EndsAs (raE aF mF) Try.f107 (bK r4.out (rAt aF mF l x l.length frZ))):=by
  have hw:IntKind.i64.wrap ((l.length:Int)-1)=(l.length:Int)-1:=IntWalk.i64_in _ (by omega)
  refine DoesL.stageG hE 100 3 _ _ _ _ _ (HP aF mF l x) ⟨bf l,fun _ => ?_⟩
  rw [hw]
  refine (?_:DoesL _ _ (Mt l x frZ (l.length-1:Int)) _)
  refine DoesL.blockLoop (B:=aG Try.f107 0) (rest:=raC.drop 4) (id:=0) (by kernel_rfl) (fun s:RaQ aF mF l x=>Mt l x s.1.2 ((s.1.1:Int)-1)) (fun s=>s.1.1) ⟨(l.length,frZ),Nat.le_refl _,rfl⟩ fun s => ?_
  obtain ⟨⟨n,y⟩,h1,h2⟩:=s
  simp only [] at h1 h2
  refine (?_:Does _ _ (Mt l x y ((n:Int)-1)) _)
  refine Does.round hE 300 _ (HQ aF mF l x y ((n:Int)-1)) ⟨fun h => ?_,fun h => ?_⟩
  ·simp only [ge_iff_le,decide_eq_true_eq] at h
   obtain ⟨m,rfl⟩ : ∃ m,n=m+1:=⟨n-1,by omega⟩
   have e1:((m+1:Nat):Int)-1=(m:Int):=by omega
   have e2:IntKind.i64.wrap ((m:Int)-1)=(m:Int)-1:=IntWalk.i64_in _ (by omega)
   rw [e1,e2,kf]
   refine ⟨gh (by omega),fun _=>⟨by omega,fun _ => ?_⟩⟩
   rw [yM] at h2
   exact ⟨⟨(m,aF (mF y x) (l.getD m frZ)),by show m<=l.length;omega,h2⟩,Nat.lt_succ_self m,rfl⟩
  ·simp only [ge_iff_le,decide_eq_false_iff_not] at h
   obtain rfl:n=0:=by omega
   rw [yL] at h2
   exact ⟨rfl,DoesL.ends hE 100 (Po aF mF l x y _) ⟨.t,by rw [<- h2],trivial⟩⟩
end
def vW (l:List Fr) (x:Fr):Fr:=rAt df bZ l x l.length frZ
theorem Mw:CallOk Try.prog 107 (K2 (aB .fr) (aa Fr).arg r4.res vW) :=
 G2 (E:=raE df bZ) Try.func107 (c:=ad Try.f107) (by kernel_rfl) (ae Try.func107 (by kernel_rfl) (by kernel_rfl)) (cI .fr) (aa Fr).inp r4.out vW fun l x hl _=>Ms (aw (.cons DL (.cons wd .nil))) l x hl
theorem eU (l:List Fr) {j:Nat} (h:j<l.length):l.take (j+1)=l.take j ++ [l.getD j frZ]:=by
 rw [List.take_add_one,List.getD_eq_getElem?_getD,List.getElem?_eq_getElem h]
 rfl
def aW (l:List Fr) (k:Fr):List Fr:=cE (l.map fun a=>bZ a k)
theorem AF:CallOk Try.prog 102 (K2 cQ (aa Fr).arg oFrs.res aW) :=
 G2 (E:=rsE bZ cE) Try.func102 (c:=ad Try.f102) (by kernel_rfl) (ae Try.func102 (by kernel_rfl) (by kernel_rfl)) iFew (aa Fr).inp oFrs aW fun l k hl _=>by
  have hl:l.length<4294967296:=hl.2
  have hE:EnvOk (rsE bZ cE):=bP (.cons wd (.cons CU .nil))
  refine DoesL.stageG hE 100 3 _ _ _ _ _ (Em bZ cE l k) ?_
  refine (?_:DoesL _ _ (wB l k ((0:Nat):Int) 0 ((l.take 0).map fun a=>bZ a k)) _)
  refine DoesL.blockLoop (B:=aG Try.f102 0) (rest:=rsC.drop 4) (id:=0) (by kernel_rfl) (fun j : { j:Nat // j<=l.length }=>wB l k (j.1:Int) j.1 ((l.take j.1).map fun a=>bZ a k)) (fun j=>l.length-j.1) ⟨0,Nat.zero_le _⟩ fun j => ?_
  obtain ⟨j,hj⟩:=j
  refine (?_:Does _ _ (wB l k (j:Int) j ((l.take j).map fun a=>bZ a k)) _)
  have hlen:((l.take j).map fun a=>bZ a k).length=j:=by rw [List.length_map,List.length_take,Nat.min_eq_left hj]
  refine Does.roundP hE 300 _ (Eo bZ cE l k (j:Int) j ((l.take j).map fun a=>bZ a k)) ⟨bf l,fun _=>⟨fun h => ?_,fun h => ?_⟩⟩
  ·simp only [decide_eq_true_eq] at h
   have hj1:j<l.length:=by omega
   refine ⟨gh hj1,fun _=>⟨pV hj1,fun _=>⟨⟨⟨by rw [aE,hlen];omega,rfl⟩,by omega,by omega⟩,fun _ => ?_⟩⟩⟩
   refine ⟨⟨j+1,hj1⟩,by show l.length-(j+1)<l.length-j;omega,?_⟩
   show _=wB l k ((j+1:Nat):Int) (j+1) ((l.take (j+1)).map fun a=>bZ a k)
   rw [pS j (by omega),lH hlen,eU l hj1,List.map_append,kf]
   rfl
  ·simp only [decide_eq_false_iff_not] at h
   obtain rfl:j=l.length:=by omega
   rw [List.take_length] at hlen ⊢
   refine ⟨rfl,DoesL.ends hE 100 (Mh bZ cE l k _ _ _) ⟨⟨⟨by rw [aE,hlen];omega,rfl,by omega,rfl,rfl⟩,?_⟩,fun _ => ?_⟩⟩
   ·show (List.take l.length (List.drop 0 _)).length<4294967296
    rw [List.length_take]
    omega
   ·rw [ap hlen,List.take_length]
    exact ⟨_,rfl,Nat.le_refl _⟩
def jn (l:List Fr) (i:Int):Fr:=atL l i.toNat
theorem Pn:CallOk Try.prog 151 (K2 (aB .fr) (kInt.arg.such ui) r4.res jn) :=
 G2 (E:=En []) Try.func151 (c:=ad Try.f151) (by kernel_rfl) (ae Try.func151 (by kernel_rfl) (by kernel_rfl)) (cI .fr) (kInt.inp.such ui) r4.out jn fun l i hl hi=>by
  have hi:0<=i:=hi.2
  refine DoesL.ends (aw .nil) 100 (Mr l i) ⟨bf l,fun _=>⟨fun h => ?_,fun h => ?_⟩⟩
  ·simp only [decide_eq_true_eq] at h
   refine ⟨⟨⟨hi,h⟩,by rw [aE];omega,by decide,rfl⟩,fun _=>⟨by omega,fun _=>⟨.t,?_,trivial⟩⟩⟩
   rw [Nat.zero_add]
   rfl
  ·simp only [decide_eq_false_iff_not] at h
   refine ⟨.t,?_,trivial⟩
   unfold jn atL
   rw [List.getD_eq_getElem?_getD,List.getElem?_eq_none (by omega)]
   rfl
def kL (l m:List Fr) (n:Nat):List Fr:=(List.range n).map fun i=>df (atL l i) (atL m i)
theorem uI (l m:List Fr) (n:Nat):(kL l m n).length=n:=by unfold kL;rw [List.length_map,List.length_range]
theorem BR (l m:List Fr) (n:Nat):kL l m (n+1)=kL l m n ++ [df (atL l n) (atL m n)]:=by unfold kL;rw [List.range_succ,List.map_append];rfl
theorem iD (j:Nat):ui (j:Int):=Int.natCast_nonneg j
def bR (l m:List Fr):Nat:=max m.length l.length
def cT (l m:List Fr):List Fr:=cE (kL l m (bR l m))
theorem rf (l m:List Fr):(if (m.length:Int) > (l.length:Int) then (m.length:Int) else (l.length:Int))=(bR l m:Int):=by
 unfold bR
 by_cases h:l.length<m.length
 ·rw [if_pos (by omega),Nat.max_eq_left (by omega)]
 ·rw [if_neg (by omega),Nat.max_eq_right (by omega)]
theorem HU:CallOk Try.prog 101 (K2 cQ cQ oFrs.res cT) :=
 G2 (E:=rdE jn df cE) Try.func101 (c:=ad Try.f101) (by kernel_rfl) (ae Try.func101 (by kernel_rfl) (by kernel_rfl)) iFew iFew oFrs cT fun l m hl hm=>by
  have hl:l.length<4294967296:=hl.2
  have hm:m.length<4294967296:=hm.2
  have hN:bR l m<4294967296:=Nat.max_lt.2 ⟨hm,hl⟩
  have hE:EnvOk (rdE jn df cE):=bP (.cons Pn (.cons DL (.cons CU .nil)))
  refine DoesL.stageG hE 100 3 _ _ _ _ _ (HJ jn df cE l m) ?_
  refine (?_:DoesL _ _ (J1 l m ((0:Nat):Int) 0 (kL l m 0)) _)
  refine DoesL.blockLoop (B:=aG Try.f101 0) (rest:=rdC.drop 4) (id:=0) (by kernel_rfl) (fun j : { j:Nat // j<=bR l m }=>J1 l m (j.1:Int) j.1 (kL l m j.1)) (fun j=>bR l m-j.1) ⟨0,Nat.zero_le _⟩ fun j => ?_
  obtain ⟨j,hj⟩:=j
  refine (?_:Does _ _ (J1 l m (j:Int) j (kL l m j)) _)
  have hlen:=uI l m j
  refine Does.roundP hE 300 _ (HK jn df cE l m (j:Int) j (kL l m j)) ⟨bf l,fun _=>⟨bf m,fun _ => ?_⟩⟩
  rw [rf]
  refine ⟨fun h => ?_,fun h => ?_⟩
  ·simp only [decide_eq_true_eq] at h
   have hj1:j<bR l m:=by omega
   refine ⟨⟨bN (by show l.length<1125899906842624;omega),iD j⟩,fun _=>⟨⟨bN (by show m.length<1125899906842624;omega),iD j⟩,fun _=>⟨⟨⟨by rw [aE,hlen];omega,rfl⟩,by omega,by omega⟩,fun _ => ?_⟩⟩⟩
   refine ⟨⟨j+1,hj1⟩,by show bR l m-(j+1)<bR l m-j;omega,?_⟩
   show _=J1 l m ((j+1:Nat):Int) (j+1) (kL l m (j+1))
   rw [pS j (by omega),lH hlen,ap rfl,ap rfl,BR]
   rfl
  ·simp only [decide_eq_false_iff_not] at h
   obtain rfl:j=bR l m:=by omega
   refine ⟨rfl,DoesL.ends hE 100 (Pk jn df cE l m _ _ _) ⟨⟨⟨by rw [aE,hlen];omega,rfl,by omega,rfl,rfl⟩,?_⟩,fun _ => ?_⟩⟩
   ·show (List.take (bR l m) (List.drop 0 _)).length<4294967296
    rw [List.length_take]
    omega
   ·rw [ap hlen,List.take_length]
    exact ⟨_,rfl,Nat.le_refl _⟩
def bv (l:List Fr) (n:Int):Bool:=match lU cm l with
 | true=>decide ((l.length:Int)<=n)
 | false=>false
theorem rb (mF:Fr->Bool) (x:Fr) (l:List Fr):lU mF (x :: l)=match !(mF x) with | true=>false | false=>lU mF l:=rfl
theorem FM (l:List Fr) {i:Nat} (h:i<l.length):l.drop i=l.getD i frZ :: l.drop (i+1):=by
 rw [List.drop_eq_getElem_cons h,List.getD_eq_getElem?_getD,List.getElem?_eq_getElem h]
 rfl
abbrev LmQ (l:List Fr):Type := { i:Nat // i<=l.length/\lU cm (l.drop i)=lU cm l }
theorem ss:CallOk Try.prog 44 (K2 (aB .fr) kInt.arg kBool.rs.res bv) :=
 G2 (E:=lmE cm) Try.func44 (c:=ad Try.f44) (by kernel_rfl) (ae Try.func44 (by kernel_rfl) (by kernel_rfl)) (cI .fr) kInt.inp oB bv fun l n hl _=>by
  have hl:l.length<1125899906842624:=hl
  have hE:EnvOk (lmE cm):=aw (.cons Di .nil)
  refine DoesL.stageG hE 100 2 _ _ _ _ _ (I0 cm l n) ?_
  refine (?_:DoesL _ _ (Nm l n ((0:Nat):Int)) _)
  refine DoesL.blockLoopR (B:=aG Try.f44 0) (rest:=lmC.drop 3) (id:=0) (by kernel_rfl) (fun i:LmQ l=>Nm l n (i.1:Int)) (fun i=>l.length-i.1) ⟨0,Nat.zero_le _,rfl⟩ fun s => ?_
  obtain ⟨i,h0,h1⟩:=s
  refine (?_:DoesL _ _ (Nm l n (i:Int)) _)
  refine DoesL.iter hE 300 _ _ (I1 cm l n (i:Int)) ⟨bf l,fun _=>⟨fun h => ?_,fun h => ?_⟩⟩
  ·simp only [decide_eq_true_eq] at h
   have hi:i<l.length:=by omega
   refine ⟨gh hi,fun _=>⟨pV hi,fun _ => ?_⟩⟩
   have hw:IntKind.i64.wrap ((i:Int)+1)=((i+1:Nat):Int):=(IntWalk.i64_in _ (by omega)).trans (by omega)
   rw [FM l hi,rb] at h1
   rw [kf,hw]
   refine ⟨fun h2 => ?_,fun h2 => ?_⟩
   ·have h2:(!(cm (l.getD i frZ)))=true:=h2
    rw [h2] at h1
    have h1:false=lU cm l:=h1
    exact ⟨.t,by unfold bv;rw [<- h1],trivial⟩
   ·have h2:(!(cm (l.getD i frZ)))=false:=h2
    rw [h2] at h1
    exact ⟨⟨i+1,hi,h1⟩,by show l.length-(i+1)<l.length-i;omega,rfl⟩
  ·simp only [decide_eq_false_iff_not] at h
   obtain rfl:i=l.length:=by omega
   rw [List.drop_length] at h1
   have h1:true=lU cm l:=h1
   refine ⟨rfl,DoesL.ends hE 100 (PX cm l n _) ⟨bf l,fun _=>⟨.t,?_,trivial⟩⟩⟩
   unfold bv
   rw [<- h1]
end
section
def DN (f0:Fp->Fp->Fp) (a:Fp2) (b:Fp2):Fp2:=({ c0:=f0 a.c0 b.c0,c1:=f0 a.c1 b.c1 })
def LC (a:Fp2) (b:Fp2):Fp2:=DN jp a b
def CL (f0:Fp->Fp->Fp) (a:Fp2) (b:Fp2):Fp2:=({ c0:=f0 a.c0 b.c0,c1:=f0 a.c1 b.c1 })
def Li (a:Fp2) (b:Fp2):Fp2:=CL gl a b
def Dd (f0:Fp->Fp) (a:Fp2):Fp2:=({ c0:=f0 a.c0,c1:=f0 a.c1 })
def mX (a:Fp2):Fp2:=Dd wc a
end
section
def wu (f0:Fp->Fp->Fp) (a:Fp2) (b:Fp2):Fp2:=({ c0:=f0 a.c0 b.c0,c1:=f0 a.c1 b.c1 })
def DO (f0:Fp->Fp->Fp) (a:Fp2) (b:Fp2):Tree (Option (Fp2)) :=
 (.leaf (some ({ c0:=f0 a.c0 b.c0,c1:=f0 a.c1 b.c1 })))
theorem Gg (f0:Fp->Fp->Fp) (a:Fp2) (b:Fp2):ag (En [(73,Kff f0)]) (aa Fp2).rs 300 Try.f90 [.one ((aa Fp2).av a),.one ((aa Fp2).av b)]=DO f0 a b:=by kernel_rfl
theorem Gf (f0:Fp->Fp->Fp) (a:Fp2) (b:Fp2):(DO f0 a b).sat fun q=>q=some (wu f0 a b):=(show some _=some _ from rfl)
def kM (a:Fp2) (b:Fp2):Fp2:=wu mb a b
theorem zS:CallOk Try.prog 90 (K2 (aa Fp2).arg (aa Fp2).arg (aa Fp2).rs.res kM) :=
 P2 (aw (.cons DM .nil)) Try.func90 (ae Try.func90 (by kernel_rfl) (by kernel_rfl)) 300 (aa Fp2) (aa Fp2) (aa Fp2).rs kM (Gg mb) (Gf mb)
def vK (f0:Fp->Fp->Fp) (a:Fp2) (b:Fp2):Fp2:=({ c0:=f0 a.c0 b.c0,c1:=f0 a.c1 b.c1 })
def CM (f0:Fp->Fp->Fp) (a:Fp2) (b:Fp2):Tree (Option (Fp2)) :=
 (.leaf (some ({ c0:=f0 a.c0 b.c0,c1:=f0 a.c1 b.c1 })))
theorem Ea (f0:Fp->Fp->Fp) (a:Fp2) (b:Fp2):ag (En [(126,Kff f0)]) (aa Fp2).rs 300 Try.f122 [.one ((aa Fp2).av a),.one ((aa Fp2).av b)]=CM f0 a b:=by kernel_rfl
theorem D9 (f0:Fp->Fp->Fp) (a:Fp2) (b:Fp2):(CM f0 a b).sat fun q=>q=some (vK f0 a b):=(show some _=some _ from rfl)
def oN (a:Fp2) (b:Fp2):Fp2:=vK lK a b
theorem Hg:CallOk Try.prog 122 (K2 (aa Fp2).arg (aa Fp2).arg (aa Fp2).rs.res oN) :=
 P2 (aw (.cons CJ .nil)) Try.func122 (ae Try.func122 (by kernel_rfl) (by kernel_rfl)) 300 (aa Fp2) (aa Fp2) (aa Fp2).rs oN (Ea lK) (D9 lK)
def Dh (f0:Fp->Fp->Fp) (f1:Fp->Fp->Fp) (f2:Fp->Fp->Fp) (a:Fp2) (b:Fp2):Fp2:=({ c0:=f0 (f1 a.c0 b.c0) (f1 a.c1 b.c1),c1:=f2 (f1 a.c0 b.c1) (f1 a.c1 b.c0) })
def Dg (f0:Fp->Fp->Fp) (f1:Fp->Fp->Fp) (f2:Fp->Fp->Fp) (a:Fp2) (b:Fp2):Tree (Option (Fp2)) :=
 (.leaf (some ({ c0:=f0 (f1 a.c0 b.c0) (f1 a.c1 b.c1),c1:=f2 (f1 a.c0 b.c1) (f1 a.c1 b.c0) })))
theorem E6 (f0:Fp->Fp->Fp) (f1:Fp->Fp->Fp) (f2:Fp->Fp->Fp) (a:Fp2) (b:Fp2):ag (En [(126,Kff f0),(74,Kff f1),(73,Kff f2)]) (aa Fp2).rs 300 Try.f91 [.one ((aa Fp2).av a),.one ((aa Fp2).av b)]=Dg f0 f1 f2 a b:=by kernel_rfl
theorem E5 (f0:Fp->Fp->Fp) (f1:Fp->Fp->Fp) (f2:Fp->Fp->Fp) (a:Fp2) (b:Fp2):(Dg f0 f1 f2 a b).sat fun q=>q=some (Dh f0 f1 f2 a b):=(show some _=some _ from rfl)
def qS (a:Fp2) (b:Fp2):Fp2:=Dh lK cU mb a b
theorem zd:CallOk Try.prog 91 (K2 (aa Fp2).arg (aa Fp2).arg (aa Fp2).rs.res qS) :=
 P2 (aw (.cons CJ (.cons qR (.cons DM .nil)))) Try.func91 (ae Try.func91 (by kernel_rfl) (by kernel_rfl)) 300 (aa Fp2) (aa Fp2) (aa Fp2).rs qS (E6 lK cU mb) (E5 lK cU mb)
def vZ (f0:UInt64->Fp):Fp2:=({ c0:=f0 (1:UInt64),c1:=zeroFp })
def C4 (f0:UInt64->Fp):Tree (Option (Fp2)) :=
 (.leaf (some ({ c0:=f0 (1:UInt64),c1:=zeroFp })))
theorem ES (f0:UInt64->Fp):ag (En [(71,Kof f0)]) (aa Fp2).rs 300 Try.f125 []=C4 f0:=by kernel_rfl
theorem ER (f0:UInt64->Fp):(C4 f0).sat fun q=>q=some (vZ f0):=(show some _=some _ from rfl)
def mT  : Fp2:=vZ ofF
theorem yY:CallOk Try.prog 125 (K0 (aa Fp2).rs.res mT) :=
 P0 (aw (.cons B9 .nil)) Try.func125 (ae Try.func125 (by kernel_rfl) (by kernel_rfl)) 300  (aa Fp2).rs mT (ES ofF) (ER ofF)
def JT (f0:UInt64->Fp):Fp2:=({ c0:=f0 (1:UInt64),c1:=f0 (1:UInt64) })
def JS (f0:UInt64->Fp):Tree (Option (Fp2)) :=
 (.leaf (some ({ c0:=f0 (1:UInt64),c1:=f0 (1:UInt64) })))
theorem GS (f0:UInt64->Fp):ag (En [(71,Kof f0)]) (aa Fp2).rs 300 Try.f164 []=JS f0:=by kernel_rfl
theorem GQ (f0:UInt64->Fp):(JS f0).sat fun q=>q=some (JT f0):=(show some _=some _ from rfl)
def LI  : Fp2:=JT ofF
theorem LH:CallOk Try.prog 164 (K0 (aa Fp2).rs.res LI) :=
 P0 (aw (.cons B9 .nil)) Try.func164 (ae Try.func164 (by kernel_rfl) (by kernel_rfl)) 300  (aa Fp2).rs LI (GS ofF) (GQ ofF)
end
section
def Fp6.nth (a:Fp6):Nat->Fp2
 | 0=>a.c0
 | 1=>a.c1
 | _=>a.c2
end
section
theorem JD (e:List UInt64) (i:Int):letI za':=IntKind.i64.wrap (i.tdiv 64);cD (En []) oB 100 Try.f127 (flat (ad Try.f127)) (af Try.f127 [iL.av 0 e,vI i] [iu eU64 e])=(.vc ((0<=IntKind.i64.wrap (i.tdiv 64)/\IntKind.i64.wrap (i.tdiv 64)<(↑e.length:Int))/\0+e.length*1<=(List.map EK.u64.cell e).length/\0<1) (.vc (0+za'.toNat*1<e.length) (.vc (0<=i.tmod 64) (.leaf (some ((fu (e.getD (0+za'.toNat*1) 0) (i.tmod 64) &&& UInt64.ofNat 1==UInt64.ofNat 1,.t))))))):=by kernel_rfl
abbrev LA (e:List UInt64) (i:Nat):Prop:=i<64*e.length
abbrev R0 (F:List UInt64->Nat->Bool):ay:=K2c aL w8 LA kBool.rs.res F
theorem NQ:CallOk Try.prog 127 (R0 dd) :=
 G2c (E:=En []) Try.func127 (c:=ad Try.f127) (by kernel_rfl) (ae Try.func127 (by kernel_rfl) (by kernel_rfl)) iL inpNat LA oB dd fun e i he _ hk=>by
  have he:e.length<1125899906842624:=he
  have hk:i<64*e.length:=hk
  have hi:i<9223372036854775808:=by omega
  have hq:i / 64<e.length:=by omega
  refine DoesL.ends (aw .nil) 100 (JD e (i:Int)) ?_
  rw [sn i hi,sm]
  refine ⟨pU hq,fun _=>⟨pW hq,fun _=>⟨by omega,fun _=>aV ?_⟩⟩⟩
  rw [Ny]
  exact vN _ _ (by omega)
end
section
def C3  : Pg1:=({ x := { l0:=UInt64.ofNat 18103045581585958587,l1:=UInt64.ofNat 7806400890582735599,l2:=UInt64.ofNat 11623291730934869080,l3:=UInt64.ofNat 14080658508445169925,l4:=UInt64.ofNat 2780237799254240271,l5:=UInt64.ofNat 1725392847304644500 },y := { l0:=UInt64.ofNat 912580534683953121,l1:=UInt64.ofNat 15005087156090211044,l2:=UInt64.ofNat 61670280795567085,l3:=UInt64.ofNat 18227722000993880822,l4:=UInt64.ofNat 11573741888802228964,l5:=UInt64.ofNat 627113611842199793 },inf:=false })
def C2  : Tree (Option (Pg1)) :=
 (.leaf (some ({ x := { l0:=UInt64.ofNat 18103045581585958587,l1:=UInt64.ofNat 7806400890582735599,l2:=UInt64.ofNat 11623291730934869080,l3:=UInt64.ofNat 14080658508445169925,l4:=UInt64.ofNat 2780237799254240271,l5:=UInt64.ofNat 1725392847304644500 },y := { l0:=UInt64.ofNat 912580534683953121,l1:=UInt64.ofNat 15005087156090211044,l2:=UInt64.ofNat 61670280795567085,l3:=UInt64.ofNat 18227722000993880822,l4:=UInt64.ofNat 11573741888802228964,l5:=UInt64.ofNat 627113611842199793 },inf:=false })))
theorem EQ  : ag (En []) (aa Pg1).rs 300 Try.f55 []=C2  := by kernel_rfl
theorem EP  : (C2 ).sat fun q=>q=some (C3 ):=(show some _=some _ from rfl)
def oneG1  : Pg1:=C3
theorem Ik:CallOk Try.prog 55 (K0 (aa Pg1).rs.res oneG1) :=
 P0 (aw .nil) Try.func55 (ae Try.func55 (by kernel_rfl) (by kernel_rfl)) 300  (aa Pg1).rs oneG1 (EQ ) (EP )
def fH (f0:Fp->Fp) (p:Pg1):Sp1:=(match (p.inf) with | true=>(eS) | false=>({ x:=f0 p.x,y:=f0 p.y,z:=f0 oneFp }))
def zh (f0:Fp->Fp) (p:Pg1):Tree (Option (Sp1)) :=
 (.br (p.inf)
  (.leaf (some (eS)))
  (.leaf (some ({ x:=f0 p.x,y:=f0 p.y,z:=f0 oneFp }))))
theorem Bl (f0:Fp->Fp) (p:Pg1):ag (En [(119,Kf f0)]) (aa Sp1).rs 300 Try.f60 [.one ((aa Pg1).av p)]=zh f0 p:=by kernel_rfl
theorem Bk (f0:Fp->Fp) (p:Pg1):(zh f0 p).sat fun q=>q=some (fH f0 p):=⟨fun h0=>(show some _=some _ from congrArg some (by unfold fH;rw [h0])),fun h0=>(show some _=some _ from congrArg some (by unfold fH;rw [h0]))⟩
def dG (p:Pg1):Sp1:=fH bq p
theorem Fq:CallOk Try.prog 60 (K1 (aa Pg1).arg (aa Sp1).rs.res dG) :=
 P1 (aw (.cons rW .nil)) Try.func60 (ae Try.func60 (by kernel_rfl) (by kernel_rfl)) 300 (aa Pg1) (aa Sp1).rs dG (Bl bq) (Bk bq)
def rV (a:Fp):Bool:=((jl (a) (zeroFp)))
def yg (a:Fp):Tree (Option (Bool)) :=
 (.leaf (some ((jl (a) (zeroFp)))))
theorem zV (a:Fp):ag (En []) kBool.rs 300 Try.f75 [.one ((aa Fp).av a)]=yg a:=by kernel_rfl
theorem zU (a:Fp):(yg a).sat fun q=>q=some (rV a):=(show some _=some _ from rfl)
def jr (a:Fp):Bool:=rV  a
theorem DR:CallOk Try.prog 75 (K1 (aa Fp).arg kBool.rs.res jr) :=
 P1 (aw .nil) Try.func75 (ae Try.func75 (by kernel_rfl) (by kernel_rfl)) 300 (aa Fp) kBool.rs jr (zV ) (zU )
def fI (f0:Fp->Fp × Int) (f1:Fp->Fp) (f2:Fp->Fp->Fp) (s:Sp1):Pg1:=(match ((f0 (f1 s.z)).snd != 0) with | true=>(infG1) | false=>({ x:=f2 (f1 s.x) (f2 (f0 (f1 s.z)).fst (f0 (f1 s.z)).fst),y:=f2 (f1 s.y) (f2 (f2 (f0 (f1 s.z)).fst (f0 (f1 s.z)).fst) (f0 (f1 s.z)).fst),inf:=false }))
def zk (f0:Fp->Fp × Int) (f1:Fp->Fp) (f2:Fp->Fp->Fp) (s:Sp1):Tree (Option (Pg1)):=letI za':=f2 (f0 (f1 s.z)).fst (f0 (f1 s.z)).fst;
 (.br ((f0 (f1 s.z)).snd != 0) (.leaf (some (infG1))) (.leaf (some ({ x:=f2 (f1 s.x) za',y:=f2 (f1 s.y) (f2 za' (f0 (f1 s.z)).fst),inf:=false }))))
theorem Br (f0:Fp->Fp × Int) (f1:Fp->Fp) (f2:Fp->Fp->Fp) (s:Sp1):ag (En [(113,RZ f0),(114,Kf f1),(69,Kff f2)]) (aa Pg1).rs 300 Try.f58 [.one ((aa Sp1).av s)]=zk f0 f1 f2 s:=by kernel_rfl
theorem Bq (f0:Fp->Fp × Int) (f1:Fp->Fp) (f2:Fp->Fp->Fp) (s:Sp1):(zk f0 f1 f2 s).sat fun q=>q=some (fI f0 f1 f2 s):=⟨fun h0=>(show some _=some _ from congrArg some (by unfold fI;rw [h0])),fun h0=>(show some _=some _ from congrArg some (by unfold fI;rw [h0]))⟩
def dj (s:Sp1):Pg1:=fI hO hJ ll s
theorem Fv:CallOk Try.prog 58 (K1 (aa Sp1).arg (aa Pg1).rs.res dj) :=
 P1 (aw (.cons P5 (.cons Ky (.cons PJ .nil)))) Try.func58 (ae Try.func58 (by kernel_rfl) (by kernel_rfl)) 300 (aa Sp1) (aa Pg1).rs dj (Br hO hJ ll) (Bq hO hJ ll)
def nP (f0:Fp->Fp->Fp) (f1:Fp->Fp->Fp) (f2:Fp->Fp->Fp) (s:Sp1):Sp1:=({ x:=f2 (f0 (f1 (f1 (f0 s.x s.x) (f0 s.x s.x)) (f0 s.x s.x)) (f1 (f1 (f0 s.x s.x) (f0 s.x s.x)) (f0 s.x s.x))) (f1 (f1 (f1 (f0 s.x (f0 s.y s.y)) (f0 s.x (f0 s.y s.y))) (f1 (f0 s.x (f0 s.y s.y)) (f0 s.x (f0 s.y s.y)))) (f1 (f1 (f0 s.x (f0 s.y s.y)) (f0 s.x (f0 s.y s.y))) (f1 (f0 s.x (f0 s.y s.y)) (f0 s.x (f0 s.y s.y))))),y:=f2 (f0 (f1 (f1 (f0 s.x s.x) (f0 s.x s.x)) (f0 s.x s.x)) (f2 (f1 (f1 (f0 s.x (f0 s.y s.y)) (f0 s.x (f0 s.y s.y))) (f1 (f0 s.x (f0 s.y s.y)) (f0 s.x (f0 s.y s.y)))) (f2 (f0 (f1 (f1 (f0 s.x s.x) (f0 s.x s.x)) (f0 s.x s.x)) (f1 (f1 (f0 s.x s.x) (f0 s.x s.x)) (f0 s.x s.x))) (f1 (f1 (f1 (f0 s.x (f0 s.y s.y)) (f0 s.x (f0 s.y s.y))) (f1 (f0 s.x (f0 s.y s.y)) (f0 s.x (f0 s.y s.y)))) (f1 (f1 (f0 s.x (f0 s.y s.y)) (f0 s.x (f0 s.y s.y))) (f1 (f0 s.x (f0 s.y s.y)) (f0 s.x (f0 s.y s.y)))))))) (f1 (f1 (f1 (f0 (f0 s.y s.y) (f0 s.y s.y)) (f0 (f0 s.y s.y) (f0 s.y s.y))) (f1 (f0 (f0 s.y s.y) (f0 s.y s.y)) (f0 (f0 s.y s.y) (f0 s.y s.y)))) (f1 (f1 (f0 (f0 s.y s.y) (f0 s.y s.y)) (f0 (f0 s.y s.y) (f0 s.y s.y))) (f1 (f0 (f0 s.y s.y) (f0 s.y s.y)) (f0 (f0 s.y s.y) (f0 s.y s.y))))),z:=f1 (f0 s.y s.z) (f0 s.y s.z) })
def tQ (f0:Fp->Fp->Fp) (f1:Fp->Fp->Fp) (f2:Fp->Fp->Fp) (s:Sp1):Tree (Option (Sp1)):=letI za':=f1 (f0 s.x (f0 s.y s.y)) (f0 s.x (f0 s.y s.y));letI zb':=f0 (f0 s.y s.y) (f0 s.y s.y);letI zc':=f1 (f1 (f0 s.x s.x) (f0 s.x s.x)) (f0 s.x s.x);letI zd':=f1 (f1 za' za') (f1 za' za');letI ze':=f1 (f1 zb' zb') (f1 zb' zb');
 (.leaf (some ({ x:=f2 (f0 zc' zc') zd',y:=f2 (f0 zc' (f2 (f1 za' za') (f2 (f0 zc' zc') zd'))) (f1 ze' ze'),z:=f1 (f0 s.y s.z) (f0 s.y s.z) })))
theorem xf (f0:Fp->Fp->Fp) (f1:Fp->Fp->Fp) (f2:Fp->Fp->Fp) (s:Sp1):ag (En [(115,Kff f0),(118,Kff f1),(116,Kff f2)]) (aa Sp1).rs 300 Try.f117 [.one ((aa Sp1).av s)]=tQ f0 f1 f2 s:=by kernel_rfl
theorem xe (f0:Fp->Fp->Fp) (f1:Fp->Fp->Fp) (f2:Fp->Fp->Fp) (s:Sp1):(tQ f0 f1 f2 s).sat fun q=>q=some (nP f0 f1 f2 s):=(show some _=some _ from rfl)
def bj (s:Sp1):Sp1:=nP aJ jp gl s
theorem qa:CallOk Try.prog 117 (K1 (aa Sp1).arg (aa Sp1).rs.res bj) :=
 P1 (aw (.cons lr (.cons KY (.cons sub_ok .nil)))) Try.func117 (ae Try.func117 (by kernel_rfl) (by kernel_rfl)) 300 (aa Sp1) (aa Sp1).rs bj (xf aJ jp gl) (xe aJ jp gl)
def bD (f0:Fp->Bool) (f1:Fp->Fp->Fp) (f2:Fp->Fp->Fp) (f3:Sp1->Sp1) (f4:Fp->Fp->Fp) (s:Sp1) (t:Sp1):Sp1:=(match (f0 s.z) with | true=>(t) | false=>(match (f0 t.z) with | true=>(s) | false=>(match (f0 (f2 (f1 t.x (f1 s.z s.z)) (f1 s.x (f1 t.z t.z)))) with | true=>(match (f0 (f2 (f1 t.y (f1 (f1 s.z s.z) s.z)) (f1 s.y (f1 (f1 t.z t.z) t.z)))) with | true=>(f3 s) | false=>(eS)) | false=>({ x:=f2 (f2 (f1 (f2 (f1 t.y (f1 (f1 s.z s.z) s.z)) (f1 s.y (f1 (f1 t.z t.z) t.z))) (f2 (f1 t.y (f1 (f1 s.z s.z) s.z)) (f1 s.y (f1 (f1 t.z t.z) t.z)))) (f1 (f1 (f2 (f1 t.x (f1 s.z s.z)) (f1 s.x (f1 t.z t.z))) (f2 (f1 t.x (f1 s.z s.z)) (f1 s.x (f1 t.z t.z)))) (f2 (f1 t.x (f1 s.z s.z)) (f1 s.x (f1 t.z t.z))))) (f4 (f1 (f1 s.x (f1 t.z t.z)) (f1 (f2 (f1 t.x (f1 s.z s.z)) (f1 s.x (f1 t.z t.z))) (f2 (f1 t.x (f1 s.z s.z)) (f1 s.x (f1 t.z t.z))))) (f1 (f1 s.x (f1 t.z t.z)) (f1 (f2 (f1 t.x (f1 s.z s.z)) (f1 s.x (f1 t.z t.z))) (f2 (f1 t.x (f1 s.z s.z)) (f1 s.x (f1 t.z t.z)))))),y:=f2 (f1 (f2 (f1 t.y (f1 (f1 s.z s.z) s.z)) (f1 s.y (f1 (f1 t.z t.z) t.z))) (f2 (f1 (f1 s.x (f1 t.z t.z)) (f1 (f2 (f1 t.x (f1 s.z s.z)) (f1 s.x (f1 t.z t.z))) (f2 (f1 t.x (f1 s.z s.z)) (f1 s.x (f1 t.z t.z))))) (f2 (f2 (f1 (f2 (f1 t.y (f1 (f1 s.z s.z) s.z)) (f1 s.y (f1 (f1 t.z t.z) t.z))) (f2 (f1 t.y (f1 (f1 s.z s.z) s.z)) (f1 s.y (f1 (f1 t.z t.z) t.z)))) (f1 (f1 (f2 (f1 t.x (f1 s.z s.z)) (f1 s.x (f1 t.z t.z))) (f2 (f1 t.x (f1 s.z s.z)) (f1 s.x (f1 t.z t.z)))) (f2 (f1 t.x (f1 s.z s.z)) (f1 s.x (f1 t.z t.z))))) (f4 (f1 (f1 s.x (f1 t.z t.z)) (f1 (f2 (f1 t.x (f1 s.z s.z)) (f1 s.x (f1 t.z t.z))) (f2 (f1 t.x (f1 s.z s.z)) (f1 s.x (f1 t.z t.z))))) (f1 (f1 s.x (f1 t.z t.z)) (f1 (f2 (f1 t.x (f1 s.z s.z)) (f1 s.x (f1 t.z t.z))) (f2 (f1 t.x (f1 s.z s.z)) (f1 s.x (f1 t.z t.z))))))))) (f1 (f1 s.y (f1 (f1 t.z t.z) t.z)) (f1 (f1 (f2 (f1 t.x (f1 s.z s.z)) (f1 s.x (f1 t.z t.z))) (f2 (f1 t.x (f1 s.z s.z)) (f1 s.x (f1 t.z t.z)))) (f2 (f1 t.x (f1 s.z s.z)) (f1 s.x (f1 t.z t.z))))),z:=f1 (f1 s.z t.z) (f2 (f1 t.x (f1 s.z s.z)) (f1 s.x (f1 t.z t.z))) }))))
def yT (f0:Fp->Bool) (f1:Fp->Fp->Fp) (f2:Fp->Fp->Fp) (f3:Sp1->Sp1) (f4:Fp->Fp->Fp) (s:Sp1) (t:Sp1):Tree (Option (Sp1)):=letI za':=f2 (f1 t.x (f1 s.z s.z)) (f1 s.x (f1 t.z t.z));letI zb':=f2 (f1 t.y (f1 (f1 s.z s.z) s.z)) (f1 s.y (f1 (f1 t.z t.z) t.z));letI zc':=f1 (f1 s.x (f1 t.z t.z)) (f1 za' za');letI zd':=f2 (f1 zb' zb') (f1 (f1 za' za') za');letI ze':=f1 (f1 s.y (f1 (f1 t.z t.z) t.z)) (f1 (f1 za' za') za');letI zf':=f1 zb' (f2 zc' (f2 zd' (f4 zc' zc')));
 (.br (f0 s.z) (.leaf (some (t))) (.br (f0 t.z) (.leaf (some (s))) (.br (f0 za') (.br (f0 zb') (.leaf (some (f3 s))) (.br (f0 za') (.leaf (some (eS))) (.leaf (some ({ x:=f2 zd' (f4 zc' zc'),y:=f2 zf' ze',z:=f1 (f1 s.z t.z) za' }))))) (.br (f0 za') (.leaf (some (eS))) (.leaf (some ({ x:=f2 zd' (f4 zc' zc'),y:=f2 zf' ze',z:=f1 (f1 s.z t.z) za' })))))))
theorem AT (f0:Fp->Bool) (f1:Fp->Fp->Fp) (f2:Fp->Fp->Fp) (f3:Sp1->Sp1) (f4:Fp->Fp->Fp) (s:Sp1) (t:Sp1):ag (En [(75,K1 (aa Fp).arg kBool.rs.res f0),(115,Kff f1),(116,Kff f2),(117,K1 (aa Sp1).arg (aa Sp1).rs.res f3),(118,Kff f4)]) (aa Sp1).rs 300 Try.f59 [.one ((aa Sp1).av s),.one ((aa Sp1).av t)]=yT f0 f1 f2 f3 f4 s t:=by kernel_rfl
theorem AS (f0:Fp->Bool) (f1:Fp->Fp->Fp) (f2:Fp->Fp->Fp) (f3:Sp1->Sp1) (f4:Fp->Fp->Fp) (s:Sp1) (t:Sp1):(yT f0 f1 f2 f3 f4 s t).sat fun q=>q=some (bD f0 f1 f2 f3 f4 s t):=⟨fun h0=>(show some _=some _ from congrArg some (by unfold bD;rw [h0])),fun h0=>⟨fun h1=>(show some _=some _ from congrArg some (by unfold bD;rw [h0,h1])),fun h1=>⟨fun h2=>⟨fun h3=>(show some _=some _ from congrArg some (by unfold bD;rw [h0,h1,h2,h3])),fun h3=>⟨fun _=>(show some _=some _ from congrArg some (by unfold bD;rw [h0,h1,h2,h3])),fun h4=>absurd (h2.symm.trans h4) (by decide)⟩⟩,fun h2=>⟨fun h3=>absurd (h2.symm.trans h3) (by decide),fun _=>(show some _=some _ from congrArg some (by unfold bD;rw [h0,h1,h2]))⟩⟩⟩⟩
def aN (s:Sp1) (t:Sp1):Sp1:=bD jr aJ gl bj jp s t
theorem ud:CallOk Try.prog 59 (K2 (aa Sp1).arg (aa Sp1).arg (aa Sp1).rs.res aN) :=
 P2 (aw (.cons DR (.cons lr (.cons sub_ok (.cons qa (.cons KY .nil)))))) Try.func59 (ae Try.func59 (by kernel_rfl) (by kernel_rfl)) 300 (aa Sp1) (aa Sp1) (aa Sp1).rs aN (AT jr aJ gl bj jp) (AS jr aJ gl bj jp)
end
section
def MS  : Pg2:=({ x := { c0 := { l0:=UInt64.ofNat 15312334153293348280,l1:=UInt64.ofNat 841050694974028783,l2:=UInt64.ofNat 12993178926126977399,l3:=UInt64.ofNat 14331714969349929730,l4:=UInt64.ofNat 2740446039084699729,l5:=UInt64.ofNat 165123225776229009 },c1 := { l0:=UInt64.ofNat 16549740192668593022,l1:=UInt64.ofNat 3696594454104530263,l2:=UInt64.ofNat 13103893525273989193,l3:=UInt64.ofNat 6443473286224459290,l4:=UInt64.ofNat 9055845637167730533,l5:=UInt64.ofNat 1432192374203850592 } },y := { c0 := { l0:=UInt64.ofNat 16254428414758889473,l1:=UInt64.ofNat 10536956157198377609,l2:=UInt64.ofNat 7873024875724591404,l3:=UInt64.ofNat 12537348094477325223,l4:=UInt64.ofNat 10144865889576432922,l5:=UInt64.ofNat 929383263523139089 },c1 := { l0:=UInt64.ofNat 12297368366147926462,l1:=UInt64.ofNat 4555124010822409633,l2:=UInt64.ofNat 2771000935339432363,l3:=UInt64.ofNat 14645187562128761775,l4:=UInt64.ofNat 3651525051980876697,l5:=UInt64.ofNat 434250606344352972 } },inf:=false })
def oneG2  : Pg2:=MS
end
section
def Ds  : Pg1:=({ x := { l0:=UInt64.ofNat 18103045581585958587,l1:=UInt64.ofNat 7806400890582735599,l2:=UInt64.ofNat 11623291730934869080,l3:=UInt64.ofNat 14080658508445169925,l4:=UInt64.ofNat 2780237799254240271,l5:=UInt64.ofNat 1725392847304644500 },y := { l0:=UInt64.ofNat 912580534683953121,l1:=UInt64.ofNat 15005087156090211044,l2:=UInt64.ofNat 61670280795567085,l3:=UInt64.ofNat 18227722000993880822,l4:=UInt64.ofNat 11573741888802228964,l5:=UInt64.ofNat 627113611842199793 },inf:=false })
def Dr  : Tree (Option (Pg1)) :=
 (.leaf (some ({ x := { l0:=UInt64.ofNat 18103045581585958587,l1:=UInt64.ofNat 7806400890582735599,l2:=UInt64.ofNat 11623291730934869080,l3:=UInt64.ofNat 14080658508445169925,l4:=UInt64.ofNat 2780237799254240271,l5:=UInt64.ofNat 1725392847304644500 },y := { l0:=UInt64.ofNat 912580534683953121,l1:=UInt64.ofNat 15005087156090211044,l2:=UInt64.ofNat 61670280795567085,l3:=UInt64.ofNat 18227722000993880822,l4:=UInt64.ofNat 11573741888802228964,l5:=UInt64.ofNat 627113611842199793 },inf:=false })))
theorem FH  : ag (En []) (aa Pg1).rs 300 Try.f22 []=Dr  := by kernel_rfl
theorem FG  : (Dr ).sat fun q=>q=some (Ds ):=(show some _=some _ from rfl)
def jD  : Pg1:=Ds
theorem zr:CallOk Try.prog 22 (K0 (aa Pg1).rs.res jD) :=
 P0 (aw .nil) Try.func22 (ae Try.func22 (by kernel_rfl) (by kernel_rfl)) 300  (aa Pg1).rs jD (FH ) (FG )
def s7 (f0:Fp->Fp->Fp) (f1:Fp2->Fp2->Fp2) (a:Fp2) (b:Fp2) (small:Bool):Fp2:=(match (small) with | true=>({ c0:=f0 a.c0 b.c0,c1:=zeroFp }) | false=>(f1 a b))
def Ks (f0:Fp->Fp->Fp) (f1:Fp2->Fp2->Fp2) (a:Fp2) (b:Fp2) (small:Bool):Tree (Option (Fp2)) :=
 (.br (small)
  (.leaf (some ({ c0:=f0 a.c0 b.c0,c1:=zeroFp })))
  (.leaf (some (f1 a b))))
theorem IA (f0:Fp->Fp->Fp) (f1:Fp2->Fp2->Fp2) (a:Fp2) (b:Fp2) (small:Bool):ag (En [(74,Kff f0),(91,K2 (aa Fp2).arg (aa Fp2).arg (aa Fp2).rs.res f1)]) (aa Fp2).rs 300 Try.f121 [.one ((aa Fp2).av a),.one ((aa Fp2).av b),.one (kBool.av small)]=Ks f0 f1 a b small:=by kernel_rfl
theorem Iz (f0:Fp->Fp->Fp) (f1:Fp2->Fp2->Fp2) (a:Fp2) (b:Fp2) (small:Bool):(Ks f0 f1 a b small).sat fun q=>q=some (s7 f0 f1 a b small):=⟨fun h0=>(show some _=some _ from congrArg some (by unfold s7;rw [h0])),fun h0=>(show some _=some _ from congrArg some (by unfold s7;rw [h0]))⟩
def Df (a:Fp2) (b:Fp2) (small:Bool):Fp2:=s7 cU qS a b small
theorem M7:CallOk Try.prog 121 (K3 (aa Fp2).arg (aa Fp2).arg kBool.arg (aa Fp2).rs.res Df) :=
 P3 (aw (.cons qR (.cons zd .nil))) Try.func121 (ae Try.func121 (by kernel_rfl) (by kernel_rfl)) 300 (aa Fp2) (aa Fp2) kBool (aa Fp2).rs Df (IA cU qS) (Iz cU qS)
def BQ (f0:Fp2->Fp2->Fp2) (f1:Fp2->Fp2->Fp2) (f2:Fp2) (a:Fp2) (small:Bool):Fp2:=(match (small) with | true=>(f0 (f0 (f0 (f0 a a) (f0 a a)) (f0 (f0 a a) (f0 a a))) (f0 (f0 a a) (f0 a a))) | false=>(f1 (f0 (f0 (f0 (f0 a a) (f0 a a)) (f0 (f0 a a) (f0 a a))) (f0 (f0 a a) (f0 a a))) f2))
def ON (f0:Fp2->Fp2->Fp2) (f1:Fp2->Fp2->Fp2) (f2:Fp2) (a:Fp2) (small:Bool):Tree (Option (Fp2)):=letI za':=f0 (f0 a a) (f0 a a);letI zb':=f0 (f0 za' za') za';
 (.br (small) (.leaf (some zb')) (.leaf (some (f1 zb' f2))))
theorem NW (f0:Fp2->Fp2->Fp2) (f1:Fp2->Fp2->Fp2) (f2:Fp2) (a:Fp2) (small:Bool):ag (En [(90,K2 (aa Fp2).arg (aa Fp2).arg (aa Fp2).rs.res f0),(91,K2 (aa Fp2).arg (aa Fp2).arg (aa Fp2).rs.res f1),(164,K0 (aa Fp2).rs.res f2)]) (aa Fp2).rs 300 Try.f123 [.one ((aa Fp2).av a),.one (kBool.av small)]=ON f0 f1 f2 a small:=by kernel_rfl
theorem NV (f0:Fp2->Fp2->Fp2) (f1:Fp2->Fp2->Fp2) (f2:Fp2) (a:Fp2) (small:Bool):(ON f0 f1 f2 a small).sat fun q=>q=some (BQ f0 f1 f2 a small):=⟨fun h0=>(show some _=some _ from congrArg some (by unfold BQ;rw [h0])),fun h0=>(show some _=some _ from congrArg some (by unfold BQ;rw [h0]))⟩
def b3R (a:Fp2) (small:Bool):Fp2:=BQ kM qS LI a small
theorem QC:CallOk Try.prog 123 (K2 (aa Fp2).arg kBool.arg (aa Fp2).rs.res b3R) :=
 P2 (aw (.cons zS (.cons zd (.cons LH .nil)))) Try.func123 (ae Try.func123 (by kernel_rfl) (by kernel_rfl)) 300 (aa Fp2) kBool (aa Fp2).rs b3R (NW kM qS LI) (NV kM qS LI)
def ij (f0:Fp2->Fp2->Bool->Fp2) (f1:Fp2->Fp2->Fp2) (f2:Fp2->Fp2->Fp2) (f3:Fp2->Bool->Fp2) (s:Fp6) (t:Fp6) (small:Bool):Fp6:=({ c0:=f2 (f0 (f2 (f2 (f0 (f1 s.c0 s.c1) (f1 t.c0 t.c1) small) (f0 s.c0 t.c0 small)) (f0 s.c1 t.c1 small)) (f2 (f0 s.c1 t.c1 small) (f3 (f0 s.c2 t.c2 small) small)) small) (f0 (f2 (f2 (f0 (f1 s.c1 s.c2) (f1 t.c1 t.c2) small) (f0 s.c1 t.c1 small)) (f0 s.c2 t.c2 small)) (f3 (f2 (f2 (f0 (f1 s.c0 s.c2) (f1 t.c0 t.c2) small) (f0 s.c0 t.c0 small)) (f0 s.c2 t.c2 small)) small) small),c1:=f1 (f0 (f2 (f0 s.c1 t.c1 small) (f3 (f0 s.c2 t.c2 small) small)) (f1 (f0 s.c1 t.c1 small) (f3 (f0 s.c2 t.c2 small) small)) small) (f0 (f3 (f2 (f2 (f0 (f1 s.c0 s.c2) (f1 t.c0 t.c2) small) (f0 s.c0 t.c0 small)) (f0 s.c2 t.c2 small)) small) (f1 (f1 (f0 s.c0 t.c0 small) (f0 s.c0 t.c0 small)) (f0 s.c0 t.c0 small)) small),c2:=f1 (f0 (f1 (f0 s.c1 t.c1 small) (f3 (f0 s.c2 t.c2 small) small)) (f2 (f2 (f0 (f1 s.c1 s.c2) (f1 t.c1 t.c2) small) (f0 s.c1 t.c1 small)) (f0 s.c2 t.c2 small)) small) (f0 (f1 (f1 (f0 s.c0 t.c0 small) (f0 s.c0 t.c0 small)) (f0 s.c0 t.c0 small)) (f2 (f2 (f0 (f1 s.c0 s.c1) (f1 t.c0 t.c1) small) (f0 s.c0 t.c0 small)) (f0 s.c1 t.c1 small)) small) })
def DK (f0:Fp2->Fp2->Bool->Fp2) (f1:Fp2->Fp2->Fp2) (f2:Fp2->Fp2->Fp2) (f3:Fp2->Bool->Fp2) (s:Fp6) (t:Fp6) (small:Bool):Tree (Option (Fp6)):=letI za':=f0 s.c0 t.c0 small;letI zb':=f0 s.c1 t.c1 small;letI zc':=f0 s.c2 t.c2 small;letI zd':=f3 (f2 (f2 (f0 (f1 s.c0 s.c2) (f1 t.c0 t.c2) small) za') zc') small;letI ze':=f2 (f2 (f0 (f1 s.c0 s.c1) (f1 t.c0 t.c1) small) za') zb';letI zf':=f2 (f2 (f0 (f1 s.c1 s.c2) (f1 t.c1 t.c2) small) zb') zc';letI zg':=f3 zc' small;letI zh':=f1 (f1 za' za') za';
 (.leaf (some ({ c0:=f2 (f0 ze' (f2 zb' zg') small) (f0 zf' zd' small),c1:=f1 (f0 (f2 zb' zg') (f1 zb' zg') small) (f0 zd' zh' small),c2:=f1 (f0 (f1 zb' zg') zf' small) (f0 zh' ze' small) })))
theorem Gc (f0:Fp2->Fp2->Bool->Fp2) (f1:Fp2->Fp2->Fp2) (f2:Fp2->Fp2->Fp2) (f3:Fp2->Bool->Fp2) (s:Fp6) (t:Fp6) (small:Bool):ag (En [(121,K3 (aa Fp2).arg (aa Fp2).arg kBool.arg (aa Fp2).rs.res f0),(90,K2 (aa Fp2).arg (aa Fp2).arg (aa Fp2).rs.res f1),(122,K2 (aa Fp2).arg (aa Fp2).arg (aa Fp2).rs.res f2),(123,K2 (aa Fp2).arg kBool.arg (aa Fp2).rs.res f3)]) (aa Fp6).rs 300 Try.f62 [.one ((aa Fp6).av s),.one ((aa Fp6).av t),.one (kBool.av small)]=DK f0 f1 f2 f3 s t small:=by kernel_rfl
theorem Gb (f0:Fp2->Fp2->Bool->Fp2) (f1:Fp2->Fp2->Fp2) (f2:Fp2->Fp2->Fp2) (f3:Fp2->Bool->Fp2) (s:Fp6) (t:Fp6) (small:Bool):(DK f0 f1 f2 f3 s t small).sat fun q=>q=some (ij f0 f1 f2 f3 s t small):=(show some _=some _ from rfl)
def fz (s:Fp6) (t:Fp6) (small:Bool):Fp6:=ij Df kM oN b3R s t small
theorem zN:CallOk Try.prog 62 (K3 (aa Fp6).arg (aa Fp6).arg kBool.arg (aa Fp6).rs.res fz) :=
 P3 (aw (.cons M7 (.cons zS (.cons Hg (.cons QC .nil))))) Try.func62 (ae Try.func62 (by kernel_rfl) (by kernel_rfl)) 300 (aa Fp6) (aa Fp6) kBool (aa Fp6).rs fz (Gc Df kM oN b3R) (Gb Df kM oN b3R)
def Dc (f0:Fp2):Fp6:=({ c0:=eP,c1:=f0,c2:=eP })
def Db (f0:Fp2):Tree (Option (Fp6)) :=
 (.leaf (some ({ c0:=eP,c1:=f0,c2:=eP })))
theorem EX (f0:Fp2):ag (En [(125,K0 (aa Fp2).rs.res f0)]) (aa Fp6).rs 300 Try.f124 []=Db f0:=by kernel_rfl
theorem EW (f0:Fp2):(Db f0).sat fun q=>q=some (Dc f0):=(show some _=some _ from rfl)
def io  : Fp6:=Dc mT
theorem y8:CallOk Try.prog 124 (K0 (aa Fp6).rs.res io) :=
 P0 (aw (.cons yY .nil)) Try.func124 (ae Try.func124 (by kernel_rfl) (by kernel_rfl)) 300  (aa Fp6).rs io (EX mT) (EW mT)
def lk (f0:Fp6) (f1:Fp2) (a:Pg1):Fp6:=(match (a.inf) with | true=>(f0) | false=>({ c0 := { c0:=a.x,c1:=zeroFp },c1 := { c0:=a.y,c1:=zeroFp },c2:=f1 }))
def Kp (f0:Fp6) (f1:Fp2) (a:Pg1):Tree (Option (Fp6)) :=
 (.br (a.inf)
  (.leaf (some (f0)))
  (.leaf (some ({ c0 := { c0:=a.x,c1:=zeroFp },c1 := { c0:=a.y,c1:=zeroFp },c2:=f1 }))))
theorem Ip (f0:Fp6) (f1:Fp2) (a:Pg1):ag (En [(124,K0 (aa Fp6).rs.res f0),(125,K0 (aa Fp2).rs.res f1)]) (aa Fp6).rs 300 Try.f63 [.one ((aa Pg1).av a)]=Kp f0 f1 a:=by kernel_rfl
theorem Io (f0:Fp6) (f1:Fp2) (a:Pg1):(Kp f0 f1 a).sat fun q=>q=some (lk f0 f1 a):=⟨fun h0=>(show some _=some _ from congrArg some (by unfold lk;rw [h0])),fun h0=>(show some _=some _ from congrArg some (by unfold lk;rw [h0]))⟩
def y7 (a:Pg1):Fp6:=lk io mT a
theorem C8:CallOk Try.prog 63 (K1 (aa Pg1).arg (aa Fp6).rs.res y7) :=
 P1 (aw (.cons y8 (.cons yY .nil))) Try.func63 (ae Try.func63 (by kernel_rfl) (by kernel_rfl)) 300 (aa Pg1) (aa Fp6).rs y7 (Ip io mT) (Io io mT)
def kS (f0:Fp->Fp × Int) (f1:Fp->Fp->Fp) (s:Fp6):Pg1:=(match ((f0 s.c2.c0).snd != 0) with | true=>(infG1) | false=>({ x:=f1 s.c0.c0 (f0 s.c2.c0).fst,y:=f1 s.c1.c0 (f0 s.c2.c0).fst,inf:=false }))
def JV (f0:Fp->Fp × Int) (f1:Fp->Fp->Fp) (s:Fp6):Tree (Option (Pg1)) :=
 (.br ((f0 s.c2.c0).snd != 0)
  (.leaf (some (infG1)))
  (.leaf (some ({ x:=f1 s.c0.c0 (f0 s.c2.c0).fst,y:=f1 s.c1.c0 (f0 s.c2.c0).fst,inf:=false }))))
theorem G6 (f0:Fp->Fp × Int) (f1:Fp->Fp->Fp) (s:Fp6):ag (En [(120,RZ f0),(74,Kff f1)]) (aa Pg1).rs 300 Try.f61 [.one ((aa Fp6).av s)]=JV f0 f1 s:=by kernel_rfl
theorem G5 (f0:Fp->Fp × Int) (f1:Fp->Fp->Fp) (s:Fp6):(JV f0 f1 s).sat fun q=>q=some (kS f0 f1 s):=⟨fun h0=>(show some _=some _ from congrArg some (by unfold kS;rw [h0])),fun h0=>(show some _=some _ from congrArg some (by unfold kS;rw [h0]))⟩
def vG (s:Fp6):Pg1:=kS oR cU s
theorem CG:CallOk Try.prog 61 (K1 (aa Fp6).arg (aa Pg1).rs.res vG) :=
 P1 (aw (.cons Nv (.cons qR .nil))) Try.func61 (ae Try.func61 (by kernel_rfl) (by kernel_rfl)) 300 (aa Fp6) (aa Pg1).rs vG (G6 oR cU) (G5 oR cU)
def si (f0:Fp6->Pg1) (f1:Fp6->Fp6->Bool->Fp6) (f2:Pg1->Fp6) (a:Pg1) (b:Pg1):Pg1:=(f0 (f1 (f2 a) (f2 b) true))
def yU (f0:Fp6->Pg1) (f1:Fp6->Fp6->Bool->Fp6) (f2:Pg1->Fp6) (a:Pg1) (b:Pg1):Tree (Option (Pg1)) :=
 (.leaf (some (f0 (f1 (f2 a) (f2 b) true))))
theorem AY (f0:Fp6->Pg1) (f1:Fp6->Fp6->Bool->Fp6) (f2:Pg1->Fp6) (a:Pg1) (b:Pg1):ag (En [(61,K1 (aa Fp6).arg (aa Pg1).rs.res f0),(62,K3 (aa Fp6).arg (aa Fp6).arg kBool.arg (aa Fp6).rs.res f1),(63,K1 (aa Pg1).arg (aa Fp6).rs.res f2)]) (aa Pg1).rs 300 Try.f14 [.one ((aa Pg1).av a),.one ((aa Pg1).av b)]=yU f0 f1 f2 a b:=by kernel_rfl
theorem AX (f0:Fp6->Pg1) (f1:Fp6->Fp6->Bool->Fp6) (f2:Pg1->Fp6) (a:Pg1) (b:Pg1):(yU f0 f1 f2 a b).sat fun q=>q=some (si f0 f1 f2 a b):=(show some _=some _ from rfl)
def fY (a:Pg1) (b:Pg1):Pg1:=si vG fz y7 a b
theorem uf:CallOk Try.prog 14 (K2 (aa Pg1).arg (aa Pg1).arg (aa Pg1).rs.res fY) :=
 P2 (aw (.cons CG (.cons zN (.cons C8 .nil)))) Try.func14 (ae Try.func14 (by kernel_rfl) (by kernel_rfl)) 300 (aa Pg1) (aa Pg1) (aa Pg1).rs fY (AY vG fz y7) (AX vG fz y7)
end
end Go.Proofs.Ytibfppbffdedoaa
namespace Go.Proofs.Ytibfppbffdedoaa
def W64:Nat:=18446744073709551616
def pN:Nat:=0x1a0111ea397fe69a4b1ba7b6434bacd764774b84f38512bf6730d2a0f6b0f6241eabfffeb153ffffb9feffffffffaaab
def rN:Nat:=0x1000000000000000000000000000000000000000000000000000000000000000000000000000000000000000000000000
def Fp.nat (a:Fp):Nat:=a.l0.toNat+W64*(a.l1.toNat+W64*(a.l2.toNat+W64*(a.l3.toNat+W64*(a.l4.toNat+W64*a.l5.toNat))))
theorem Fp.nat_lt (a:Fp):a.nat<rN:=by
 have h0:=a.l0.toNat_lt
 have h1:=a.l1.toNat_lt
 have h2:=a.l2.toNat_lt
 have h3:=a.l3.toNat_lt
 have h4:=a.l4.toNat_lt
 have h5:=a.l5.toNat_lt
 unfold Fp.nat rN W64
 omega
theorem Fp.nat_inj {a b:Fp} (h:a.nat=b.nat):a=b:=by
 have h0:=a.l0.toNat_lt
 have h1:=a.l1.toNat_lt
 have h2:=a.l2.toNat_lt
 have h3:=a.l3.toNat_lt
 have h4:=a.l4.toNat_lt
 have h5:=a.l5.toNat_lt
 have k0:=b.l0.toNat_lt
 have k1:=b.l1.toNat_lt
 have k2:=b.l2.toNat_lt
 have k3:=b.l3.toNat_lt
 have k4:=b.l4.toNat_lt
 have k5:=b.l5.toNat_lt
 unfold Fp.nat W64 at h
 obtain ⟨a0,a1,a2,a3,a4,a5⟩:=a
 obtain ⟨b0,b1,b2,b3,b4,b5⟩:=b
 simp only [] at *
 have e0:a0=b0:=UInt64.toNat.inj (by omega)
 have e1:a1=b1:=UInt64.toNat.inj (by omega)
 have e2:a2=b2:=UInt64.toNat.inj (by omega)
 have e3:a3=b3:=UInt64.toNat.inj (by omega)
 have e4:a4=b4:=UInt64.toNat.inj (by omega)
 have e5:a5=b5:=UInt64.toNat.inj (by omega)
 rw [e0,e1,e2,e3,e4,e5]
theorem gq:pLimbs.nat=pN:=by decide +kernel
theorem ci (x y:UInt64) (c:Bool):(dm x y c).toNat+W64*(bw x y c).toNat=x.toNat+y.toNat+c.toNat:=by
 rw [j9,gP]
 unfold W64
 omega
theorem Hf (x y:UInt64) (c:Bool):(cB x y c).toNat=if x.toNat<y.toNat+c.toNat then 1 else 0:=by
 rw [yz]
 by_cases h:x.toNat<y.toNat+c.toNat <;> simp [h]
theorem dL (x y:UInt64) (c:Bool):(dJ x y c).toNat+y.toNat+c.toNat=x.toNat+W64*(cB x y c).toNat:=by
 have hx:=x.toNat_lt
 have hy:=y.toNat_lt
 have hc:c.toNat<=1:=by cases c <;> simp
 rw [yv,Hf]
 unfold W64
 split <;> omega
theorem zM (a b:Fp):(fW a b).1.nat+rN*(fW a b).2.toNat=a.nat+b.nat:=by
 unfold fW
 simp only []
 have s0:=ci a.l0 b.l0 false
 generalize bw a.l0 b.l0 false=c0 at *
 have s1:=ci a.l1 b.l1 c0
 generalize bw a.l1 b.l1 c0=c1 at *
 have s2:=ci a.l2 b.l2 c1
 generalize bw a.l2 b.l2 c1=c2 at *
 have s3:=ci a.l3 b.l3 c2
 generalize bw a.l3 b.l3 c2=c3 at *
 have s4:=ci a.l4 b.l4 c3
 generalize bw a.l4 b.l4 c3=c4 at *
 have s5:=ci a.l5 b.l5 c4
 generalize bw a.l5 b.l5 c4=c5 at *
 unfold Fp.nat rN W64 at *
 simp only [Bool.toNat_false] at *
 omega
theorem sa (a b:Fp):(cz a b).1.nat+b.nat=a.nat+rN*(cz a b).2.toNat:=by
 unfold cz
 simp only []
 have s0:=dL a.l0 b.l0 false
 generalize cB a.l0 b.l0 false=c0 at *
 have s1:=dL a.l1 b.l1 c0
 generalize cB a.l1 b.l1 c0=c1 at *
 have s2:=dL a.l2 b.l2 c1
 generalize cB a.l2 b.l2 c1=c2 at *
 have s3:=dL a.l3 b.l3 c2
 generalize cB a.l3 b.l3 c2=c3 at *
 have s4:=dL a.l4 b.l4 c3
 generalize cB a.l4 b.l4 c3=c4 at *
 have s5:=dL a.l5 b.l5 c4
 generalize cB a.l5 b.l5 c4=c5 at *
 unfold Fp.nat rN W64 at *
 simp only [Bool.toNat_false] at *
 omega
theorem sw (a:Fp):wT a=cz a pLimbs:=rfl
theorem uo (a:Fp) (o:UInt64) (ho:o.toNat<=1) (h:a.nat+rN*o.toNat<2*pN):(i5 a o).nat=(a.nat+rN*o.toNat) % pN:=by
 have h1:=sa a pLimbs
 rw [gq] at h1
 have h2:=(cz a pLimbs).1.nat_lt
 have h3:=a.nat_lt
 have hb:(cz a pLimbs).2.toNat<=1:=by cases (cz a pLimbs).2 <;> simp
 have hd:decide (o<b2u (wT a).2)=decide (o.toNat<(cz a pLimbs).2.toNat):=by
  rw [sw]
  refine decide_eq_decide.2 ?_
  rw [UInt64.lt_iff_toNat_lt,bW]
 unfold i5
 rw [hd,sw]
 have hp:pN<rN:=by decide +kernel
 have hp0:0<pN:=by decide +kernel
 by_cases hc:o.toNat<(cz a pLimbs).2.toNat
 ·simp only [hc,decide_true]
  have e0:o.toNat=0:=by omega
  have e1:(cz a pLimbs).2.toNat=1:=by omega
  rw [e0] at h ⊢
  rw [e1] at h1
  rw [Nat.mod_eq_of_lt (by omega)]
  omega
 ·simp only [hc,decide_false]
  have e2:(cz a pLimbs).1.nat+pN=a.nat+rN*o.toNat:=by
   rcases Nat.lt_or_ge (cz a pLimbs).2.toNat o.toNat with hl | hl
   ·have e0:o.toNat=1:=by omega
    have e1:(cz a pLimbs).2.toNat=0:=by omega
    rw [e1] at h1
    rw [e0] at h ⊢
    omega
   ·have e1:(cz a pLimbs).2.toNat=o.toNat:=by omega
    rw [e1] at h1
    exact h1
  rw [<- e2,Nat.add_mod_right,Nat.mod_eq_of_lt (by omega)]
theorem zQ {a b:Fp} (ha:a.nat<pN) (hb:b.nat<pN):(jp a b).nat=(a.nat+b.nat) % pN:=by
 unfold jp
 have h:=zM a b
 rw [uo _ _ (by rw [bW];cases (fW a b).2 <;> simp) (by rw [bW,h];omega),bW,h]
theorem sc {a b:Fp} (ha:a.nat<pN) (hb:b.nat<pN):(gl a b).nat=(a.nat+pN-b.nat) % pN:=by
 have h1:=sa a b
 have h2:=(cz a b).1.nat_lt
 have hp:pN<rN:=by decide +kernel
 have hd:decide (b2u (cz a b).2=0)=decide ((cz a b).2.toNat=0):=by
  refine decide_eq_decide.2 ⟨fun h=>by rw [<- bW,h];rfl,fun h=>UInt64.toNat.inj (by rw [bW,h];rfl)⟩
 unfold gl
 rw [hd]
 by_cases hc:(cz a b).2.toNat=0
 ·simp only [hc,decide_true]
  rw [hc] at h1
  rw [show a.nat+pN-b.nat=(cz a b).1.nat+pN by omega,Nat.add_mod_right,Nat.mod_eq_of_lt (by omega)]
 ·simp only [hc,decide_false]
  have e1:(cz a b).2.toNat=1:=by cases h:(cz a b).2 <;> simp [h] at hc ⊢
  rw [e1] at h1
  have h3:=zM (cz a b).1 pLimbs
  rw [gq] at h3
  have h4:=(fW (cz a b).1 pLimbs).1.nat_lt
  have e2:(fW (cz a b).1 pLimbs).2.toNat=1:=by
   cases h:(fW (cz a b).1 pLimbs).2 with
   | true=>rfl
   | false=>rw [h] at h3;simp only [Bool.toNat_false] at h3;omega
  rw [e2] at h3
  rw [Nat.mod_eq_of_lt (by omega)]
  omega
end Go.Proofs.Ytibfppbffdedoaa
namespace Go.Proofs.Ytibfppbffdedoaa
def L7.nat (t:L7):Nat:=t.t0.toNat+W64*(t.t1.toNat+W64*(t.t2.toNat+W64*(t.t3.toNat+W64*(t.t4.toNat+W64*(t.t5.toNat+W64*t.t6.toNat)))))
theorem L7.nat_low (t:L7):t.nat=t.low.nat+rN*t.t6.toNat:=by
 unfold L7.nat L7.low Fp.nat rN W64
 simp only []
 omega
theorem N5 (y t U:Nat):y+t+W64*U=(t+W64*U)+y:=by omega
theorem pO {y t U T Y:Nat} (h:U=T+Y):y+t+W64*U=(t+W64*T)+(y+W64*Y):=by
 subst h
 unfold W64
 omega
theorem RI {A d T Y t y:Nat} (h:A=T+Y) (q:d*W64=y+t):(A+d)*W64=(t+W64*T)+(y+W64*Y):=by
 rw [h,Nat.add_mul,q,Nat.add_mul,Nat.mul_comm T,Nat.mul_comm Y]
 omega
theorem kF (x y t c:UInt64):(dK x y t c).toNat*W64+(fP x y t c).toNat=x.toNat*y.toNat+t.toNat+c.toNat:=Nb x y t c
theorem aZ {m d y t c R U:Nat} (q:d*W64+m=y+t+c) (h:R=U+d):m+W64*R=(y+t+W64*U)+c:=by
 subst h
 unfold W64 at *
 omega
theorem IY (t:UInt64):(dY (t*qE) pLimbs.l0+b2u (bw (t*qE*pLimbs.l0) t false)).toNat*W64=(t*qE).toNat*pLimbs.l0.toNat+t.toNat:=by
 generalize hx:t*qE=x
 have hx':x.toNat=t.toNat*9940570264628428797 % 18446744073709551616:=by rw [<- hx,UInt64.toNat_mul];rfl
 have hp:pLimbs.l0.toNat=13402431016077863595:=rfl
 have ht:=t.toNat_lt
 have hlt:=x.toNat_lt
 rw [UInt64.toNat_add,bW,gP,fm,UInt64.toNat_mul,hp]
 simp only [Bool.toNat_false,Nat.add_zero]
 unfold W64
 have key:(x.toNat*13402431016077863595 % 18446744073709551616+t.toNat) % 18446744073709551616=0:=by
  rw [hx']
  omega
 omega
theorem Ay (t0 t1 t2 t3 t4 t5 top:UInt64) (more:Bool) :
  (sU t0 t1 t2 t3 t4 t5 top more).nat*W64=(t0.toNat+W64*(t1.toNat+W64*(t2.toNat+W64*(t3.toNat+W64*(t4.toNat+W64*(t5.toNat+W64*(top.toNat+W64*more.toNat)))))))+(t0*qE).toNat*pN:=by
 have q0:=IY t0
 unfold sU
 simp only [L7.nat]
 generalize dY (t0*qE) pLimbs.l0+b2u (bw (t0*qE*pLimbs.l0) t0 false)=d0 at *
 generalize t0*qE=x at *
 have q1:=kF x pLimbs.l1 t1 d0
 generalize dK x pLimbs.l1 t1 d0=d1 at *
 have q2:=kF x pLimbs.l2 t2 d1
 generalize dK x pLimbs.l2 t2 d1=d2 at *
 have q3:=kF x pLimbs.l3 t3 d2
 generalize dK x pLimbs.l3 t3 d2=d3 at *
 have q4:=kF x pLimbs.l4 t4 d3
 generalize dK x pLimbs.l4 t4 d3=d4 at *
 have q5:=kF x pLimbs.l5 t5 d4
 generalize dK x pLimbs.l5 t5 d4=d5 at *
 have q6:=ci top d5 false
 have q7:(b2u more+b2u (bw top d5 false)).toNat=more.toNat+(bw top d5 false).toNat:=by
  rw [UInt64.toNat_add,bW,bW]
  cases more <;> cases bw top d5 false <;> rfl
 rw [q7]
 have ep:pN=pLimbs.l0.toNat+W64*(pLimbs.l1.toNat+W64*(pLimbs.l2.toNat+W64*(pLimbs.l3.toNat+W64*(pLimbs.l4.toNat+W64*pLimbs.l5.toNat)))):=by decide +kernel
 have exp:x.toNat*pN=x.toNat*pLimbs.l0.toNat+W64*(x.toNat*pLimbs.l1.toNat+W64*(x.toNat*pLimbs.l2.toNat+W64*(x.toNat*pLimbs.l3.toNat+W64*(x.toNat*pLimbs.l4.toNat+W64*(x.toNat*pLimbs.l5.toNat))))):=by
  rw [ep]
  simp only [Nat.mul_add,Nat.mul_left_comm x.toNat W64]
 rw [exp]
 have s6:(dm top d5 false).toNat+W64*(more.toNat+(bw top d5 false).toNat)=(top.toNat+W64*more.toNat)+d5.toNat:=by
  simp only [Bool.toNat_false] at q6
  unfold W64 at *
  omega
 have s5:=aZ q5 s6
 have s4:=aZ q4 s5
 have s3:=aZ q3 s4
 have s2:=aZ q2 s3
 have s1:=aZ q1 s2
 rw [s1]
 generalize x.toNat*pLimbs.l0.toNat=y0 at *
 generalize x.toNat*pLimbs.l1.toNat=y1 at *
 generalize x.toNat*pLimbs.l2.toNat=y2 at *
 generalize x.toNat*pLimbs.l3.toNat=y3 at *
 generalize x.toNat*pLimbs.l4.toNat=y4 at *
 generalize x.toNat*pLimbs.l5.toNat=y5 at *
 exact RI (pO (pO (pO (pO (N5 _ _ _))))) q0
theorem dV (a:Fp) (b:UInt64) (t:L7) : ∃ m:Nat,m<W64/\(dh a b t).nat*W64=t.nat+a.nat*b.toNat+m*pN:=by
 unfold dh
 simp only []
 have q0:=kF a.l0 b t.t0 0
 generalize dK a.l0 b t.t0 0=c0 at *
 have q1:=kF a.l1 b t.t1 c0
 generalize dK a.l1 b t.t1 c0=c1 at *
 have q2:=kF a.l2 b t.t2 c1
 generalize dK a.l2 b t.t2 c1=c2 at *
 have q3:=kF a.l3 b t.t3 c2
 generalize dK a.l3 b t.t3 c2=c3 at *
 have q4:=kF a.l4 b t.t4 c3
 generalize dK a.l4 b t.t4 c3=c4 at *
 have q5:=kF a.l5 b t.t5 c4
 generalize dK a.l5 b t.t5 c4=c5 at *
 have q6:=ci t.t6 c5 false
 refine ⟨(fP a.l0 b t.t0 0*qE).toNat,UInt64.toNat_lt _,?_⟩
 rw [Ay]
 refine congrArg (fun z=>z+(fP a.l0 b t.t0 0*qE).toNat*pN) ?_
 have e:a.nat*b.toNat=a.l0.toNat*b.toNat+W64*(a.l1.toNat*b.toNat+W64*(a.l2.toNat*b.toNat+W64*(a.l3.toNat*b.toNat+W64*(a.l4.toNat*b.toNat+W64*(a.l5.toNat*b.toNat))))):=by
  unfold Fp.nat
  simp only [Nat.add_mul,Nat.mul_assoc]
 rw [e]
 have s6:(dm t.t6 c5 false).toNat+W64*(bw t.t6 c5 false).toNat=t.t6.toNat+c5.toNat:=by simpa using q6
 have s5:=aZ q5 s6
 have s4:=aZ q4 s5
 have s3:=aZ q3 s4
 have s2:=aZ q2 s3
 have s1:=aZ q1 s2
 have s0:=aZ q0 s1
 rw [s0]
 have z:(0:UInt64).toNat=0:=rfl
 rw [z,L7.nat]
 generalize a.l0.toNat*b.toNat=x0 at *
 generalize a.l1.toNat*b.toNat=x1 at *
 generalize a.l2.toNat*b.toNat=x2 at *
 generalize a.l3.toNat*b.toNat=x3 at *
 generalize a.l4.toNat*b.toNat=x4 at *
 generalize a.l5.toNat*b.toNat=x5 at *
 rw [Nat.add_zero]
 exact pO (pO (pO (pO (pO (N5 _ _ _)))))
theorem ed {a:Fp} {b:UInt64} {t:L7} (h:t.nat<a.nat+pN):(dh a b t).nat<a.nat+pN:=by
 obtain ⟨m,hm,e⟩:=dV a b t
 have hb:=b.toNat_lt
 have h1:a.nat*b.toNat<=a.nat*(W64-1):=Nat.mul_le_mul_left _ (by unfold W64;omega)
 have h2:m*pN<=(W64-1)*pN:=Nat.mul_le_mul_right _ (by omega)
 have h3:(dh a b t).nat*W64<(a.nat+pN)*W64:=by
  rw [e]
  unfold W64 at *
  omega
 exact Nat.lt_of_mul_lt_mul_right h3
set_option maxRecDepth 100000 in
theorem uq (a b:Fp) : ∃ k:Nat,(eF a b).nat*rN=a.nat*b.nat+k*pN/\(eF a b).nat<a.nat+pN:=by
 have hp0:0<pN:=by decide +kernel
 obtain ⟨m0,_,e0⟩:=dV a b.l0 ⟨0,0,0,0,0,0,0⟩
 obtain ⟨m1,_,e1⟩:=dV a b.l1 (tH a b)
 obtain ⟨m2,_,e2⟩:=dV a b.l2 (tG a b)
 obtain ⟨m3,_,e3⟩:=dV a b.l3 (tE a b)
 obtain ⟨m4,_,e4⟩:=dV a b.l4 (tD a b)
 obtain ⟨m5,_,e5⟩:=dV a b.l5 (tC a b)
 have z:(L7.mk 0 0 0 0 0 0 0).nat=0:=by decide +kernel
 have b0:(tH a b).nat<a.nat+pN:=ed (by rw [z];omega)
 have b1:(tG a b).nat<a.nat+pN:=ed b0
 have b2:(tE a b).nat<a.nat+pN:=ed b1
 have b3:(tD a b).nat<a.nat+pN:=ed b2
 have b4:(tC a b).nat<a.nat+pN:=ed b3
 refine ⟨m0+W64*(m1+W64*(m2+W64*(m3+W64*(m4+W64*m5)))),?_,ed b4⟩
 rw [z] at e0
 change (tH a b).nat*W64=_ at e0
 change (tG a b).nat*W64=_ at e1
 change (tE a b).nat*W64=_ at e2
 change (tD a b).nat*W64=_ at e3
 change (tC a b).nat*W64=_ at e4
 change (eF a b).nat*W64=_ at e5
 have er:rN=W64*(W64*(W64*(W64*(W64*W64)))):=by decide +kernel
 have eb:a.nat*b.nat=a.nat*b.l0.toNat+W64*(a.nat*b.l1.toNat+W64*(a.nat*b.l2.toNat+W64*(a.nat*b.l3.toNat+W64*(a.nat*b.l4.toNat+W64*(a.nat*b.l5.toNat))))):=by
  rw [show b.nat=b.l0.toNat+W64*(b.l1.toNat+W64*(b.l2.toNat+W64*(b.l3.toNat+W64*(b.l4.toNat+W64*b.l5.toNat)))) from rfl]
  simp only [Nat.mul_add,Nat.mul_left_comm a.nat W64]
 have ek:(m0+W64*(m1+W64*(m2+W64*(m3+W64*(m4+W64*m5)))))*pN=m0*pN+W64*(m1*pN+W64*(m2*pN+W64*(m3*pN+W64*(m4*pN+W64*(m5*pN))))):=by
  simp only [Nat.add_mul,Nat.mul_assoc]
 rw [er,eb,ek]
 have st : ∀ {t' t z R:Nat},t'*W64=t+z -> ∀ s:Nat,t'*(W64*s)=(t+z)*s:=fun h s=>by rw [<- Nat.mul_assoc,h]
 rw [st (R:=0) (t:=(tC a b).nat) (z:=a.nat*b.l5.toNat+m5*pN) (by rw [e5,Nat.add_assoc])]
 rw [Nat.add_mul,st (R:=0) (t:=(tD a b).nat) (z:=a.nat*b.l4.toNat+m4*pN) (by rw [e4,Nat.add_assoc])]
 rw [Nat.add_mul _ _ (W64*(W64*(W64*W64))),st (R:=0) (t:=(tE a b).nat) (z:=a.nat*b.l3.toNat+m3*pN) (by rw [e3,Nat.add_assoc])]
 rw [Nat.add_mul _ _ (W64*(W64*W64)),st (R:=0) (t:=(tG a b).nat) (z:=a.nat*b.l2.toNat+m2*pN) (by rw [e2,Nat.add_assoc])]
 rw [Nat.add_mul _ _ (W64*W64),st (R:=0) (t:=(tH a b).nat) (z:=a.nat*b.l1.toNat+m1*pN) (by rw [e1,Nat.add_assoc])]
 rw [Nat.add_mul _ _ W64,e0]
 generalize a.nat*b.l0.toNat=x0
 generalize a.nat*b.l1.toNat=x1
 generalize a.nat*b.l2.toNat=x2
 generalize a.nat*b.l3.toNat=x3
 generalize a.nat*b.l4.toNat=x4
 generalize a.nat*b.l5.toNat=x5
 generalize m0*pN=y0
 generalize m1*pN=y1
 generalize m2*pN=y2
 generalize m3*pN=y3
 generalize m4*pN=y4
 generalize m5*pN=y5
 clear e0 e1 e2 e3 e4 e5 eb ek st
 unfold W64
 omega
theorem ej {a b:Fp} (ha:a.nat<pN):(aJ a b).nat<pN/\((aJ a b).nat*rN) % pN=(a.nat*b.nat) % pN:=by
 obtain ⟨k,h1,h2⟩:=uq a b
 rw [L7.nat_low] at h1 h2
 have hlt:=(eF a b).low.nat_lt
 have hpr:2*pN<rN:=by decide +kernel
 have hp0:0<pN:=by decide +kernel
 have h6:(eF a b).t6.toNat<=1:=by
  rcases Nat.lt_or_ge (eF a b).t6.toNat 1 with h | h
  ·omega
  ·have:rN*1<=rN*(eF a b).t6.toNat:=Nat.mul_le_mul_left _ h
   omega
 have h:=uo (eF a b).low (eF a b).t6 h6 (by omega)
 have e:(aJ a b).nat=((eF a b).low.nat+rN*(eF a b).t6.toNat) % pN:=h
 rw [e]
 refine ⟨Nat.mod_lt _ hp0,?_⟩
 rw [Nat.mod_mul_mod,h1,Nat.add_mul_mod_self_right]
end Go.Proofs.Ytibfppbffdedoaa
namespace Go.Proofs.Ytibfppbffdedoaa
def RO:Nat:=0x14fec701e8fb0ce9ed5e64273c4f538b1797ab1458a88de9343ea97914956dc87fe11274d898fafbf4d38259380b4820
theorem Rb:rN*RO % pN=1:=by decide +kernel
theorem mO {x y:Nat} (h:x*rN % pN=y*rN % pN):x % pN=y % pN:=by
 have e : ∀ z:Nat,z % pN=(z*rN % pN)*RO % pN:=by
  intro z
  rw [Nat.mod_mul_mod,Nat.mul_assoc,Nat.mul_mod,Rb,Nat.mul_one,Nat.mod_mod]
 rw [e x,e y,h]
theorem BZ:sqLimbs.nat=rN*rN % pN:=by decide +kernel
theorem lh:oneFp.nat=1:=by decide +kernel
theorem jR:zeroFp.nat=0:=by decide +kernel
theorem e9:0<pN:=by decide +kernel
theorem gb {a:Fp} (ha:a.nat<pN):(bq a).nat=a.nat*rN % pN:=by
 obtain ⟨h1,h2⟩:=ej (b:=sqLimbs) ha
 have h3:(bq a).nat*rN % pN=(a.nat*rN)*rN % pN:=by
  rw [show (bq a).nat=(aJ a sqLimbs).nat from rfl,h2,BZ,Nat.mul_mod_mod,Nat.mul_assoc]
 rw [<- mO h3]
 exact (Nat.mod_eq_of_lt h1).symm
theorem sv {a:Fp} (ha:a.nat<pN):(hJ a).nat<pN/\(hJ a).nat*rN % pN=a.nat:=by
 obtain ⟨h1,h2⟩:=ej (b:=oneFp) ha
 rw [lh,Nat.mul_one,Nat.mod_eq_of_lt ha] at h2
 exact ⟨h1,h2⟩
theorem sq {a b:Fp} (ha:a.nat<pN):(ll a b).nat=a.nat*b.nat % pN:=by
 obtain ⟨h1,h2⟩:=ej (b:=b) ha
 rw [show ll a b=bq (aJ a b) from rfl,gb h1,h2]
theorem M8 {a b:Fp} (ha:a.nat<pN):(ll a b).nat<pN:=by rw [sq ha];exact Nat.mod_lt _ e9
theorem N0 {a b:Fp} (ha:a.nat<pN) (hb:b.nat<pN):(jp a b).nat<pN:=by rw [zQ ha hb];exact Nat.mod_lt _ e9
theorem L3 {a b:Fp} (ha:a.nat<pN) (hb:b.nat<pN):(gl a b).nat<pN:=by rw [sc ha hb];exact Nat.mod_lt _ e9
theorem Iy {a:Fp} (ha:a.nat<pN):(wc a).nat=(pN-a.nat) % pN:=by
 rw [show wc a=gl zeroFp a from rfl,sc (by rw [jR];exact e9) ha,jR,Nat.zero_add]
def jm (e:List UInt64):Nat->Nat
 | 0=>0
 | n+1=>jm e n+(dd e n).toNat*2 ^ n
theorem nZ {x:Fp} {a:Nat} (e:List UInt64) (hx:x.nat=a*rN % pN) : ∀ (n:Nat) (o:Fp) (v:Nat),o.nat=v*rN % pN ->
  (tv x e n o).nat=v ^ 2 ^ n*a ^ jm e n % pN
 | 0,o,v,ho=>by
  have hlt:o.nat<pN:=by rw [ho];exact Nat.mod_lt _ e9
  obtain ⟨h1,h2⟩:=sv hlt
  have h3:=mO (h2.trans ho)
  simp only [tv,jm,Nat.pow_zero,Nat.pow_one,Nat.mul_one]
  rw [<- h3]
  exact (Nat.mod_eq_of_lt h1).symm
 | n+1,o,v,ho=>by
  have hlt:o.nat<pN:=by rw [ho];exact Nat.mod_lt _ e9
  have hmul : ∀ {p q:Fp} {s t:Nat},p.nat=s*rN % pN->q.nat=t*rN % pN->(aJ p q).nat=(s*t)*rN % pN:=by
   intro p q s t hp hq
   obtain ⟨h1,h2⟩:=ej (a:=p) (b:=q) (by rw [hp];exact Nat.mod_lt _ e9)
   have h3:(aJ p q).nat*rN % pN=((s*t)*rN)*rN % pN:=by
    rw [h2,hp,hq,<- Nat.mul_mod]
    refine congrArg (fun z=>z % pN) ?_
    simp only [Nat.mul_assoc,Nat.mul_left_comm,Nat.mul_comm]
   have h4:=mO h3
   rw [<- h4]
   exact (Nat.mod_eq_of_lt h1).symm
  have h1:=hmul ho ho
  simp only [tv]
  cases hb:dd e n with
  | true =>
   simp only []
   rw [nZ e hx n _ _ (hmul h1 hx)]
   simp only [jm,hb,Bool.toNat_true,Nat.one_mul]
   refine congrArg (fun z=>z % pN) ?_
   rw [Nat.mul_pow,<- Nat.pow_two,<- Nat.pow_mul,show 2 ^ (n+1)=2*2 ^ n by rw [Nat.pow_succ,Nat.mul_comm],Nat.pow_add a,Nat.mul_assoc,Nat.mul_comm (a ^ 2 ^ n)]
  | false =>
   simp only []
   rw [nZ e hx n _ _ h1]
   simp only [jm,hb,Bool.toNat_false,Nat.zero_mul,Nat.add_zero]
   refine congrArg (fun z=>z % pN) ?_
   rw [<- Nat.pow_two,<- Nat.pow_mul,show 2 ^ (n+1)=2*2 ^ n by rw [Nat.pow_succ,Nat.mul_comm]]
theorem yP {a:Fp} (ha:a.nat<pN) (e:List UInt64):(yQ a e).nat=a.nat ^ jm e (64*e.length) % pN:=by
 unfold yQ
 have h1:(1:Nat)<pN:=by decide +kernel
 rw [nZ e (gb ha) _ _ 1 (by rw [gb (by rw [lh];exact h1),lh])]
 rw [Nat.one_pow,Nat.one_mul]
end Go.Proofs.Ytibfppbffdedoaa
namespace Go.Proofs.Ytibfppbffdedoaa
def IsPrime (p:Nat):Prop:=1<p /\ ∀ d,d ∣ p->d=1 \/ d=p
theorem IsPrime.pos {p:Nat} (h:IsPrime p):0<p:=by have:=h.1;omega
theorem IsPrime.coprime {p a:Nat} (h:IsPrime p) (ha : ¬ p ∣ a):Nat.gcd p a=1:=by
 rcases h.2 _ (Nat.gcd_dvd_left p a) with h1 | h1
 ·exact h1
 ·exact absurd (h1 ▸ Nat.gcd_dvd_right p a) ha
theorem IsPrime.dvd_mul {p a b:Nat} (h:IsPrime p) (hd:p ∣ a*b):p ∣ a \/ p ∣ b:=by
 by_cases ha:p ∣ a
 ·exact .inl ha
 ·exact .inr (Nat.Coprime.dvd_of_dvd_mul_left (h.coprime ha) hd)
def ch:Nat->Nat->Nat
 | _,0=>1
 | 0,_+1=>0
 | n+1,k+1=>ch n k+ch n (k+1)
theorem lB (n:Nat):ch n 0=1:=by cases n <;> rfl
theorem tf : ∀ {n k:Nat},n<k->ch n k=0
 | 0,k+1,_=>rfl
 | n+1,k+1,h=>by simp only [ch];rw [tf (by omega),tf (by omega)]
theorem wm : ∀ n:Nat,ch n n=1
 | 0=>rfl
 | n+1=>by simp only [ch];rw [wm n,tf (by omega)]
theorem w7 : ∀ n k:Nat,(k+1)*ch (n+1) (k+1)=(n+1)*ch n k
 | 0,0=>rfl
 | 0,k+1=>by simp [ch]
 | n+1,0=>by
  have h:=w7 n 0
  simp only [lB,Nat.zero_add,Nat.one_mul,Nat.mul_one] at h ⊢
  show ch (n+1) 0+ch (n+1) 1=n+1+1
  rw [lB,h]
  omega
 | n+1,j+1=>by
  have h1:=w7 n j
  have h2:=w7 n (j+1)
  have e:ch (n+1) (j+1)=ch n j+ch n (j+1):=rfl
  show (j+1+1)*(ch (n+1) (j+1)+ch (n+1) (j+1+1))=(n+1+1)*ch (n+1) (j+1)
  rw [Nat.mul_add,h2,Nat.succ_mul (j+1),h1]
  rw [Nat.succ_mul (n+1),e,Nat.mul_add]
  omega
def bs (a n:Nat):Nat->Nat
 | 0=>0
 | m+1=>bs a n m+ch n m*a ^ m
theorem DD (a n:Nat) : ∀ m:Nat,bs a (n+1) (m+1)=bs a n (m+1)+a*bs a n m
 | 0=>by simp [bs,lB]
 | m+1=>by
  have h:=DD a n m
  show bs a (n+1) (m+1)+ch (n+1) (m+1)*a ^ (m+1)=bs a n (m+1)+ch n (m+1)*a ^ (m+1)+a*(bs a n m+ch n m*a ^ m)
  rw [h,show ch (n+1) (m+1)=ch n m+ch n (m+1) from rfl,Nat.add_mul,Nat.mul_add,Nat.pow_succ]
  have:ch n m*(a ^ m*a)=a*(ch n m*a ^ m):=by rw [<- Nat.mul_assoc,Nat.mul_comm]
  omega
theorem OL (a:Nat) : ∀ n:Nat,(a+1) ^ n=bs a n (n+1)
 | 0=>by simp [bs,ch]
 | n+1=>by
  rw [DD a n (n+1),show bs a n (n+1+1)=bs a n (n+1)+ch n (n+1)*a ^ (n+1) from rfl,tf (Nat.lt_succ_self n),Nat.zero_mul,Nat.add_zero,<- OL a n,Nat.pow_succ,Nat.mul_add,Nat.mul_one,Nat.mul_comm a]
  omega
theorem zE {p k:Nat} (h:IsPrime p) (h0:0<k) (hk:k<p):p ∣ ch p k:=by
 obtain ⟨j,rfl⟩ : ∃ j,k=j+1:=⟨k-1,by omega⟩
 obtain ⟨n,rfl⟩ : ∃ n,p=n+1:=⟨p-1,by omega⟩
 have hd:n+1 ∣ (j+1)*ch (n+1) (j+1):=⟨ch n j,w7 n j⟩
 rcases h.dvd_mul hd with h1 | h1
 ·exact absurd (Nat.le_of_dvd (by omega) h1) (by omega)
 ·exact h1
theorem zG {p:Nat} (h:IsPrime p) (a:Nat) : ∀ m:Nat,m<p->bs a p (m+1) % p=1
 | 0,_=>by
  simp only [bs,lB,Nat.pow_zero,Nat.mul_one,Nat.zero_add]
  exact Nat.mod_eq_of_lt h.1
 | m+1,hm=>by
  have ih:=zG h a m (by omega)
  obtain ⟨c,hc⟩:=zE h (Nat.succ_pos m) hm
  show (bs a p (m+1)+ch p (m+1)*a ^ (m+1)) % p=1
  rw [hc,Nat.mul_assoc,Nat.add_mul_mod_self_left]
  exact ih
theorem zw {p:Nat} (h:IsPrime p) : ∀ a:Nat,a ^ p % p=a % p
 | 0=>by
  have:=h.pos
  rw [Nat.zero_pow this]
 | a+1=>by
  have ih:=zw h a
  have hp:=h.1
  obtain ⟨n,rfl⟩ : ∃ n,p=n+1:=⟨p-1,by omega⟩
  rw [OL a (n+1),show bs a (n+1) (n+1+1)=bs a (n+1) (n+1)+ch (n+1) (n+1)*a ^ (n+1) from rfl,wm,Nat.one_mul,Nat.add_mod,zG h a n (by omega),ih]
  rw [Nat.add_mod a 1,Nat.mod_eq_of_lt hp,Nat.add_comm]
theorem fermat {p a:Nat} (h:IsPrime p) (ha : ¬ p ∣ a):a ^ (p-1) % p=1:=by
 have hp:=h.1
 have h1:=zw h a
 obtain ⟨n,rfl⟩ : ∃ n,p=n+1:=⟨p-1,by omega⟩
 rw [Nat.add_sub_cancel]
 have h0:0<a:=Nat.pos_of_ne_zero (by rintro rfl;exact ha ⟨0,rfl⟩)
 have hle:a<=a ^ (n+1):=Nat.le_self_pow (by omega) a
 have hd:n+1 ∣ a ^ (n+1)-a:=Nat.dvd_of_mod_eq_zero (Nat.sub_mod_eq_zero_of_mod_eq h1)
 have h2:1<=a ^ n:=Nat.one_le_pow _ _ h0
 have e:a ^ (n+1)-a=a*(a ^ n-1):=by rw [Nat.pow_succ,Nat.mul_sub,Nat.mul_one,Nat.mul_comm]
 rw [e] at hd
 rcases h.dvd_mul hd with h3 | h3
 ·exact absurd h3 ha
 ·obtain ⟨c,hc⟩:=h3
  rw [show a ^ n=(n+1)*c+1 by omega,Nat.mul_add_mod]
  exact Nat.mod_eq_of_lt hp
theorem da : ∀ n:Nat,1<n -> ∃ p,IsPrime p/\p ∣ n:=by
 intro n
 induction n using Nat.strongRecOn with
 | ind n ih =>
  intro hn
  by_cases h:IsPrime n
  ·exact ⟨n,h,Nat.dvd_refl n⟩
  ·have : ∃ d,d ∣ n/\d ≠ 1/\d ≠ n:=by
    apply Classical.byContradiction
    intro hc
    refine h ⟨hn,fun d hd => ?_⟩
    by_cases h1:d=1
    ·exact .inl h1
    ·by_cases h2:d=n
     ·exact .inr h2
     ·exact absurd ⟨d,hd,h1,h2⟩ hc
   obtain ⟨d,hd,h1,h2⟩:=this
   have hdn:=Nat.le_of_dvd (by omega) hd
   have hd0:d ≠ 0:=by
    rintro rfl
    have:=Nat.eq_zero_of_zero_dvd hd
    omega
   obtain ⟨p,hp,hpd⟩:=ih d (by omega) (by omega)
   exact ⟨p,hp,Nat.dvd_trans hpd hd⟩
theorem MG {d b:Nat} (hd:1<d) : ∀ m n:Nat,b ^ m % d=1->b ^ n % d=1->b ^ Nat.gcd m n % d=1:=by
 intro m n
 induction m,n using Nat.gcd.induction with
 | H0 n=>intro _ h;rw [Nat.gcd_zero_left];exact h
 | H1 m n hm ih =>
  intro h1 h2
  rw [Nat.gcd_rec]
  refine ih ?_ h1
  have e:b ^ n % d=(b ^ m) ^ (n / m)*b ^ (n % m) % d:=by rw [<- Nat.pow_mul,<- Nat.pow_add,Nat.div_add_mod]
  rw [h2,Nat.mul_mod,Nat.pow_mod,h1,Nat.one_pow,Nat.mod_eq_of_lt hd,Nat.one_mul,Nat.mod_mod] at e
  exact e.symm
theorem yR {n q r a:Nat} (hn:n=q*r+1) (hq:IsPrime q) (hr:0<r) (h1:a ^ (q*r) % n=1) (h2:Nat.gcd (a ^ r % n+(n-1)) n=1) {d:Nat} (hd:IsPrime d) (hdn:d ∣ n):q ∣ d-1:=by
 have hq1:=hq.1
 have hn1:1<n:=by
  have:0<q*r:=Nat.mul_pos (by omega) hr
  omega
 have hd1:=hd.1
 have hb:(a ^ r) ^ q % d=1:=by
  rw [<- Nat.pow_mul,Nat.mul_comm r q]
  have:a ^ (q*r) % n % d=a ^ (q*r) % d:=Nat.mod_mod_of_dvd _ hdn
  rw [<- this,h1,Nat.mod_eq_of_lt hd1]
 have hnd : ¬ d ∣ a ^ r:=by
  intro h
  obtain ⟨c,hc⟩:=h
  rw [hc,Nat.mul_pow,Nat.mul_mod] at hb
  have:d ^ q % d=0:=by
   obtain ⟨k,rfl⟩ : ∃ k,q=k+1:=⟨q-1,by omega⟩
   rw [Nat.pow_succ,Nat.mul_mod_left]
  rw [this] at hb
  simp at hb
 have hf:=fermat hd hnd
 have hne:a ^ r % d ≠ 1:=by
  intro h
  have hdd:d ∣ a ^ r % n+(n-1):=by
   have e:(a ^ r % n) % d=1:=by rw [Nat.mod_mod_of_dvd _ hdn];exact h
   have e2:(a ^ r % n+(n-1)+1) % d=1:=by
    rw [show a ^ r % n+(n-1)+1=a ^ r % n+n by omega,Nat.add_mod,e]
    obtain ⟨c,hc⟩:=hdn
    rw [hc,Nat.mul_mod_right,Nat.add_zero,Nat.mod_eq_of_lt hd1]
   have e3:=Nat.sub_mod_eq_zero_of_mod_eq (e2.trans (Nat.mod_eq_of_lt hd1).symm)
   rw [Nat.add_sub_cancel] at e3
   exact Nat.dvd_of_mod_eq_zero e3
  have:=Nat.dvd_gcd hdd hdn
  rw [h2] at this
  have:=Nat.le_of_dvd (by omega) this
  omega
 apply Classical.byContradiction
 intro hc
 have hg:=hq.coprime hc
 have:=MG hd1 q (d-1) hb hf
 rw [hg,Nat.pow_one] at this
 exact hne this
theorem xw {n q r a K:Nat} (hn:n=q*r+1) (hq:IsPrime q) (hr:0<r) (hK : ∀ k,k<K -> ¬ (q*(k+1)+1) ∣ n) (hqq:n<(q*(K+1)+1)*(q*(K+1)+1)) (h1:a ^ (q*r) % n=1) (h2:Nat.gcd (a ^ r % n+(n-1)) n=1):IsPrime n:=by
 have hq1:=hq.1
 have hn1:1<n:=by
  have:0<q*r:=Nat.mul_pos (by omega) hr
  omega
 refine ⟨hn1,fun x hx => ?_⟩
 have key : ∀ d,IsPrime d->d ∣ n->q*(K+1)+1<=d:=by
  intro d hd hdn
  obtain ⟨c,hc⟩:=yR hn hq hr h1 h2 hd hdn
  have hd1:=hd.1
  have hdc:d=q*c+1:=by omega
  rcases Nat.lt_or_ge K c with h | h
  ·have:=Nat.mul_le_mul_left q (show K+1<=c from h)
   omega
  ·have hc0:c ≠ 0:=by rintro rfl;omega
   obtain ⟨k,rfl⟩ : ∃ k,c=k+1:=⟨c-1,by omega⟩
   exact absurd (hdc ▸ hdn) (hK k (by omega))
 by_cases hx1:x=1
 ·exact .inl hx1
 ·right
  obtain ⟨y,hy⟩:=hx
  have hx0:x ≠ 0:=by rintro rfl;omega
  by_cases hy1:y=1
  ·subst hy1;omega
  ·have hy0:y ≠ 0:=by rintro rfl;omega
   obtain ⟨d,hd,hdx⟩:=da x (by omega)
   obtain ⟨e,he,hey⟩:=da y (by omega)
   have k1:=key d hd (Nat.dvd_trans hdx ⟨y,hy⟩)
   have k2:=key e he (Nat.dvd_trans hey ⟨x,by rw [hy,Nat.mul_comm]⟩)
   have l1:=Nat.le_of_dvd (by omega) hdx
   have l2:=Nat.le_of_dvd (by omega) hey
   have:=Nat.mul_le_mul (show q*(K+1)+1<=x by omega) (show q*(K+1)+1<=y by omega)
   omega
end Go.Proofs.Ytibfppbffdedoaa
namespace Go.Proofs.Ytibfppbffdedoaa
def uj:Nat->Nat->Nat->Nat->Nat
 | 0,_,_,n=>1 % n
 | k+1,a,e,n=>match Nat.beq e 0 with
  | true=>1 % n
  | false=>match Nat.beq (e % 2) 1 with
   | true=>a*uj k (a*a % n) (e / 2) n % n
   | false=>uj k (a*a % n) (e / 2) n
theorem eR (n:Nat) : ∀ (k a e:Nat),e<2 ^ k->uj k a e n=a ^ e % n
 | 0,a,e,h=>by
  obtain rfl:e=0:=by simpa using h
  rfl
 | k+1,a,e,h=>by
  unfold uj
  cases h0:Nat.beq e 0 with
  | true =>
   have:=Nat.eq_of_beq_eq_true h0
   subst this
   rfl
  | false =>
   have hlt:e / 2<2 ^ k:=by rw [Nat.pow_succ] at h;omega
   have ih:=eR n k (a*a % n) (e / 2) hlt
   have e1:(a*a % n) ^ (e / 2) % n=a ^ (2*(e / 2)) % n:=by rw [<- Nat.pow_mod,<- Nat.pow_two,<- Nat.pow_mul]
   cases h1:Nat.beq (e % 2) 1 with
   | true =>
    have h1:=Nat.eq_of_beq_eq_true h1
    simp only []
    rw [ih,e1,Nat.mul_mod_mod]
    refine congrArg (fun z=>z % n) ?_
    rw [show a ^ e=a ^ (2*(e / 2)+1) by congr 1;omega,Nat.pow_succ,Nat.mul_comm]
   | false =>
    have h1:=Nat.ne_of_beq_eq_false h1
    simp only []
    rw [ih,e1]
    refine congrArg (fun z=>a ^ z % n) ?_
    omega
theorem AR {n q r a k:Nat} (K:Nat) (hn:n=q*r+1) (hq:IsPrime q) (hr:0<r) (hK : ∀ k,k<K -> ¬ (q*(k+1)+1) ∣ n) (hqq:n<(q*(K+1)+1)*(q*(K+1)+1)) (hk:q*r<2 ^ k) (h1:uj k a (q*r) n=1) (h2:Nat.gcd (uj k a r n+(n-1)) n=1):IsPrime n:=by
 have hrq:r<2 ^ k:=Nat.lt_of_le_of_lt (Nat.le_mul_of_pos_left r (by have:=hq.1;omega)) hk
 rw [eR n k a _ hk] at h1
 rw [eR n k a _ hrq] at h2
 exact xw hn hq hr hK hqq h1 h2
def Gv (n:Nat):Nat->Nat->Bool
 | 0,_=>true
 | k+1,d=>match Nat.beq (n % d) 0 with
  | true=>false
  | false=>Gv n k (d+1)
theorem lO {n:Nat} : ∀ {k d:Nat},Gv n k d=true -> ∀ x,d<=x->x<d+k -> ¬ x ∣ n
 | 0,d,_,x,h1,h2=>by omega
 | k+1,d,h,x,h1,h2=>by
  simp only [Gv] at h
  split at h
  ·cases h
  ·rename_i hb
   have hb:=Nat.ne_of_beq_eq_false hb
   rcases Nat.lt_or_ge d x with hlt | hge
   ·exact lO h x hlt (by omega)
   ·obtain rfl:x=d:=by omega
    exact fun hd=>hb (Nat.mod_eq_zero_of_dvd hd)
theorem bA {n k:Nat} (hn:1<n) (h:Gv n k 2=true) (hk:n<(k+2)*(k+2)):IsPrime n:=by
 refine ⟨hn,fun d hd => ?_⟩
 obtain ⟨y,hy⟩:=hd
 have hd0:d ≠ 0:=by rintro rfl;omega
 have hy0:y ≠ 0:=by rintro rfl;omega
 by_cases h1:d=1
 ·exact .inl h1
 ·right
  by_cases h2:y=1
  ·subst h2;omega
  ·have k1:k+2<=d:=by
    rcases Nat.lt_or_ge d (2+k) with hl | hl
    ·exact absurd ⟨y,hy⟩ (lO h d (by omega) hl)
    ·omega
   have k2:k+2<=y:=by
    rcases Nat.lt_or_ge y (2+k) with hl | hl
    ·exact absurd ⟨d,by rw [hy,Nat.mul_comm]⟩ (lO h y (by omega) hl)
    ·omega
   have:=Nat.mul_le_mul k1 k2
   omega
theorem MA:IsPrime 421987:=bA (k:=700) (by decide) (by decide +kernel) (by decide)
theorem MB:IsPrime 13090036741:=AR 0 (q:=421987) (r:=31020) (a:=2) (k:=34) (by decide) MA (by decide) (fun k h=>absurd h (by omega)) (by decide) (by decide) (by decide +kernel) (by decide +kernel)
theorem MC:IsPrime 3819663927398918131021:=AR 4 (q:=13090036741) (r:=291799328220) (a:=2) (k:=72) (by decide) MB (by decide) (by decide +kernel) (by decide +kernel) (by decide +kernel) (by decide +kernel) (by decide +kernel)
theorem MD:IsPrime 1125266252156850182658904441386709967:=AR 0 (q:=3819663927398918131021) (r:=294598235223046) (a:=2) (k:=120) (by decide +kernel) MC (by decide) (fun k h=>absurd h (by omega)) (by decide +kernel) (by decide +kernel) (by decide +kernel) (by decide +kernel)
theorem ME:IsPrime 15778400344354997994418419698270088123916926905054652752758194827714659:=AR 0 (q:=1125266252156850182658904441386709967) (r:=14021926201120671579994175730661374) (a:=2) (k:=234) (by decide +kernel) MD (by decide +kernel) (fun k h=>absurd h (by omega)) (by decide +kernel) (by decide +kernel) (by decide +kernel) (by decide +kernel)
theorem k9:IsPrime pN:=AR 0 (q:=15778400344354997994418419698270088123916926905054652752758194827714659) (r:=253663835868735594330404923636534084567099854) (a:=2) (k:=381) (by decide +kernel) ME (by decide +kernel) (fun k h=>absurd h (by omega)) (by decide +kernel) (by decide +kernel) (by decide +kernel) (by decide +kernel)
end Go.Proofs.Ytibfppbffdedoaa
namespace Go.Proofs.Ytibfppbffdedoaa
def ew (xs:List UInt64):Nat->Nat
 | 0=>0
 | n+1=>ew xs n+(atF xs n).toNat*W64 ^ n
theorem rX (xs:List UInt64) : ∀ n,ew xs n<W64 ^ n
 | 0=>by simp [ew]
 | n+1=>by
  have ih:=rX xs n
  have h:=(atF xs n).toNat_lt
  have h1:(atF xs n).toNat*W64 ^ n<=(W64-1)*W64 ^ n:=Nat.mul_le_mul_right _ (by unfold W64;omega)
  have h2:W64 ^ (n+1)=(W64-1)*W64 ^ n+W64 ^ n:=by
   rw [Nat.pow_succ,Nat.mul_comm,Nat.sub_mul,Nat.one_mul]
   have:W64 ^ n<=W64*W64 ^ n:=Nat.le_mul_of_pos_left _ (by unfold W64;omega)
   omega
  simp only [ew]
  omega
theorem yn {x y p q:Nat} {w a b:Nat} (hp:p<w) (hq:q<w):a<b->p+a*w<q+b*w:=by
 intro h
 have:(a+1)*w<=b*w:=Nat.mul_le_mul_right _ h
 rw [Nat.add_mul,Nat.one_mul] at this
 omega
theorem uE (xs ys:List UInt64) : ∀ n,kK xs ys n=if ew xs n<ew ys n then -1 else if ew xs n > ew ys n then 1 else 0
 | 0=>by simp [kK,ew]
 | n+1=>by
  have ih:=uE xs ys n
  have h1:=rX xs n
  have h2:=rX ys n
  have e1:ew xs (n+1)=ew xs n+(atF xs n).toNat*W64 ^ n:=rfl
  have e2:ew ys (n+1)=ew ys n+(atF ys n).toNat*W64 ^ n:=rfl
  rw [e1,e2]
  show (if atF xs n<atF ys n then -1 else if atF xs n > atF ys n then 1 else kK xs ys n)=_
  by_cases ha:atF xs n<atF ys n
  ·have:=UInt64.lt_iff_toNat_lt.1 ha
   have:=yn (x:=0) (y:=0) h1 h2 this
   rw [if_pos ha,if_pos this]
  ·rw [if_neg ha]
   by_cases hb:atF xs n > atF ys n
   ·have:=UInt64.lt_iff_toNat_lt.1 hb
    have:=yn (x:=0) (y:=0) h2 h1 this
    rw [if_pos hb,if_neg (by omega),if_pos this]
   ·rw [if_neg hb,ih]
    have e:(atF xs n).toNat=(atF ys n).toNat:=by
     have h3:=mt UInt64.lt_iff_toNat_lt.2 ha
     have h4:=mt UInt64.lt_iff_toNat_lt.2 hb
     omega
    rw [e]
    simp only [Nat.add_lt_add_iff_right,gt_iff_lt]
theorem zg (a:Fp):ew a.list 6=a.nat:=by
 simp only [ew,atF,Fp.list,Fp.nat,List.getD_eq_getElem?_getD,List.getElem?_cons_zero,List.getElem?_cons_succ,Option.getD_some]
 generalize a.l0.toNat=x0
 generalize a.l1.toNat=x1
 generalize a.l2.toNat=x2
 generalize a.l3.toNat=x3
 generalize a.l4.toNat=x4
 generalize a.l5.toNat=x5
 simp only [Nat.pow_succ,Nat.pow_zero,Nat.one_mul,Nat.mul_one,Nat.mul_add,Nat.mul_assoc,Nat.mul_comm,Nat.mul_left_comm,Nat.zero_add]
 omega
theorem NJ (a b:Fp):OI a.list b.list=if a.nat<b.nat then -1 else if a.nat > b.nat then 1 else 0:=by
 have h:OI a.list b.list=kK a.list b.list 6:=by
  unfold OI RT
  rfl
 rw [h,uE,zg,zg]
def hN:Nat:=pN / 2
theorem Bs:(Do pLimbs).nat=hN:=by decide +kernel
theorem rm (a:Fp):ls a=decide (hN<a.nat):=by
 unfold ls
 rw [NJ,Bs]
 refine decide_eq_decide.2 ?_
 split
 ·rename_i h;constructor <;> intro h' <;> omega
 ·split
  ·rename_i h h2;constructor <;> intro h' <;> omega
  ·rename_i h h2;constructor <;> intro h' <;> omega
theorem u64_ne {x y:UInt64}:(x != y)=true <-> x.toNat ≠ y.toNat:=by
 simp only [bne_iff_ne,ne_eq]
 exact ⟨fun h e=>h (UInt64.toNat.inj e),fun h e=>h (by rw [e])⟩
theorem rP (a m:Fp):b6 a m=decide (a.nat<m.nat):=by
 have h0:=a.l0.toNat_lt
 have h1:=a.l1.toNat_lt
 have h2:=a.l2.toNat_lt
 have h3:=a.l3.toNat_lt
 have h4:=a.l4.toNat_lt
 have k0:=m.l0.toNat_lt
 have k1:=m.l1.toNat_lt
 have k2:=m.l2.toNat_lt
 have k3:=m.l3.toNat_lt
 have k4:=m.l4.toNat_lt
 have same : ∀ {x y:UInt64},(x != y)=false->x.toNat=y.toNat:=fun h=>by
  simp only [bne_eq_false_iff_eq] at h
  rw [h]
 unfold b6
 cases e5:a.l5 != m.l5 with
 | true =>
  have:=u64_ne.1 e5
  refine decide_eq_decide.2 ?_
  rw [UInt64.lt_iff_toNat_lt]
  unfold Fp.nat W64
  omega
 | false =>
  have e5:=same e5
  simp only []
  cases e4:a.l4 != m.l4 with
  | true =>
   have:=u64_ne.1 e4
   refine decide_eq_decide.2 ?_
   rw [UInt64.lt_iff_toNat_lt]
   unfold Fp.nat W64
   omega
  | false =>
   have e4:=same e4
   simp only []
   cases e3:a.l3 != m.l3 with
   | true =>
    have:=u64_ne.1 e3
    refine decide_eq_decide.2 ?_
    rw [UInt64.lt_iff_toNat_lt]
    unfold Fp.nat W64
    omega
   | false =>
    have e3:=same e3
    simp only []
    cases e2:a.l2 != m.l2 with
    | true =>
     have:=u64_ne.1 e2
     refine decide_eq_decide.2 ?_
     rw [UInt64.lt_iff_toNat_lt]
     unfold Fp.nat W64
     omega
    | false =>
     have e2:=same e2
     simp only []
     cases e1:a.l1 != m.l1 with
     | true =>
      have:=u64_ne.1 e1
      refine decide_eq_decide.2 ?_
      rw [UInt64.lt_iff_toNat_lt]
      unfold Fp.nat W64
      omega
     | false =>
      have e1:=same e1
      simp only []
      cases e0:a.l0 != m.l0 with
      | true =>
       have:=u64_ne.1 e0
       refine decide_eq_decide.2 ?_
       rw [UInt64.lt_iff_toNat_lt]
       unfold Fp.nat W64
       omega
      | false =>
       have e0:=same e0
       refine (decide_eq_false ?_).symm
       unfold Fp.nat W64
       omega
theorem Ji (a b:Fp):jl a b=decide (a.nat=b.nat):=by
 by_cases h:a=b
 ·subst h;rw [(iH a a).2 rfl];simp
 ·have h1:jl a b=false:=by
   cases e:jl a b with
   | true=>exact absurd ((iH a b).1 e) h
   | false=>rfl
  rw [h1]
  exact (decide_eq_false fun e=>h (Fp.nat_inj e)).symm
end Go.Proofs.Ytibfppbffdedoaa
namespace Go.Proofs.Ytibfppbffdedoaa
theorem of_nat (n:UInt64):(ofF n).nat=n.toNat:=by
 unfold ofF Fp.nat
 simp only [show (0:UInt64).toNat=0 from rfl,Nat.mul_zero,Nat.add_zero]
theorem R9:jm [pLimbs.l0-2,pLimbs.l1,pLimbs.l2,pLimbs.l3,pLimbs.l4,pLimbs.l5] (64*6)=pN-2:=by decide +kernel
theorem C9 {a:Nat} (h:a<pN) (h0:a ≠ 0) : ¬ pN ∣ a:=fun hd=>absurd (Nat.le_of_dvd (by omega) hd) (by omega)
theorem wy:2<pN:=by decide +kernel
theorem Nu {x:Fp} (hx:x.nat<pN):(x.nat=0->(hO x).2=7)/\(x.nat ≠ 0->(hO x).2=0/\(hO x).1.nat<pN/\x.nat*(hO x).1.nat % pN=1):=by
 unfold hO
 rw [Ji,jR]
 refine ⟨fun h => ?_,fun h => ?_⟩
 ·rw [decide_eq_true h]
 ·rw [decide_eq_false h]
  simp only []
  have e:(yQ x [pLimbs.l0-2,pLimbs.l1,pLimbs.l2,pLimbs.l3,pLimbs.l4,pLimbs.l5]).nat=x.nat ^ (pN-2) % pN:=by
   rw [yP hx,show 64 * [pLimbs.l0-2,pLimbs.l1,pLimbs.l2,pLimbs.l3,pLimbs.l4,pLimbs.l5].length=64*6 from rfl,R9]
  refine ⟨trivial,by rw [e];exact Nat.mod_lt _ e9,?_⟩
  rw [e,Nat.mul_mod_mod]
  have h2:=wy
  have:x.nat*x.nat ^ (pN-2)=x.nat ^ (pN-1):=by rw [show pN-1=(pN-2)+1 by omega,Nat.pow_succ,Nat.mul_comm]
  rw [this]
  exact fermat k9 (C9 hx h)
end Go.Proofs.Ytibfppbffdedoaa
namespace Go.Proofs.Ytibfppbffdedoaa
instance : NeZero pN := ⟨by decide +kernel⟩
def V1:Type:=Fin pN
def V1.of (n:Nat):V1:=Fin.ofNat pN n
def V1.nat (a:V1):Nat:=Fin.val a
theorem V1.nat_lt (a:V1):a.nat<pN:=Fin.isLt a
theorem V1.nat_of (n:Nat):(V1.of n).nat=n % pN:=rfl
theorem V1.ext {a b:V1} (h:a.nat=b.nat):a=b:=Fin.eq_of_val_eq h
theorem V1.of_nat (a:V1):V1.of a.nat=a:=V1.ext (by rw [V1.nat_of,Nat.mod_eq_of_lt a.nat_lt])
def V1.add (a b:V1):V1:=V1.of (a.nat+b.nat)
def V1.mul (a b:V1):V1:=V1.of (a.nat*b.nat)
def V1.neg (a:V1):V1:=V1.of (pN-a.nat)
def V1.sub (a b:V1):V1:=V1.of (a.nat+(pN-b.nat))
def V1.inv (a:V1):V1:=V1.of (uj 381 a.nat (pN-2) pN)
theorem sj:1<pN:=by decide +kernel
theorem V1.one_mod:1 % pN=1:=Nat.mod_eq_of_lt sj
instance : CR V1 where
 add:=V1.add
 mul:=V1.mul
 neg:=V1.neg
 sub:=V1.sub
 z:=V1.of 0
 o:=V1.of 1
 add_zero:=fun a=>V1.ext (by show (a.nat+0 % pN) % pN=a.nat;rw [Nat.zero_mod,Nat.add_zero,Nat.mod_eq_of_lt a.nat_lt])
 add_comm:=fun a b=>V1.ext (by show (a.nat+b.nat) % pN=(b.nat+a.nat) % pN;rw [Nat.add_comm])
 add_assoc:=fun a b c=>V1.ext (by show ((a.nat+b.nat) % pN+c.nat) % pN=(a.nat+(b.nat+c.nat) % pN) % pN;rw [Nat.mod_add_mod,Nat.add_mod_mod,Nat.add_assoc])
 mul_assoc:=fun a b c=>V1.ext (by show ((a.nat*b.nat) % pN*c.nat) % pN=(a.nat*((b.nat*c.nat) % pN)) % pN;rw [Nat.mod_mul_mod,Nat.mul_mod_mod,Nat.mul_assoc])
 mul_comm:=fun a b=>V1.ext (by show (a.nat*b.nat) % pN=(b.nat*a.nat) % pN;rw [Nat.mul_comm])
 mul_one:=fun a=>V1.ext (by show (a.nat*(1 % pN)) % pN=a.nat;rw [V1.one_mod,Nat.mul_one,Nat.mod_eq_of_lt a.nat_lt])
 dist:=fun a b c=>V1.ext (by
  show (a.nat*((b.nat+c.nat) % pN)) % pN=((a.nat*b.nat) % pN+(a.nat*c.nat) % pN) % pN
  rw [Nat.mul_mod_mod,<- Nat.add_mod,Nat.mul_add])
 neg_add:=fun a=>V1.ext (by
  show ((pN-a.nat) % pN+a.nat) % pN=0 % pN
  rw [Nat.mod_add_mod,Nat.sub_add_cancel (Nat.le_of_lt a.nat_lt),Nat.mod_self,Nat.zero_mod])
 sub_eq:=fun a b=>V1.ext (by
  show (a.nat+(pN-b.nat)) % pN=(a.nat+(pN-b.nat) % pN) % pN
  rw [Nat.add_mod_mod])
theorem V1.nat_add (a b:V1):(a+b).nat=(a.nat+b.nat) % pN:=rfl
theorem V1.nat_mul (a b:V1):(a*b).nat=(a.nat*b.nat) % pN:=rfl
theorem V1.nat_zero:(0:V1).nat=0:=Nat.zero_mod _
theorem V1.nat_one:(1:V1).nat=1:=V1.one_mod
theorem V1.nat_pow (a:V1) : ∀ n:Nat,(a ^ n).nat=a.nat ^ n % pN
 | 0=>rfl
 | n+1=>by rw [an,V1.nat_mul,V1.nat_pow a n,Nat.mod_mul_mod,Nat.pow_succ]
theorem V1.ne_zero {a:V1} (h:a ≠ 0):a.nat ≠ 0:=fun e=>h (V1.ext (by rw [e,V1.nat_zero]))
theorem V1.fermat {a:V1} (h:a ≠ 0):a ^ (pN-1)=1:=V1.ext (by
 rw [V1.nat_pow,V1.nat_one]
 exact Go.Proofs.Ytibfppbffdedoaa.fermat k9 (C9 a.nat_lt (V1.ne_zero h)))
theorem V1.inv_eq (a:V1):V1.inv a=a ^ (pN-2):=V1.ext (by
 show uj 381 a.nat (pN-2) pN % pN=_
 rw [eR pN 381 _ _ (by decide +kernel),V1.nat_pow,Nat.mod_mod])
instance : Fld V1 where
 inv:=V1.inv
 mul_inv:=fun a h=>by
  rw [V1.inv_eq]
  have:=V1.fermat h
  rw [show pN-1=(pN-2)+1 by have:=wy;omega,an] at this
  rw [CR.mul_comm]
  exact this
 one_ne:=fun e=>by
  have:=congrArg V1.nat e
  rw [V1.nat_one,V1.nat_zero] at this
  omega
def Fp.ok (a:Fp):Prop:=a.nat<pN
def Fp.v (a:Fp):V1:=V1.of a.nat
theorem Fp.v_nat {a:Fp} (h:a.ok):a.v.nat=a.nat:=Nat.mod_eq_of_lt h
theorem Fp.v_inj {a b:Fp} (ha:a.ok) (hb:b.ok) (h:a.v=b.v):a=b:=Fp.nat_inj (by rw [<- Fp.v_nat ha,<- Fp.v_nat hb,h])
theorem KI {a b:Fp} (ha:a.ok) (hb:b.ok):jl a b=true <-> a.v=b.v:=⟨fun h=>by rw [(iH a b).1 h],fun h=>(iH a b).2 (Fp.v_inj ha hb h)⟩
theorem rU {a b:Fp} (ha:a.ok) (hb:b.ok):(jp a b).ok:=N0 ha hb
theorem np {a b:Fp} (ha:a.ok) (hb:b.ok):(gl a b).ok:=L3 ha hb
theorem nC {a b:Fp} (ha:a.ok):(ll a b).ok:=M8 ha
theorem bQ:zeroFp.ok:=by unfold Fp.ok;rw [jR];exact e9
theorem qI:oneFp.ok:=by unfold Fp.ok;rw [lh];exact sj
theorem qO {a:Fp} (ha:a.ok):(wc a).ok:=np bQ ha
theorem o5:zeroFp.v=0:=V1.ext (by rw [Fp.v_nat bQ,jR,V1.nat_zero])
theorem Oa:oneFp.v=1:=V1.ext (by rw [Fp.v_nat qI,lh,V1.nat_one])
theorem Lg {a b:Fp} (ha:a.ok) (hb:b.ok):(jp a b).v=a.v+b.v:=V1.ext (by
 rw [Fp.v_nat (rU ha hb),zQ ha hb,V1.nat_add,Fp.v_nat ha,Fp.v_nat hb])
theorem Gm {a b:Fp} (ha:a.ok) (hb:b.ok):(ll a b).v=a.v*b.v:=V1.ext (by
 rw [Fp.v_nat (nC ha),sq ha,V1.nat_mul,Fp.v_nat ha,Fp.v_nat hb])
theorem Gk {a b:Fp} (ha:a.ok) (hb:b.ok):(gl a b).v=a.v-b.v:=V1.ext (by
 rw [Fp.v_nat (np ha hb),sc ha hb]
 show _=(a.v.nat+(pN-b.v.nat)) % pN
 rw [Fp.v_nat ha,Fp.v_nat hb]
 congr 1
 have:b.nat<pN:=hb
 omega)
theorem Gl {a:Fp} (ha:a.ok):(wc a).v = - a.v:=by
 rw [show wc a=gl zeroFp a from rfl,Gk bQ ha,o5]
 grind
end Go.Proofs.Ytibfppbffdedoaa
namespace Go.Proofs.Ytibfppbffdedoaa
theorem FA:(pN-1) / 2+(pN-1) / 2=pN-1:=by decide +kernel
theorem Ja:(pN-1) / 2=2*((pN-3) / 4)+1:=by decide +kernel
def V1.chi (a:V1):V1:=a ^ ((pN-1) / 2)
theorem Cr {a:V1} (h:a ≠ 0):a.chi*a.chi=1:=by
 unfold V1.chi
 rw [<- jW,FA]
 exact V1.fermat h
theorem FV {a:V1} (h:a ≠ 0):a.chi=1 \/ a.chi = -1:=wz (by rw [Cr h];grind)
theorem DC (a b:V1):(a*b).chi=a.chi*b.chi:=cN a b _
theorem A9:(-1:V1) * -1=1:=by grind
theorem xW:(-1:V1).chi = -1:=by
 unfold V1.chi
 rw [Ja,jW,bk,fE,an _ 1,fE,A9,jY]
 grind
theorem A3:(1:V1) ≠ -1:=fun e=>by
 have:=congrArg V1.nat e
 rw [V1.nat_one] at this
 have h2:(-1:V1).nat=(pN-1 % pN) % pN:=rfl
 rw [h2,V1.one_mod] at this
 have h3:=sj
 rw [Nat.mod_eq_of_lt (by omega)] at this
 have h4:=wy
 omega
theorem Rg:pN=2*hN+1:=by decide +kernel
theorem uv {a:Fp} (ha:a.ok) (h:a.v ≠ 0):ls (wc a) = !ls a:=by
 have h0:a.nat ≠ 0:=by
  have:=V1.ne_zero h
  rwa [Fp.v_nat ha] at this
 have h1:a.nat<pN:=ha
 have h2:=Rg
 rw [rm,rm,Iy ha,Nat.mod_eq_of_lt (by omega)]
 by_cases h3:hN<a.nat
 ·rw [decide_eq_true h3,decide_eq_false (by omega)];rfl
 ·rw [decide_eq_false h3,decide_eq_true (by omega)];rfl
end Go.Proofs.Ytibfppbffdedoaa
namespace Go.Proofs.Ytibfppbffdedoaa
theorem BK (a b:Fp):(cz a b).2=decide (a.nat<b.nat):=by
 have h:=sa a b
 have h1:=(cz a b).1.nat_lt
 cases e:(cz a b).2 with
 | true =>
  rw [e,Bool.toNat_true,Nat.mul_one] at h
  exact (decide_eq_true (by omega)).symm
 | false =>
  rw [e,Bool.toNat_false,Nat.mul_zero] at h
  exact (decide_eq_false (by omega)).symm
theorem zi (a:Fp) (o:UInt64):i5 a o=match decide (o<b2u (decide (a.nat<pN))) with | true=>a | false=>(cz a pLimbs).1:=by
 have h:=BK a pLimbs
 rw [gq] at h
 unfold i5
 rw [sw,h]
 all_goals rfl
theorem E8 (t:L7) (h6:t.t6.toNat<=1):my pLimbs t=i5 t.low t.t6:=by
 rw [zi]
 unfold my
 rw [rP,gq]
 by_cases h:t.t6.toNat=0
 ·have e0:t.t6=0:=UInt64.toNat.inj h
  rw [e0]
  by_cases hl:t.low.nat<pN
  ·rw [decide_eq_true hl];rfl
  ·rw [decide_eq_false hl];rfl
 ·have e0:t.t6=1:=UInt64.toNat.inj (by rw [UInt64.toNat_one];omega)
  rw [e0]
  by_cases hl:t.low.nat<pN
  ·rw [decide_eq_true hl];rfl
  ·rw [decide_eq_false hl];rfl
theorem Fh (x y t c:UInt64):fP x y t c=fP y x t c:=by unfold fP;rw [UInt64.mul_comm]
theorem Ba (x y:UInt64):dY x y=dY y x:=UInt64.toNat.inj (by rw [fm,fm,Nat.mul_comm])
theorem Fj (x y t c:UInt64):dK x y t c=dK y x t c:=by unfold dK;rw [UInt64.mul_comm,Ba]
theorem IJ (t0 t1 t2 t3 t4 t5 top:UInt64) (more:Bool):Lq pLimbs qE t0 t1 t2 t3 t4 t5 top more=sU t0 t1 t2 t3 t4 t5 top more:=by
 unfold Lq sU
 simp only [sV,sW,oc t0]
theorem IH (ai:UInt64) (b:Fp) (t:L7):iW pLimbs qE ai b t=dh b ai t:=by
 unfold iW dh
 rw [IJ]
 simp only [sV,sW,Fh ai,Fj ai]
theorem Bd:ba pLimbs.l0=qE:=by decide +kernel
theorem IK (a b:Fp):qV a b pLimbs=eF b a:=by
 unfold qV wM wN wO wP wQ
 rw [Bd]
 simp only [IH]
 rfl
theorem FB {a b:Fp} (ha:a.nat<pN):(eF a b).t6.toNat<=1:=by
 obtain ⟨k,h1,h2⟩:=uq a b
 rw [L7.nat_low] at h1 h2
 have hlt:=(eF a b).low.nat_lt
 have hpr:2*pN<rN:=by decide +kernel
 rcases Nat.lt_or_ge (eF a b).t6.toNat 1 with h | h
 ·omega
 ·have:rN*1<=rN*(eF a b).t6.toNat:=Nat.mul_le_mul_left _ h
  rcases Nat.lt_or_ge (eF a b).t6.toNat 2 with h3 | h3
  ·omega
  ·have:rN*2<=rN*(eF a b).t6.toNat:=Nat.mul_le_mul_left _ h3
   omega
theorem qU (a:Fp) {b:Fp} (hb:b.ok):tB a b pLimbs=aJ b a:=by
 unfold tB aJ
 rw [IK]
 exact E8 _ (FB hb)
theorem Od:sqLimbs.ok:=by unfold Fp.ok;rw [BZ];exact Nat.mod_lt _ e9
theorem kC (a:Fp) {b:Fp} (hb:b.ok):(cU a b).nat=a.nat*b.nat % pN:=by
 unfold cU
 rw [qU a hb,qU _ Od]
 obtain ⟨h1,h2⟩:=ej (b:=a) hb
 obtain ⟨h3,h4⟩:=ej (b:=aJ b a) Od
 rw [<- Nat.mod_eq_of_lt h3]
 refine mO ?_
 rw [h4,BZ,Nat.mod_mul_mod]
 have e:rN*rN*(aJ b a).nat=(aJ b a).nat*rN*rN:=by rw [Nat.mul_comm,Nat.mul_assoc]
 rw [e,<- Nat.mod_mul_mod,h2,Nat.mod_mul_mod,Nat.mul_comm a.nat]
theorem so {a b:Fp} (ha:a.ok) (hb:b.ok):cU a b=ll a b:=Fp.nat_inj (by rw [kC a hb,sq ha])
theorem yw (a b:Fp):lK a b=gl a b:=by
 unfold lK mA gl
 cases (cz a b).2 <;> rfl
theorem zO (a b:Fp):mb a b=jp a b:=by
 unfold mb oP jp
 rw [zi,rP,gq]
 cases (fW a b).2
 ·by_cases hl:(fW a b).1.nat<pN
  ·rw [decide_eq_true hl];rfl
  ·rw [decide_eq_false hl];rfl
 ·by_cases hl:(fW a b).1.nat<pN
  ·rw [decide_eq_true hl];rfl
  ·rw [decide_eq_false hl];rfl
theorem za (a:Fp) {b:Fp} (hb:b.ok):(cU a b).ok:=by unfold Fp.ok;rw [kC a hb];exact Nat.mod_lt _ e9
theorem lN {a:Fp} (ha:a.ok) (e:List UInt64) : ∀ (n:Nat) (o:Fp),o.ok->(la a e n o).nat=o.nat ^ 2 ^ n*a.nat ^ jm e n % pN
 | 0,o,ho=>by
  simp only [la,jm,Nat.pow_zero,Nat.pow_one,Nat.mul_one]
  exact (Nat.mod_eq_of_lt ho).symm
 | n+1,o,ho=>by
  have h1:=kC o ho
  simp only [la]
  cases hb:dd e n with
  | true =>
   simp only []
   rw [lN ha e n _ (za _ ha),kC _ ha,h1]
   simp only [jm,hb,Bool.toNat_true,Nat.one_mul]
   rw [Nat.mod_mul_mod,<- Nat.mod_mul_mod,<- Nat.pow_mod,Nat.mod_mul_mod]
   refine congrArg (fun z=>z % pN) ?_
   rw [Nat.mul_pow,<- Nat.pow_two,<- Nat.pow_mul,show 2 ^ (n+1)=2*2 ^ n by rw [Nat.pow_succ,Nat.mul_comm],Nat.pow_add a.nat,Nat.mul_assoc,Nat.mul_comm (a.nat ^ 2 ^ n)]
  | false =>
   simp only []
   rw [lN ha e n _ (za _ ho),h1]
   simp only [jm,hb,Bool.toNat_false,Nat.zero_mul,Nat.add_zero]
   rw [<- Nat.mod_mul_mod,<- Nat.pow_mod,Nat.mod_mul_mod]
   refine congrArg (fun z=>z % pN) ?_
   rw [<- Nat.pow_two,<- Nat.pow_mul,show 2 ^ (n+1)=2*2 ^ n by rw [Nat.pow_succ,Nat.mul_comm]]
theorem Kj:ofF 1=oneFp:=rfl
theorem HY {a:Fp} (ha:a.ok) (e:List UInt64):qD a e=yQ a e:=Fp.nat_inj (by
 unfold qD
 rw [yP ha,Kj,lN ha e _ _ qI,lh,Nat.one_pow,Nat.one_mul])
theorem Px:pm2 = [pLimbs.l0-2,pLimbs.l1,pLimbs.l2,pLimbs.l3,pLimbs.l4,pLimbs.l5]:=by decide +kernel
theorem I8 {a:Fp} (ha:a.ok):oR a=hO a:=by
 unfold oR hO
 rw [HY ha,Px]
 all_goals rfl
def GI (xs:List UInt64):Nat:=ew xs xs.length
end Go.Proofs.Ytibfppbffdedoaa
namespace Go.Proofs.Ytibfppbffdedoaa
section
variable {R : Type} [CR R]
theorem CR.nat_add (m:Nat) : ∀ n:Nat,(CR.nat (m+n):R)=CR.nat m+CR.nat n
 | 0=>by show CR.nat m=CR.nat m+CR.z;rw [CR.add_zero]
 | n+1=>by
  rw [<- Nat.add_assoc,CR.nat_succ,CR.nat_add m n,CR.nat_succ,CR.add_assoc]
theorem CR.nat_mul (m:Nat) : ∀ n:Nat,(CR.nat (m*n):R)=CR.nat m*CR.nat n
 | 0=>by
  show CR.z=CR.nat m*CR.z
  rw [CR.mul_zero]
 | n+1=>by
  rw [Nat.mul_succ,CR.nat_add,CR.nat_mul m n,CR.nat_succ,CR.dist,CR.mul_one]
def bsR (a:R) (n:Nat):Nat->R
 | 0=>0
 | m+1=>bsR a n m+CR.nat (ch n m)*a ^ m
theorem zH (a:R) (n:Nat) : ∀ m:Nat,bsR a (n+1) (m+1)=bsR a n (m+1)+a*bsR a n m
 | 0=>by
  simp only [bsR,lB]
  grind
 | m+1=>by
  have h:=zH a n m
  show bsR a (n+1) (m+1)+CR.nat (ch (n+1) (m+1))*a ^ (m+1)=bsR a n (m+1)+CR.nat (ch n (m+1))*a ^ (m+1)+a*(bsR a n m+CR.nat (ch n m)*a ^ m)
  rw [h,show ch (n+1) (m+1)=ch n m+ch n (m+1) from rfl,CR.nat_add,an]
  generalize (CR.nat (ch n m):R)=c
  generalize (CR.nat (ch n (m+1)):R)=d
  generalize a ^ m=e
  grind
theorem KU (a:R) : ∀ n:Nat,(a+1) ^ n=bsR a n (n+1)
 | 0=>by
  show (1:R)=0+CR.nat 1*a ^ 0
  rw [bT]
  show (1:R)=0+1*1
  grind
 | n+1=>by
  rw [zH a n (n+1),show bsR a n (n+1+1)=bsR a n (n+1)+CR.nat (ch n (n+1))*a ^ (n+1) from rfl,tf (Nat.lt_succ_self n),<- KU a n,an]
  show _=(a+1) ^ n+0*a ^ (n+1)+a*(a+1) ^ n
  grind
theorem uF {p:Nat} (h:IsPrime p) (h0:(CR.nat p:R)=0) (a:R) : ∀ m:Nat,m<p->bsR a p (m+1)=1
 | 0,_=>by
  simp only [bsR,lB]
  show (0:R)+1*a ^ 0=1
  rw [bT]
  grind
 | m+1,hm=>by
  have ih:=uF h h0 a m (by omega)
  obtain ⟨c,hc⟩:=zE h (Nat.succ_pos m) hm
  show bsR a p (m+1)+CR.nat (ch p (m+1))*a ^ (m+1)=1
  rw [hc,CR.nat_mul,h0,ih]
  grind
theorem Qm {p:Nat} (h:IsPrime p) (h0:(CR.nat p:R)=0) (a:R):(a+1) ^ p=a ^ p+1:=by
 have hp:=h.1
 obtain ⟨n,rfl⟩ : ∃ n,p=n+1:=⟨p-1,by omega⟩
 rw [KU a (n+1),show bsR a (n+1) (n+1+1)=bsR a (n+1) (n+1)+CR.nat (ch (n+1) (n+1))*a ^ (n+1) from rfl,wm,uF h h0 a n (by omega)]
 show (1:R)+1*a ^ (n+1)=_
 grind
end
section
variable {K : Type} [Fld K]
theorem OF {p:Nat} (h:IsPrime p) (h0:(CR.nat p:K)=0) (a b:K):(a+b) ^ p=a ^ p+b ^ p:=by
 by_cases hb:b=0
 ·rw [hb,tK p (by have:=h.1;omega)]
  have e:a+0=a:=by grind
  rw [e]
  grind
 ·have hi:=aO hb
  have h1:=Qm h h0 (a*Fld.inv b)
  have e1:(a+b)=(a*Fld.inv b+1)*b:=by grind
  have e2:a=(a*Fld.inv b)*b:=by grind
  have e3:a ^ p=(a*Fld.inv b) ^ p*b ^ p:=by rw [<- cN,<- e2]
  rw [e1,cN,h1,e3]
  grind
end
theorem Qd.nat_eq {K:Type} [CR K] [QP K] : ∀ n:Nat,(CR.nat n:Qd K)=Qd.of (CR.nat n)
 | 0=>rfl
 | n+1=>by
  rw [CR.nat_succ,Qd.nat_eq n,CR.nat_succ]
  exact Qd.ext' rfl (show (0:K)+0=0 by grind)
theorem Cb.nat_eq {K:Type} [CR K] [CP K] : ∀ n:Nat,(CR.nat n:Cb K)=Cb.of (CR.nat n)
 | 0=>rfl
 | n+1=>by
  rw [CR.nat_succ,Cb.nat_eq n,CR.nat_succ]
  exact Cb.ext' rfl (show (0:K)+0=0 by grind) (show (0:K)+0=0 by grind)
theorem V1.nat_nat : ∀ n:Nat,V1.nat (CR.nat n)=n % pN
 | 0=>V1.nat_zero
 | n+1=>by
  rw [CR.nat_succ]
  show V1.nat (CR.nat n+1)=_
  rw [V1.nat_add,V1.nat_nat n,V1.nat_one,Nat.mod_add_mod]
theorem V1.char:(CR.nat pN:V1)=0:=V1.ext (by rw [V1.nat_nat,Nat.mod_self,V1.nat_zero])
theorem V1.two_nat:V1.nat (2:V1)=2:=by
 show V1.nat (CR.nat 2)=2
 rw [V1.nat_nat]
 exact Nat.mod_eq_of_lt wy
instance : QF V1 where
 nr := -1
 no:=fun x h=>by
  have h1:(x*x).chi=x.chi*x.chi:=DC x x
  rw [h,xW] at h1
  have hx:x ≠ 0:=fun e=>by
   rw [e] at h
   have:=dA (K:=V1)
   grind
  rw [Cr hx] at h1
  exact A3 h1.symm
abbrev V2:Type:=Qd V1
theorem V1.nr_eq:(QP.nr:V1) = -1:=rfl
def xi:V2:=⟨1,1⟩
theorem pQ:xi.norm=2:=by
 unfold Qd.norm xi
 rw [V1.nr_eq]
 show (1:V1)*1 - -1*(1*1)=2
 grind
theorem two_ne:(2:V1) ≠ 0:=fun h=>by
 have h1:=congrArg V1.nat h
 rw [V1.two_nat,V1.nat_zero] at h1
 exact absurd h1 (by decide)
theorem Lh:(pN-1) / 3*3=pN-1:=by decide +kernel
theorem DX:((2:V1) ^ ((pN-1) / 3)) ≠ 1:=fun h=>by
 have h1:=congrArg V1.nat h
 rw [V1.nat_pow,V1.two_nat,V1.nat_one,<- eR pN 381 2 _ (by decide +kernel)] at h1
 exact absurd h1 (by decide +kernel)
theorem yp:(2:V1).chi ≠ 1:=fun h=>by
 have h1:=congrArg V1.nat h
 unfold V1.chi at h1
 rw [V1.nat_pow,V1.two_nat,V1.nat_one,<- eR pN 381 2 _ (by decide +kernel)] at h1
 exact absurd h1 (by decide +kernel)
theorem DP {R:Type} [CR R] (a:R):a*0=0:=CR.mul_zero a
instance : CF V2 where
 cr:=xi
 no:=fun x h=>by
  have h1:x.norm*x.norm*x.norm=2:=by rw [<- Qd.norm_mul,<- Qd.norm_mul,h,pQ]
  have hx:x.norm ≠ 0:=fun e=>by
   exact two_ne (by rw [<- h1,e,DP])
  apply DX
  have e:(2:V1)=x.norm ^ 3:=by rw [<- h1];grind
  rw [e,<- bk,Nat.mul_comm,Lh]
  exact V1.fermat hx
abbrev V6:Type:=Cb V2
theorem V2.cr_eq:(CP.cr:V2)=xi:=rfl
def vv:V6:=⟨0,1,0⟩
theorem LJ:vv.norm=xi:=by
 unfold Cb.norm vv
 rw [V2.cr_eq]
 show (0:V2)*(0*0-xi*(1*0))+xi*(0*(xi*(0*0)-0*1)+1*(1*1-0*0))=xi
 generalize xi=x
 grind
instance : QF V6 where
 nr:=vv
 no:=fun x h=>by
  have h1:x.norm*x.norm=xi:=by rw [<- Cb.norm_mul,h,LJ]
  have h2:x.norm.norm*x.norm.norm=2:=by rw [<- Qd.norm_mul,h1,pQ]
  have hx:x.norm.norm ≠ 0:=fun e=>by
   exact two_ne (by rw [<- h2,e,DP])
  apply yp
  rw [<- h2,DC,Cr hx]
abbrev V12:Type:=Qd V6
theorem V2.char:(CR.nat pN:V2)=0:=by rw [Qd.nat_eq,V1.char];rfl
theorem V6.char:(CR.nat pN:V6)=0:=by rw [Cb.nat_eq,V2.char];rfl
theorem V12.char:(CR.nat pN:V12)=0:=by rw [Qd.nat_eq,V6.char];rfl
theorem V1.pow_p (a:V1):a ^ pN=a:=by
 by_cases h:a=0
 ·rw [h];exact tK _ e9
 ·have e:pN=(pN-1)+1:=by have:=e9;omega
  rw [e,an,V1.fermat h]
  grind
theorem Qd.of_pow {K:Type} [CR K] [QP K] (a:K) : ∀ n:Nat,(Qd.of a) ^ n=Qd.of (a ^ n)
 | 0=>rfl
 | n+1=>by rw [an,Qd.of_pow a n,an,Qd.of_mul]
def uu:V2:=⟨0,1⟩
theorem Q7:uu*uu = -1:=Qd.ext' (by rw [Qd.mul_a,V1.nr_eq];show (0:V1)*0 + -1*(1*1) = -1;grind) (by rw [Qd.mul_b];show (0:V1)*1+1*0 = -0;grind)
theorem jN {R:Type} [CR R] : ∀ k:Nat,(-1:R) ^ (2*k+1) = -1
 | 0=>by show (-1:R) ^ 1 = -1;exact fE _
 | k+1=>by
  rw [show 2*(k+1)+1=(2*k+1)+1+1 by omega,an,an,jN k]
  grind
theorem PE:pN=2*(2*((pN-3) / 4)+1)+1:=by decide +kernel
theorem O6:uu ^ pN = -uu:=by
 have e:uu ^ pN=(uu ^ 2) ^ (2*((pN-3) / 4)+1)*uu:=by
  rw [<- bk,<- an,<- PE]
 have e2:uu ^ 2 = -1:=by
  rw [show (2:Nat)=1+1 from rfl,an,fE,Q7]
 rw [e,e2,jN]
 grind
theorem V2.split (x:V2):x=Qd.of x.a+Qd.of x.b*uu:=Qd.ext' (by rw [Qd.add_a,Qd.mul_a];show x.a=x.a+(x.b*0+QP.nr*(0*1));grind) (by rw [Qd.add_b,Qd.mul_b];show x.b=0+(x.b*1+0*0);grind)
theorem V2.frob (x:V2):x ^ pN=x.conj:=by
 have h:x ^ pN=Qd.of x.a+Qd.of x.b * -uu:=by
  conv=>lhs;rw [V2.split x]
  rw [OF k9 V2.char,cN,O6,Qd.of_pow,Qd.of_pow,V1.pow_p,V1.pow_p]
 rw [h]
 exact Qd.ext' (by rw [Qd.add_a,Qd.mul_a];show x.a+(x.b * -0+QP.nr*(0 * -1))=x.a;grind) (by rw [Qd.add_b,Qd.mul_b];show 0+(x.b * -1+0 * -0) = -x.b;grind)
end Go.Proofs.Ytibfppbffdedoaa
namespace Go.Proofs.Ytibfppbffdedoaa
open Go.RowKit
section
def rv:V1:=V1.of rN
def ri:V1:=Fld.inv rv
theorem Q9:rv ≠ 0:=fun e=>by
 have h:=congrArg V1.nat e
 rw [V1.nat_zero] at h
 exact absurd h (by decide +kernel)
theorem Gr:rv*ri=1:=aO Q9
theorem zn {a b:Fp} (ha:a.ok):(aJ a b).ok:=(ej ha).1
theorem O3 {a b:Fp} (ha:a.ok) (hb:b.ok):(aJ a b).v=ri*(a.v*b.v):=by
 have h:(aJ a b).v*rv=a.v*b.v:=V1.ext (by
  rw [V1.nat_mul,V1.nat_mul,Fp.v_nat (zn ha),Fp.v_nat ha,Fp.v_nat hb]
  show ((aJ a b).nat*(rN % pN)) % pN=_
  rw [Nat.mul_mod_mod,(ej ha).2])
 have h2:=Gr
 grind
theorem tM {a:Fp} (ha:a.ok):(bq a).ok:=by
 unfold Fp.ok
 rw [gb ha]
 exact Nat.mod_lt _ e9
theorem LL {a:Fp} (ha:a.ok):(bq a).v=rv*a.v:=V1.ext (by
 rw [Fp.v_nat (tM ha),gb ha,V1.nat_mul,Fp.v_nat ha]
 show _=(rN % pN*a.nat) % pN
 rw [Nat.mod_mul_mod,Nat.mul_comm])
theorem Dk {a:Fp} (ha:a.ok):(hJ a).ok:=(sv ha).1
theorem Q6 {a:Fp} (ha:a.ok):(hJ a).v=ri*a.v:=by
 have h:(hJ a).v*rv=a.v:=V1.ext (by
  rw [V1.nat_mul,Fp.v_nat (Dk ha),Fp.v_nat ha]
  show ((hJ a).nat*(rN % pN)) % pN=_
  rw [Nat.mul_mod_mod,(sv ha).2])
 have h2:=Gr
 grind
theorem Oy {a:Fp} (ha:a.ok):(a.v=0->(hO a).2=7)/\(a.v ≠ 0->(hO a).2=0/\(hO a).1.ok/\(hO a).1.v=Fld.inv a.v):=by
 obtain ⟨h1,h2⟩:=Nu ha
 constructor
 ·intro h
  refine h1 ?_
  have:=congrArg V1.nat h
  rwa [Fp.v_nat ha,V1.nat_zero] at this
 ·intro h
  have h0:=V1.ne_zero h
  rw [Fp.v_nat ha] at h0
  obtain ⟨i1,i2,i3⟩:=h2 h0
  refine ⟨i1,i2,jO (V1.ext ?_)⟩
  rw [V1.nat_mul,Fp.v_nat ha,Fp.v_nat i2,i3,V1.nat_one]
def Fp2.ok (a:Fp2):Prop:=a.c0.ok/\a.c1.ok
def Fp2.v (a:Fp2):V2:=⟨a.c0.v,a.c1.v⟩
theorem Fp2.v_inj {a b:Fp2} (ha:a.ok) (hb:b.ok) (h:a.v=b.v):a=b:=by
 have h1:a.c0=b.c0:=Fp.v_inj ha.1 hb.1 (congrArg Qd.a h)
 have h2:a.c1=b.c1:=Fp.v_inj ha.2 hb.2 (congrArg Qd.b h)
 cases a;cases b
 simp only [] at h1 h2
 subst h1 h2
 rfl
theorem zR (a b:Fp2):LC a b=⟨jp a.c0 b.c0,jp a.c1 b.c1⟩:=by unfold LC DN;rfl
theorem yx (a b:Fp2):Li a b=⟨gl a.c0 b.c0,gl a.c1 b.c1⟩:=by unfold Li CL;rfl
theorem mW (a:Fp2):mX a=⟨wc a.c0,wc a.c1⟩:=by unfold mX Dd;rfl
theorem Fp2.mk_ok {a b:Fp} (ha:a.ok) (hb:b.ok):(⟨a,b⟩:Fp2).ok:=⟨ha,hb⟩
theorem Fp2.mk_v {a b:Fp} {x:V2} (ha:a.v=x.a) (hb:b.v=x.b):(⟨a,b⟩:Fp2).v=x:=Qd.ext' ha hb
theorem M1 {a:Fp2} (ha:a.ok):(mX a).ok:=by rw [mW];exact Fp2.mk_ok (qO ha.1) (qO ha.2)
theorem O0 {a:Fp2} (ha:a.ok):(mX a).v = -a.v:=by rw [mW];exact Fp2.mk_v (Gl ha.1) (Gl ha.2)
theorem V2.mul_a (x y:V2):(x*y).a=x.a*y.a-x.b*y.b:=by rw [Qd.mul_a,V1.nr_eq];grind
theorem V2.mul_b (x y:V2):(x*y).b=x.a*y.b+x.b*y.a:=Qd.mul_b x y
def ri2:V2:=Qd.of ri
theorem V2.norm_eq (x:V2):x.norm=x.a*x.a+x.b*x.b:=by unfold Qd.norm;rw [V1.nr_eq];grind
theorem V2.inv_eq {x:V2} (h:x ≠ 0):Fld.inv x=Qd.of (Fld.inv x.norm)*x.conj:=by
 refine (jO ?_).symm
 have h1:=Qd.mul_conj x
 have h2:Qd.of x.norm*Qd.of (Fld.inv x.norm)=(1:V2):=by rw [<- Qd.of_mul,aO (Qd.norm_ne h)];rfl
 grind
end
section
theorem BS (f:Fp->Fp->Fp) (a b:Fp2):wu f a b=⟨f a.c0 b.c0,f a.c1 b.c1⟩:=rfl
theorem Al (f:Fp->Fp->Fp) (a b:Fp2):vK f a b=⟨f a.c0 b.c0,f a.c1 b.c1⟩:=rfl
theorem A5 (f:UInt64->Fp):vZ f=⟨f 1,zeroFp⟩:=rfl
theorem JR (a b:Fp2):kM a b=LC a b:=by
 unfold kM
 rw [BS,zO,zO,zR]
theorem Hh (a b:Fp2):oN a b=Li a b:=by
 unfold oN
 rw [Al,yw,yw,yx]
theorem yZ:mT=wI:=by
 unfold mT
 rw [A5,Kj]
 rfl
def jk (a:Fp2):Bool:=match jl a.c1 zeroFp with
 | true=>ls a.c0
 | false=>ls a.c1
theorem rn {a:Fp2} (h:jl a.c1 zeroFp=true):jk a=ls a.c0:=by
 unfold jk
 rw [h]
theorem oH {a:Fp2} (h:jl a.c1 zeroFp=false):jk a=ls a.c1:=by
 unfold jk
 rw [h]
theorem n6 {a:Fp} (ha:a.ok):jl a zeroFp=true <-> a.v=0:=by
 have:=KI ha bQ
 rw [o5] at this
 exact this
theorem mj {a:Fp} (ha:a.ok):jl a zeroFp=false <-> a.v ≠ 0:=by
 rw [<- Bool.not_eq_true,n6 ha]
theorem Bx {a:Fp2} (ha:a.ok) (h:a.v ≠ 0):jk (mX a) = !jk a:=by
 have e0:(mX a).c0=wc a.c0:=by rw [mW]
 have e1:(mX a).c1=wc a.c1:=by rw [mW]
 by_cases h1:a.c1.v=0
 ·have h0:a.c0.v ≠ 0:=fun h0=>h (Qd.ext' h0 h1)
  rw [rn ((n6 ha.2).2 h1),rn (a:=mX a) (by rw [e1,n6 (qO ha.2),Gl ha.2,h1];grind),e0,uv ha.1 h0]
 ·rw [oH ((mj ha.2).2 h1),oH (a:=mX a) (by rw [e1,mj (qO ha.2),Gl ha.2];grind),e1,uv ha.2 h1]
def RootOf (a:Fp2) (r:Fp2 × Bool):Prop:=((∃ y:V2,y*y=a.v)/\r.2=true/\r.1.ok/\r.1.v*r.1.v=a.v/\jk r.1=false) \/ ((¬ ∃ y:V2,y*y=a.v)/\r=(eP,false))
theorem RootOf.eq {a:Fp2} {r s:Fp2 × Bool} (h:RootOf a r) (k:RootOf a s):r=s:=by
 rcases h with ⟨h0,h1,h2,h3,h4⟩ | ⟨h0,h1⟩
 ·rcases k with ⟨k0,k1,k2,k3,k4⟩ | ⟨k0,_⟩
  ·refine Prod.ext ?_ (h1.trans k1.symm)
   rcases wz (h3.trans k3.symm) with e | e
   ·exact Fp2.v_inj h2 k2 e
   ·by_cases hz:s.1.v=0
    ·exact Fp2.v_inj h2 k2 (by rw [e,hz];grind)
    ·exfalso
     have:r.1=mX s.1:=Fp2.v_inj h2 (M1 k2) (by rw [e,O0 k2])
     rw [this,Bx k2 hz,k4] at h4
     cases h4
  ·exact absurd h0 k0
 ·rcases k with ⟨k0,_⟩ | ⟨_,k1⟩
  ·exact absurd k0 h0
  ·rw [h1,k1]
def i2:V1:=Fld.inv 2
section
variable {f0 : Fp -> Fp2} {f1 : Fp2 -> Fp} {f2 : Fp -> Fp × Bool} {f3 : Fp2 -> Fp -> Fp2} {f4 : Fp2 -> Fp2 -> Fp2} {f5 : Fp2 -> Bool} {f6 : Fp2 -> Fp2} {a : Fp2}
end
section
variable {f0 : Fp -> Fp × Int} {f1 : UInt64 -> Fp} {f2 : Fp -> Fp × Bool} {f3 f4 : Fp -> Fp -> Fp} {f5 : Fp -> Fp} {f6 : Fp2 -> Fp2 -> Fp2} {f7 : Fp2 -> Bool} {f8 : Fp2 -> Fp2} {a : Fp2} {n : Fp}
variable (hn : (f2 (f3 (f4 a.c0 a.c0) (f4 a.c1 a.c1))).1 = n) (h : (f2 (f3 (f4 a.c0 a.c0) (f4 a.c1 a.c1))).2 = true)
include hn h
end
end
end Go.Proofs.Ytibfppbffdedoaa
namespace Go.Proofs.Ytibfppbffdedoaa
theorem N1 (k:Nat):W64 ^ k=2 ^ (64*k):=by
 rw [show W64=2 ^ 64 from rfl,<- Nat.pow_mul]
theorem JB (x j:Nat):x % 2 ^ (j+1)=x % 2 ^ j+(x.testBit j).toNat*2 ^ j:=by
 rw [Nat.pow_succ,Nat.mod_mul]
 rw [Nat.testBit_eq_decide_div_mod_eq]
 have h:x / 2 ^ j % 2<2:=Nat.mod_lt _ (by decide)
 rcases (by omega:x / 2 ^ j % 2=0 \/ x / 2 ^ j % 2=1) with h1 | h1
 ·rw [h1];simp
 ·rw [h1];simp
theorem Dw (e:List UInt64) (k:Nat) (hk:jm e (64*k)=ew e k) : ∀ j,j<=64->jm e (64*k+j)=ew e k+(atF e k).toNat % 2 ^ j*2 ^ (64*k)
 | 0,_=>by rw [Nat.add_zero,hk,Nat.pow_zero,Nat.mod_one,Nat.zero_mul,Nat.add_zero]
 | j+1,h=>by
  rw [show 64*k+(j+1)=(64*k+j)+1 from rfl]
  simp only [jm]
  rw [Dw e k hk j (by omega),JB,Nat.add_mul]
  have hb:dd e (64*k+j)=(atF e k).toNat.testBit j:=by
   unfold dd atF
   rw [show (64*k+j) / 64=k by omega,show (64*k+j) % 64=j by omega]
  rw [hb,Nat.add_assoc,show 2 ^ (64*k+j)=2 ^ j*2 ^ (64*k) by rw [Nat.pow_add,Nat.mul_comm],Nat.mul_assoc]
theorem zy (e:List UInt64) : ∀ k,jm e (64*k)=ew e k
 | 0=>rfl
 | k+1=>by
  rw [show 64*(k+1)=64*k+64 by omega,Dw e k (zy e k) 64 (Nat.le_refl _)]
  simp only [ew]
  rw [N1,Nat.mod_eq_of_lt (UInt64.toNat_lt _)]
theorem FL (e:List UInt64):jm e (64*e.length)=GI e:=zy e _
end Go.Proofs.Ytibfppbffdedoaa
namespace Go.Proofs.Ytibfppbffdedoaa
def zB {α:Type} (tw pl:α->α) (e:List UInt64):Nat->α->α
 | 0,x=>x
 | n+1,x=>zB tw pl e n (match dd e n with | true=>pl (tw x) | false=>tw x)
theorem wi {α K:Type} [Fld K] [Crv K] (R:α->Pt K->Prop) {tw pl:α->α} {p:Pt K} (hp:p.on) (h1 : ∀ {o:α} {q:Pt K},q.on->R o q->R (tw o) (q.add q)) (h2 : ∀ {o:α} {q:Pt K},q.on->R o q->R (pl o) (q.add p)) (e:List UInt64) :
  ∀ (n:Nat) {o:α} {q:Pt K},q.on->R o q->R (zB tw pl e n o) ((q.mul (2 ^ n)).add (p.mul (jm e n)))
 | 0,o,q,hq,h=>by
  show R o ((q.mul 1).add (p.mul 0))
  rw [iU,cX,bO]
  exact h
 | n+1,o,q,hq,h=>by
  have e2:(2:Nat) ^ (n+1)=2 ^ n+2 ^ n:=by rw [Nat.pow_succ];omega
  have hqq:=aX hq hq
  simp only [zB]
  cases hb:dd e n with
  | true =>
   have ih:=wi R hp h1 h2 e n (aX hqq hp) (h2 hqq (h1 hq h))
   have el:jm e (n+1)=2 ^ n+jm e n:=by simp only [jm,hb,Bool.toNat_true,Nat.one_mul];exact Nat.add_comm _ _
   rw [cj hqq hp,cj hq hq,<- bU hq,<- e2,aI (bC hq _) (bC hp _) (bC hp _),<- bU hp,<- el] at ih
   exact ih
  | false =>
   have ih:=wi R hp h1 h2 e n hqq (h1 hq h)
   have el:jm e (n+1)=jm e n:=by simp only [jm,hb,Bool.toNat_false,Nat.zero_mul,Nat.add_zero]
   rw [cj hq hq,<- bU hq,<- e2,<- el] at ih
   exact ih
theorem zA {α K:Type} [Fld K] [Crv K] (R:α->Pt K->Prop) {tw pl:α->α} {p:Pt K} (hp:p.on) (h1 : ∀ {o:α} {q:Pt K},q.on->R o q->R (tw o) (q.add q)) (h2 : ∀ {o:α} {q:Pt K},q.on->R o q->R (pl o) (q.add p)) (e:List UInt64) {o:α} (h:R o .inf) :
  R (zB tw pl e (64*e.length) o) (p.mul (GI e)):=by
 have:=wi R hp h1 h2 e (64*e.length) (q := .inf) trivial h
 rw [dX,bE,FL] at this
 exact this
theorem V1.four_cube : ∀ x:V1,x*x*x+4 ≠ 0:=fun x h=>by
 have hx:x ≠ 0:=fun e=>by
  rw [e] at h
  have h4:(4:V1)=0:=by grind
  have:=congrArg V1.nat h4
  exact absurd this (by decide +kernel)
 have h1:x ^ 3 = -4:=by grind
 have h2:(-4:V1) ^ ((pN-1) / 3)=1:=by
  rw [<- h1,<- bk,Nat.mul_comm,Lh]
  exact V1.fermat hx
 have h3:=congrArg V1.nat h2
 have h4:(-4:V1).nat=pN-4:=by decide +kernel
 rw [V1.nat_pow,h4,V1.nat_one,<- eR pN 381 _ _ (by decide +kernel)] at h3
 exact absurd h3 (by decide +kernel)
instance crv1 : Crv V1 where
 b:=4
 two:=two_ne
 no:=V1.four_cube
def bb2:V2:=⟨4,4⟩
theorem JI:bb2.norm=32:=by
 rw [V2.norm_eq]
 show (4:V1)*4+4*4=32
 grind
theorem V2.two_ne:(2:V2) ≠ 0:=fun e=>Go.Proofs.Ytibfppbffdedoaa.two_ne (by
 have:=congrArg Qd.a e
 exact this)
theorem V2.four_cube : ∀ x:V2,x*x*x+bb2 ≠ 0:=fun x h=>by
 have h1:x*x*x = -bb2:=by grind
 have h2:x.norm*x.norm*x.norm=32:=by
  rw [<- Qd.norm_mul,<- Qd.norm_mul,h1,<- JI,V2.norm_eq,V2.norm_eq]
  show -bb2.a * -bb2.a + -bb2.b * -bb2.b=_
  grind
 have hx:x.norm ≠ 0:=fun e=>by
  rw [e] at h2
  have h4:(32:V1)=0:=h2.symm.trans (CR.mul_zero _)
  have:=congrArg V1.nat h4
  exact absurd this (by decide +kernel)
 have h3:(32:V1) ^ ((pN-1) / 3)=1:=by
  have e:(32:V1)=x.norm ^ 3:=by rw [<- h2];grind
  rw [e,<- bk,Nat.mul_comm,Lh]
  exact V1.fermat hx
 have h5:=congrArg V1.nat h3
 have h4:(32:V1).nat=32:=by decide +kernel
 rw [V1.nat_pow,h4,V1.nat_one,<- eR pN 381 _ _ (by decide +kernel)] at h5
 exact absurd h5 (by decide +kernel)
instance crv2 : Crv V2 where
 b:=bb2
 two:=V2.two_ne
 no:=V2.four_cube
theorem em {a b:Fp} (ha:a.ok) (hb:b.ok):(jp a b).ok:=rU ha hb
theorem gk {a b:Fp} (ha:a.ok) (hb:b.ok):(gl a b).ok:=np ha hb
theorem qQ {a b:Fp} (ha:a.ok) (hb:b.ok):(ll a b).ok:=nC ha
theorem aR {a b:Fp} (ha:a.ok) (hb:b.ok):(aJ a b).ok:=zn ha
theorem nO {a:Fp} (ha:a.ok):(bq a).ok:=tM ha
theorem wg {a:Fp} (ha:a.ok):(hJ a).ok:=Dk ha
theorem mD:zeroFp.ok:=bQ
theorem C1:oneFp.ok:=qI
theorem O5 {a b:Fp} (ha:a.ok) (hb:b.ok):(jp a b).v=a.v+b.v:=Lg ha hb
theorem OY {a b:Fp} (ha:a.ok) (hb:b.ok):(gl a b).v=a.v-b.v:=Gk ha hb
theorem sI {a b:Fp} (ha:a.ok) (hb:b.ok):(ll a b).v=a.v*b.v:=Gm ha hb
theorem LM {a b:Fp} (ha:a.ok) (hb:b.ok):(aJ a b).v=ri*(a.v*b.v):=O3 ha hb
theorem GV {a:Fp} (ha:a.ok):(bq a).v=rv*a.v:=LL ha
theorem O2 {a:Fp} (ha:a.ok):(hJ a).v=ri*a.v:=Q6 ha
theorem CD:zeroFp.v=0:=o5
theorem OZ:oneFp.v=1:=Oa
theorem P4 {a:Fp} (ha:a.ok):(a.v=0->(hO a).2=7)/\(a.v ≠ 0->(hO a).2=0/\(hO a).1.ok/\(hO a).1.v=Fld.inv a.v):=Oy ha
theorem Rv {a b:Fp} (ha:a.ok) (hb:b.ok):jl a b=true <-> a.v=b.v:=KI ha hb
end Go.Proofs.Ytibfppbffdedoaa
namespace Go.Proofs.Ytibfppbffdedoaa
open Go.RowKit
section
abbrev ks1:Kd Sp1:=aa Sp1
end
end Go.Proofs.Ytibfppbffdedoaa
