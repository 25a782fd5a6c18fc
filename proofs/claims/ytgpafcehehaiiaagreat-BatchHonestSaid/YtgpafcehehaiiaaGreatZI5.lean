/- Texts of the proof, joined. -/
import Derived.Test.YtgpafcehehaiiaaGreatRows
import Derived.IntWalk
import Derived.Test.YtgpafcehehaiiaaGreatZI4
set_option linter.unusedSectionVars false
set_option linter.unusedSimpArgs false
set_option linter.unusedVariables false
namespace Go.Proofs.YtgpafcehehaiiaaGreat
open Go.RowKit
theorem ab {f : Nat} {fn : Func} (h : Tryz.prog.funcs[f]? = some fn) (h1 : fn.body.isSome = true) (h2 : (fn.name == "runtime.NumGoroutine") = false) : Bodied Tryz.prog f := ⟨fn, h, h1, h2⟩
theorem dl:Tryz.prog.follows .mixedOrders=true:=by kernel_rfl
theorem ju:CallOk Tryz.prog 94 (K3x fm ct):=afG Tryz.func94 (by kernel_rfl) (by kernel_rfl) (by kernel_rfl) (by kernel_rfl)
theorem sr:CallOk Tryz.prog 93 (K3x fQ dZ):=afD Tryz.func93 (by kernel_rfl) (by kernel_rfl) (by kernel_rfl) (by kernel_rfl)
noncomputable def T0:cQ := [(94,K3x fm ct),(93,K3x fQ dZ)]
theorem acx:TableOk Tryz.prog T0 := .cons ju (.cons sr .nil)
def pLimbs:Fp:=⟨0xb9feffffffffaaab,0x1eabfffeb153ffff,0x6730d2a0f6b0f624,0x64774b84f38512bf,0x4b1ba7b6434bacd7,0x1a0111ea397fe69a⟩
noncomputable def E0:Env:=xW Tryz.prog T0 []
theorem M2:EnvOk E0:=kV dl acx
theorem rf:CallOk Tryz.prog 173 (K0 (aa Fp).rs.res pLimbs):=P0 M2 Tryz.func173 (ab Tryz.func173 (by kernel_rfl) (by kernel_rfl)) 100 (aa Fp).rs pLimbs (T := .leaf (some pLimbs)) (by kernel_rfl) rfl
noncomputable def T1:cQ:=(173,K0 (aa Fp).rs.res pLimbs) :: T0
theorem agy:TableOk Tryz.prog T1 := .cons rf acx
noncomputable def E1:Env:=xW Tryz.prog T1 []
theorem agI:EnvOk E1:=kV dl agy
def Fx (a:Fp):Fp × Bool :=
 let c0:=dZ a.l0 pLimbs.l0 false
 let c1:=dZ a.l1 pLimbs.l1 c0
 let c2:=dZ a.l2 pLimbs.l2 c1
 let c3:=dZ a.l3 pLimbs.l3 c2
 let c4:=dZ a.l4 pLimbs.l4 c3
 (⟨fQ a.l0 pLimbs.l0 false,fQ a.l1 pLimbs.l1 c0,fQ a.l2 pLimbs.l2 c1,fQ a.l3 pLimbs.l3 c2,fQ a.l4 pLimbs.l4 c3,fQ a.l5 pLimbs.l5 c4⟩,dZ a.l5 pLimbs.l5 c4)
def mR (a:Fp) (over:UInt64):Fp:=match decide (over<b2u (Fx a).2) with | true=>a | false=>(Fx a).1
theorem O8:CallOk Tryz.prog 175 (K2 (aa Fp).arg kU64.arg (aa Fp).rs.res mR) :=
 P2 agI Tryz.func175 (ab Tryz.func175 (by kernel_rfl) (by kernel_rfl)) 100 (aa Fp) kU64 (aa Fp).rs mR
  (T:=fun a o => .br (decide (o<b2u (Fx a).2)) (.leaf (some a)) (.leaf (some (Fx a).1))) (by intro a o;kernel_rfl)
  (by intro a o;exact ⟨fun h=>congrArg some (by unfold mR;rw [h]),fun h=>congrArg some (by unfold mR;rw [h])⟩)
end Go.Proofs.YtgpafcehehaiiaaGreat
namespace Go.Proofs.YtgpafcehehaiiaaGreat
open Go.RowKit
def gr (x y:UInt64):UInt64 :=
 let t:=iY x 32*(y &&& 4294967295)+iY ((x &&& 4294967295)*(y &&& 4294967295)) 32
 iY x 32*iY y 32+iY t 32+iY ((t &&& 4294967295)+(x &&& 4294967295)*iY y 32) 32
theorem sI:CallOk Tryz.prog 96 (K2 kU64.arg kU64.arg (kU64.rs2 kU64).res fun x y=>(gr x y,x*y)) :=
 P2 M2 Tryz.func96 (ab Tryz.func96 (by kernel_rfl) (by kernel_rfl)) 100 kU64 kU64 (kU64.rs2 kU64) (fun x y=>(gr x y,x*y))
  (T:=fun x y => .leaf (some (gr x y,x*y))) (by intro x y;kernel_rfl) (fun _ _=>rfl)
theorem Ke (x:UInt64):(iY x 32).toNat=x.toNat / 4294967296:=by
 have:=x.toNat_lt
 unfold iY
 rw [show (min (Int.toNat 32) 64)=32 from rfl,UInt64.toNat_ofNat']
 omega
theorem Us (x:UInt64):(x &&& 4294967295).toNat=x.toNat % 4294967296:=by
 rw [UInt64.toNat_and]
 exact Nat.and_two_pow_sub_one_eq_mod x.toNat 32
theorem iR (x y:UInt64):(gr x y).toNat=x.toNat*y.toNat / 18446744073709551616:=by
 have hx:=x.toNat_lt
 have hy:=y.toNat_lt
 have h1:x.toNat=4294967296*(x.toNat / 4294967296)+x.toNat % 4294967296:=by omega
 have h2:y.toNat=4294967296*(y.toNat / 4294967296)+y.toNat % 4294967296:=by omega
 have b0:x.toNat % 4294967296<=4294967295:=by omega
 have b1:x.toNat / 4294967296<=4294967295:=by omega
 have c0:y.toNat % 4294967296<=4294967295:=by omega
 have c1:y.toNat / 4294967296<=4294967295:=by omega
 unfold gr
 simp only [UInt64.toNat_add,UInt64.toNat_mul,Ke,Us]
 generalize hx0:x.toNat % 4294967296=x0 at *
 generalize hx1:x.toNat / 4294967296=x1 at *
 generalize hy0:y.toNat % 4294967296=y0 at *
 generalize hy1:y.toNat / 4294967296=y1 at *
 have p00:x0*y0<=4294967295*4294967295:=Nat.mul_le_mul b0 c0
 have p01:x0*y1<=4294967295*4294967295:=Nat.mul_le_mul b0 c1
 have p10:x1*y0<=4294967295*4294967295:=Nat.mul_le_mul b1 c0
 have p11:x1*y1<=4294967295*4294967295:=Nat.mul_le_mul b1 c1
 have e:x.toNat*y.toNat=18446744073709551616*(x1*y1)+4294967296*(x1*y0)+4294967296*(x0*y1)+x0*y0:=by
  rw [h1,h2]
  simp only [Nat.mul_add,Nat.add_mul]
  have q1:4294967296*x1*(4294967296*y1)=18446744073709551616*(x1*y1):=by
   rw [Nat.mul_mul_mul_comm]
  have q2:4294967296*x1*y0=4294967296*(x1*y0):=Nat.mul_assoc _ _ _
  have q3:x0*(4294967296*y1)=4294967296*(x0*y1):=by rw [Nat.mul_left_comm]
  omega
 rw [e]
 generalize x0*y0=p at *
 generalize x0*y1=q at *
 generalize x1*y0=r at *
 generalize x1*y1=s at *
 omega
def jG (x y t c:UInt64):UInt64:=fm (fm (x*y) t false) c false
def fR (x y t c:UInt64):UInt64:=gr x y+b2u (ct (x*y) t false)+b2u (ct (fm (x*y) t false) c false)
theorem aep (x y t c:UInt64):(fR x y t c).toNat*18446744073709551616+(jG x y t c).toNat=x.toNat*y.toNat+t.toNat+c.toNat:=by
 have hx:=x.toNat_lt
 have hy:=y.toNat_lt
 have ht:=t.toNat_lt
 have hc:=c.toNat_lt
 have hp:x.toNat*y.toNat<=18446744073709551615*18446744073709551615:=Nat.mul_le_mul (by omega) (by omega)
 unfold fR jG
 simp only [UInt64.toNat_add,da,o9,k8,iR,UInt64.toNat_mul,Bool.toNat_false]
 generalize x.toNat*y.toNat=p at *
 omega
end Go.Proofs.YtgpafcehehaiiaaGreat
namespace Go.Proofs.YtgpafcehehaiiaaGreat
open Go.RowKit
noncomputable def T2:cQ:=(175,K2 (aa Fp).arg kU64.arg (aa Fp).rs.res mR) :: (96,K2 kU64.arg kU64.arg (kU64.rs2 kU64).res fun x y=>(gr x y,x*y)) :: T1
theorem akd:TableOk Tryz.prog T2 := .cons O8 (.cons sI agy)
noncomputable def E2:Env:=xW Tryz.prog T2 []
theorem vw:EnvOk E2:=kV dl akd
structure L7 where
 t0:UInt64
 t1:UInt64
 t2:UInt64
 t3:UInt64
 t4:UInt64
 t5:UInt64
 t6:UInt64
def xJ:UInt64:=0x89f3fffcfffcfffd
def AB (t0 t1 t2 t3 t4 t5 top:UInt64) (more:Bool):L7 :=
 let x:=t0*xJ
 let d0:=gr x pLimbs.l0+b2u (ct (x*pLimbs.l0) t0 false)
 let d1:=fR x pLimbs.l1 t1 d0
 let d2:=fR x pLimbs.l2 t2 d1
 let d3:=fR x pLimbs.l3 t3 d2
 let d4:=fR x pLimbs.l4 t4 d3
 let d5:=fR x pLimbs.l5 t5 d4
 ⟨jG x pLimbs.l1 t1 d0,jG x pLimbs.l2 t2 d1,jG x pLimbs.l3 t3 d2,jG x pLimbs.l4 t4 d3,jG x pLimbs.l5 t5 d4,fm top d5 false,b2u more+b2u (ct top d5 false)⟩
def e9 (a:Fp) (b:UInt64) (t:L7):L7 :=
 let c0:=fR a.l0 b t.t0 0
 let c1:=fR a.l1 b t.t1 c0
 let c2:=fR a.l2 b t.t2 c1
 let c3:=fR a.l3 b t.t3 c2
 let c4:=fR a.l4 b t.t4 c3
 let c5:=fR a.l5 b t.t5 c4
 AB (jG a.l0 b t.t0 0) (jG a.l1 b t.t1 c0) (jG a.l2 b t.t2 c1) (jG a.l3 b t.t3 c2) (jG a.l4 b t.t4 c3) (jG a.l5 b t.t5 c4) (fm t.t6 c5 false) (ct t.t6 c5 false)
def Bk (a b:Fp):L7:=e9 a b.l0 ⟨0,0,0,0,0,0,0⟩
def Bj (a b:Fp):L7:=e9 a b.l1 (Bk a b)
def Bi (a b:Fp):L7:=e9 a b.l2 (Bj a b)
def Bh (a b:Fp):L7:=e9 a b.l3 (Bi a b)
def Bg (a b:Fp):L7:=e9 a b.l4 (Bh a b)
def gS (a b:Fp):L7:=e9 a b.l5 (Bg a b)
def L7.low (t:L7):Fp:=⟨t.t0,t.t1,t.t2,t.t3,t.t4,t.t5⟩
def aZ (a b:Fp):Fp:=mR (gS a b).low (gS a b).t6
def a8 (n:Nat):AV := .one (.c (.ptr n 0))
def abf (n:Nat):AV := .one (.c (.lit .i64 n))
def own (ty:TypeId) (cs:List Cell):HE := .live ⟨true,ty,0,.row cs,false⟩
def L7.cs (t:L7):List Cell := [.u64 t.t0,.u64 t.t1,.u64 t.t2,.u64 t.t3,.u64 t.t4,.u64 t.t5,.u64 t.t6]
def bJ (n:Nat):List Cell:=List.replicate n (.lit .u64 0)
def hSt (a b:Fp) (k:Nat) (t:List Cell):St :=
 ar 139 [(2,a8 0),(3,a8 1),(4,a8 2),(5,a8 3),(6,a8 4),(18,abf k)] [own 31 (Row.cs a),own 31 (Row.cs b),own 31 (bJ 6),own 31 (Row.cs pLimbs),own 184 t]
def mV:X->Option (List Nat × List Nat):=same [2,3,4,5,6,18] [0,1,2,3,4]
noncomputable def hCode:List Code:=flat (ae Tryz.f140)
noncomputable def yv:Code:=aP Tryz.f140 0
set_option maxRecDepth 100000
theorem Mb (a b:Fp):b7 E2 100 (hCode.take 4) (ah Tryz.f140 [.one ((aa Fp).av a),.one ((aa Fp).av b)] []) [2,3,4,5,6,18] [0,1,2,3,4] = .leaf (hSt a b 0 (bJ 7)):=by kernel_rfl
theorem GK (a b:Fp):bk E2 100 yv (hSt a b 0 (bJ 7)) mV = .leaf (.normal,hSt a b 1 (e9 a b.l0 ⟨0,0,0,0,0,0,0⟩).cs):=by kernel_rfl
theorem GJ (a b:Fp) (t:L7):bk E2 100 yv (hSt a b 1 t.cs) mV = .leaf (.normal,hSt a b 2 (e9 a b.l1 t).cs):=by kernel_rfl
theorem GI (a b:Fp) (t:L7):bk E2 100 yv (hSt a b 2 t.cs) mV = .leaf (.normal,hSt a b 3 (e9 a b.l2 t).cs):=by kernel_rfl
theorem GH (a b:Fp) (t:L7):bk E2 100 yv (hSt a b 3 t.cs) mV = .leaf (.normal,hSt a b 4 (e9 a b.l3 t).cs):=by kernel_rfl
theorem GG (a b:Fp) (t:L7):bk E2 100 yv (hSt a b 4 t.cs) mV = .leaf (.normal,hSt a b 5 (e9 a b.l4 t).cs):=by kernel_rfl
theorem GF (a b:Fp) (t:L7):bk E2 100 yv (hSt a b 5 t.cs) mV = .leaf (.normal,hSt a b 6 (e9 a b.l5 t).cs):=by kernel_rfl
theorem YY (a b:Fp) (t:L7):bk E2 100 yv (hSt a b 6 t.cs) mV = .leaf (.exit 0,hSt a b 6 t.cs):=by kernel_rfl
theorem Y0 (a b:Fp) (t:L7):agk E2 (aa Fp).rs 100 Tryz.f140 (hCode.drop 5) (hSt a b 6 t.cs) = .leaf (some (mR t.low t.t6)):=by kernel_rfl
theorem Mc:hCode.drop 4 = .block 0 (.loop yv) :: hCode.drop 5:=by kernel_rfl
def Vh (a b:Fp) (k:Fin 7):St :=
 match k with
 | 0=>hSt a b 0 (bJ 7)
 | 1=>hSt a b 1 (Bk a b).cs
 | 2=>hSt a b 2 (Bj a b).cs
 | 3=>hSt a b 3 (Bi a b).cs
 | 4=>hSt a b 4 (Bh a b).cs
 | 5=>hSt a b 5 (Bg a b).cs
 | 6=>hSt a b 6 (gS a b).cs
theorem nB:CallOk Tryz.prog 140 (K2 (aa Fp).arg (aa Fp).arg (aa Fp).rs.res aZ):=by
 refine Q2 (E:=E2) Tryz.func140 (c:=ae Tryz.f140) (by kernel_rfl) (ab Tryz.func140 (by kernel_rfl) (by kernel_rfl)) (aa Fp) (aa Fp) (aa Fp).rs aZ fun a b => ?_
 refine DoesL.stageTo vw 100 4 [2,3,4,5,6,18] [0,1,2,3,4] (Mb a b) ?_
 refine DoesL.blockLoop Mc (Vh a b) (fun k=>6-k.1) 0 fun k => ?_
 match k with
 | 0=>exact Does.round vw 100 mV (GK a b) ⟨1,by decide,by simp only [Vh,Bk]⟩
 | 1=>exact Does.round vw 100 mV (GJ a b _) ⟨2,by decide,by simp only [Vh,Bj]⟩
 | 2=>exact Does.round vw 100 mV (GI a b _) ⟨3,by decide,by simp only [Vh,Bi]⟩
 | 3=>exact Does.round vw 100 mV (GH a b _) ⟨4,by decide,by simp only [Vh,Bh]⟩
 | 4=>exact Does.round vw 100 mV (GG a b _) ⟨5,by decide,by simp only [Vh,Bg]⟩
 | 5=>exact Does.round vw 100 mV (GF a b _) ⟨6,by decide,by simp only [Vh,gS]⟩
 | 6=>exact Does.round vw 100 mV (YY a b _) ⟨rfl,DoesL.fin vw 100 (Y0 a b _) (Tree.sat_leaf (by simp only [aZ]))⟩
end Go.Proofs.YtgpafcehehaiiaaGreat
namespace Go.Proofs.YtgpafcehehaiiaaGreat
open Go.RowKit
abbrev Kc (x:Fp):au:=K0 (aa Fp).rs.res x
abbrev Kf (F:Fp->Fp):au:=K1 (aa Fp).arg (aa Fp).rs.res F
abbrev Kff (F:Fp->Fp->Fp):au:=K2 (aa Fp).arg (aa Fp).arg (aa Fp).rs.res F
noncomputable abbrev En (T:cQ):Env:=xW Tryz.prog T []
theorem aj {T:cQ} (h:TableOk Tryz.prog T):EnvOk (En T):=kV dl h
abbrev vF (a:Fp):AV := .one ((aa Fp).av a)
abbrev vU (a:UInt64):AV := .one (kU64.av a)
abbrev rF:Rs Fp:=(aa Fp).rs
def sqLimbs:Fp:=⟨0xf4df1f341c341746,0x0a76e6a609d104f1,0x8de5476c4c95b6d5,0x67eb88a9939d83c0,0x9a793e85b519952d,0x11988fe592cae3aa⟩
theorem QR:CallOk Tryz.prog 172 (Kc sqLimbs):=P0 M2 Tryz.func172 (ab Tryz.func172 (by kernel_rfl) (by kernel_rfl)) 100 rF sqLimbs (T := .leaf (some sqLimbs)) (by kernel_rfl) rfl
def bj (a:Fp):Fp:=aZ a sqLimbs
def oneFp:Fp:=⟨1,0,0,0,0,0⟩
def zeroFp:Fp:=⟨0,0,0,0,0,0⟩
def jm (a:Fp):Fp:=aZ a oneFp
theorem Qk (hF:Fp->Fp->Fp) (q a:Fp):ac (En [(140,Kff hF),(172,Kc q)]) rF 100 Tryz.f136 [vF a] = .leaf (some (hF a q)):=by kernel_rfl
theorem aet (hF:Fp->Fp->Fp) (a:Fp):ac (En [(140,Kff hF)]) rF 100 Tryz.f138 [vF a] = .leaf (some (hF a oneFp)):=by kernel_rfl
theorem oH:CallOk Tryz.prog 136 (Kf bj):=P1 (aj (.cons nB (.cons QR .nil))) Tryz.func136 (ab Tryz.func136 (by kernel_rfl) (by kernel_rfl)) 100 (aa Fp) rF bj (Qk aZ sqLimbs) (fun _=>Tree.sat_leaf (by simp only [bj]))
theorem NA:CallOk Tryz.prog 138 (Kf jm):=P1 (aj (.cons nB .nil)) Tryz.func138 (ab Tryz.func138 (by kernel_rfl) (by kernel_rfl)) 100 (aa Fp) rF jm (aet aZ) (fun _=>Tree.sat_leaf (by simp only [jm]))
def jO (a b:Fp):Fp × Bool :=
 let c0:=ct a.l0 b.l0 false
 let c1:=ct a.l1 b.l1 c0
 let c2:=ct a.l2 b.l2 c1
 let c3:=ct a.l3 b.l3 c2
 let c4:=ct a.l4 b.l4 c3
 (⟨fm a.l0 b.l0 false,fm a.l1 b.l1 c0,fm a.l2 b.l2 c1,fm a.l3 b.l3 c2,fm a.l4 b.l4 c3,fm a.l5 b.l5 c4⟩,ct a.l5 b.l5 c4)
def fo (a b:Fp):Fp:=mR (jO a b).1 (b2u (jO a b).2)
theorem afy (lF:Fp->UInt64->Fp) (a b:Fp):ac (En [(94,K3x fm ct),(175,K2 (aa Fp).arg kU64.arg rF.res lF)]) rF 100 Tryz.f141 [vF a,vF b] = .leaf (some (lF (jO a b).1 (b2u (jO a b).2))):=by kernel_rfl
theorem sc:CallOk Tryz.prog 141 (Kff fo):=P2 (aj (.cons ju (.cons O8 .nil))) Tryz.func141 (ab Tryz.func141 (by kernel_rfl) (by kernel_rfl)) 100 (aa Fp) (aa Fp) rF fo (afy mR) (fun _ _=>Tree.sat_leaf (by simp only [fo]))
def dW (a b:Fp):Fp × Bool :=
 let c0:=dZ a.l0 b.l0 false
 let c1:=dZ a.l1 b.l1 c0
 let c2:=dZ a.l2 b.l2 c1
 let c3:=dZ a.l3 b.l3 c2
 let c4:=dZ a.l4 b.l4 c3
 (⟨fQ a.l0 b.l0 false,fQ a.l1 b.l1 c0,fQ a.l2 b.l2 c1,fQ a.l3 b.l3 c2,fQ a.l4 b.l4 c3,fQ a.l5 b.l5 c4⟩,dZ a.l5 b.l5 c4)
def fB (a b:Fp):Fp:=match decide (b2u (dW a b).2=0) with | true=>(dW a b).1 | false=>(jO (dW a b).1 pLimbs).1
theorem ac0 (a b:Fp):ac E1 rF 100 Tryz.f142 [vF a,vF b] = .br (decide (b2u (dW a b).2=0)) (.leaf (some (dW a b).1)) (.leaf (some (jO (dW a b).1 pLimbs).1)):=by kernel_rfl
theorem sub_ok:CallOk Tryz.prog 142 (Kff fB):=P2 agI Tryz.func142 (ab Tryz.func142 (by kernel_rfl) (by kernel_rfl)) 100 (aa Fp) (aa Fp) rF fB ac0
 (by intro a b;exact ⟨fun h=>congrArg some (by unfold fB;rw [h]),fun h=>congrArg some (by unfold fB;rw [h])⟩)
def lD (a:Fp):Fp:=fB zeroFp a
def gU (a b:Fp):Fp:=bj (aZ a b)
def ofF (n:UInt64):Fp:=⟨n,0,0,0,0,0⟩
theorem aea (sF:Fp->Fp->Fp) (a:Fp):ac (En [(142,Kff sF)]) rF 100 Tryz.f111 [vF a] = .leaf (some (sF zeroFp a)):=by kernel_rfl
theorem Nt:CallOk Tryz.prog 111 (Kf lD):=P1 (aj (.cons sub_ok .nil)) Tryz.func111 (ab Tryz.func111 (by kernel_rfl) (by kernel_rfl)) 100 (aa Fp) rF lD (aea fB) (fun _=>Tree.sat_leaf (by simp only [lD]))
theorem aeg (hF:Fp->Fp->Fp) (wF:Fp->Fp) (a b:Fp):ac (En [(140,Kff hF),(136,Kf wF)]) rF 100 Tryz.f139 [vF a,vF b] = .leaf (some (wF (hF a b))):=by kernel_rfl
theorem AK:CallOk Tryz.prog 139 (Kff gU):=P2 (aj (.cons nB (.cons oH .nil))) Tryz.func139 (ab Tryz.func139 (by kernel_rfl) (by kernel_rfl)) 100 (aa Fp) (aa Fp) rF gU (aeg aZ bj) (fun _ _=>Tree.sat_leaf (by simp only [gU]))
end Go.Proofs.YtgpafcehehaiiaaGreat
namespace Go.Proofs.YtgpafcehehaiiaaGreat
open Go.RowKit
def qE:Arg Nat where
 rd:=fun _ v=>match v with
  | .one (.c (.lit .i64 n))=>match decide (0<=n) with
   | true=>some (n.toNat,.t,[])
   | false=>none
  | .one (.c (.int .i64 n))=>some (n.toNat,.p (0<=n),[])
  | _=>none
 is:=fun _ v x=>v = .int .i64 (x:Int)
 ok:=fun {w0 β h w v x p rs} e hp _ _=>by
  split at e
  ·split at e
   ·rename_i hd
    cases e
    simp only [decide_eq_true_eq] at hd
    simp only [gv,g1,gc]
    congr 1
    omega
   ·cases e
  ·cases e
   have:(0:Int)<=_:=hp
   simp only [gv,g1,gc]
   congr 1
   omega
  ·cases e
 near:=fun e _=>e
def inpNat:Inp Nat where
 arg:=qE
 av:=fun _ x => .one (.c (.int .i64 (x:Int)))
 hes:=fun _ => []
 fact:=fun _=>True
 known:=fun _=>trivial
 intro:=fun {w0 β heap w v x} hr _ hv=>⟨β,by rw [List.append_nil];exact hr,hv.symm,ao rfl,fun _ _=>rfl⟩
abbrev oU:Out UInt64:=kU64.rs.out
abbrev iL:Inp (List UInt64):=ajR eU64
abbrev aL:Arg (List UInt64):=agv eU64
def atF (xs:List UInt64) (i:Nat):UInt64:=xs.getD i 0
theorem aiV (xs:List UInt64) (i:Nat):letI za':=0+xs.length*1<=(eU64.body xs).cells.length/\0<1;cD (En []) oU 100 Tryz.f196 (flat (ae Tryz.f196)) (ah Tryz.f196 [iL.av 0 xs,inpNat.av 1 i] [dJ eU64 xs]) = .vc za' (.br (decide ((i:Int)<(xs.length:Int))) (.vc ((0<=(i:Int)/\(i:Int)<(xs.length:Int))/\za') (.vc (0+(i:Int).toNat*1<xs.length) (.leaf (some (xs.getD (0+(i:Int).toNat*1) 0,.t))))) (.leaf (some (0,.t)))):=by kernel_rfl
theorem aj9:CallOk Tryz.prog 196 (K2 aL qE kU64.rs.res atF) :=
 G2 (E:=En []) Tryz.func196 (c:=ae Tryz.f196) (by kernel_rfl) (ab Tryz.func196 (by kernel_rfl) (by kernel_rfl)) iL inpNat oU atF fun xs i _ _=>by
  refine DoesL.ends (aj .nil) 100 (aiV xs i) ⟨⟨by rw [eU64.cells_len];omega,by decide⟩,fun _=>⟨fun h => ?_,fun h => ?_⟩⟩
  ·simp only [decide_eq_true_eq] at h
   refine ⟨⟨⟨by omega,h⟩,by rw [eU64.cells_len];omega,by decide⟩,fun _=>⟨by omega,fun _=>⟨.t,?_,trivial⟩⟩⟩
   simp [atF]
  ·simp only [decide_eq_false_iff_not] at h
   refine ⟨.t,?_,trivial⟩
   have:xs.length<=i:=by omega
   simp [atF,List.getElem?_eq_none this]
def xm:Code->Option Code
 | .scope a=>some a
 | .seq a b=>match xm a with | some c=>some c | none=>xm b
 | .block _ a=>xm a
 | _=>none
def aC (fn:Func):Code:=match xm (ae fn) with | some c=>c | none => .skip
def mc (fn:Func):Code:=match findLabel (aC fn) 0 with | some c=>c | none => .skip
abbrev vI (z:Int):AV := .one (.c (.int .i64 z))
abbrev oI:Out Int:=kInt.rs.out
abbrev okL (xs:List UInt64):Prop:=0+xs.length<=xs.length/\xs.length<aW/\RC.fits (.of 0) 0 xs.length 1 1
def U2 (xs ys:List UInt64) (z:Int):St:=ar 31 [(0,inV 0 xs),(1,inV 1 ys),(5,vI z)] [dJ eU64 xs,dJ eU64 ys]
def Vf (xs ys:List UInt64):Int:=if (ys.length:Int) > xs.length then ys.length else xs.length
theorem Ua (T:cQ) (xs ys:List UInt64):b7 (En T) 100 ((flat (ae Tryz.f176)).take 1) (ah Tryz.f176 [iL.av 0 xs,iL.av 1 ys] [dJ eU64 xs,dJ eU64 ys]) [0,1] [0,1] =
  .leaf (ar 31 [(0,inV 0 xs),(1,inV 1 ys)] [dJ eU64 xs,dJ eU64 ys]):=by kernel_rfl
theorem T9 (T:cQ) (xs ys:List UInt64):b7 (En T) 100 ((flat (aC Tryz.f176)).take 2) (ar 31 [(0,inV 0 xs),(1,inV 1 ys)] [dJ eU64 xs,dJ eU64 ys]) [0,1,5] [0,1] = .vc (0+xs.length*1<=(eU64.body xs).cells.length/\0<1) (.vc (0+ys.length*1<=(eU64.body ys).cells.length/\0<1) (.leaf (U2 xs ys (Vf xs ys)))):=by kernel_rfl
theorem ZE (aF:List UInt64->Nat->UInt64) (xs ys:List UInt64) (z:Int):letI za':=IntKind.i64.wrap (z-1);letI zb':=(xs.drop 0).take xs.length;letI zc':=(ys.drop 0).take ys.length;gR (En [(196,K2 aL qE kU64.rs.res aF)]) oI 100 Tryz.f176 ((flat (aC Tryz.f176)).drop 2) (U2 xs ys z) [0,1,5] [0,1] = .br (decide (IntKind.i64.wrap (z-1)<0)) (.leaf (.inr (some (0,.t)))) (.vc (okL xs/\0<=IntKind.i64.wrap (z-1)) (.vc (okL ys/\0<=IntKind.i64.wrap (z-1)) (.br (decide (aF zb' za'.toNat<aF zc' za'.toNat)) (.leaf (.inr (some (-1,.t)))) (.br (decide (aF zb' za'.toNat > aF zc' za'.toNat)) (.leaf (.inr (some (1,.t)))) (.leaf (.inl (.goto 0,U2 xs ys za'))))))):=by kernel_rfl
def m8 (xs ys:List UInt64):Nat->Int
 | 0=>0
 | n+1=>if atF xs n<atF ys n then -1 else if atF xs n > atF ys n then 1 else m8 xs ys n
def ML (xs ys:List UInt64):Int:=m8 xs ys (Vf xs ys).toNat
theorem cells_len (xs:List UInt64):(eU64.body xs).cells.length=xs.length:=eU64.cells_len xs
theorem aaV {xs:List UInt64} (h:xs.length<aW):okL xs:=⟨by omega,h,by simp [RC.fits]⟩
abbrev akl (xs ys:List UInt64):Type := { z:Int // 0<=z/\z<aW/\m8 xs ys z.toNat=ML xs ys }
def akW (xs ys:List UInt64) (z:akl xs ys):St:=U2 xs ys z.1
theorem aiC:CallOk Tryz.prog 176 (K2 aL aL kInt.rs.res ML) :=
 G2 (E:=En [(196,K2 aL qE kU64.rs.res atF)]) Tryz.func176 (c:=ae Tryz.f176) (by kernel_rfl) (ab Tryz.func176 (by kernel_rfl) (by kernel_rfl)) iL iL oI ML fun xs ys hx hy=>by
  have hE:EnvOk (En [(196,K2 aL qE kU64.rs.res atF)]):=aj (.cons aj9 .nil)
  have hx:xs.length<1125899906842624:=hx
  have hy:ys.length<1125899906842624:=hy
  have hm:0<=Vf xs ys/\Vf xs ys<aW:=by unfold Vf aW;split <;> omega
  refine DoesL.stageE hE 100 1 [0,1] [0,1] (Ua _ xs ys) ?_
  refine DoesL.scopeFn (body:=aC Tryz.f176) (rest:=mc Tryz.f176) (tail := []) (l:=0) hE (by kernel_rfl) (by kernel_rfl) 100 2 (by kernel_rfl) [0,1,5] [0,1] (akW xs ys) (fun z=>z.1.toNat)
   ⟨Vf xs ys,hm.1,hm.2,rfl⟩ (T9 _ xs ys) ⟨⟨by rw [cells_len];omega,by decide⟩,fun _=>⟨⟨by rw [cells_len];omega,by decide⟩,fun _=>rfl⟩⟩ fun z => ?_
  ·obtain ⟨z,h0,h1,h2⟩:=z
   have h1:z<1125899906842624:=h1
   have hw:IntKind.i64.wrap (z-1)=z-1:=IntWalk.i64_in _ (by omega)
   refine DoesL.iter hE 100 [0,1,5] [0,1] (ZE atF xs ys z) ?_
   rw [hw]
   simp only [List.drop_zero,List.take_length]
   refine ⟨fun h => ?_,fun h=>⟨⟨aaV hx,?_⟩,fun _=>⟨⟨aaV hy,?_⟩,fun _=>⟨fun h3 => ?_,fun h3=>⟨fun h4 => ?_,fun h4 => ?_⟩⟩⟩⟩⟩
   ·simp only [decide_eq_true_eq] at h
    obtain rfl:z=0:=by omega
    exact ⟨.t,by rw [<- h2];rfl,trivial⟩
   all_goals simp only [decide_eq_false_iff_not] at h
   ·omega
   ·omega
   all_goals
    obtain ⟨n,rfl⟩ : ∃ n:Nat,z=(n:Int)+1:=⟨(z-1).toNat,by omega⟩
    rw [show ((n:Int)+1).toNat=n+1 by omega] at h2
    rw [show ((n:Int)+1-1).toNat=n by omega] at h3
    simp only [m8] at h2
   ·simp only [decide_eq_true_eq] at h3
    rw [if_pos h3] at h2
    exact ⟨.t,by rw [<- h2],trivial⟩
   ·rw [show ((n:Int)+1-1).toNat=n by omega] at h4
    simp only [decide_eq_false_iff_not] at h3
    simp only [decide_eq_true_eq] at h4
    rw [if_neg h3,if_pos h4] at h2
    exact ⟨.t,by rw [<- h2],trivial⟩
   ·rw [show ((n:Int)+1-1).toNat=n by omega] at h4
    simp only [decide_eq_false_iff_not] at h3 h4
    rw [if_neg h3,if_neg h4] at h2
    exact ⟨rfl,⟨(n:Int)+1-1,by omega,by unfold aW;omega,by rw [show ((n:Int)+1-1).toNat=n by omega];exact h2⟩,by simp only [];omega,rfl⟩
end Go.Proofs.YtgpafcehehaiiaaGreat
namespace Go.Proofs.YtgpafcehehaiiaaGreat
open Go.RowKit
def Fp.list (a:Fp):List UInt64 := [a.l0,a.l1,a.l2,a.l3,a.l4,a.l5]
def Po (a:Fp):Fp:=⟨iY a.l0 1 ||| Kg a.l1 63,iY a.l1 1 ||| Kg a.l2 63,iY a.l2 1 ||| Kg a.l3 63,iY a.l3 1 ||| Kg a.l4 63,iY a.l4 1 ||| Kg a.l5 63,iY a.l5 1⟩
abbrev ak3 (cF:List UInt64->List UInt64->Int):au:=K2 aL aL kInt.rs.res cF
def yb (a:Fp):Bool:=decide (ML a.list pLimbs.list<0)
theorem aen (cF:List UInt64->List UInt64->Int) (m a:Fp):ac (En [(176,ak3 cF),(173,Kc m)]) kBool.rs 100 Tryz.f143 [vF a] = .leaf (some (decide (cF a.list m.list<0))):=by kernel_rfl
theorem aa7:CallOk Tryz.prog 143 (K1 (aa Fp).arg kBool.rs.res yb):=P1 (aj (.cons aiC (.cons rf .nil))) Tryz.func143 (ab Tryz.func143 (by kernel_rfl) (by kernel_rfl)) 100 (aa Fp) kBool.rs yb (aen ML pLimbs) (fun _=>Tree.sat_leaf (by simp only [yb]))
def qv (a:Fp):Bool:=decide (ML a.list (Po pLimbs).list > 0)
abbrev oF:Out Fp:=rF.out
def KT (e:List UInt64) (x o:Fp) (z:Int):St:=ar 38 [(1,inV 0 e),(4,a8 1),(5,a8 2),(6,a8 3),(7,vI z)] [dJ eU64 e,own 31 (bJ 6),own 31 (Row.cs x),own 31 (Row.cs o)]
def afU (wF:Fp->Fp) (hF:Fp->Fp->Fp) (lF:Fp->Fp):cQ := [(136,Kf wF),(140,Kff hF),(138,Kf lF)]
theorem RI (T:cQ) (a:Fp) (e:List UInt64):b7 (En T) 100 ((flat (ae Tryz.f174)).take 1) (ah Tryz.f174 [vF a,iL.av 0 e] [dJ eU64 e]) [1,2,4] [0,1,2] = .leaf (ar 38 [(1,inV 0 e),(2,a8 1),(4,a8 2)] [dJ eU64 e,own 31 (Row.cs a),own 31 (bJ 6)]):=by kernel_rfl
theorem RH (hF:Fp->Fp->Fp) (wF lF:Fp->Fp) (a:Fp) (e:List UInt64):b7 (En (afU wF hF lF)) 100 ((flat (aC Tryz.f174)).take 3) (ar 38 [(1,inV 0 e),(2,a8 1),(4,a8 2)] [dJ eU64 e,own 31 (Row.cs a),own 31 (bJ 6)]) [1,4,5,6,7] [0,2,3,4] = .vc (0+e.length*1<=(eU64.body e).cells.length/\0<1) (.leaf (KT e (wF a) (wF oneFp) (IntKind.i64.wrap (64*e.length)))):=by kernel_rfl
def jN (z:Int):Int:=IntKind.i64.wrap ((IntKind.i64.wrap (z-1)).tdiv 64)
def aja (z:Int):UInt64:=UInt64.ofNat (((IntKind.i64.wrap (z-1)).tmod 64) % 18446744073709551616).toNat
def EO (e:List UInt64) (z:Int):Bool:=iY (e.getD (0+(jN z).toNat*1) 0) ((aja z).toNat:Int) &&& 1==1
theorem WT (hF:Fp->Fp->Fp) (wF lF:Fp->Fp) (x o:Fp) (e:List UInt64) (z:Int):letI za':=IntKind.i64.wrap (z-1);gR (En (afU wF hF lF)) oF 100 Tryz.f174 ((flat (aC Tryz.f174)).drop 3) (KT e x o z) [1,4,5,6,7] [0,1,2,3] = .br (decide (IntKind.i64.wrap (z-1)<0)) (.leaf (.inr (some (lF o,.t)))) (.vc ((0<=jN z/\jN z<e.length)/\0+e.length*1<=(eU64.body e).cells.length/\0<1) (.vc (0+(jN z).toNat*1<e.length) (.br (EO e z) (.leaf (.inl (.goto 0,KT e x (hF (hF o o) x) za'))) (.leaf (.inl (.goto 0,KT e x (hF o o) za')))))):=by kernel_rfl
def df (e:List UInt64) (i:Nat):Bool:=(e.getD (i / 64) 0).toNat.testBit (i % 64)
theorem DZ (x:UInt64) (k:Nat) (hk:k<64):(iY x (k:Int) &&& 1==1)=x.toNat.testBit k:=by
 have h1:(iY x (k:Int)).toNat=x.toNat / 2 ^ k:=by
  have:=x.toNat_lt
  unfold iY
  rw [Int.toNat_natCast,Nat.min_eq_left (by omega),UInt64.toNat_ofNat']
  exact Nat.mod_eq_of_lt (Nat.lt_of_le_of_lt (Nat.div_le_self _ _) this)
 have h2:(iY x (k:Int) &&& 1).toNat=x.toNat / 2 ^ k % 2:=by
  rw [UInt64.toNat_and,h1]
  exact Nat.and_one_is_mod _
 rw [Nat.testBit_eq_decide_div_mod_eq]
 rw [<- h2]
 have h3:(iY x (k:Int) &&& 1==1)=decide ((iY x (k:Int) &&& 1)=1):=rfl
 rw [h3]
 have:((iY x (k:Int) &&& 1)=1) <-> (iY x (k:Int) &&& 1).toNat=1:=⟨fun h=>by rw [h];rfl,fun h=>UInt64.toNat.inj (by rw [h];rfl)⟩
 exact decide_eq_decide.2 this
theorem me (n:Nat) (h:n<576460752303423488):jN ((n:Int)+1)=((n / 64:Nat):Int):=by
 unfold jN
 rw [show (n:Int)+1-1=n by omega,IntWalk.i64_in (n:Int) (by omega),show ((n:Int)).tdiv 64=((n / 64:Nat):Int) by rw [Int.tdiv_eq_ediv_of_nonneg (by omega)];omega,IntWalk.i64_in _ (by omega)]
theorem o6 (e:List UInt64) (n:Nat) (h:n<576460752303423488):EO e ((n:Int)+1)=df e n:=by
 unfold EO df
 rw [me n h]
 have h1:(aja ((n:Int)+1)).toNat=n % 64:=by
  unfold aja
  rw [show (n:Int)+1-1=n by omega,IntWalk.i64_in (n:Int) (by omega),show ((n:Int)).tmod 64=((n % 64:Nat):Int) by rw [Int.tmod_eq_emod_of_nonneg (by omega)];omega]
  rw [show (((n % 64:Nat):Int) % 18446744073709551616).toNat=n % 64 by omega,UInt64.toNat_ofNat']
  omega
 rw [h1,DZ _ _ (by omega)]
 simp only [Nat.zero_add,Nat.mul_one,Int.toNat_natCast]
def Ba (x:Fp) (e:List UInt64):Nat->Fp->Fp
 | 0,o=>jm o
 | n+1,o=>Ba x e n (match df e n with | true=>aZ (aZ o o) x | false=>aZ o o)
def Ic (a:Fp) (e:List UInt64):Fp:=Ba (bj a) e (64*e.length) (bj oneFp)
abbrev akf (a:Fp) (e:List UInt64):Type := { q:Int × Fp // 0<=q.1/\q.1<=64*e.length/\Ba (bj a) e q.1.toNat q.2=Ic a e }
def af9 (a:Fp) (e:List UInt64) (q:akf a e):St:=KT e (bj a) q.1.2 q.1.1
theorem aho:CallOk Tryz.prog 174 (K2 (aa Fp).arg aL rF.res Ic) :=
 G2 (E:=En (afU bj aZ jm)) Tryz.func174 (c:=ae Tryz.f174) (by kernel_rfl) (ab Tryz.func174 (by kernel_rfl) (by kernel_rfl)) (aa Fp).inp iL oF Ic fun a e _ he=>by
  have hE:EnvOk (En (afU bj aZ jm)):=aj (.cons oH (.cons nB (.cons NA .nil)))
  have he:e.length<1125899906842624:=he
  have hw:IntKind.i64.wrap (64*(e.length:Int))=64*(e.length:Int):=IntWalk.i64_in _ (by omega)
  refine DoesL.stageE hE 100 1 [1,2,4] [0,1,2] (RI _ a e) ?_
  refine DoesL.scopeFn (body:=aC Tryz.f174) (rest:=mc Tryz.f174) (tail := []) (l:=0) hE (by kernel_rfl) (by kernel_rfl) 100 3 (by kernel_rfl) [1,4,5,6,7] [0,2,3,4] (af9 a e) (fun q=>q.1.1.toNat)
   ⟨(64*(e.length:Int),bj oneFp),by simp only [];omega,by simp only [];omega,by rw [show ((64*(e.length:Int),bj oneFp):Int × Fp).1.toNat=64*e.length by simp only [];omega];simp only [Ic]⟩
   (RH aZ bj jm a e) ⟨⟨by rw [cells_len];omega,by decide⟩,fun _=>by rw [hw];exact Tree.sat_leaf (by simp only [af9])⟩ fun q => ?_
  obtain ⟨⟨z,o⟩,h0,h1,h2⟩:=q
  simp only [] at h0 h1 h2
  have hz:IntKind.i64.wrap (z-1)=z-1:=IntWalk.i64_in _ (by omega)
  refine DoesL.iter hE 100 [1,4,5,6,7] [0,1,2,3] (WT aZ bj jm (bj a) o e z) ?_
  rw [hz]
  refine ⟨fun h => ?_,fun h => ?_⟩
  ·simp only [decide_eq_true_eq] at h
   obtain rfl:z=0:=by omega
   exact ⟨.t,by rw [<- h2];rfl,trivial⟩
  ·simp only [decide_eq_false_iff_not] at h
   obtain ⟨n,rfl⟩ : ∃ n:Nat,z=(n:Int)+1:=⟨(z-1).toNat,by omega⟩
   rw [me n (by omega),o6 e n (by omega)]
   rw [show ((n:Int)+1).toNat=n+1 by omega] at h2
   simp only [Ba] at h2
   refine ⟨⟨⟨by omega,by omega⟩,by rw [cells_len];omega,by decide⟩,fun _=>⟨by omega,fun _=>⟨fun h3 => ?_,fun h3 => ?_⟩⟩⟩
   all_goals
    have hn:((n:Int)+1-1).toNat=n:=by omega
    rw [h3] at h2
    simp only [] at h2
   ·refine ⟨rfl,⟨((n:Int)+1-1,aZ (aZ o o) (bj a)),?_,?_,?_⟩,?_,by simp only [af9]⟩
    ·show 0<=(n:Int)+1-1;omega
    ·show (n:Int)+1-1<=64*e.length;omega
    ·simpa only [hn] using h2
    ·show ((n:Int)+1-1).toNat<((n:Int)+1).toNat;omega
   ·refine ⟨rfl,⟨((n:Int)+1-1,aZ o o),?_,?_,?_⟩,?_,by simp only [af9]⟩
    ·show 0<=(n:Int)+1-1;omega
    ·show (n:Int)+1-1<=64*e.length;omega
    ·simpa only [hn] using h2
    ·show ((n:Int)+1-1).toNat<((n:Int)+1).toNat;omega
end Go.Proofs.YtgpafcehehaiiaaGreat
namespace Go.Proofs.YtgpafcehehaiiaaGreat
open Go.RowKit
abbrev rFI:Rs (Fp × Int):=(aa Fp).rs2 kInt
abbrev ak1 (pF:Fp->List UInt64->Fp):au:=K2 (aa Fp).arg aL rF.res pF
def la (a b:Fp):Bool:=a.l0==b.l0 && (a.l1==b.l1 && (a.l2==b.l2 && (a.l3==b.l3 && (a.l4==b.l4 && (a.l5==b.l5 && true)))))
theorem js (a b:Fp):la a b=true <-> a=b:=by
 cases a;cases b
 simp [la]
def i6 (a:Fp):Fp × Int:=match la a zeroFp with | true=>(a,7) | false=>(Ic a [pLimbs.l0-2,pLimbs.l1,pLimbs.l2,pLimbs.l3,pLimbs.l4,pLimbs.l5],0)
theorem aeK (pF:Fp->List UInt64->Fp) (m a:Fp):ac (En [(173,Kc m),(174,ak1 pF)]) rFI 100 Tryz.f137 [vF a] =
  .br (la a zeroFp) (.leaf (some (a,7))) (.leaf (some (pF a [m.l0-2,m.l1,m.l2,m.l3,m.l4,m.l5],0))):=by kernel_rfl
theorem abj:CallOk Tryz.prog 137 (K1 (aa Fp).arg rFI.res i6):=P1 (aj (.cons rf (.cons aho .nil))) Tryz.func137 (ab Tryz.func137 (by kernel_rfl) (by kernel_rfl)) 100 (aa Fp) rFI i6 (aeK Ic pLimbs)
 (fun a=>⟨fun h=>congrArg some (by simp only [i6,h]),fun h=>congrArg some (by simp only [i6,h])⟩)
end Go.Proofs.YtgpafcehehaiiaaGreat
namespace Go.Proofs.YtgpafcehehaiiaaGreat
open Go.RowKit
noncomputable abbrev Ens (T:cQ) (ns:List Nat):Env:=xW Tryz.prog T ns
theorem bn {T:cQ} {ns:List Nat} (h:TableOk Tryz.prog T):EnvOk (Ens T ns):=kV dl h
abbrev oS (ty:TypeId):Out Fp:=aaR Fp ty 6 (fun _=>rfl)
abbrev iS:Inp Fp:=abk Fp 6 (fun _=>rfl)
abbrev aS:Arg Fp:=NX Fp
abbrev rS (ty:TypeId):Res Fp:=Nj Fp ty 6 (fun _=>rfl)
abbrev oB:Out Bool:=kBool.rs.out
theorem Wu:cD (En []) (oS 22) 100 Tryz.f125 (flat (ae Tryz.f125)) (ah Tryz.f125 [] []) = .leaf (some (pLimbs,.t)):=by kernel_rfl
theorem xz:CallOk Tryz.prog 125 (K0 (rS 22) pLimbs) :=
 G0 (E:=En []) Tryz.func125 (c:=ae Tryz.f125) (by kernel_rfl) (ab Tryz.func125 (by kernel_rfl) (by kernel_rfl)) (oS 22) pLimbs (DoesL.ends (aj .nil) 100 Wu ⟨.t,rfl,trivial⟩)
def dg (a m:Fp):Bool :=
 match a.l5 != m.l5 with
 | true=>decide (a.l5<m.l5)
 | false=>match a.l4 != m.l4 with
  | true=>decide (a.l4<m.l4)
  | false=>match a.l3 != m.l3 with
   | true=>decide (a.l3<m.l3)
   | false=>match a.l2 != m.l2 with
    | true=>decide (a.l2<m.l2)
    | false=>match a.l1 != m.l1 with
     | true=>decide (a.l1<m.l1)
     | false=>match a.l0 != m.l0 with
      | true=>decide (a.l0<m.l0)
      | false=>false
def lfB (b:Bool):Tree (Option (Bool × Pr)) := .leaf (some (b,.t))
def abN (a m:Fp):Tree (Option (Bool × Pr)) :=
 .br (a.l5 != m.l5) (lfB (decide (a.l5<m.l5))) (.br (a.l4 != m.l4) (lfB (decide (a.l4<m.l4))) (.br (a.l3 != m.l3) (lfB (decide (a.l3<m.l3))) (.br (a.l2 != m.l2) (lfB (decide (a.l2<m.l2))) (.br (a.l1 != m.l1) (lfB (decide (a.l1<m.l1))) (.br (a.l0 != m.l0) (lfB (decide (a.l0<m.l0))) (lfB false))))))
theorem Ug (a m:Fp):cD (En []) oB 100 Tryz.f52 (flat (ae Tryz.f52)) (ah Tryz.f52 [iS.av 0 a,iS.av 1 m] (iS.hes a++iS.hes m))=abN a m:=by kernel_rfl
theorem MQ (a m:Fp):(abN a m).sat fun q => ∃ p,q=some (dg a m,p)/\p.holds:=by
 unfold dg
 refine ⟨fun h => ?_,fun h => ?_⟩ <;> rw [h]
 ·exact ⟨.t,rfl,trivial⟩
 refine ⟨fun h => ?_,fun h => ?_⟩ <;> rw [h]
 ·exact ⟨.t,rfl,trivial⟩
 refine ⟨fun h => ?_,fun h => ?_⟩ <;> rw [h]
 ·exact ⟨.t,rfl,trivial⟩
 refine ⟨fun h => ?_,fun h => ?_⟩ <;> rw [h]
 ·exact ⟨.t,rfl,trivial⟩
 refine ⟨fun h => ?_,fun h => ?_⟩ <;> rw [h]
 ·exact ⟨.t,rfl,trivial⟩
 refine ⟨fun h => ?_,fun h => ?_⟩ <;> rw [h]
 ·exact ⟨.t,rfl,trivial⟩
 ·exact ⟨.t,rfl,trivial⟩
theorem Jl:CallOk Tryz.prog 52 (K2 aS aS oB.res dg) :=
 G2 (E:=En []) Tryz.func52 (c:=ae Tryz.f52) (by kernel_rfl) (ab Tryz.func52 (by kernel_rfl) (by kernel_rfl)) iS iS oB dg fun a m _ _=>DoesL.ends (aj .nil) 100 (Ug a m) (MQ a m)
end Go.Proofs.YtgpafcehehaiiaaGreat
namespace Go.Proofs.YtgpafcehehaiiaaGreat
open Go.RowKit
abbrev Kfb (F:Fp->Bool):au:=K1 (aa Fp).arg kBool.rs.res F
abbrev agD (iF:Fp->Fp × Int):au:=K1 (aa Fp).arg rFI.res iF
abbrev Kof (oF':UInt64->Fp):au:=K1 kU64.arg rF.res oF'
end Go.Proofs.YtgpafcehehaiiaaGreat
namespace Go.Proofs.YtgpafcehehaiiaaGreat
open Go.RowKit
abbrev rL:Res (List UInt64):=UL eU64 22
abbrev oL:Out (List UInt64):=acg eU64 22
abbrev xk (xs:List UInt64):Prop:=xs.length<1099511627776
abbrev aLc:Arg (List UInt64):=aL.such xk
abbrev iLc:Inp (List UInt64):=iL.such xk
abbrev aap (xs:List UInt64):Prop:=xs.length<4294967296
abbrev aLt:Arg (List UInt64):=aL.such aap
abbrev iLt:Inp (List UInt64):=iL.such aap
theorem j4 (xs:List UInt64):(List.map EK.u64.cell xs).length=xs.length:=List.length_map ..
theorem YB (xs:List UInt64) (i:Nat):letI za':=List.map EK.u64.cell xs;letI zb':=(↑xs.length:Int);cD (En []) oU 100 Tryz.f167 (flat (ae Tryz.f167)) (ah Tryz.f167 [iL.av 0 xs,inpNat.av 1 i] [dJ eU64 xs])=(.vc (0+xs.length*1<=za'.length/\0<1) (.br (decide ((↑i:Int)<zb')) (.vc ((0<=(↑i:Int)/\(↑i:Int)<zb')/\0+xs.length*1<=za'.length/\0<1) (.vc (0+(↑i:Int).toNat*1<xs.length) (.leaf (some ((xs.getD (0+(↑i:Int).toNat*1) 0,.t)))))) (.leaf (some ((UInt64.ofNat 0,.t)))))):=by kernel_rfl
theorem aeC:CallOk Tryz.prog 167 (K2 aL qE kU64.rs.res atF) :=
 G2 (E:=En []) Tryz.func167 (c:=ae Tryz.f167) (by kernel_rfl) (ab Tryz.func167 (by kernel_rfl) (by kernel_rfl)) iL inpNat oU atF fun xs i _ _=>by
  refine DoesL.ends (aj .nil) 100 (YB xs i) ⟨⟨by rw [j4];omega,by decide⟩,fun _=>⟨fun h => ?_,fun h => ?_⟩⟩
  ·simp only [decide_eq_true_eq] at h
   refine ⟨⟨⟨by omega,h⟩,by rw [j4];omega,by decide⟩,fun _=>⟨by omega,fun _=>⟨.t,?_,trivial⟩⟩⟩
   simp [atF]
  ·simp only [decide_eq_false_iff_not] at h
   refine ⟨.t,?_,trivial⟩
   have:xs.length<=i:=by omega
   simp [atF,List.getElem?_eq_none this]
theorem afe (xs:List UInt64) (i:Nat):letI za':=((↑i:Int).tdiv 64);letI zb':=List.map EK.u64.cell xs;letI zc':=IntKind.i64.wrap za';letI zd':=(↑xs.length:Int);cD (En []) oU 100 Tryz.f166 (flat (ae Tryz.f166)) (ah Tryz.f166 [iL.av 0 xs,inpNat.av 1 i] [dJ eU64 xs])=(.vc (0+xs.length*1<=zb'.length/\0<1) (.br (decide (IntKind.i64.wrap za' >= zd')) (.leaf (some ((UInt64.ofNat 0,.t)))) (.vc ((0<=IntKind.i64.wrap za'/\IntKind.i64.wrap za'<zd')/\0+xs.length*1<=zb'.length/\0<1) (.vc (0+zc'.toNat*1<xs.length) (.vc (0<=(↑i:Int).tmod 64) (.leaf (some ((iY (xs.getD (0+zc'.toNat*1) 0) ((↑i:Int).tmod 64) &&& UInt64.ofNat 1,.t))))))))):=by kernel_rfl
theorem Uf (xs:List UInt64) (i:Nat):iY (xs.getD (i / 64) 0) ((i % 64:Nat):Int) &&& 1=b2u (df xs i):=by
 have h:=DZ (xs.getD (i / 64) 0) (i % 64) (by omega)
 unfold df
 rw [<- h]
 have h2 : ∀ y:UInt64,y &&& 1=b2u (y &&& 1==1):=fun y=>by
  have:(y &&& 1).toNat=y.toNat % 2:=by rw [UInt64.toNat_and];exact Nat.and_one_is_mod _
  have h3:(y &&& 1)=0 \/ (y &&& 1)=1:=by
   rcases Nat.mod_two_eq_zero_or_one y.toNat with h | h
   ·exact .inl (UInt64.toNat.inj (by rw [this,h];rfl))
   ·exact .inr (UInt64.toNat.inj (by rw [this,h];rfl))
  rcases h3 with h | h <;> rw [h] <;> rfl
 exact h2 _
theorem zH (i:Nat) (h:i<9223372036854775808):IntKind.i64.wrap (((i:Nat):Int).tdiv 64)=((i / 64:Nat):Int):=by
 rw [show ((i:Int)).tdiv 64=((i / 64:Nat):Int) by rw [Int.tdiv_eq_ediv_of_nonneg (by omega)];omega,IntWalk.i64_in _ (by omega)]
theorem zG (i:Nat):((i:Nat):Int).tmod 64=((i % 64:Nat):Int):=by rw [Int.tmod_eq_emod_of_nonneg (by omega)];omega
def FN:Arg Nat where
 rd:=fun _ v=>match v with
  | .one (.c (.lit .i64 n))=>match decide (0<=n) && decide (n<9223372036854775808) with
   | true=>some (n.toNat,.t,[])
   | false=>none
  | .one (.c (.int .i64 n))=>some (n.toNat,.p (0<=n/\n<9223372036854775808),[])
  | _=>none
 is:=fun _ v x=>v = .int .i64 (x:Int)/\x<9223372036854775808
 ok:=fun {w0 β h w v x p rs} e hp _ _=>by
  split at e
  ·split at e
   ·rename_i hd
    cases e
    simp only [Bool.and_eq_true,decide_eq_true_eq] at hd
    refine ⟨?_,by omega⟩
    simp only [gv,g1,gc]
    congr 1
    omega
   ·cases e
  ·cases e
   have hp:(0:Int)<=_/\_<(9223372036854775808:Int):=hp
   refine ⟨?_,by omega⟩
   simp only [gv,g1,gc]
   congr 1
   omega
  ·cases e
 near:=fun e _=>e
def ah2:Inp Nat where
 arg:=FN
 av:=fun _ x => .one (.c (.int .i64 (x:Int)))
 hes:=fun _ => []
 fact:=fun x=>x<9223372036854775808
 known:=fun h=>h.2
 intro:=fun {w0 β heap w v x} hr _ hv=>⟨β,by rw [List.append_nil];exact hr,hv.1.symm,ao rfl,fun _ _=>rfl⟩
def tz (xs:List UInt64) (i:Nat):UInt64:=b2u (df xs i)
theorem abL:CallOk Tryz.prog 166 (K2 aL FN kU64.rs.res tz) :=
 G2 (E:=En []) Tryz.func166 (c:=ae Tryz.f166) (by kernel_rfl) (ab Tryz.func166 (by kernel_rfl) (by kernel_rfl)) iL ah2 oU tz fun xs i _ hi=>by
  have hi:i<9223372036854775808:=hi
  refine DoesL.ends (aj .nil) 100 (afe xs i) ⟨⟨by rw [j4];omega,by decide⟩,fun _=>⟨fun h => ?_,fun h => ?_⟩⟩
  ·simp only [decide_eq_true_eq] at h
   rw [zH i hi] at h
   refine ⟨.t,?_,trivial⟩
   have:xs.length<=i / 64:=by omega
   simp [tz,df,List.getD_eq_getElem?_getD,List.getElem?_eq_none this]
   rfl
  ·simp only [decide_eq_false_iff_not] at h
   rw [zH i hi] at h ⊢
   refine ⟨⟨⟨by omega,by omega⟩,by rw [j4];omega,by decide⟩,fun _=>⟨by omega,fun _=>⟨by rw [zG];omega,fun _=>⟨.t,?_,trivial⟩⟩⟩⟩
   rw [zG]
   have:=Uf xs i
   simp only [Nat.zero_add,Nat.mul_one,Int.toNat_natCast]
   exact congrArg (fun z=>some (z,Pr.t)) this.symm ▸ rfl
end Go.Proofs.YtgpafcehehaiiaaGreat
namespace Go.Proofs.YtgpafcehehaiiaaGreat
open Go.RowKit
noncomputable abbrev cutC:List Code:=flat (ae Tryz.f168)
def acq (xs:List UInt64) (z:Int):St:=ar 23 [(0,inV 0 xs),(3,vI z)] [dJ eU64 xs]
theorem TQ (xs:List UInt64):stageG (En []) 100 (cutC.take 2) (ah Tryz.f168 [iL.av 0 xs] [dJ eU64 xs]) [0,3] [0] [(0,.as),(3,.int)] [] []=(.vc (0+xs.length*1<=(List.map EK.u64.cell xs).length/\0<1) (.leaf (ar 23 [(0,.one (.c (.slc 0 0 (xs.length) 1 (.of 0) false))),(3,.one (.c (.int .i64 ((↑xs.length:Int)))))] [.live ⟨false,0,1,(.elts .u64 (xs:List UInt64)),false⟩]))):=by kernel_rfl
theorem TS (xs:List UInt64) (z:Int):letI za':=IntKind.i64.wrap (z-1);bk (En []) 100 (aP Tryz.f168 0) (acq xs z) (same [0,3] [0])=(.br (decide (z > 0)) (.vc ((0<=IntKind.i64.wrap (z-1)/\IntKind.i64.wrap (z-1)<(↑xs.length:Int))/\0+xs.length*1<=(List.map EK.u64.cell xs).length/\0<1) (.vc (0+za'.toNat*1<xs.length) (.br (xs.getD (0+za'.toNat*1) 0==UInt64.ofNat 0) (.leaf ((.normal,ar 23 [(0,.one (.c (.slc 0 0 (xs.length) 1 (.of 0) false))),(3,.one (.c (.int .i64 za')))] [.live ⟨false,0,1,(.elts .u64 (xs:List UInt64)),false⟩]))) (.leaf ((.exit 0,ar 23 [(0,.one (.c (.slc 0 0 (xs.length) 1 (.of 0) false))),(3,.one (.c (.int .i64 (z))))] [.live ⟨false,0,1,(.elts .u64 (xs:List UInt64)),false⟩])))))) (.leaf ((.exit 0,ar 23 [(0,.one (.c (.slc 0 0 (xs.length) 1 (.of 0) false))),(3,.one (.c (.int .i64 (z))))] [.live ⟨false,0,1,(.elts .u64 (xs:List UInt64)),false⟩])))):=by kernel_rfl
theorem PE (xs:List UInt64) (z:Int):cD (En []) oL 100 Tryz.f168 (cutC.drop 3) (acq xs z)=(.vc (0<=z/\0<=z.toNat/\z.toNat<=xs.length/\0+xs.length*1<=(List.map EK.u64.cell xs).length/\0<1/\(0=0 \/ 0<z.toNat)/\0=0/\1=1) (.vc (0+(z.toNat-0)<=xs.length/\0+(z.toNat-0)<=9223372036854775807/\(0+(z.toNat-0))*8<=140737488355328) (.leaf (some ((List.take (0+(z.toNat-0)) ([]++List.take (z.toNat-0) (List.drop 0 xs)),(.p (0+(z.toNat-0)<=([]++List.take (z.toNat-0) (List.drop 0 xs)).length)))))))):=by kernel_rfl
theorem TR:cutC.drop 2 = .block 0 (.loop (aP Tryz.f168 0)) :: cutC.drop 3:=by kernel_rfl
def Vl (xs:List UInt64):Nat->Nat
 | 0=>0
 | n+1=>if atF xs n=0 then Vl xs n else n+1
def gW (xs:List UInt64):List UInt64:=xs.take (Vl xs xs.length)
abbrev akk (xs:List UInt64):Type := { n:Nat // n<=xs.length/\Vl xs n=Vl xs xs.length }
theorem abG:CallOk Tryz.prog 168 (K1 aLc rL gW) :=
 G1 (E:=En []) Tryz.func168 (c:=ae Tryz.f168) (by kernel_rfl) (ab Tryz.func168 (by kernel_rfl) (by kernel_rfl)) iLc oL gW fun xs hx=>by
  have hx:xs.length<1099511627776:=hx.2
  refine DoesL.stageG (aj .nil) 100 2 [0,3] [0] [(0,.as),(3,.int)] [] [] (TQ xs) ⟨⟨by rw [j4];omega,by decide⟩,fun _ => ?_⟩
  refine DoesL.blockLoop TR (fun n:akk xs=>acq xs (n.1:Int)) (fun n=>n.1) ⟨xs.length,Nat.le_refl _,rfl⟩ fun n => ?_
  obtain ⟨n,h1,h2⟩:=n
  refine Does.round (aj .nil) 100 _ (TS xs n) ⟨fun h => ?_,fun h => ?_⟩
  ·simp only [decide_eq_true_eq] at h
   obtain ⟨m,rfl⟩ : ∃ m,n=m+1:=⟨n-1,by omega⟩
   have hw:IntKind.i64.wrap (((m+1:Nat):Int)-1)=(m:Int):=by rw [IntWalk.i64_in _ (by omega)];omega
   rw [hw]
   refine ⟨⟨⟨by omega,by omega⟩,by rw [j4];omega,by decide⟩,fun _=>⟨by omega,fun _=>⟨fun h3 => ?_,fun h3 => ?_⟩⟩⟩
   ·refine ⟨⟨m,by omega,?_⟩,by show m<m+1;omega,rfl⟩
    rw [<- h2]
    have:atF xs m=0:=by
     simp only [beq_iff_eq,Nat.zero_add,Nat.mul_one,Int.toNat_natCast] at h3
     exact h3
    simp only [Vl,if_pos this]
   ·refine ⟨rfl,DoesL.ends (aj .nil) 100 (PE xs ((m+1:Nat):Int)) ⟨?_,fun _=>⟨?_,fun _=>D8 ?_ ?_⟩⟩⟩
    ·rw [j4,Int.toNat_natCast];exact ⟨by omega,by omega,by omega,by omega,by decide,.inl rfl,rfl,rfl⟩
    ·rw [Int.toNat_natCast];omega
    ·simp only [Int.toNat_natCast,Nat.zero_add,Nat.sub_zero,List.drop_zero,List.nil_append,List.take_take,Nat.min_self]
     unfold gW
     rw [<- h2]
     have:atF xs m ≠ 0:=by
      simp only [beq_eq_false_iff_ne,Nat.zero_add,Nat.mul_one,Int.toNat_natCast] at h3
      exact h3
     simp only [Vl,if_neg this]
    ·simp only [Int.toNat_natCast,Nat.zero_add,Nat.sub_zero,List.drop_zero,List.nil_append,List.length_take]
     omega
  ·simp only [decide_eq_false_iff_not] at h
   obtain rfl:n=0:=by omega
   refine ⟨rfl,DoesL.ends (aj .nil) 100 (PE xs 0) ⟨?_,fun _=>⟨?_,fun _=>D8 ?_ ?_⟩⟩⟩
   ·rw [j4];exact ⟨by omega,by omega,by simp,by omega,by decide,.inl rfl,rfl,rfl⟩
   ·simp
   ·unfold gW
    rw [<- h2]
    simp [Vl]
   ·simp
end Go.Proofs.YtgpafcehehaiiaaGreat
namespace Go.Proofs.YtgpafcehehaiiaaGreat
open Go.RowKit
noncomputable abbrev rcmpC:List Code:=flat (ae Tryz.f169)
noncomputable abbrev af0:Code:=aP Tryz.f169 0
def adR (xs:List UInt64):HE := .live ⟨true,22,1,.elts .u64 xs,false⟩
def slV (i:Nat) (xs:List UInt64):AV := .one (.c (.slc i 0 xs.length 1 (.of 0) false))
def ahd (a b:List UInt64):St:=ar 45 [(0,slV 0 a),(1,slV 1 b)] [adR a,adR b]
def Nk (a b:List UInt64) (z:Int):St:=ar 45 [(0,slV 0 a),(1,slV 1 b),(5,vI z)] [adR a,adR b]
noncomputable abbrev Fb (cF:List UInt64->List UInt64):Env:=Ens [(168,K1 aLc rL cF)] [168]
theorem WA:EnvOk (Fb gW):=bn (.cons abG .nil)
theorem Kw (cF:List UInt64->List UInt64) (xs ys:List UInt64):letI za':=List.take xs.length (List.drop 0 xs);letI zb':=List.take ys.length (List.drop 0 ys);b7 (Fb cF) 100 (rcmpC.take 2) (ah Tryz.f169 [iL.av 0 xs,iL.av 1 ys] [dJ eU64 xs,dJ eU64 ys]) [0,1] [2,3]=(.vc ((0+xs.length<=xs.length/\xs.length<1125899906842624/\0=0/\1=1)/\xk za') (.vc ((0+ys.length<=ys.length/\ys.length<1125899906842624/\0=0/\1=1)/\xk zb') (.leaf (ar 45 [(0,.one (.c (.slc 0 0 ((cF za').length) 1 (.of 0) false))),(1,.one (.c (.slc 1 0 ((cF zb').length) 1 (.of 0) false)))] [.live ⟨true,22,1,(.elts .u64 (cF za':List UInt64)),false⟩,.live ⟨true,22,1,(.elts .u64 (cF zb':List UInt64)),false⟩])))):=by kernel_rfl
theorem Wy (cF:List UInt64->List UInt64) (a b:List UInt64):letI za':=0+a.length*1<=(List.map EK.u64.cell a).length/\0<1;letI zb':=0+b.length*1<=(List.map EK.u64.cell b).length/\0<1;letI zc':=(↑a.length:Int);HL (Fb cF) oI 100 Tryz.f169 ((rcmpC.drop 2).take 3) (ahd a b) [0,1,5] [0,1] [(0,.as),(1,.as),(5,.int)] [] []=(.vc za' (.vc zb' (.br (zc' != (↑b.length:Int)) (.vc za' (.vc zb' (.br (decide (zc'<(↑b.length:Int))) (.leaf (.inr (some ((-1,.t))))) (.leaf (.inr (some ((1,.t)))))))) (.vc za' (.leaf (.inl (ar 45 [(0,.one (.c (.slc 0 0 (a.length) 1 (.of 0) false))),(1,.one (.c (.slc 1 0 (b.length) 1 (.of 0) false))),(5,.one (.c (.int .i64 (IntKind.i64.wrap (zc'-1)))))] [.live ⟨true,22,1,(.elts .u64 (a:List UInt64)),false⟩,.live ⟨true,22,1,(.elts .u64 (b:List UInt64)),false⟩]))))))):=by kernel_rfl
theorem Kx (cF:List UInt64->List UInt64) (a b:List UInt64) (z:Int):letI za':=((0<=z/\z<(↑a.length:Int))/\0+a.length*1<=(List.map EK.u64.cell a).length/\0<1);letI zb':=((0<=z/\z<(↑b.length:Int))/\0+b.length*1<=(List.map EK.u64.cell b).length/\0<1);letI zc':=0+z.toNat*1;letI zd':=0+z.toNat*1<a.length;letI ze':=0+z.toNat*1<b.length;gR (Fb cF) oI 100 Tryz.f169 [af0] (Nk a b z) [0,1,5] [0,1]=(.br (decide (z >= 0)) (.vc za' (.vc zd' (.vc zb' (.vc ze' (.br (decide (a.getD zc' 0<b.getD zc' 0)) (.leaf (.inr (some ((-1,.t))))) (.vc za' (.vc zd' (.vc zb' (.vc ze' (.br (decide (b.getD zc' 0<a.getD zc' 0)) (.leaf (.inr (some ((1,.t))))) (.leaf (.inl ((.normal,ar 45 [(0,.one (.c (.slc 0 0 (a.length) 1 (.of 0) false))),(1,.one (.c (.slc 1 0 (b.length) 1 (.of 0) false))),(5,.one (.c (.int .i64 (IntKind.i64.wrap (z-1)))))] [.live ⟨true,22,1,(.elts .u64 (a:List UInt64)),false⟩,.live ⟨true,22,1,(.elts .u64 (b:List UInt64)),false⟩])))))))))))))) (.leaf (.inl ((.exit 0,ar 45 [(0,.one (.c (.slc 0 0 (a.length) 1 (.of 0) false))),(1,.one (.c (.slc 1 0 (b.length) 1 (.of 0) false))),(5,.one (.c (.int .i64 (z))))] [.live ⟨true,22,1,(.elts .u64 (a:List UInt64)),false⟩,.live ⟨true,22,1,(.elts .u64 (b:List UInt64)),false⟩]))))):=by kernel_rfl
theorem Wz (cF:List UInt64->List UInt64) (a b:List UInt64) (z:Int):cD (Fb cF) oI 100 Tryz.f169 (rcmpC.drop 6) (Nk a b z) =
 (.leaf (some ((0,.t)))):=by kernel_rfl
theorem pc (xs:List UInt64):0+xs.length*1<=(List.map EK.u64.cell xs).length/\0<1:=⟨by rw [j4];omega,by decide⟩
theorem wS {xs:List UInt64} {n:Nat} (h:n<xs.length):((0:Int)<=(n:Int)/\(n:Int)<(xs.length:Int))/\0+xs.length*1<=(List.map EK.u64.cell xs).length/\0<1:=⟨⟨by omega,by omega⟩,pc xs⟩
theorem wU {xs:List UInt64} {n:Nat} (h:n<xs.length):0+((n:Int)).toNat*1<xs.length:=by rw [Int.toNat_natCast];omega
theorem aeQ (xs:List UInt64) (n:Nat):xs.getD (0+((n:Int)).toNat*1) 0=atF xs n:=by rw [Int.toNat_natCast,Nat.zero_add,Nat.mul_one];rfl
theorem jQ (n:Nat) (h:n<9223372036854775807):IntKind.i64.wrap ((n:Int)-1)=(n:Int)-1:=IntWalk.i64_in _ (by omega)
theorem lT (n:Nat) (h:n<9223372036854775807):IntKind.i64.wrap ((n:Int)+1)=((n+1:Nat):Int):=by rw [IntWalk.i64_in _ (by omega)];omega
theorem whole (xs:List UInt64):List.take xs.length (List.drop 0 xs)=xs:=by rw [List.drop_zero,List.take_length]
theorem OM {xs:List UInt64} (h:xs.length<1125899906842624):0+xs.length<=xs.length/\xs.length<1125899906842624/\0=0/\1=1:=⟨by omega,h,rfl,rfl⟩
theorem okC {xs:List UInt64} (h:xs.length<1099511627776):(0+xs.length<=xs.length/\xs.length<1125899906842624/\0=0/\1=1)/\xk (List.take xs.length (List.drop 0 xs)):=⟨OM (by omega),by rw [whole];exact h⟩
def MK (xs ys:List UInt64):Int :=
 if (gW xs).length ≠ (gW ys).length then (if (gW xs).length<(gW ys).length then -1 else 1) else m8 (gW xs) (gW ys) (gW xs).length
abbrev akZ (a b:List UInt64):Type := { z:Int // -1<=z/\z<a.length/\m8 a b (z+1).toNat=m8 a b a.length }
theorem adn:CallOk Tryz.prog 169 (K2 aLc aLc kInt.rs.res MK) :=
 G2 (E:=Fb gW) Tryz.func169 (c:=ae Tryz.f169) (by kernel_rfl) (ab Tryz.func169 (by kernel_rfl) (by kernel_rfl)) iLc iLc oI MK fun xs ys hx hy=>by
  have hx:xs.length<1099511627776:=hx.2
  have hy:ys.length<1099511627776:=hy.2
  have hE:=WA
  have hcl : ∀ zs:List UInt64,(gW zs).length<=zs.length:=fun zs=>by unfold gW;rw [List.length_take];omega
  have cx:=hcl xs
  have cy:=hcl ys
  refine DoesL.stageE hE 100 2 [0,1] [2,3] (Kw gW xs ys) ?_
  simp only [List.drop_zero,List.take_length]
  refine ⟨⟨⟨by omega,by omega,trivial,trivial⟩,hx⟩,fun _=>⟨⟨⟨by omega,by omega,trivial,trivial⟩,hy⟩,fun _ => ?_⟩⟩
  have ex:MK xs ys=if (gW xs).length ≠ (gW ys).length then (if (gW xs).length<(gW ys).length then -1 else 1) else m8 (gW xs) (gW ys) (gW xs).length:=rfl
  generalize gW xs=a at *
  generalize gW ys=b at *
  refine DoesL.seg hE 100 3 [0,1,5] [0,1] [(0,.as),(1,.as),(5,.int)] [] [] (Wy gW a b) ⟨pc a,fun _=>⟨pc b,fun _=>⟨fun h=>⟨pc a,fun _=>⟨pc b,fun _=>⟨fun h2 => ?_,fun h2 => ?_⟩⟩⟩,fun h=>⟨pc a,fun _ => ?_⟩⟩⟩⟩
  ·simp only [bne_iff_ne,ne_eq,decide_eq_true_eq] at h h2
   exact bB (by rw [ex,if_pos (by omega),if_pos (by omega)])
  ·simp only [bne_iff_ne,ne_eq,decide_eq_false_iff_not] at h h2
   exact bB (by rw [ex,if_pos (by omega),if_neg (by omega)])
  ·simp only [bne_eq_false_iff_eq] at h
   have hl:a.length=b.length:=by omega
   rw [if_neg (by omega)] at ex
   have hw:IntKind.i64.wrap ((a.length:Int)-1)=(a.length:Int)-1:=jQ _ (by omega)
   rw [hw]
   refine DoesL.blockLoopR (B:=af0) (rest:=rcmpC.drop 6) (id:=0) (by kernel_rfl) (fun z:akZ a b=>Nk a b z.1) (fun z=>(z.1+1).toNat) ⟨(a.length:Int)-1,by omega,by omega,by rw [show ((a.length:Int)-1+1).toNat=a.length by omega]⟩ fun z => ?_
   obtain ⟨z,z1,z2,z3⟩:=z
   refine DoesL.iter hE 100 [0,1,5] [0,1] (Kx gW a b z) ⟨fun h0 => ?_,fun h0 => ?_⟩
   ·simp only [ge_iff_le,decide_eq_true_eq] at h0
    obtain ⟨n,rfl⟩ : ∃ n:Nat,z=(n:Int):=⟨z.toNat,by omega⟩
    have na:n<a.length:=by omega
    have nb:n<b.length:=by omega
    rw [aeQ,aeQ,jQ _ (by omega)]
    rw [show ((n:Int)+1).toNat=n+1 by omega] at z3
    have st:m8 a b (n+1)=if atF a n<atF b n then -1 else if atF a n > atF b n then 1 else m8 a b n:=rfl
    refine ⟨wS na,fun _=>⟨wU na,fun _=>⟨by exact wS nb,fun _=>⟨wU nb,fun _=>⟨fun h1 => ?_,fun h1=>⟨wS na,fun _=>⟨wU na,fun _=>⟨wS nb,fun _=>⟨wU nb,fun _=>⟨fun h2 => ?_,fun h2 => ?_⟩⟩⟩⟩⟩⟩⟩⟩⟩⟩
    ·simp only [decide_eq_true_eq] at h1
     exact bB (by rw [ex,<- z3,st,if_pos h1])
    ·simp only [decide_eq_true_eq,decide_eq_false_iff_not] at h1 h2
     exact bB (by rw [ex,<- z3,st,if_neg h1,if_pos h2])
    ·simp only [decide_eq_false_iff_not] at h1 h2
     refine ⟨⟨(n:Int)-1,by omega,by omega,?_⟩,?_,rfl⟩
     ·rw [show ((n:Int)-1+1).toNat=n by omega,<- z3,st,if_neg h1,if_neg h2]
     ·simp only [];omega
   ·simp only [ge_iff_le,decide_eq_false_iff_not] at h0
    obtain rfl:z = -1:=by omega
    refine ⟨rfl,DoesL.ends hE 100 (Wz gW a b (-1)) (bB ?_)⟩
    rw [ex,<- z3]
    rfl
end Go.Proofs.YtgpafcehehaiiaaGreat
namespace Go.Proofs.YtgpafcehehaiiaaGreat
open Go.RowKit
abbrev akA (b:Bool):AV := .one (.c (.bit b))
theorem aa8 (a b:Nat):(if (b:Int) > (a:Int) then (b:Int) else (a:Int))=((max a b:Nat):Int):=by split <;> omega
theorem ahA (xs:List UInt64) (x:UInt64):List.take xs.length (List.drop 0 xs) ++ [x]=xs ++ [x]:=by rw [List.drop_zero,List.take_length]
theorem YD (xs:List UInt64) (x:UInt64):xs.length+1=(xs ++ [x]).length:=by simp
noncomputable abbrev rlessC:List Code:=flat (ae Tryz.f134)
noncomputable abbrev aaw:Code:=aP Tryz.f134 0
abbrev rLI:Res (List UInt64 × Int):=aaz eU64 22
abbrev oLI:Out (List UInt64 × Int):=ahC eU64 22
def xt (xs ys out:List UInt64) (c:Bool) (z:Int):St:=ar 42 [(0,inV 0 xs),(1,inV 1 ys),(6,slV 2 out),(7,akA c),(8,vI z)] [dJ eU64 xs,dJ eU64 ys,adR out]
noncomputable abbrev AE (pF:List UInt64->List UInt64->Int) (lF:List UInt64->Nat->UInt64) (S:UInt64->UInt64->Bool->UInt64) (C:UInt64->UInt64->Bool->Bool) (cF:List UInt64->List UInt64):Env :=
 Ens [(169,K2 aLc aLc kInt.rs.res pF),(167,K2 aL qE kU64.rs.res lF),(93,K3x S C),(168,K1 aLc rL cF)] [168]
theorem Q6:EnvOk (AE MK atF fQ dZ gW):=bn (.cons adn (.cons aeC (.cons sr (.cons abG .nil))))
theorem Gb (pF:List UInt64->List UInt64->Int) (lF:List UInt64->Nat->UInt64) (S:UInt64->UInt64->Bool->UInt64) (C:UInt64->UInt64->Bool->Bool) (cF:List UInt64->List UInt64) (xs ys:List UInt64):letI za':=List.take xs.length (List.drop 0 xs);letI zb':=List.take ys.length (List.drop 0 ys);HL (AE pF lF S C cF) oLI 100 Tryz.f134 (rlessC.take 6) (ah Tryz.f134 [iL.av 0 xs,iL.av 1 ys] [dJ eU64 xs,dJ eU64 ys]) [0,1,6,7,8] [0,1] [(0,.as),(1,.as),(6,.nil 2),(7,.bit),(8,.int)] [] [(22,.u64)]=(.vc (((0+xs.length<=xs.length/\xs.length<1125899906842624/\0=0/\1=1)/\xk za')/\(0+ys.length<=ys.length/\ys.length<1125899906842624/\0=0/\1=1)/\xk zb') (.br (decide (pF za' zb'<0)) (.leaf (.inr (some ((([],1),.t))))) (.leaf (.inl (ar 42 [(0,.one (.c (.slc 0 0 (xs.length) 1 (.of 0) false))),(1,.one (.c (.slc 1 0 (ys.length) 1 (.of 0) false))),(6,.one (.c (.slc 2 0 0 1 (.of 0) false))),(7,.one (.c (.bit (false)))),(8,.one (.c (.int .i64 0)))] [.live ⟨false,0,1,(.elts .u64 (xs:List UInt64)),false⟩,.live ⟨false,0,1,(.elts .u64 (ys:List UInt64)),false⟩,.live ⟨true,22,1,(.elts .u64 ([]:List UInt64)),false⟩]))))):=by kernel_rfl
theorem Gc (pF:List UInt64->List UInt64->Int) (lF:List UInt64->Nat->UInt64) (S:UInt64->UInt64->Bool->UInt64) (C:UInt64->UInt64->Bool->Bool) (cF:List UInt64->List UInt64) (xs ys out:List UInt64) (c:Bool) (z:Int):letI za':=lF (List.take xs.length (List.drop 0 xs)) z.toNat;letI zb':=lF (List.take ys.length (List.drop 0 ys)) z.toNat;letI zc':=(↑ys.length:Int);letI zd':=(↑xs.length:Int);bk (AE pF lF S C cF) 100 aaw (xt xs ys out c z) (fun x=>match x with | .normal=>some ([0,1,6,7,8],[0,1,4]) | _=>some ([0,1,6,7,8],[0,1,2]))=(.vc (0+xs.length*1<=(List.map EK.u64.cell xs).length/\0<1) (.vc (0+ys.length*1<=(List.map EK.u64.cell ys).length/\0<1) (.br (decide (z<if zc' > zd' then zc' else zd')) (.vc ((0+xs.length<=xs.length/\xs.length<1125899906842624/\0=0/\1=1)/\0<=z) (.vc ((0+ys.length<=ys.length/\ys.length<1125899906842624/\0=0/\1=1)/\0<=z) (.vc (0+out.length<=out.length/\out.length+1<=9223372036854775807/\(out.length+1)*8<=140737488355328) (.leaf ((.normal,ar 42 [(0,.one (.c (.slc 0 0 (xs.length) 1 (.of 0) false))),(1,.one (.c (.slc 1 0 (ys.length) 1 (.of 0) false))),(6,.one (.c (.slc 2 0 (out.length+1) 1 (.of 0) false))),(7,.one (.c (.bit (C za' zb' c)))),(8,.one (.c (.int .i64 (IntKind.i64.wrap (z+1)))))] [.live ⟨false,0,1,(.elts .u64 (xs:List UInt64)),false⟩,.live ⟨false,0,1,(.elts .u64 (ys:List UInt64)),false⟩,.live ⟨true,22,1,(.elts .u64 (List.take out.length (List.drop 0 out) ++ [S za' zb' c]:List UInt64)),false⟩])))))) (.leaf ((.exit 0,ar 42 [(0,.one (.c (.slc 0 0 (xs.length) 1 (.of 0) false))),(1,.one (.c (.slc 1 0 (ys.length) 1 (.of 0) false))),(6,.one (.c (.slc 2 0 (out.length) 1 (.of 0) false))),(7,.one (.c (.bit (c)))),(8,.one (.c (.int .i64 (z))))] [.live ⟨false,0,1,(.elts .u64 (xs:List UInt64)),false⟩,.live ⟨false,0,1,(.elts .u64 (ys:List UInt64)),false⟩,.live ⟨true,22,1,(.elts .u64 (out:List UInt64)),false⟩])))))):=by kernel_rfl
theorem Q5 (pF:List UInt64->List UInt64->Int) (lF:List UInt64->Nat->UInt64) (S:UInt64->UInt64->Bool->UInt64) (C:UInt64->UInt64->Bool->Bool) (cF:List UInt64->List UInt64) (xs ys out:List UInt64) (c:Bool) (z:Int):letI za':=List.take out.length (List.drop 0 out);cD (AE pF lF S C cF) oLI 100 Tryz.f134 (rlessC.drop 7) (xt xs ys out c z)=(.vc ((0+out.length<=out.length/\out.length<1125899906842624/\0=0/\1=1)/\xk za') (.leaf (some (((List.take (cF za').length (cF za'),0),(.p ((cF za').length<=(cF za').length))))))):=by kernel_rfl
def nK (xs ys:List UInt64):Nat->List UInt64 × Bool
 | 0=>([],false)
 | k+1=>((nK xs ys k).1 ++ [fQ (atF xs k) (atF ys k) (nK xs ys k).2],dZ (atF xs k) (atF ys k) (nK xs ys k).2)
theorem tY (xs ys:List UInt64) : ∀ k,(nK xs ys k).1.length=k
 | 0=>rfl
 | k+1=>by simp only [nK,List.length_append,tY xs ys k,List.length_singleton]
def jw (xs ys:List UInt64):List UInt64 × Int:=if MK xs ys<0 then ([],1) else (gW (nK xs ys (max xs.length ys.length)).1,0)
theorem HO:CallOk Tryz.prog 134 (K2 aLt aLt rLI jw) :=
 G2 (E:=AE MK atF fQ dZ gW) Tryz.func134 (c:=ae Tryz.f134) (by kernel_rfl) (ab Tryz.func134 (by kernel_rfl) (by kernel_rfl)) iLt iLt oLI jw fun xs ys hx hy=>by
  have hx:xs.length<4294967296:=hx.2
  have hy:ys.length<4294967296:=hy.2
  have hE:=Q6
  refine DoesL.seg hE 100 6 _ _ _ _ _ (Gb MK atF fQ dZ gW xs ys) ?_
  refine ⟨⟨okC (by omega),okC (by omega)⟩,fun _=>⟨fun h => ?_,fun h => ?_⟩⟩
  ·rw [whole,whole] at h
   simp only [decide_eq_true_eq] at h
   exact bB (by rw [jw,if_pos h])
  rw [whole,whole] at h
  simp only [decide_eq_false_iff_not] at h
  have ex:jw xs ys=(gW (nK xs ys (max xs.length ys.length)).1,0):=by rw [jw,if_neg h]
  refine DoesL.blockLoop (B:=aaw) (rest:=rlessC.drop 7) (id:=0) (by kernel_rfl) (fun k : { k:Nat // k<=max xs.length ys.length }=>xt xs ys (nK xs ys k.1).1 (nK xs ys k.1).2 (k.1:Int)) (fun k=>max xs.length ys.length-k.1) ⟨0,by omega⟩ fun k => ?_
  obtain ⟨k,hk⟩:=k
  have hl:=tY xs ys k
  show Does _ _ (xt xs ys (nK xs ys k).1 (nK xs ys k).2 (k:Int)) _
  refine Does.round hE 100 _ (Gc MK atF fQ dZ gW xs ys _ _ (k:Int)) ⟨pc xs,fun _=>⟨pc ys,fun _=>⟨fun h => ?_,fun h => ?_⟩⟩⟩
  ·rw [aa8] at h
   simp only [decide_eq_true_eq] at h
   refine ⟨⟨OM (by omega),by omega⟩,fun _=>⟨⟨OM (by omega),by omega⟩,fun _=>⟨⟨by omega,by omega,by omega⟩,fun _ => ?_⟩⟩⟩
   refine ⟨⟨k+1,by omega⟩,by show max xs.length ys.length-(k+1)<max xs.length ys.length-k;omega,?_⟩
   rw [lT k (by omega),ahA,YD _ (fQ (atF xs k) (atF ys k) (nK xs ys k).2),whole,whole,Int.toNat_natCast]
   rfl
  ·rw [aa8] at h
   simp only [decide_eq_false_iff_not] at h
   obtain rfl:k=max xs.length ys.length:=by omega
   refine ⟨rfl,DoesL.ends hE 100 (Q5 MK atF fQ dZ gW xs ys _ _ _) ⟨okC (by omega),fun _ => ?_⟩⟩
   rw [whole]
   refine D8 ?_ (Nat.le_refl _)
   rw [List.take_length,ex]
end Go.Proofs.YtgpafcehehaiiaaGreat
namespace Go.Proofs.YtgpafcehehaiiaaGreat
open Go.RowKit
end Go.Proofs.YtgpafcehehaiiaaGreat
namespace Go.Proofs.YtgpafcehehaiiaaGreat
open Go.RowKit
noncomputable abbrev rsubC:List Code:=flat (ae Tryz.f95)
noncomputable abbrev afY:Code:=aP Tryz.f95 0
def vK (ty ty':TypeId) (xs ys:List UInt64) (c:Bool) (z:Int):St:=ar 28 [(0,slW 0 xs),(1,slW 1 ys),(4,akA c),(5,vI z)] (afO ty ty' xs ys)
noncomputable abbrev Kp (S:UInt64->UInt64->Bool->UInt64) (C:UInt64->UInt64->Bool->Bool):Env:=En [(93,K3x S C)]
theorem Wf:EnvOk (Kp fQ dZ):=aj (.cons sr .nil)
theorem Kn (S:UInt64->UInt64->Bool->UInt64) (C:UInt64->UInt64->Bool->Bool) (ty ty':TypeId) (xs ys:List UInt64):stageG (Kp S C) 100 (rsubC.take 2) (ah Tryz.f95 [slW 0 xs,slW 1 ys] (afO ty ty' xs ys)) [0,1,4,5] [0,1] [(0,.as),(1,.as),(4,.bit),(5,.int)] [] []=(.leaf (ar 28 [(0,.one (.c (.slc 0 0 (xs.length) 1 (.of 0) false))),(1,.one (.c (.slc 1 0 (ys.length) 1 (.of 0) false))),(4,.one (.c (.bit (false)))),(5,.one (.c (.int .i64 0)))] [.live ⟨true,(ty),1,(.elts .u64 (xs:List UInt64)),true⟩,.live ⟨false,(ty'),1,(.elts .u64 (ys:List UInt64)),false⟩])):=by kernel_rfl
theorem Ko (S:UInt64->UInt64->Bool->UInt64) (C:UInt64->UInt64->Bool->Bool) (ty ty':TypeId) (xs ys:List UInt64) (c:Bool) (z:Int):letI za':=((0<=z/\z<(↑xs.length:Int))/\0+xs.length*1<=(List.map EK.u64.cell xs).length/\0<1);letI zb':=0+z.toNat*1;letI zc':=0+z.toNat*1<xs.length;letI zd':=List.map EK.u64.cell ys;letI ze':=(↑ys.length:Int);bk (Kp S C) 100 afY (vK ty ty' xs ys c z) (same [0,1,4,5] [0,1])=(.vc (0+ys.length*1<=zd'.length/\0<1) (.br (decide (z<ze')) (.vc za' (.vc zc' (.vc ((0<=z/\z<ze')/\0+ys.length*1<=zd'.length/\0<1) (.vc (0+z.toNat*1<ys.length) (.vc za' (.vc zc' (.leaf ((.normal,ar 28 [(0,.one (.c (.slc 0 0 (xs.length) 1 (.of 0) false))),(1,.one (.c (.slc 1 0 (ys.length) 1 (.of 0) false))),(4,.one (.c (.bit (C (xs.getD zb' 0) (ys.getD zb' 0) c)))),(5,.one (.c (.int .i64 (IntKind.i64.wrap (z+1)))))] [.live ⟨true,(ty),1,(.elts .u64 (xs.set zb' (S (xs.getD zb' 0) (ys.getD zb' 0) c):List UInt64)),true⟩,.live ⟨false,(ty'),1,(.elts .u64 (ys:List UInt64)),false⟩]))))))))) (.leaf ((.exit 0,ar 28 [(0,.one (.c (.slc 0 0 (xs.length) 1 (.of 0) false))),(1,.one (.c (.slc 1 0 (ys.length) 1 (.of 0) false))),(4,.one (.c (.bit (c)))),(5,.one (.c (.int .i64 (z))))] [.live ⟨true,(ty),1,(.elts .u64 (xs:List UInt64)),true⟩,.live ⟨false,(ty'),1,(.elts .u64 (ys:List UInt64)),false⟩]))))):=by kernel_rfl
theorem We (S:UInt64->UInt64->Bool->UInt64) (C:UInt64->UInt64->Bool->Bool) (ty ty':TypeId) (xs ys:List UInt64) (c:Bool) (z:Int):ab6 (Kp S C) 100 Tryz.f95 (rsubC.drop 3) (vK ty ty' xs ys c z)=(.leaf (some ((AV.tup [],hpS (afO ty ty' xs ys) 0)))):=by kernel_rfl
theorem adg (xs:List UInt64):letI za':=List.take xs.length (List.drop 0 xs);letI zb':=UInt64.ofNat 0;cD (En []) oF 100 Tryz.f128 (flat (ae Tryz.f128)) (ah Tryz.f128 [iL.av 0 xs] [dJ eU64 xs])=(.vc (0+xs.length<=xs.length) (.leaf (some (({ l0:=kg (Nat.blt 0 xs.length) (za'.getD 0 0) zb',l1:=kg (Nat.blt 1 xs.length) (za'.getD 1 0) zb',l2:=kg (Nat.blt 2 xs.length) (za'.getD 2 0) zb',l3:=kg (Nat.blt 3 xs.length) (za'.getD 3 0) zb',l4:=kg (Nat.blt 4 xs.length) (za'.getD 4 0) zb',l5:=kg (Nat.blt 5 xs.length) (za'.getD 5 0) zb' },.t))))):=by kernel_rfl
theorem ac7 (xs:List UInt64) (k:Nat) (v:UInt64) {j:Nat} (h:j ≠ k):atF (xs.set k v) j=atF xs j:=by
 unfold atF
 rw [List.getD_eq_getElem?_getD,List.getD_eq_getElem?_getD,List.getElem?_set_ne (Ne.symm h)]
def pR:Nat->List UInt64->List UInt64->Bool->List UInt64 × Bool
 | 0,xs,ys,c=>(xs,c)
 | k+1,xs,ys,c=>((pR k xs ys c).1.set k (fQ (atF xs k) (atF ys k) (pR k xs ys c).2),dZ (atF xs k) (atF ys k) (pR k xs ys c).2)
theorem oN (xs ys:List UInt64) (c:Bool) : ∀ k,(pR k xs ys c).1.length=xs.length
 | 0=>rfl
 | k+1=>by simp only [pR,List.length_set,oN xs ys c k]
theorem Oh (xs ys:List UInt64) (c:Bool) : ∀ k j,k<=j->atF (pR k xs ys c).1 j=atF xs j
 | 0,j,_=>rfl
 | k+1,j,h=>by
  simp only [pR]
  rw [ac7 _ _ _ (by omega),Oh xs ys c k j (by omega)]
theorem xq:CallOk Tryz.prog 95 (Kwl fun xs ys=>(pR ys.length xs ys false).1):=by
 refine ai1 (E:=Kp fQ dZ) Tryz.func95 (c:=ae Tryz.f95) (by kernel_rfl) (ab Tryz.func95 (by kernel_rfl) (by kernel_rfl)) (fun xs ys=>oN _ _ _ _) fun ty ty' xs ys h0 hl hb => ?_
 have hE:=Wf
 refine DoesL.stageG hE 100 2 _ _ _ _ _ (Kn fQ dZ ty ty' xs ys) ?_
 refine DoesL.blockLoop (B:=afY) (rest:=rsubC.drop 3) (id:=0) (by kernel_rfl) (fun k : { k:Nat // k<=ys.length }=>vK ty ty' (pR k.1 xs ys false).1 ys (pR k.1 xs ys false).2 (k.1:Int)) (fun k=>ys.length-k.1) ⟨0,by omega⟩ fun k => ?_
 obtain ⟨k,hk⟩:=k
 have hw:=oN xs ys false k
 have ha:=Oh xs ys false k k (Nat.le_refl _)
 show Does _ _ (vK ty ty' (pR k xs ys false).1 ys (pR k xs ys false).2 (k:Int)) _
 refine Does.round hE 100 _ (Ko fQ dZ ty ty' (pR k xs ys false).1 ys (pR k xs ys false).2 (k:Int)) ⟨pc ys,fun _=>⟨fun h => ?_,fun h => ?_⟩⟩
 ·simp only [decide_eq_true_eq] at h
  have k1:k<ys.length:=by omega
  have k2:k<(pR k xs ys false).1.length:=by omega
  refine ⟨wS k2,fun _=>⟨wU k2,fun _=>⟨wS k1,fun _=>⟨wU k1,fun _=>⟨wS k2,fun _=>⟨wU k2,fun _ => ?_⟩⟩⟩⟩⟩⟩
  refine ⟨⟨k+1,by omega⟩,by show ys.length-(k+1)<ys.length-k;omega,?_⟩
  rw [lT k (by omega),aeQ,aeQ,Int.toNat_natCast,Nat.zero_add,Nat.mul_one,ha]
  have e:(pR (k+1) xs ys false).1.length=(pR k xs ys false).1.length:=by rw [oN,oN]
  show _=vK ty ty' (pR (k+1) xs ys false).1 ys (pR (k+1) xs ys false).2 ((k+1:Nat):Int)
  unfold vK slW
  rw [e]
  rfl
 ·simp only [decide_eq_false_iff_not] at h
  obtain rfl:k=ys.length:=by omega
  exact ⟨rfl,DoesL.wends hE 100 (We fQ dZ ty ty' _ ys _ _) (Tree.sat_leaf rfl)⟩
def ofL (xs:List UInt64):Fp:=⟨atF xs 0,atF xs 1,atF xs 2,atF xs 3,atF xs 4,atF xs 5⟩
theorem jl (xs:List UInt64) (k:Nat):kg (Nat.blt k xs.length) ((List.take xs.length (List.drop 0 xs)).getD k 0) (UInt64.ofNat 0)=atF xs k:=by
 rw [whole]
 cases h:Nat.blt k xs.length with
 | true=>rfl
 | false =>
  have : ¬ k<xs.length:=fun h2=>by rw [show Nat.blt k xs.length=true from Nat.ble_eq_true_of_le h2] at h;cases h
  simp only [kg,atF,List.getD_eq_getElem?_getD]
  rw [List.getElem?_eq_none (by omega)]
  rfl
theorem Ni:CallOk Tryz.prog 128 (K1 aL oF.res ofL) :=
 G1 (E:=En []) Tryz.func128 (c:=ae Tryz.f128) (by kernel_rfl) (ab Tryz.func128 (by kernel_rfl) (by kernel_rfl)) iL oF ofL fun xs hx=>by
  refine DoesL.ends (aj .nil) 100 (adg xs) ⟨by omega,fun _=>bB ?_⟩
  rw [jl,jl,jl,jl,jl,jl]
  rfl
abbrev rSu:Res Fp:=rS 22
abbrev oSu:Out Fp:=oS 22
def six (a:Fp):List UInt64 := [a.l0,a.l1,a.l2,a.l3,a.l4,a.l5]
def ai3 (a m:Fp):Prop:=0<(six a).length/\(six m).length<=(six a).length/\(six a).length<4294967296
theorem N5 (a m:Fp):ai3 a m:=⟨Nat.lt_of_lt_of_le (by decide:0<6) (Nat.le_refl 6),Nat.le_refl 6,(by decide:6<4294967296)⟩
abbrev agC:au:=Kwl fun xs ys=>(pR ys.length xs ys false).1
noncomputable abbrev acf (bF:Fp->Fp->Bool):Env:=En [(94,K3x fm ct),(52,K2 aS aS oB.res bF),(95,agC)]
theorem W9:EnvOk (acf dg):=aj (.cons ju (.cons Jl (.cons xq .nil)))
def lfF (a:Fp):Tree (Option (Fp × Pr)) := .leaf (some (a,.t))
def aga (bF:Fp->Fp->Bool) (a b m:Fp):Tree (Option (Fp × Pr)) :=
 .br (b2u (jO a b).2==1) (.vc (ai3 (jO a b).1 m) (lfF (dW (jO a b).1 m).1)) (.br (!(bF (jO a b).1 m)) (.vc (ai3 (jO a b).1 m) (lfF (dW (jO a b).1 m).1)) (lfF (jO a b).1))
theorem W4 (bF:Fp->Fp->Bool) (a b m:Fp):cD (acf bF) oSu 300 Tryz.f59 (flat (ae Tryz.f59)) (ah Tryz.f59 [iS.av 0 a,iS.av 1 b,iS.av 2 m] (iS.hes a++iS.hes b++iS.hes m))=aga bF a b m:=by kernel_rfl
def vj (a b m:Fp):Fp:=match b2u (jO a b).2==1 with
 | true=>(dW (jO a b).1 m).1
 | false=>match !(dg (jO a b).1 m) with
  | true=>(dW (jO a b).1 m).1
  | false=>(jO a b).1
theorem RM (a b m:Fp):(aga dg a b m).sat fun q => ∃ p,q=some (vj a b m,p)/\p.holds:=by
 refine ⟨fun h=>⟨N5 _ _,fun _ => ?_⟩,fun h=>⟨fun h2=>⟨N5 _ _,fun _ => ?_⟩,fun h2 => ?_⟩⟩
 ·exact bB (by unfold vj;rw [h])
 ·exact bB (by unfold vj;rw [h,h2])
 ·exact bB (by unfold vj;rw [h,h2])
theorem adJ:CallOk Tryz.prog 59 (K3 aS aS aS rSu vj) :=
 G3 (E:=acf dg) Tryz.func59 (c:=ae Tryz.f59) (by kernel_rfl) (ab Tryz.func59 (by kernel_rfl) (by kernel_rfl)) iS iS iS oSu vj fun a b m _ _ _=>DoesL.ends W9 300 (W4 dg a b m) (RM a b m)
noncomputable abbrev AM:Env:=En [(94,K3x fm ct),(93,K3x fQ dZ)]
theorem B6:EnvOk AM:=aj (.cons ju (.cons sr .nil))
def ahJ (a b m:Fp):Tree (Option (Fp × Pr)) := .br (b2u (dW a b).2==1) (lfF (jO (dW a b).1 m).1) (lfF (dW a b).1)
theorem SL (a b m:Fp):cD AM oSu 300 Tryz.f58 (flat (ae Tryz.f58)) (ah Tryz.f58 [iS.av 0 a,iS.av 1 b,iS.av 2 m] (iS.hes a++iS.hes b++iS.hes m))=ahJ a b m:=by kernel_rfl
def r8 (a b m:Fp):Fp:=match b2u (dW a b).2==1 with
 | true=>(jO (dW a b).1 m).1
 | false=>(dW a b).1
theorem Yb:CallOk Tryz.prog 58 (K3 aS aS aS rSu r8) :=
 G3 (E:=AM) Tryz.func58 (c:=ae Tryz.f58) (by kernel_rfl) (ab Tryz.func58 (by kernel_rfl) (by kernel_rfl)) iS iS iS oSu r8 fun a b m _ _ _=>DoesL.ends B6 300 (SL a b m)
  ⟨fun h=>bB (by unfold r8;rw [h]),fun h=>bB (by unfold r8;rw [h])⟩
abbrev K3s (F:Fp->Fp->Fp->Fp):au:=K3 aS aS aS rSu F
abbrev Kfp (F:List UInt64->Fp):au:=K1 aL oF.res F
theorem aaa (pF:Fp->Fp->Fp->Fp) (m a b:Fp):ac (Ens [(59,K3s pF),(125,K0 rSu m),(128,Kfp ofL)] [59,125]) rF 100 Tryz.f78 [vF a,vF b] = .leaf (some (pF a b m)):=by kernel_rfl
def rB (a b:Fp):Fp:=vj a b pLimbs
theorem P4:CallOk Tryz.prog 78 (Kff rB):=P2 (bn (.cons adJ (.cons xz (.cons Ni .nil)))) Tryz.func78 (ab Tryz.func78 (by kernel_rfl) (by kernel_rfl)) 100 (aa Fp) (aa Fp) rF rB (aaa vj pLimbs) (fun _ _=>Tree.sat_leaf (by simp only [rB]))
theorem VU (pF:Fp->Fp->Fp->Fp) (m a b:Fp):ac (Ens [(58,K3s pF),(125,K0 rSu m),(128,Kfp ofL)] [58,125]) rF 100 Tryz.f164 [vF a,vF b] = .leaf (some (pF a b m)):=by kernel_rfl
def nJ (a b:Fp):Fp:=r8 a b pLimbs
theorem DT:CallOk Tryz.prog 164 (Kff nJ):=P2 (bn (.cons Yb (.cons xz (.cons Ni .nil)))) Tryz.func164 (ab Tryz.func164 (by kernel_rfl) (by kernel_rfl)) 100 (aa Fp) (aa Fp) rF nJ (VU r8 pLimbs) (fun _ _=>Tree.sat_leaf (by simp only [nJ]))
theorem XK (sF:Fp->Fp->Fp) (a:Fp):ac (En [(164,Kff sF)]) rF 100 Tryz.f127 [vF a] = .leaf (some (sF zeroFp a)):=by kernel_rfl
def Bd (a:Fp):Fp:=nJ zeroFp a
theorem aec:CallOk Tryz.prog 127 (Kf Bd):=P1 (aj (.cons DT .nil)) Tryz.func127 (ab Tryz.func127 (by kernel_rfl) (by kernel_rfl)) 100 (aa Fp) rF Bd (XK nJ) (fun _=>Tree.sat_leaf (by simp only [Bd]))
theorem adZ (n:UInt64):ac (En []) rF 100 Tryz.f76 [vU n] = .leaf (some (ofF n)):=by kernel_rfl
theorem Ns:CallOk Tryz.prog 76 (K1 kU64.arg rF.res ofF):=P1 (aj .nil) Tryz.func76 (ab Tryz.func76 (by kernel_rfl) (by kernel_rfl)) 100 kU64 rF ofF adZ (fun _=>Tree.sat_leaf rfl)
end Go.Proofs.YtgpafcehehaiiaaGreat
namespace Go.Proofs.YtgpafcehehaiiaaGreat
open Go.RowKit
def rmL (x y t c:UInt64):UInt64:=fm (fm t (x*y) false) c false
def rmH (x y t c:UInt64):UInt64:=gr x y+b2u (ct t (x*y) false)+b2u (ct (fm t (x*y) false) c false)
theorem CS (x y:UInt64) (c:Bool):fm x y c=fm y x c:=UInt64.toNat.inj (by rw [o9,o9,Nat.add_comm x.toNat])
theorem uG (x y:UInt64) (c:Bool):ct x y c=ct y x c:=by
 have h1:=k8 x y c
 have h2:=k8 y x c
 rw [Nat.add_comm x.toNat,<- h2] at h1
 cases h3:ct x y c <;> cases h4:ct y x c <;> simp [h3,h4] at h1 <;> rfl
theorem AC (x y t c:UInt64):rmL x y t c=jG x y t c:=by unfold rmL jG;rw [CS t]
theorem AD (x y t c:UInt64):rmH x y t c=fR x y t c:=by unfold rmH fR;rw [CS t,uG t]
def aci (m:Fp) (inv:UInt64) (t0 t1 t2 t3 t4 t5 top:UInt64) (more:Bool):L7 :=
 let x:=t0*inv
 let d0:=gr x m.l0+b2u (ct t0 (x*m.l0) false)
 let d1:=rmH x m.l1 t1 d0
 let d2:=rmH x m.l2 t2 d1
 let d3:=rmH x m.l3 t3 d2
 let d4:=rmH x m.l4 t4 d3
 let d5:=rmH x m.l5 t5 d4
 ⟨rmL x m.l1 t1 d0,rmL x m.l2 t2 d1,rmL x m.l3 t3 d2,rmL x m.l4 t4 d3,rmL x m.l5 t5 d4,fm top d5 false,b2u more+b2u (ct top d5 false)⟩
def pn (ai:UInt64) (b:Fp) (t:L7):Bool :=
 let c0:=rmH ai b.l0 t.t0 0
 let c1:=rmH ai b.l1 t.t1 c0
 let c2:=rmH ai b.l2 t.t2 c1
 let c3:=rmH ai b.l3 t.t3 c2
 let c4:=rmH ai b.l4 t.t4 c3
 let c5:=rmH ai b.l5 t.t5 c4
 ct t.t6 c5 false
def mM (m:Fp) (inv:UInt64) (ai:UInt64) (b:Fp) (t:L7):L7 :=
 let c0:=rmH ai b.l0 t.t0 0
 let c1:=rmH ai b.l1 t.t1 c0
 let c2:=rmH ai b.l2 t.t2 c1
 let c3:=rmH ai b.l3 t.t3 c2
 let c4:=rmH ai b.l4 t.t4 c3
 let c5:=rmH ai b.l5 t.t5 c4
 aci m inv (rmL ai b.l0 t.t0 0) (rmL ai b.l1 t.t1 c0) (rmL ai b.l2 t.t2 c1) (rmL ai b.l3 t.t3 c2) (rmL ai b.l4 t.t4 c3) (rmL ai b.l5 t.t5 c4) (fm t.t6 c5 false) (ct t.t6 c5 false)
noncomputable abbrev montC:List Code:=flat (ae Tryz.f60)
noncomputable abbrev nS:Code:=aP Tryz.f60 1
noncomputable abbrev re (bF:Fp->Fp->Bool):Env:=En [(96,K2 kU64.arg kU64.arg (kU64.rs2 kU64).res fun x y=>(gr x y,x*y)),(94,K3x fm ct),(52,K2 aS aS oB.res bF),(95,agC)]
theorem X4:EnvOk (re dg):=aj (.cons sI (.cons ju (.cons Jl (.cons xq .nil))))
def slR (i n:Nat):AV := .one (.c (.slc i 0 n 1 (.of 0) true))
def mSt (a b m:Fp) (inv:UInt64) (k:Nat) (t:List Cell):St :=
 ar 222 [(0,slR 0 6),(1,slR 1 6),(2,slR 2 6),(7,abf 6),(8,vU inv),(10,slR 3 8),(11,abf k)] [.live ⟨false,0,1,.row (Row.cs a),false⟩,.live ⟨false,0,1,.row (Row.cs b),false⟩,.live ⟨false,0,1,.row (Row.cs m),false⟩,.live ⟨true,22,1,.row t,false⟩]
def mO:X->Option (List Nat × List Nat):=same [0,1,2,7,8,10,11] [0,1,2,3]
def iI (t:L7) (h:Bool):List Cell:=t.cs ++ [.bit h]
def aa3 (m x:UInt64):UInt64:=x*(2-m*x)
def bP (m:UInt64):UInt64:=0-aa3 m (aa3 m (aa3 m (aa3 m (aa3 m (aa3 m m)))))
set_option maxRecDepth 100000
theorem LC (bF:Fp->Fp->Bool) (a b m:Fp):b7 (re bF) 300 (montC.take 8) (ah Tryz.f60 [iS.av 0 a,iS.av 1 b,iS.av 2 m] (iS.hes a++iS.hes b++iS.hes m)) [0,1,2,7,8,10,11] [0,1,2,3] = .leaf (mSt a b m (bP m.l0) 0 (bJ 8)):=by kernel_rfl
theorem Gs (bF:Fp->Fp->Bool) (a b m:Fp) (inv:UInt64):bk (re bF) 300 nS (mSt a b m inv 0 (bJ 8)) mO = .leaf (.normal,mSt a b m inv 1 (iI (mM m inv a.l0 b ⟨0,0,0,0,0,0,0⟩) (pn a.l0 b ⟨0,0,0,0,0,0,0⟩))):=by kernel_rfl
theorem Gr (bF:Fp->Fp->Bool) (a b m:Fp) (inv:UInt64) (t:L7) (h:Bool):bk (re bF) 300 nS (mSt a b m inv 1 (iI t h)) mO = .leaf (.normal,mSt a b m inv 2 (iI (mM m inv a.l1 b t) (pn a.l1 b t))):=by kernel_rfl
theorem Gq (bF:Fp->Fp->Bool) (a b m:Fp) (inv:UInt64) (t:L7) (h:Bool):bk (re bF) 300 nS (mSt a b m inv 2 (iI t h)) mO = .leaf (.normal,mSt a b m inv 3 (iI (mM m inv a.l2 b t) (pn a.l2 b t))):=by kernel_rfl
theorem Gp (bF:Fp->Fp->Bool) (a b m:Fp) (inv:UInt64) (t:L7) (h:Bool):bk (re bF) 300 nS (mSt a b m inv 3 (iI t h)) mO = .leaf (.normal,mSt a b m inv 4 (iI (mM m inv a.l3 b t) (pn a.l3 b t))):=by kernel_rfl
theorem Gn (bF:Fp->Fp->Bool) (a b m:Fp) (inv:UInt64) (t:L7) (h:Bool):bk (re bF) 300 nS (mSt a b m inv 4 (iI t h)) mO = .leaf (.normal,mSt a b m inv 5 (iI (mM m inv a.l4 b t) (pn a.l4 b t))):=by kernel_rfl
theorem Gm (bF:Fp->Fp->Bool) (a b m:Fp) (inv:UInt64) (t:L7) (h:Bool):bk (re bF) 300 nS (mSt a b m inv 5 (iI t h)) mO = .leaf (.normal,mSt a b m inv 6 (iI (mM m inv a.l5 b t) (pn a.l5 b t))):=by kernel_rfl
theorem XZ (bF:Fp->Fp->Bool) (a b m:Fp) (inv:UInt64) (t:L7) (h:Bool):bk (re bF) 300 nS (mSt a b m inv 6 (iI t h)) mO = .leaf (.exit 2,mSt a b m inv 6 (iI t h)):=by kernel_rfl
def ab3 (m:Fp):Prop:=0<8/\6<=8/\8<4294967296
def agc (bF:Fp->Fp->Bool) (m:Fp) (t:L7):Tree (Option (Fp × Pr)) :=
 .br (t.t6 != 0) (.vc (ab3 m) (lfF (dW t.low m).1)) (.br (!(bF t.low m)) (.vc (ab3 m) (lfF (dW t.low m).1)) (lfF t.low))
theorem X0 (bF:Fp->Fp->Bool) (a b m:Fp) (inv:UInt64) (t:L7) (h:Bool):cD (re bF) oSu 300 Tryz.f60 (montC.drop 9) (mSt a b m inv 6 (iI t h))=agc bF m t:=by kernel_rfl
def rY (m:Fp) (t:L7):Fp:=match t.t6 != 0 with
 | true=>(dW t.low m).1
 | false=>match !(dg t.low m) with
  | true=>(dW t.low m).1
  | false=>t.low
def Fs (a b m:Fp):L7:=mM m (bP m.l0) a.l0 b ⟨0,0,0,0,0,0,0⟩
def Fq (a b m:Fp):L7:=mM m (bP m.l0) a.l1 b (Fs a b m)
def Fo (a b m:Fp):L7:=mM m (bP m.l0) a.l2 b (Fq a b m)
def Fn (a b m:Fp):L7:=mM m (bP m.l0) a.l3 b (Fo a b m)
def Fm (a b m:Fp):L7:=mM m (bP m.l0) a.l4 b (Fn a b m)
def xT (a b m:Fp):L7:=mM m (bP m.l0) a.l5 b (Fm a b m)
def Be (a b m:Fp):Fp:=rY m (xT a b m)
theorem SC (m:Fp) (t:L7):(agc dg m t).sat fun q => ∃ p,q=some (rY m t,p)/\p.holds:=by
 have w:ab3 m:=⟨by decide,by decide,by decide⟩
 refine ⟨fun h=>⟨w,fun _ => ?_⟩,fun h=>⟨fun h2=>⟨w,fun _ => ?_⟩,fun h2 => ?_⟩⟩
 ·exact bB (by unfold rY;rw [h])
 ·exact bB (by unfold rY;rw [h,h2])
 ·exact bB (by unfold rY;rw [h,h2])
def mAt (a b m:Fp) (q:Fin 7 × Bool):St :=
 match q.1 with
 | 0=>mSt a b m (bP m.l0) 0 (bJ 8)
 | 1=>mSt a b m (bP m.l0) 1 (iI (Fs a b m) q.2)
 | 2=>mSt a b m (bP m.l0) 2 (iI (Fq a b m) q.2)
 | 3=>mSt a b m (bP m.l0) 3 (iI (Fo a b m) q.2)
 | 4=>mSt a b m (bP m.l0) 4 (iI (Fn a b m) q.2)
 | 5=>mSt a b m (bP m.l0) 5 (iI (Fm a b m) q.2)
 | 6=>mSt a b m (bP m.l0) 6 (iI (xT a b m) q.2)
theorem xR:montC.drop 8 = .block 2 (.loop nS) :: montC.drop 9:=by kernel_rfl
theorem aek:CallOk Tryz.prog 60 (K3 aS aS aS rSu Be) :=
 G3 (E:=re dg) Tryz.func60 (c:=ae Tryz.f60) (by kernel_rfl) (ab Tryz.func60 (by kernel_rfl) (by kernel_rfl)) iS iS iS oSu Be fun a b m _ _ _=>by
  have hE:=X4
  refine DoesL.stageTo hE 300 8 _ _ (LC dg a b m) ?_
  refine DoesL.blockLoop xR (mAt a b m) (fun q=>6-q.1.1) (0,false) fun q => ?_
  obtain ⟨k,h⟩:=q
  match k with
  | 0=>exact Does.round hE 300 mO (Gs dg a b m _) ⟨(1,pn a.l0 b ⟨0,0,0,0,0,0,0⟩),by show 6-1<6-0;decide,by simp only [mAt,Fs]⟩
  | 1=>exact Does.round hE 300 mO (Gr dg a b m _ (Fs a b m) h) ⟨(2,pn a.l1 b (Fs a b m)),by show 6-2<6-1;decide,by simp only [mAt,Fq]⟩
  | 2=>exact Does.round hE 300 mO (Gq dg a b m _ (Fq a b m) h) ⟨(3,pn a.l2 b (Fq a b m)),by show 6-3<6-2;decide,by simp only [mAt,Fo]⟩
  | 3=>exact Does.round hE 300 mO (Gp dg a b m _ (Fo a b m) h) ⟨(4,pn a.l3 b (Fo a b m)),by show 6-4<6-3;decide,by simp only [mAt,Fn]⟩
  | 4=>exact Does.round hE 300 mO (Gn dg a b m _ (Fn a b m) h) ⟨(5,pn a.l4 b (Fn a b m)),by show 6-5<6-4;decide,by simp only [mAt,Fm]⟩
  | 5=>exact Does.round hE 300 mO (Gm dg a b m _ (Fm a b m) h) ⟨(6,pn a.l5 b (Fm a b m)),by show 6-6<6-5;decide,by simp only [mAt,xT]⟩
  | 6=>exact Does.round hE 300 mO (XZ dg a b m _ (xT a b m) h) ⟨rfl,DoesL.ends hE 300 (X0 dg a b m _ (xT a b m) h) (SC m (xT a b m))⟩
theorem XX (pF:Fp->Fp->Fp->Fp) (m a b:Fp):ac (Ens [(60,K3s pF),(125,K0 rSu m),(128,Kfp ofL)] [60,125]) rF 100 Tryz.f79 [vF a,vF b] = .leaf (some (pF (pF a b m) sqLimbs m)):=by kernel_rfl
def eQ (a b:Fp):Fp:=Be (Be a b pLimbs) sqLimbs pLimbs
theorem xQ:CallOk Tryz.prog 79 (Kff eQ):=P2 (bn (.cons aek (.cons xz (.cons Ni .nil)))) Tryz.func79 (ab Tryz.func79 (by kernel_rfl) (by kernel_rfl)) 100 (aa Fp) (aa Fp) rF eQ (XX Be pLimbs) (fun _ _=>Tree.sat_leaf (by simp only [eQ]))
end Go.Proofs.YtgpafcehehaiiaaGreat
namespace Go.Proofs.YtgpafcehehaiiaaGreat
open Go.RowKit
abbrev ak2 (F:UInt64->Fp):au:=K1 kU64.arg rF.res F
noncomputable abbrev powPC:List Code:=flat (ae Tryz.f122)
noncomputable abbrev af8:Code:=aP Tryz.f122 0
noncomputable abbrev KZ (oF':UInt64->Fp) (mF:Fp->Fp->Fp) (bF:List UInt64->Nat->UInt64):Env:=En [(76,ak2 oF'),(79,Kff mF),(166,K2 aL FN kU64.rs.res bF)]
theorem WY:EnvOk (KZ ofF eQ tz):=aj (.cons Ns (.cons xQ (.cons abL .nil)))
def Ff (e:List UInt64) (a x:Fp) (z:Int):St:=ar 27 [(1,inV 0 e),(2,a8 1),(4,a8 2),(5,a8 3),(6,vI z)] [dJ eU64 e,own 31 (Row.cs a),own 31 (bJ 6),own 31 (Row.cs x)]
theorem KX (oF':UInt64->Fp) (mF:Fp->Fp->Fp) (bF:List UInt64->Nat->UInt64) (a:Fp) (e:List UInt64):b7 (KZ oF' mF bF) 100 (powPC.take 3) (ah Tryz.f122 [vF a,iL.av 0 e] [dJ eU64 e]) [1,2,4,5,6] [0,1,2,3]=(.vc (0+e.length*1<=(List.map EK.u64.cell e).length/\0<1) (.leaf (ar 27 [(1,.one (.c (.slc 0 0 (e.length) 1 (.of 0) false))),(2,.one (.c (.ptr 1 0))),(4,.one (.c (.ptr 2 0))),(5,.one (.c (.ptr 3 0))),(6,.one (.c (.int .i64 (IntKind.i64.wrap (IntKind.i64.wrap (64*(↑e.length:Int))-1)))))] [.live ⟨false,0,1,(.elts .u64 (e:List UInt64)),false⟩,.live ⟨true,31,0,(.row (Row.cs (a:Fp))),false⟩,.live ⟨true,31,0,(.row [(.lit .u64 0),(.lit .u64 0),(.lit .u64 0),(.lit .u64 0),(.lit .u64 0),(.lit .u64 0)]),false⟩,.live ⟨true,31,0,(.row (Row.cs (oF' (UInt64.ofNat 1):Fp))),false⟩]))):=by kernel_rfl
theorem KY (oF':UInt64->Fp) (mF:Fp->Fp->Fp) (bF:List UInt64->Nat->UInt64) (a x:Fp) (e:List UInt64) (z:Int):letI za':=(Row.cs (a:Fp));letI zb':=IntKind.i64.wrap (z-1);bk (KZ oF' mF bF) 100 af8 (Ff e a x z) (same [1,2,4,5,6] [0,1,2,3])=(.br (decide (z >= 0)) (.vc ((0+e.length<=e.length/\e.length<1125899906842624/\0=0/\1=1)/\0<=z/\z<9223372036854775808) (.br (bF (List.take e.length (List.drop 0 e)) z.toNat==UInt64.ofNat 1) (.leaf ((.normal,ar 27 [(1,.one (.c (.slc 0 0 (e.length) 1 (.of 0) false))),(2,.one (.c (.ptr 1 0))),(4,.one (.c (.ptr 2 0))),(5,.one (.c (.ptr 3 0))),(6,.one (.c (.int .i64 zb')))] [.live ⟨false,0,1,(.elts .u64 (e:List UInt64)),false⟩,.live ⟨true,31,0,(.row za'),false⟩,.live ⟨true,31,0,(.row [(.lit .u64 0),(.lit .u64 0),(.lit .u64 0),(.lit .u64 0),(.lit .u64 0),(.lit .u64 0)]),false⟩,.live ⟨true,31,0,(.row (Row.cs (mF (mF x x) a:Fp))),false⟩]))) (.leaf ((.normal,ar 27 [(1,.one (.c (.slc 0 0 (e.length) 1 (.of 0) false))),(2,.one (.c (.ptr 1 0))),(4,.one (.c (.ptr 2 0))),(5,.one (.c (.ptr 3 0))),(6,.one (.c (.int .i64 zb')))] [.live ⟨false,0,1,(.elts .u64 (e:List UInt64)),false⟩,.live ⟨true,31,0,(.row za'),false⟩,.live ⟨true,31,0,(.row [(.lit .u64 0),(.lit .u64 0),(.lit .u64 0),(.lit .u64 0),(.lit .u64 0),(.lit .u64 0)]),false⟩,.live ⟨true,31,0,(.row (Row.cs (mF x x:Fp))),false⟩]))))) (.leaf ((.exit 0,ar 27 [(1,.one (.c (.slc 0 0 (e.length) 1 (.of 0) false))),(2,.one (.c (.ptr 1 0))),(4,.one (.c (.ptr 2 0))),(5,.one (.c (.ptr 3 0))),(6,.one (.c (.int .i64 (z))))] [.live ⟨false,0,1,(.elts .u64 (e:List UInt64)),false⟩,.live ⟨true,31,0,(.row za'),false⟩,.live ⟨true,31,0,(.row [(.lit .u64 0),(.lit .u64 0),(.lit .u64 0),(.lit .u64 0),(.lit .u64 0),(.lit .u64 0)]),false⟩,.live ⟨true,31,0,(.row (Row.cs (x:Fp))),false⟩])))):=by kernel_rfl
theorem WW (oF':UInt64->Fp) (mF:Fp->Fp->Fp) (bF:List UInt64->Nat->UInt64) (a x:Fp) (e:List UInt64) (z:Int):cD (KZ oF' mF bF) oF 100 Tryz.f122 (powPC.drop 4) (Ff e a x z) =
 (.leaf (some ((x,.t)))):=by kernel_rfl
def qa (a:Fp) (e:List UInt64):Nat->Fp->Fp
 | 0,x=>x
 | n+1,x=>qa a e n (match df e n with | true=>eQ (eQ x x) a | false=>eQ x x)
def xH (a:Fp) (e:List UInt64):Fp:=qa a e (64*e.length) (ofF 1)
abbrev ai0 (a:Fp) (e:List UInt64):Type := { q:Int × Fp // -1<=q.1/\q.1<64*e.length/\qa a e (q.1+1).toNat q.2=xH a e }
theorem adF:CallOk Tryz.prog 122 (K2 (aa Fp).arg aL rF.res xH) :=
 G2 (E:=KZ ofF eQ tz) Tryz.func122 (c:=ae Tryz.f122) (by kernel_rfl) (ab Tryz.func122 (by kernel_rfl) (by kernel_rfl)) (aa Fp).inp iL oF xH fun a e _ he=>by
  have he:e.length<1125899906842624:=he
  have hE:=WY
  refine DoesL.stageE hE 100 3 _ _ (KX ofF eQ tz a e) ⟨pc e,fun _ => ?_⟩
  have hw:IntKind.i64.wrap (IntKind.i64.wrap (64*(e.length:Int))-1)=64*(e.length:Int)-1:=by rw [IntWalk.i64_in (64*(e.length:Int)) (by omega),IntWalk.i64_in _ (by omega)]
  rw [hw]
  refine DoesL.blockLoop (B:=af8) (rest:=powPC.drop 4) (id:=0) (by kernel_rfl) (fun q:ai0 a e=>Ff e a q.1.2 q.1.1) (fun q=>(q.1.1+1).toNat) ⟨(64*(e.length:Int)-1,ofF 1),by simp only [];omega,by simp only [];omega,by
   simp only []
   rw [show (64*(e.length:Int)-1+1).toNat=64*e.length by omega]
   rfl⟩ fun q => ?_
  obtain ⟨⟨z,x⟩,h0,h1,h2⟩:=q
  simp only [] at h0 h1 h2
  show Does _ _ (Ff e a x z) _
  refine Does.round hE 100 _ (KY ofF eQ tz a x e z) ⟨fun h => ?_,fun h => ?_⟩
  ·simp only [ge_iff_le,decide_eq_true_eq] at h
   obtain ⟨n,rfl⟩ : ∃ n:Nat,z=(n:Int):=⟨z.toNat,by omega⟩
   rw [jQ n (by omega),whole,Int.toNat_natCast]
   rw [show ((n:Int)+1).toNat=n+1 by omega] at h2
   simp only [qa] at h2
   have hb:(tz e n==UInt64.ofNat 1)=df e n:=by
    unfold tz
    cases df e n <;> rfl
   rw [hb]
   refine ⟨⟨OM he,by omega,by omega⟩,fun _=>⟨fun h3 => ?_,fun h3 => ?_⟩⟩
   all_goals
    have hn:((n:Int)-1+1).toNat=n:=by omega
    rw [h3] at h2
    simp only [] at h2
   ·refine ⟨⟨((n:Int)-1,eQ (eQ x x) a),?_,?_,?_⟩,?_,?_⟩
    ·show -1<=(n:Int)-1;omega
    ·show (n:Int)-1<64*e.length;omega
    ·simpa only [hn] using h2
    ·show ((n:Int)-1+1).toNat<((n:Int)+1).toNat;omega
    ·kernel_rfl
   ·refine ⟨⟨((n:Int)-1,eQ x x),?_,?_,?_⟩,?_,?_⟩
    ·show -1<=(n:Int)-1;omega
    ·show (n:Int)-1<64*e.length;omega
    ·simpa only [hn] using h2
    ·show ((n:Int)-1+1).toNat<((n:Int)+1).toNat;omega
    ·kernel_rfl
  ·simp only [ge_iff_le,decide_eq_false_iff_not] at h
   obtain rfl:z = -1:=by omega
   exact ⟨rfl,DoesL.ends hE 100 (WW ofF eQ tz a x e (-1)) (bB (by
    rw [show ((-1:Int)+1).toNat=0 from rfl] at h2
    simp only [qa] at h2
    exact h2))⟩
abbrev akg (F:Fp->List UInt64->Fp):au:=K2 (aa Fp).arg aL rF.res F
noncomputable abbrev agh (m:Fp) (lF:List UInt64->List UInt64->List UInt64 × Int) (pF:Fp->List UInt64->Fp):Env:=Ens [(125,K0 rSu m),(134,K2 aLt aLt rLI lF),(122,akg pF)] [125,134]
theorem YJ (m:Fp) (lF:List UInt64->List UInt64->List UInt64 × Int) (pF:Fp->List UInt64->Fp) (a:Fp):letI za':=lF [m.l0,m.l1,m.l2,m.l3,m.l4,m.l5] [UInt64.ofNat 2];ac (agh m lF pF) rFI 100 Tryz.f114 [vF a]=(.br (la (a) ({ l0:=UInt64.ofNat 0,l1:=UInt64.ofNat 0,l2:=UInt64.ofNat 0,l3:=UInt64.ofNat 0,l4:=UInt64.ofNat 0,l5:=UInt64.ofNat 0 })) (.leaf (some ((a,7)))) (.vc (aap [m.l0,m.l1,m.l2,m.l3,m.l4,m.l5]/\aap [UInt64.ofNat 2]) (.vc (0+za'.fst.length<=za'.fst.length/\za'.fst.length<1125899906842624/\0=0/\1=1) (.leaf (some ((pF a (List.take za'.fst.length (List.drop 0 za'.fst)),0))))))):=by kernel_rfl
theorem Zt (xs:List UInt64):(gW xs).length<=xs.length:=by unfold gW;rw [List.length_take];omega
theorem BK (xs ys:List UInt64):(jw xs ys).1.length<=max xs.length ys.length:=by
 unfold jw
 split
 ·simp
 ·have h:=Zt (nK xs ys (max xs.length ys.length)).1
  rw [tY] at h
  exact h
theorem RW:pLimbs.list.length=6:=rfl
def pm2:List UInt64:=(jw pLimbs.list [2]).1
def pv (a:Fp):Fp × Int:=match la a zeroFp with | true=>(a,7) | false=>(xH a pm2,0)
theorem adI:pm2.length<=6:=BK pLimbs.list [2]
theorem Pa:CallOk Tryz.prog 114 (K1 (aa Fp).arg rFI.res pv) :=
 P1 (E:=agh pLimbs jw xH) (bn (.cons xz (.cons HO (.cons adF .nil)))) Tryz.func114 (ab Tryz.func114 (by kernel_rfl) (by kernel_rfl)) 100 (aa Fp) rFI pv (YJ pLimbs jw xH)
  (fun a=>by
   refine ⟨fun h => ?_,fun h=>⟨⟨?_,?_⟩,fun _=>⟨OM ?_,fun _ => ?_⟩⟩⟩
   ·have h:la a zeroFp=true:=h
    exact congrArg some (by unfold pv;rw [h])
   ·show pLimbs.list.length<_;rw [RW];decide
   ·show 1<4294967296;decide
   ·exact Nat.lt_of_le_of_lt adI (by decide)
   ·have h:la a zeroFp=false:=h
    rw [whole]
    exact congrArg some (by unfold pv;rw [h];rfl))
end Go.Proofs.YtgpafcehehaiiaaGreat
namespace Go.Proofs.YtgpafcehehaiiaaGreat
open Go.RowKit
section
def rLimbs:Fr:=⟨0xffffffff00000001,0x53bda402fffe5bfe,0x3339d80809a1d805,0x73eda753299d7d48⟩
def sq4Limbs:Fr:=⟨0xc999e990f3f29c6d,0x2b6cedcb87925c23,0x05d314967254398f,0x0748d9d99f59ff11⟩
def zeroFr:Fr:=⟨0,0,0,0⟩
def oneFr:Fr:=⟨1,0,0,0⟩
abbrev r4:Rs Fr:=(aa Fr).rs
abbrev v4 (a:Fr):AV := .one ((aa Fr).av a)
abbrev Kr1 (F:Fr->Fr):au:=K1 (aa Fr).arg r4.res F
abbrev Kr2 (F:Fr->Fr->Fr):au:=K2 (aa Fr).arg (aa Fr).arg r4.res F
abbrev Krb (F:Fr->Bool):au:=K1 (aa Fr).arg kBool.rs.res F
def Fr.list (a:Fr):List UInt64 := [a.l0,a.l1,a.l2,a.l3]
def fw (a b:Fr):Bool:=a.l0==b.l0 && (a.l1==b.l1 && (a.l2==b.l2 && (a.l3==b.l3 && true)))
theorem oY (a b:Fr):fw a b=true <-> a=b:=by
 cases a;cases b
 simp [fw]
abbrev oS4 (ty:TypeId):Out Fr:=aaR Fr ty 4 (fun _=>rfl)
abbrev iS4:Inp Fr:=abk Fr 4 (fun _=>rfl)
abbrev aS4:Arg Fr:=NX Fr
abbrev rS4 (ty:TypeId):Res Fr:=Nj Fr ty 4 (fun _=>rfl)
theorem Wt:cD (En []) (oS4 22) 100 Tryz.f53 (flat (ae Tryz.f53)) (ah Tryz.f53 [] []) = .leaf (some (rLimbs,.t)):=by kernel_rfl
theorem te:CallOk Tryz.prog 53 (K0 (rS4 22) rLimbs) :=
 G0 (E:=En []) Tryz.func53 (c:=ae Tryz.f53) (by kernel_rfl) (ab Tryz.func53 (by kernel_rfl) (by kernel_rfl)) (oS4 22) rLimbs (DoesL.ends (aj .nil) 100 Wt ⟨.t,rfl,trivial⟩)
theorem u6:CallOk Tryz.prog 145 (K0 r4.res rLimbs):=P0 M2 Tryz.func145 (ab Tryz.func145 (by kernel_rfl) (by kernel_rfl)) 100 r4 rLimbs (T := .leaf (some rLimbs)) (by kernel_rfl) rfl
theorem aiY (m:Fr):cD (En [(145,K0 r4.res m)]) (oS4 24) 100 Tryz.f100 (flat (ae Tryz.f100)) (ah Tryz.f100 [] []) = .leaf (some (m,.t)):=by kernel_rfl
theorem agA:CallOk Tryz.prog 100 (K0 (rS4 24) rLimbs) :=
 G0 (E:=En [(145,K0 r4.res rLimbs)]) Tryz.func100 (c:=ae Tryz.f100) (by kernel_rfl) (ab Tryz.func100 (by kernel_rfl) (by kernel_rfl)) (oS4 24) rLimbs (DoesL.ends (aj (.cons u6 .nil)) 100 (aiY rLimbs) ⟨.t,rfl,trivial⟩)
def bU (a m:Fr):Bool :=
 match a.l3 != m.l3 with
 | true=>decide (a.l3<m.l3)
 | false=>match a.l2 != m.l2 with
  | true=>decide (a.l2<m.l2)
  | false=>match a.l1 != m.l1 with
   | true=>decide (a.l1<m.l1)
   | false=>match a.l0 != m.l0 with
    | true=>decide (a.l0<m.l0)
    | false=>false
def PU (a m:Fr):Tree (Option (Bool × Pr)) :=
 .br (a.l3 != m.l3) (lfB (decide (a.l3<m.l3))) (.br (a.l2 != m.l2) (lfB (decide (a.l2<m.l2))) (.br (a.l1 != m.l1) (lfB (decide (a.l1<m.l1))) (.br (a.l0 != m.l0) (lfB (decide (a.l0<m.l0))) (lfB false))))
theorem MR (a m:Fr):cD (En []) oB 100 Tryz.f52 (flat (ae Tryz.f52)) (ah Tryz.f52 [iS4.av 0 a,iS4.av 1 m] (iS4.hes a++iS4.hes m))=PU a m:=by kernel_rfl
theorem Hb (a m:Fr):(PU a m).sat fun q => ∃ p,q=some (bU a m,p)/\p.holds:=by
 unfold bU
 refine ⟨fun h => ?_,fun h => ?_⟩ <;> rw [h]
 ·exact ⟨.t,rfl,trivial⟩
 refine ⟨fun h => ?_,fun h => ?_⟩ <;> rw [h]
 ·exact ⟨.t,rfl,trivial⟩
 refine ⟨fun h => ?_,fun h => ?_⟩ <;> rw [h]
 ·exact ⟨.t,rfl,trivial⟩
 refine ⟨fun h => ?_,fun h => ?_⟩ <;> rw [h]
 ·exact ⟨.t,rfl,trivial⟩
 ·exact ⟨.t,rfl,trivial⟩
theorem uE:CallOk Tryz.prog 52 (K2 aS4 aS4 oB.res bU) :=
 G2 (E:=En []) Tryz.func52 (c:=ae Tryz.f52) (by kernel_rfl) (ab Tryz.func52 (by kernel_rfl) (by kernel_rfl)) iS4 iS4 oB bU fun a m _ _=>DoesL.ends (aj .nil) 100 (MR a m) (Hb a m)
def gP (a:Fr):Bool:=bU a rLimbs
theorem Yf (bF:Fr->Fr->Bool) (m a:Fr):ac (Ens [(52,K2 aS4 aS4 oB.res bF),(53,K0 (rS4 22) m)] [53]) kBool.rs 100 Tryz.f22 [v4 a] = .leaf (some (bF a m)):=by kernel_rfl
theorem aeo:CallOk Tryz.prog 22 (Krb gP):=P1 (bn (.cons uE (.cons te .nil))) Tryz.func22 (ab Tryz.func22 (by kernel_rfl) (by kernel_rfl)) 100 (aa Fr) kBool.rs gP (Yf bU rLimbs) (fun _=>Tree.sat_leaf (by simp only [gP]))
def ad0 (xs:List UInt64):Fr:=⟨atF xs 0,atF xs 1,atF xs 2,atF xs 3⟩
abbrev oF4:Out Fr:=r4.out
theorem adf (xs:List UInt64):letI za':=List.take xs.length (List.drop 0 xs);letI zb':=UInt64.ofNat 0;cD (En []) oF4 100 Tryz.f57 (flat (ae Tryz.f57)) (ah Tryz.f57 [iL.av 0 xs] [dJ eU64 xs])=(.vc (0+xs.length<=xs.length) (.leaf (some (({ l0:=kg (Nat.blt 0 xs.length) (za'.getD 0 0) zb',l1:=kg (Nat.blt 1 xs.length) (za'.getD 1 0) zb',l2:=kg (Nat.blt 2 xs.length) (za'.getD 2 0) zb',l3:=kg (Nat.blt 3 xs.length) (za'.getD 3 0) zb' },.t))))):=by kernel_rfl
theorem Nh:CallOk Tryz.prog 57 (K1 aL oF4.res ad0) :=
 G1 (E:=En []) Tryz.func57 (c:=ae Tryz.f57) (by kernel_rfl) (ab Tryz.func57 (by kernel_rfl) (by kernel_rfl)) iL oF4 ad0 fun xs hx=>by
  refine DoesL.ends (aj .nil) 100 (adf xs) ⟨by omega,fun _=>bB ?_⟩
  rw [jl,jl,jl,jl]
  rfl
def cp (a b:Fr):Fr × Bool :=
 let c0:=ct a.l0 b.l0 false
 let c1:=ct a.l1 b.l1 c0
 let c2:=ct a.l2 b.l2 c1
 (⟨fm a.l0 b.l0 false,fm a.l1 b.l1 c0,fm a.l2 b.l2 c1,fm a.l3 b.l3 c2⟩,ct a.l3 b.l3 c2)
def cC (a b:Fr):Fr × Bool :=
 let c0:=dZ a.l0 b.l0 false
 let c1:=dZ a.l1 b.l1 c0
 let c2:=dZ a.l2 b.l2 c1
 (⟨fQ a.l0 b.l0 false,fQ a.l1 b.l1 c0,fQ a.l2 b.l2 c1,fQ a.l3 b.l3 c2⟩,dZ a.l3 b.l3 c2)
abbrev U9:Res Fr:=rS4 22
abbrev aa1:Out Fr:=oS4 22
def four (a:Fr):List UInt64 := [a.l0,a.l1,a.l2,a.l3]
def ab5 (a m:Fr):Prop:=0<(four a).length/\(four m).length<=(four a).length/\(four a).length<4294967296
theorem Hm (a m:Fr):ab5 a m:=⟨Nat.lt_of_lt_of_le (by decide:0<4) (Nat.le_refl 4),Nat.le_refl 4,(by decide:4<4294967296)⟩
noncomputable abbrev Nm (bF:Fr->Fr->Bool):Env:=En [(94,K3x fm ct),(52,K2 aS4 aS4 oB.res bF),(95,agC)]
theorem RT:EnvOk (Nm bU):=aj (.cons ju (.cons uE (.cons xq .nil)))
def lfR (a:Fr):Tree (Option (Fr × Pr)) := .leaf (some (a,.t))
def aaL (bF:Fr->Fr->Bool) (a b m:Fr):Tree (Option (Fr × Pr)) :=
 .br (b2u (cp a b).2==1) (.vc (ab5 (cp a b).1 m) (lfR (cC (cp a b).1 m).1)) (.br (!(bF (cp a b).1 m)) (.vc (ab5 (cp a b).1 m) (lfR (cC (cp a b).1 m).1)) (lfR (cp a b).1))
theorem RS (bF:Fr->Fr->Bool) (a b m:Fr):cD (Nm bF) aa1 300 Tryz.f59 (flat (ae Tryz.f59)) (ah Tryz.f59 [iS4.av 0 a,iS4.av 1 b,iS4.av 2 m] (iS4.hes a++iS4.hes b++iS4.hes m))=aaL bF a b m:=by kernel_rfl
def nN (a b m:Fr):Fr:=match b2u (cp a b).2==1 with
 | true=>(cC (cp a b).1 m).1
 | false=>match !(bU (cp a b).1 m) with
  | true=>(cC (cp a b).1 m).1
  | false=>(cp a b).1
theorem Ld (a b m:Fr):(aaL bU a b m).sat fun q => ∃ p,q=some (nN a b m,p)/\p.holds:=by
 refine ⟨fun h=>⟨Hm _ _,fun _ => ?_⟩,fun h=>⟨fun h2=>⟨Hm _ _,fun _ => ?_⟩,fun h2 => ?_⟩⟩
 ·exact bB (by unfold nN;rw [h])
 ·exact bB (by unfold nN;rw [h,h2])
 ·exact bB (by unfold nN;rw [h,h2])
theorem Xa:CallOk Tryz.prog 59 (K3 aS4 aS4 aS4 U9 nN) :=
 G3 (E:=Nm bU) Tryz.func59 (c:=ae Tryz.f59) (by kernel_rfl) (ab Tryz.func59 (by kernel_rfl) (by kernel_rfl)) iS4 iS4 iS4 aa1 nN fun a b m _ _ _=>DoesL.ends RT 300 (RS bU a b m) (Ld a b m)
def aem (a b m:Fr):Tree (Option (Fr × Pr)) := .br (b2u (cC a b).2==1) (lfR (cp (cC a b).1 m).1) (lfR (cC a b).1)
theorem LJ (a b m:Fr):cD AM aa1 300 Tryz.f58 (flat (ae Tryz.f58)) (ah Tryz.f58 [iS4.av 0 a,iS4.av 1 b,iS4.av 2 m] (iS4.hes a++iS4.hes b++iS4.hes m))=aem a b m:=by kernel_rfl
def lG (a b m:Fr):Fr:=match b2u (cC a b).2==1 with
 | true=>(cp (cC a b).1 m).1
 | false=>(cC a b).1
theorem SM:CallOk Tryz.prog 58 (K3 aS4 aS4 aS4 U9 lG) :=
 G3 (E:=AM) Tryz.func58 (c:=ae Tryz.f58) (by kernel_rfl) (ab Tryz.func58 (by kernel_rfl) (by kernel_rfl)) iS4 iS4 iS4 aa1 lG fun a b m _ _ _=>DoesL.ends B6 300 (LJ a b m)
  ⟨fun h=>bB (by unfold lG;rw [h]),fun h=>bB (by unfold lG;rw [h])⟩
abbrev ajn (F:Fr->Fr->Fr->Fr):au:=K3 aS4 aS4 aS4 U9 F
abbrev Kfr (F:List UInt64->Fr):au:=K1 aL oF4.res F
theorem Z8 (pF:Fr->Fr->Fr->Fr) (m a b:Fr):ac (Ens [(59,ajn pF),(53,K0 U9 m),(57,Kfr ad0)] [59,53]) r4 100 Tryz.f28 [v4 a,v4 b] = .leaf (some (pF a b m)):=by kernel_rfl
def bf (a b:Fr):Fr:=nN a b rLimbs
theorem ES:CallOk Tryz.prog 28 (Kr2 bf):=P2 (bn (.cons Xa (.cons te (.cons Nh .nil)))) Tryz.func28 (ab Tryz.func28 (by kernel_rfl) (by kernel_rfl)) 100 (aa Fr) (aa Fr) r4 bf (Z8 nN rLimbs) (fun _ _=>Tree.sat_leaf (by simp only [bf]))
theorem VT (pF:Fr->Fr->Fr->Fr) (m a b:Fr):ac (Ens [(58,ajn pF),(53,K0 U9 m),(57,Kfr ad0)] [58,53]) r4 100 Tryz.f27 [v4 a,v4 b] = .leaf (some (pF a b m)):=by kernel_rfl
def eO (a b:Fr):Fr:=lG a b rLimbs
theorem Oi:CallOk Tryz.prog 27 (Kr2 eO):=P2 (bn (.cons SM (.cons te (.cons Nh .nil)))) Tryz.func27 (ab Tryz.func27 (by kernel_rfl) (by kernel_rfl)) 100 (aa Fr) (aa Fr) r4 eO (VT lG rLimbs) (fun _ _=>Tree.sat_leaf (by simp only [eO]))
theorem XI (sF:Fr->Fr->Fr) (a:Fr):ac (En [(27,Kr2 sF)]) r4 100 Tryz.f51 [v4 a] = .leaf (some (sF zeroFr a)):=by kernel_rfl
def dN (a:Fr):Fr:=eO zeroFr a
theorem OT:CallOk Tryz.prog 51 (Kr1 dN):=P1 (aj (.cons Oi .nil)) Tryz.func51 (ab Tryz.func51 (by kernel_rfl) (by kernel_rfl)) 100 (aa Fr) r4 dN (XI eO) (fun _=>Tree.sat_leaf (by simp only [dN]))
structure L5 where
 t0:UInt64
 t1:UInt64
 t2:UInt64
 t3:UInt64
 t4:UInt64
def L5.low (t:L5):Fr:=⟨t.t0,t.t1,t.t2,t.t3⟩
def L5.cs (t:L5):List Cell := [.u64 t.t0,.u64 t.t1,.u64 t.t2,.u64 t.t3,.u64 t.t4]
def AL (m:Fr) (inv:UInt64) (t0 t1 t2 t3 top:UInt64) (more:Bool):L5 :=
 let x:=t0*inv
 let d0:=gr x m.l0+b2u (ct t0 (x*m.l0) false)
 let d1:=rmH x m.l1 t1 d0
 let d2:=rmH x m.l2 t2 d1
 let d3:=rmH x m.l3 t3 d2
 ⟨rmL x m.l1 t1 d0,rmL x m.l2 t2 d1,rmL x m.l3 t3 d2,fm top d3 false,b2u more+b2u (ct top d3 false)⟩
def ql (ai:UInt64) (b:Fr) (t:L5):Bool :=
 let c0:=rmH ai b.l0 t.t0 0
 let c1:=rmH ai b.l1 t.t1 c0
 let c2:=rmH ai b.l2 t.t2 c1
 let c3:=rmH ai b.l3 t.t3 c2
 ct t.t4 c3 false
def fh (m:Fr) (inv:UInt64) (ai:UInt64) (b:Fr) (t:L5):L5 :=
 let c0:=rmH ai b.l0 t.t0 0
 let c1:=rmH ai b.l1 t.t1 c0
 let c2:=rmH ai b.l2 t.t2 c1
 let c3:=rmH ai b.l3 t.t3 c2
 AL m inv (rmL ai b.l0 t.t0 0) (rmL ai b.l1 t.t1 c0) (rmL ai b.l2 t.t2 c1) (rmL ai b.l3 t.t3 c2) (fm t.t4 c3 false) (ct t.t4 c3 false)
noncomputable abbrev nT (bF:Fr->Fr->Bool):Env:=En [(96,K2 kU64.arg kU64.arg (kU64.rs2 kU64).res fun x y=>(gr x y,x*y)),(94,K3x fm ct),(52,K2 aS4 aS4 oB.res bF),(95,agC)]
theorem SH:EnvOk (nT bU):=aj (.cons sI (.cons ju (.cons uE (.cons xq .nil))))
def tp (a b m:Fr) (inv:UInt64) (k:Nat) (t:List Cell):St :=
 ar 222 [(0,slR 0 4),(1,slR 1 4),(2,slR 2 4),(7,abf 4),(8,vU inv),(10,slR 3 6),(11,abf k)] [.live ⟨false,0,1,.row (Row.cs a),false⟩,.live ⟨false,0,1,.row (Row.cs b),false⟩,.live ⟨false,0,1,.row (Row.cs m),false⟩,.live ⟨true,22,1,.row t,false⟩]
def xh (t:L5) (h:Bool):List Cell:=t.cs ++ [.bit h]
set_option maxRecDepth 100000
theorem Gt (bF:Fr->Fr->Bool) (a b m:Fr):b7 (nT bF) 300 (montC.take 8) (ah Tryz.f60 [iS4.av 0 a,iS4.av 1 b,iS4.av 2 m] (iS4.hes a++iS4.hes b++iS4.hes m)) [0,1,2,7,8,10,11] [0,1,2,3] = .leaf (tp a b m (bP m.l0) 0 (bJ 6)):=by kernel_rfl
theorem Dr (bF:Fr->Fr->Bool) (a b m:Fr) (inv:UInt64):bk (nT bF) 300 nS (tp a b m inv 0 (bJ 6)) mO = .leaf (.normal,tp a b m inv 1 (xh (fh m inv a.l0 b ⟨0,0,0,0,0⟩) (ql a.l0 b ⟨0,0,0,0,0⟩))):=by kernel_rfl
theorem Dq (bF:Fr->Fr->Bool) (a b m:Fr) (inv:UInt64) (t:L5) (h:Bool):bk (nT bF) 300 nS (tp a b m inv 1 (xh t h)) mO = .leaf (.normal,tp a b m inv 2 (xh (fh m inv a.l1 b t) (ql a.l1 b t))):=by kernel_rfl
theorem Dp (bF:Fr->Fr->Bool) (a b m:Fr) (inv:UInt64) (t:L5) (h:Bool):bk (nT bF) 300 nS (tp a b m inv 2 (xh t h)) mO = .leaf (.normal,tp a b m inv 3 (xh (fh m inv a.l2 b t) (ql a.l2 b t))):=by kernel_rfl
theorem Do (bF:Fr->Fr->Bool) (a b m:Fr) (inv:UInt64) (t:L5) (h:Bool):bk (nT bF) 300 nS (tp a b m inv 3 (xh t h)) mO = .leaf (.normal,tp a b m inv 4 (xh (fh m inv a.l3 b t) (ql a.l3 b t))):=by kernel_rfl
theorem SE (bF:Fr->Fr->Bool) (a b m:Fr) (inv:UInt64) (t:L5) (h:Bool):bk (nT bF) 300 nS (tp a b m inv 4 (xh t h)) mO = .leaf (.exit 2,tp a b m inv 4 (xh t h)):=by kernel_rfl
def ab4 (m:Fr):Prop:=0<6/\4<=6/\6<4294967296
def aa5 (bF:Fr->Fr->Bool) (m:Fr) (t:L5):Tree (Option (Fr × Pr)) :=
 .br (t.t4 != 0) (.vc (ab4 m) (lfR (cC t.low m).1)) (.br (!(bF t.low m)) (.vc (ab4 m) (lfR (cC t.low m).1)) (lfR t.low))
theorem SF (bF:Fr->Fr->Bool) (a b m:Fr) (inv:UInt64) (t:L5) (h:Bool):cD (nT bF) aa1 300 Tryz.f60 (montC.drop 9) (tp a b m inv 4 (xh t h))=aa5 bF m t:=by kernel_rfl
def rZ (m:Fr) (t:L5):Fr:=match t.t4 != 0 with
 | true=>(cC t.low m).1
 | false=>match !(bU t.low m) with
  | true=>(cC t.low m).1
  | false=>t.low
def fH (a b m:Fr):L5:=fh m (bP m.l0) a.l0 b ⟨0,0,0,0,0⟩
def fG (a b m:Fr):L5:=fh m (bP m.l0) a.l1 b (fH a b m)
def fE (a b m:Fr):L5:=fh m (bP m.l0) a.l2 b (fG a b m)
def ew (a b m:Fr):L5:=fh m (bP m.l0) a.l3 b (fE a b m)
def lr (a b m:Fr):Fr:=rZ m (ew a b m)
theorem LG (m:Fr) (t:L5):(aa5 bU m t).sat fun q => ∃ p,q=some (rZ m t,p)/\p.holds:=by
 have w:ab4 m:=⟨by decide,by decide,by decide⟩
 refine ⟨fun h=>⟨w,fun _ => ?_⟩,fun h=>⟨fun h2=>⟨w,fun _ => ?_⟩,fun h2 => ?_⟩⟩
 ·exact bB (by unfold rZ;rw [h])
 ·exact bB (by unfold rZ;rw [h,h2])
 ·exact bB (by unfold rZ;rw [h,h2])
def aeq (a b m:Fr) (q:Fin 5 × Bool):St :=
 match q.1 with
 | 0=>tp a b m (bP m.l0) 0 (bJ 6)
 | 1=>tp a b m (bP m.l0) 1 (xh (fH a b m) q.2)
 | 2=>tp a b m (bP m.l0) 2 (xh (fG a b m) q.2)
 | 3=>tp a b m (bP m.l0) 3 (xh (fE a b m) q.2)
 | 4=>tp a b m (bP m.l0) 4 (xh (ew a b m) q.2)
theorem X7:CallOk Tryz.prog 60 (K3 aS4 aS4 aS4 U9 lr) :=
 G3 (E:=nT bU) Tryz.func60 (c:=ae Tryz.f60) (by kernel_rfl) (ab Tryz.func60 (by kernel_rfl) (by kernel_rfl)) iS4 iS4 iS4 aa1 lr fun a b m _ _ _=>by
  have hE:=SH
  refine DoesL.stageTo hE 300 8 _ _ (Gt bU a b m) ?_
  refine DoesL.blockLoop xR (aeq a b m) (fun q=>4-q.1.1) (0,false) fun q => ?_
  obtain ⟨k,h⟩:=q
  match k with
  | 0=>exact Does.round hE 300 mO (Dr bU a b m _) ⟨(1,ql a.l0 b ⟨0,0,0,0,0⟩),by show 4-1<4-0;decide,by simp only [aeq,fH]⟩
  | 1=>exact Does.round hE 300 mO (Dq bU a b m _ (fH a b m) h) ⟨(2,ql a.l1 b (fH a b m)),by show 4-2<4-1;decide,by simp only [aeq,fG]⟩
  | 2=>exact Does.round hE 300 mO (Dp bU a b m _ (fG a b m) h) ⟨(3,ql a.l2 b (fG a b m)),by show 4-3<4-2;decide,by simp only [aeq,fE]⟩
  | 3=>exact Does.round hE 300 mO (Do bU a b m _ (fE a b m) h) ⟨(4,ql a.l3 b (fE a b m)),by show 4-4<4-3;decide,by simp only [aeq,ew]⟩
  | 4=>exact Does.round hE 300 mO (SE bU a b m _ (ew a b m) h) ⟨rfl,DoesL.ends hE 300 (SF bU a b m _ (ew a b m) h) (LG m (ew a b m))⟩
theorem XV (pF:Fr->Fr->Fr->Fr) (m a b:Fr):ac (Ens [(60,ajn pF),(53,K0 U9 m),(57,Kfr ad0)] [60,53]) r4 100 Tryz.f29 [v4 a,v4 b] = .leaf (some (pF (pF a b m) sq4Limbs m)):=by kernel_rfl
def aw (a b:Fr):Fr:=lr (lr a b rLimbs) sq4Limbs rLimbs
theorem qk:CallOk Tryz.prog 29 (Kr2 aw):=P2 (bn (.cons X7 (.cons te (.cons Nh .nil)))) Tryz.func29 (ab Tryz.func29 (by kernel_rfl) (by kernel_rfl)) 100 (aa Fr) (aa Fr) r4 aw (XV lr rLimbs) (fun _ _=>Tree.sat_leaf (by simp only [aw]))
end
section
def zeroFp2:Fp2:=⟨zeroFp,zeroFp⟩
def oneFp2:Fp2:=⟨oneFp,zeroFp⟩
def xiFp2:Fp2:=⟨oneFp,oneFp⟩
abbrev rF2:Rs Fp2:=(aa Fp2).rs
abbrev vF2 (a:Fp2):AV := .one ((aa Fp2).av a)
abbrev Kp1 (F:Fp2->Fp2):au:=K1 (aa Fp2).arg rF2.res F
abbrev Kp2 (F:Fp2->Fp2->Fp2):au:=K2 (aa Fp2).arg (aa Fp2).arg rF2.res F
def mW (a b:Fp2):Bool:=la a.c0 b.c0 && (la a.c1 b.c1 && true)
theorem iT (a b:Fp2):mW a b=true <-> a=b:=by
 unfold mW
 rw [Bool.and_true,Bool.and_eq_true,js,js]
 cases a;cases b
 simp
def zeroFp6:Fp6:=⟨zeroFp2,zeroFp2,zeroFp2⟩
def oneFp6:Fp6:=⟨oneFp2,zeroFp2,zeroFp2⟩
structure Fp12 where
 c0:Fp6
 c1:Fp6
def Fp12.rd (xs:List Cell):Option Fp12:=match (Row.rd (xs.take 36):Option Fp6),(Row.rd (xs.drop 36):Option Fp6) with
 | some a,some b=>some ⟨a,b⟩
 | _,_=>none
instance : Row Fp12 where
 rd:=Fp12.rd
 cs:=fun x=>Row.cs x.c0++Row.cs x.c1
 rd_ok:=fun {xs x} h β=>by
  unfold Fp12.rd at h
  split at h
  ·rename_i a b h1 h2
   cases h
   exact l8 36 h1 h2 β
  ·cases h
 cs_ok:=fun x β=>by rw [List.map_append,List.map_append,Row.cs_ok x.c0,Row.cs_ok x.c1]
 cs_id:=fun x c hc=>by
  rcases List.mem_append.1 hc with h | h
  ·exact Row.cs_id _ c h
  ·exact Row.cs_id _ c h
def sh:Fp12:=⟨zeroFp6,zeroFp6⟩
def oneFp12:Fp12:=⟨oneFp6,zeroFp6⟩
def UY (a b:Fp6):Bool:=mW a.c0 b.c0 && (mW a.c1 b.c1 && (mW a.c2 b.c2 && true))
theorem Cu (a b:Fp6):UY a b=true <-> a=b:=by
 unfold UY
 rw [Bool.and_true,Bool.and_eq_true,Bool.and_eq_true,iT,iT,iT]
 cases a;cases b
 simp
def r9 (a b:Fp12):Bool:=UY a.c0 b.c0 && (UY a.c1 b.c1 && true)
theorem yE (a b:Fp12):r9 a b=true <-> a=b:=by
 unfold r9
 rw [Bool.and_true,Bool.and_eq_true,Cu,Cu]
 cases a;cases b
 simp
end
section
def infG1:Pg1:=⟨zeroFp,zeroFp,true⟩
def q8 (a b:Pg1):Bool:=la a.x b.x && (la a.y b.y && ((a.inf==b.inf) && true))
theorem jV (a b:Pg1):q8 a b=true <-> a=b:=by
 unfold q8
 rw [Bool.and_true,Bool.and_eq_true,Bool.and_eq_true,js,js,beq_iff_eq]
 cases a;cases b
 simp
def infG2:Pg2:=⟨zeroFp2,zeroFp2,true⟩
def Le (a b:Pg2):Bool:=mW a.x b.x && (mW a.y b.y && ((a.inf==b.inf) && true))
theorem RV (a b:Pg2):Le a b=true <-> a=b:=by
 unfold Le
 rw [Bool.and_true,Bool.and_eq_true,Bool.and_eq_true,iT,iT,beq_iff_eq]
 cases a;cases b
 simp
def dF:Sp1:=⟨zeroFp,zeroFp,zeroFp⟩
abbrev kg1:Kd Pg1:=aa Pg1
abbrev kg2:Kd Pg2:=aa Pg2
end
set_option maxRecDepth 100000
section
abbrev Kr0 (x:Fr):au:=K0 r4.res x
noncomputable def T1r:cQ:=(145,Kr0 rLimbs) :: T0
theorem abX:TableOk Tryz.prog T1r := .cons u6 acx
noncomputable def E1r:Env:=xW Tryz.prog T1r []
theorem ab1:EnvOk E1r:=kV dl abX
def AN (a:Fr):Fr × Bool :=
 let c0:=dZ a.l0 rLimbs.l0 false
 let c1:=dZ a.l1 rLimbs.l1 c0
 let c2:=dZ a.l2 rLimbs.l2 c1
 (⟨fQ a.l0 rLimbs.l0 false,fQ a.l1 rLimbs.l1 c0,fQ a.l2 rLimbs.l2 c1,fQ a.l3 rLimbs.l3 c2⟩,dZ a.l3 rLimbs.l3 c2)
def jW (a:Fr) (over:UInt64):Fr:=match decide (over<b2u (AN a).2) with | true=>a | false=>(AN a).1
theorem IS:CallOk Tryz.prog 131 (K2 (aa Fr).arg kU64.arg r4.res jW) :=
 P2 ab1 Tryz.func131 (ab Tryz.func131 (by kernel_rfl) (by kernel_rfl)) 100 (aa Fr) kU64 r4 jW
  (T:=fun a o => .br (decide (o<b2u (AN a).2)) (.leaf (some a)) (.leaf (some (AN a).1))) (by intro a o;kernel_rfl)
  (by intro a o;exact ⟨fun h=>congrArg some (by unfold jW;rw [h]),fun h=>congrArg some (by unfold jW;rw [h])⟩)
noncomputable def T2r:cQ:=(131,K2 (aa Fr).arg kU64.arg r4.res jW) :: (96,K2 kU64.arg kU64.arg (kU64.rs2 kU64).res fun x y=>(gr x y,x*y)) :: T1r
theorem aiX:TableOk Tryz.prog T2r := .cons IS (.cons sI abX)
noncomputable def E2r:Env:=xW Tryz.prog T2r []
theorem sf:EnvOk E2r:=kV dl aiX
def ajz:UInt64:=0xfffffffeffffffff
def D1 (t0 t1 t2 t3 top:UInt64) (more:Bool):L5 :=
 let x:=t0*ajz
 let d0:=gr x rLimbs.l0+b2u (ct (x*rLimbs.l0) t0 false)
 let d1:=fR x rLimbs.l1 t1 d0
 let d2:=fR x rLimbs.l2 t2 d1
 let d3:=fR x rLimbs.l3 t3 d2
 ⟨jG x rLimbs.l1 t1 d0,jG x rLimbs.l2 t2 d1,jG x rLimbs.l3 t3 d2,fm top d3 false,b2u more+b2u (ct top d3 false)⟩
def jk (a:Fr) (b:UInt64) (t:L5):L5 :=
 let c0:=fR a.l0 b t.t0 0
 let c1:=fR a.l1 b t.t1 c0
 let c2:=fR a.l2 b t.t2 c1
 let c3:=fR a.l3 b t.t3 c2
 D1 (jG a.l0 b t.t0 0) (jG a.l1 b t.t1 c0) (jG a.l2 b t.t2 c1) (jG a.l3 b t.t3 c2) (fm t.t4 c3 false) (ct t.t4 c3 false)
def NI (a b:Fr):L5:=jk a b.l0 ⟨0,0,0,0,0⟩
def NH (a b:Fr):L5:=jk a b.l1 (NI a b)
def NG (a b:Fr):L5:=jk a b.l2 (NH a b)
def lu (a b:Fr):L5:=jk a b.l3 (NG a b)
def mT (a b:Fr):Fr:=jW (lu a b).low (lu a b).t4
def tv (a b:Fr) (k:Nat) (t:List Cell):St :=
 ar 139 [(2,a8 0),(3,a8 1),(4,a8 2),(5,a8 3),(6,a8 4),(18,abf k)] [own 24 (Row.cs a),own 24 (Row.cs b),own 24 (bJ 4),own 24 (Row.cs rLimbs),own 182 t]
noncomputable def h4Code:List Code:=flat (ae Tryz.f133)
noncomputable def vV:Code:=aP Tryz.f133 0
theorem GD (a b:Fr):b7 E2r 100 (h4Code.take 4) (ah Tryz.f133 [v4 a,v4 b] []) [2,3,4,5,6,18] [0,1,2,3,4] = .leaf (tv a b 0 (bJ 5)):=by kernel_rfl
theorem Dw (a b:Fr):bk E2r 100 vV (tv a b 0 (bJ 5)) mV = .leaf (.normal,tv a b 1 (jk a b.l0 ⟨0,0,0,0,0⟩).cs):=by kernel_rfl
theorem Dv (a b:Fr) (t:L5):bk E2r 100 vV (tv a b 1 t.cs) mV = .leaf (.normal,tv a b 2 (jk a b.l1 t).cs):=by kernel_rfl
theorem Du (a b:Fr) (t:L5):bk E2r 100 vV (tv a b 2 t.cs) mV = .leaf (.normal,tv a b 3 (jk a b.l2 t).cs):=by kernel_rfl
theorem Dt (a b:Fr) (t:L5):bk E2r 100 vV (tv a b 3 t.cs) mV = .leaf (.normal,tv a b 4 (jk a b.l3 t).cs):=by kernel_rfl
theorem Tv (a b:Fr) (t:L5):bk E2r 100 vV (tv a b 4 t.cs) mV = .leaf (.exit 0,tv a b 4 t.cs):=by kernel_rfl
theorem Tw (a b:Fr) (t:L5):agk E2r r4 100 Tryz.f133 (h4Code.drop 5) (tv a b 4 t.cs) = .leaf (some (jW t.low t.t4)):=by kernel_rfl
theorem GE:h4Code.drop 4 = .block 0 (.loop vV) :: h4Code.drop 5:=by kernel_rfl
def Mi (a b:Fr) (k:Fin 5):St :=
 match k with
 | 0=>tv a b 0 (bJ 5)
 | 1=>tv a b 1 (NI a b).cs
 | 2=>tv a b 2 (NH a b).cs
 | 3=>tv a b 3 (NG a b).cs
 | 4=>tv a b 4 (lu a b).cs
theorem IZ:CallOk Tryz.prog 133 (Kr2 mT):=by
 refine Q2 (E:=E2r) Tryz.func133 (c:=ae Tryz.f133) (by kernel_rfl) (ab Tryz.func133 (by kernel_rfl) (by kernel_rfl)) (aa Fr) (aa Fr) r4 mT fun a b => ?_
 refine DoesL.stageTo sf 100 4 [2,3,4,5,6,18] [0,1,2,3,4] (GD a b) ?_
 refine DoesL.blockLoop GE (Mi a b) (fun k=>4-k.1) 0 fun k => ?_
 match k with
 | 0=>exact Does.round sf 100 mV (Dw a b) ⟨1,by decide,by simp only [Mi,NI]⟩
 | 1=>exact Does.round sf 100 mV (Dv a b _) ⟨2,by decide,by simp only [Mi,NH]⟩
 | 2=>exact Does.round sf 100 mV (Du a b _) ⟨3,by decide,by simp only [Mi,NG]⟩
 | 3=>exact Does.round sf 100 mV (Dt a b _) ⟨4,by decide,by simp only [Mi,lu]⟩
 | 4=>exact Does.round sf 100 mV (Tv a b _) ⟨rfl,DoesL.fin sf 100 (Tw a b _) (Tree.sat_leaf (by simp only [mT]))⟩
theorem J9:CallOk Tryz.prog 171 (Kr0 sq4Limbs):=P0 M2 Tryz.func171 (ab Tryz.func171 (by kernel_rfl) (by kernel_rfl)) 100 r4 sq4Limbs (T := .leaf (some sq4Limbs)) (by kernel_rfl) rfl
def Am (a:Fr):Fr:=mT a sq4Limbs
theorem JI (hF:Fr->Fr->Fr) (q a:Fr):ac (En [(133,Kr2 hF),(171,Kr0 q)]) r4 100 Tryz.f132 [v4 a] = .leaf (some (hF a q)):=by kernel_rfl
theorem Ql:CallOk Tryz.prog 132 (Kr1 Am):=P1 (aj (.cons IZ (.cons J9 .nil))) Tryz.func132 (ab Tryz.func132 (by kernel_rfl) (by kernel_rfl)) 100 (aa Fr) r4 Am (JI mT sq4Limbs) (fun _=>Tree.sat_leaf (by simp only [Am]))
def dI (a b:Fr):Fr:=jW (cp a b).1 (b2u (cp a b).2)
theorem Uw (lF:Fr->UInt64->Fr) (a b:Fr):ac (En [(94,K3x fm ct),(131,K2 (aa Fr).arg kU64.arg r4.res lF)]) r4 100 Tryz.f85 [v4 a,v4 b] = .leaf (some (lF (cp a b).1 (b2u (cp a b).2))):=by kernel_rfl
theorem sU:CallOk Tryz.prog 85 (Kr2 dI):=P2 (aj (.cons ju (.cons IS .nil))) Tryz.func85 (ab Tryz.func85 (by kernel_rfl) (by kernel_rfl)) 100 (aa Fr) (aa Fr) r4 dI (Uw jW) (fun _ _=>Tree.sat_leaf (by simp only [dI]))
def xd (a b:Fr):Fr:=match decide (b2u (cC a b).2=0) with | true=>(cC a b).1 | false=>(cp (cC a b).1 rLimbs).1
theorem QJ (a b:Fr):ac E1r r4 100 Tryz.f105 [v4 a,v4 b] = .br (decide (b2u (cC a b).2=0)) (.leaf (some (cC a b).1)) (.leaf (some (cp (cC a b).1 rLimbs).1)):=by kernel_rfl
theorem VV:CallOk Tryz.prog 105 (Kr2 xd):=P2 ab1 Tryz.func105 (ab Tryz.func105 (by kernel_rfl) (by kernel_rfl)) 100 (aa Fr) (aa Fr) r4 xd QJ (fun _ _=>⟨fun h=>congrArg some (by unfold xd;rw [h]),fun h=>congrArg some (by unfold xd;rw [h])⟩)
def pj (a:Fr):Fr:=xd zeroFr a
theorem Sh (sF:Fr->Fr->Fr) (a:Fr):ac (En [(105,Kr2 sF)]) r4 100 Tryz.f65 [v4 a] = .leaf (some (sF zeroFr a)):=by kernel_rfl
theorem XL:CallOk Tryz.prog 65 (Kr1 pj):=P1 (aj (.cons VV .nil)) Tryz.func65 (ab Tryz.func65 (by kernel_rfl) (by kernel_rfl)) 100 (aa Fr) r4 pj (Sh xd) (fun _=>Tree.sat_leaf (by simp only [pj]))
def cX (a b:Fr):Fr:=Am (mT a b)
theorem Su (hF:Fr->Fr->Fr) (wF:Fr->Fr) (a b:Fr):ac (En [(133,Kr2 hF),(132,Kr1 wF)]) r4 100 Tryz.f86 [v4 a,v4 b] = .leaf (some (wF (hF a b))):=by kernel_rfl
theorem oT:CallOk Tryz.prog 86 (Kr2 cX):=P2 (aj (.cons IZ (.cons Ql .nil))) Tryz.func86 (ab Tryz.func86 (by kernel_rfl) (by kernel_rfl)) 100 (aa Fr) (aa Fr) r4 cX (Su mT Am) (fun _ _=>Tree.sat_leaf (by simp only [cX]))
def uZ (n:UInt64):Fr:=⟨n,0,0,0⟩
theorem Xz (n:UInt64):ac (En []) r4 100 Tryz.f64 [vU n] = .leaf (some (uZ n)):=by kernel_rfl
theorem ON:CallOk Tryz.prog 64 (K1 kU64.arg r4.res uZ):=P1 (aj .nil) Tryz.func64 (ab Tryz.func64 (by kernel_rfl) (by kernel_rfl)) 100 kU64 r4 uZ Xz (fun _=>Tree.sat_leaf (by simp only [uZ]))
end
set_option maxRecDepth 100000
section
abbrev oFrs:Out (List Fr):=xL .fr 24
abbrev bQ (xs:List Fr):Prop:=xs.length<4294967296
abbrev bV:Arg (List Fr):=(ba .fr).such bQ
abbrev iFew:Inp (List Fr):=(gA .fr).such bQ
abbrev CV (F:List Fr->List Fr):au:=K1 bV oFrs.res F
def frZ:Fr:=⟨UInt64.ofNat 0,UInt64.ofNat 0,UInt64.ofNat 0,UInt64.ofNat 0⟩
def cK (xs:List Fr):Nat->Nat
 | 0=>0
 | n+1=>match fw (xs.getD n frZ) frZ with
  | true=>cK xs n
  | false=>n+1
def aO (xs:List Fr):List Fr:=xs.take (cK xs xs.length)
theorem mz (xs:List Fr) : ∀ n,cK xs n<=n
 | 0=>Nat.le_refl _
 | n+1=>by
  unfold cK
  cases fw (xs.getD n frZ) frZ with
  | true=>exact Nat.le_succ_of_le (mz xs n)
  | false=>exact Nat.le_refl _
theorem Ad (xs:List Fr):(aO xs).length=cK xs xs.length:=by
 unfold aO
 rw [List.length_take,Nat.min_eq_left (mz xs _)]
theorem dE (xs:List Fr):(aO xs).length<=xs.length:=by rw [Ad];exact mz xs _
section
variable (aF mF : Fr -> Fr -> Fr)
def rAt (xs:List Fr) (x:Fr):Nat->Fr->Fr
 | 0,y=>y
 | n+1,y=>rAt xs x n (aF (mF y x) (xs.getD n frZ))
theorem HU (xs:List Fr) (x y:Fr):rAt aF mF xs x 0 y=y:=rfl
theorem HV (xs:List Fr) (x y:Fr) (n:Nat):rAt aF mF xs x (n+1) y=rAt aF mF xs x n (aF (mF y x) (xs.getD n frZ)):=rfl
def Ca (xs:List Fr) (z:Fr):Nat->Fr × List Fr->Fr × List Fr
 | 0,s=>s
 | n+1,s=>Ca xs z n (aF (xs.getD n frZ) (mF s.1 z),match n with | 0=>s.2 | m+1=>s.2.set m (aF (xs.getD n frZ) (mF s.1 z)))
def rh (mF:Fr->Bool):List Fr->Bool
 | []=>true
 | x :: l=>match !(mF x) with
  | true=>false
  | false=>rh mF l
end
def B4 (i:Int):Prop:=0<=i
def atL (l:List Fr) (i:Nat):Fr:=l.getD i frZ
def eP (l:List Fr):HE := .live ⟨true,24,4,.rows .fr l,false⟩
def qT (i c:Nat):AV := .one (.c (.slc i 0 c 4 (.of 0) false))
noncomputable abbrev pcutC:List Code:=flat (ae Tryz.f54)
def vO (l:List Fr) (z:Int):St:=ar 24 [(0,rwV .fr 0 l),(3,vI z)] [bz .fr l]
theorem Lf (l:List Fr):stageG (En []) 100 (pcutC.take 2) (ah Tryz.f54 [rwV .fr 0 l] [bz .fr l]) [0,3] [0] [(0,.as),(3,.int)] [.as] []=(.vc (0+l.length*4<=(ad RK.fr l).length/\0<4) (.leaf (ar 24 [(0,.one (.c (.slc 0 0 (l.length) 4 (.of 0) false))),(3,.one (.c (.int .i64 ((↑l.length:Int)))))] [.live ⟨false,0,4,(.rows .fr (l:List Fr)),false⟩]))):=by kernel_rfl
theorem Lg (l:List Fr) (z:Int):letI za':=IntKind.i64.wrap (z-1);bk (En []) 100 (aP Tryz.f54 0) (vO l z) (same [0,3] [0])=(.br (decide (z > 0)) (.vc ((0<=IntKind.i64.wrap (z-1)/\IntKind.i64.wrap (z-1)<(↑l.length:Int))/\0+l.length*4<=(ad RK.fr l).length/\0<4/\0=0) (.vc (0+za'.toNat<l.length) (.br (fw (l.getD (0+za'.toNat) { l0:=0,l1:=0,l2:=0,l3:=0 }) ({ l0:=UInt64.ofNat 0,l1:=UInt64.ofNat 0,l2:=UInt64.ofNat 0,l3:=UInt64.ofNat 0 })) (.leaf ((.normal,ar 24 [(0,.one (.c (.slc 0 0 (l.length) 4 (.of 0) false))),(3,.one (.c (.int .i64 za')))] [.live ⟨false,0,4,(.rows .fr (l:List Fr)),false⟩]))) (.leaf ((.exit 0,ar 24 [(0,.one (.c (.slc 0 0 (l.length) 4 (.of 0) false))),(3,.one (.c (.int .i64 (z))))] [.live ⟨false,0,4,(.rows .fr (l:List Fr)),false⟩])))))) (.leaf ((.exit 0,ar 24 [(0,.one (.c (.slc 0 0 (l.length) 4 (.of 0) false))),(3,.one (.c (.int .i64 (z))))] [.live ⟨false,0,4,(.rows .fr (l:List Fr)),false⟩])))):=by kernel_rfl
theorem Xd (l:List Fr) (z:Int):cD (En []) oFrs 100 Tryz.f54 (pcutC.drop 3) (vO l z)=(.vc (0<=z/\0<=z.toNat/\z.toNat<=l.length/\0+l.length*4<=(ad RK.fr l).length/\0<4/\(0=0 \/ 0<z.toNat)/\0=0/\4=4) (.vc ((0+(z.toNat-0)*4<=(ad RK.fr l).length/\0=0)/\0+(z.toNat-0)<=9223372036854775807/\(0+(z.toNat-0))*32<=140737488355328) (.leaf (some ((List.take (0+(z.toNat-0)) ([]++List.take (z.toNat-0) (List.drop 0 l)),(.p (0+(z.toNat-0)<=([]++List.take (z.toNat-0) (List.drop 0 l)).length)))))))):=by kernel_rfl
noncomputable abbrev rcutC:List Code:=flat (ae Tryz.f25)
def vN (l:List Fr) (z:Int):St:=ar 24 [(0,rwV .fr 0 l),(3,vI z)] [bz .fr l]
theorem Ku (l:List Fr):stageG (En []) 100 (rcutC.take 2) (ah Tryz.f25 [rwV .fr 0 l] [bz .fr l]) [0,3] [0] [(0,.as),(3,.int)] [.as] []=(.vc (0+l.length*4<=(ad RK.fr l).length/\0<4) (.leaf (ar 24 [(0,.one (.c (.slc 0 0 (l.length) 4 (.of 0) false))),(3,.one (.c (.int .i64 ((↑l.length:Int)))))] [.live ⟨false,0,4,(.rows .fr (l:List Fr)),false⟩]))):=by kernel_rfl
theorem Kv (l:List Fr) (z:Int):letI za':=IntKind.i64.wrap (z-1);bk (En []) 100 (aP Tryz.f25 0) (vN l z) (same [0,3] [0])=(.br (decide (z > 0)) (.vc ((0<=IntKind.i64.wrap (z-1)/\IntKind.i64.wrap (z-1)<(↑l.length:Int))/\0+l.length*4<=(ad RK.fr l).length/\0<4/\0=0) (.vc (0+za'.toNat<l.length) (.br (fw (l.getD (0+za'.toNat) { l0:=0,l1:=0,l2:=0,l3:=0 }) ({ l0:=UInt64.ofNat 0,l1:=UInt64.ofNat 0,l2:=UInt64.ofNat 0,l3:=UInt64.ofNat 0 })) (.leaf ((.normal,ar 24 [(0,.one (.c (.slc 0 0 (l.length) 4 (.of 0) false))),(3,.one (.c (.int .i64 za')))] [.live ⟨false,0,4,(.rows .fr (l:List Fr)),false⟩]))) (.leaf ((.exit 0,ar 24 [(0,.one (.c (.slc 0 0 (l.length) 4 (.of 0) false))),(3,.one (.c (.int .i64 (z))))] [.live ⟨false,0,4,(.rows .fr (l:List Fr)),false⟩])))))) (.leaf ((.exit 0,ar 24 [(0,.one (.c (.slc 0 0 (l.length) 4 (.of 0) false))),(3,.one (.c (.int .i64 (z))))] [.live ⟨false,0,4,(.rows .fr (l:List Fr)),false⟩])))):=by kernel_rfl
theorem Wx (l:List Fr) (z:Int):cD (En []) oFrs 100 Tryz.f25 (rcutC.drop 3) (vN l z)=(.vc (0<=z/\0<=z.toNat/\z.toNat<=l.length/\0+l.length*4<=(ad RK.fr l).length/\0<4/\(0=0 \/ 0<z.toNat)/\0=0/\4=4) (.vc ((0+(z.toNat-0)*4<=(ad RK.fr l).length/\0=0)/\0+(z.toNat-0)<=9223372036854775807/\(0+(z.toNat-0))*32<=140737488355328) (.leaf (some ((List.take (0+(z.toNat-0)) ([]++List.take (z.toNat-0) (List.drop 0 l)),(.p (0+(z.toNat-0)<=([]++List.take (z.toNat-0) (List.drop 0 l)).length)))))))):=by kernel_rfl
noncomputable abbrev raC:List Code:=flat (ae Tryz.f26)
noncomputable abbrev raE (aF mF:Fr->Fr->Fr):Env:=En [(28,Kr2 aF),(29,Kr2 mF)]
def adq (l:List Fr) (x y:Fr) (z:Int):St:=ar 23 [(0,rwV .fr 0 l),(3,a8 1),(4,a8 2),(5,a8 3),(6,vI z)] [bz .fr l,own 24 (Row.cs x),own 24 (bJ 4),own 24 (Row.cs y)]
theorem WC (aF mF:Fr->Fr->Fr) (l:List Fr) (x:Fr):letI za':=UInt64.ofNat 0;stageG (raE aF mF) 100 (raC.take 3) (ah Tryz.f26 [rwV .fr 0 l,v4 x] [bz .fr l]) [0,3,4,5,6] [0,1,2,3] [(0,.as),(3,.as),(4,.as),(5,.as),(6,.int)] [.as,.as,.as,.one .fr] []=(.vc (0+l.length*4<=(ad RK.fr l).length/\0<4) (.leaf (ar 23 [(0,.one (.c (.slc 0 0 (l.length) 4 (.of 0) false))),(3,.one (.c (.ptr 1 0))),(4,.one (.c (.ptr 2 0))),(5,.one (.c (.ptr 3 0))),(6,.one (.c (.int .i64 (IntKind.i64.wrap ((↑l.length:Int)-1)))))] [.live ⟨false,0,4,(.rows .fr (l:List Fr)),false⟩,.live ⟨true,24,0,(.row (Row.cs (x:Fr))),false⟩,.live ⟨true,24,0,(.row [(.lit .u64 0),(.lit .u64 0),(.lit .u64 0),(.lit .u64 0)]),false⟩,.live ⟨true,24,0,(.row [(.u64 za'),(.u64 za'),(.u64 za'),(.u64 za')]),false⟩]))):=by kernel_rfl
theorem WD (aF mF:Fr->Fr->Fr) (l:List Fr) (x y:Fr) (z:Int):bk (raE aF mF) 300 (aP Tryz.f26 0) (adq l x y z) (same [0,3,4,5,6] [0,1,2,3])=(.br (decide (z >= 0)) (.vc ((0<=z/\z<(↑l.length:Int))/\0+l.length*4<=(ad RK.fr l).length/\0<4/\0=0) (.vc (0+z.toNat<l.length) (.leaf ((.normal,ar 23 [(0,.one (.c (.slc 0 0 (l.length) 4 (.of 0) false))),(3,.one (.c (.ptr 1 0))),(4,.one (.c (.ptr 2 0))),(5,.one (.c (.ptr 3 0))),(6,.one (.c (.int .i64 (IntKind.i64.wrap (z-1)))))] [.live ⟨false,0,4,(.rows .fr (l:List Fr)),false⟩,.live ⟨true,24,0,(.row (Row.cs (x:Fr))),false⟩,.live ⟨true,24,0,(.row [(.lit .u64 0),(.lit .u64 0),(.lit .u64 0),(.lit .u64 0)]),false⟩,.live ⟨true,24,0,(.row (Row.cs (aF (mF y x) (l.getD (0+z.toNat) { l0:=0,l1:=0,l2:=0,l3:=0 }):Fr))),false⟩]))))) (.leaf ((.exit 0,ar 23 [(0,.one (.c (.slc 0 0 (l.length) 4 (.of 0) false))),(3,.one (.c (.ptr 1 0))),(4,.one (.c (.ptr 2 0))),(5,.one (.c (.ptr 3 0))),(6,.one (.c (.int .i64 (z))))] [.live ⟨false,0,4,(.rows .fr (l:List Fr)),false⟩,.live ⟨true,24,0,(.row (Row.cs (x:Fr))),false⟩,.live ⟨true,24,0,(.row [(.lit .u64 0),(.lit .u64 0),(.lit .u64 0),(.lit .u64 0)]),false⟩,.live ⟨true,24,0,(.row (Row.cs (y:Fr))),false⟩])))):=by kernel_rfl
theorem ahf (aF mF:Fr->Fr->Fr) (l:List Fr) (x y:Fr) (z:Int):cD (raE aF mF) r4.out 100 Tryz.f26 (raC.drop 4) (adq l x y z) =
 (.leaf (some ((y,.t)))):=by kernel_rfl
noncomputable abbrev rsC:List Code:=flat (ae Tryz.f34)
noncomputable abbrev rsE (mF:Fr->Fr->Fr) (cF:List Fr->List Fr):Env:=Ens [(29,Kr2 mF),(25,CV cF)] [25]
def E9 (l:List Fr) (k:Fr) (z:Int) (c:Nat) (q:List Fr):St:=ar 24 [(0,rwV .fr 0 l),(3,a8 1),(5,qT 2 c),(6,vI z)] [bz .fr l,own 24 (Row.cs k),eP q]
theorem Q1 (mF:Fr->Fr->Fr) (cF:List Fr->List Fr) (l:List Fr) (k:Fr):stageG (rsE mF cF) 100 (rsC.take 3) (ah Tryz.f34 [rwV .fr 0 l,v4 k] [bz .fr l]) [0,3,5,6] [0,1] [(0,.as),(3,.as),(5,.nilE 2 4),(6,.int)] [.as,.as] [(24,.rows .fr)]=(.leaf (ar 24 [(0,.one (.c (.slc 0 0 (l.length) 4 (.of 0) false))),(3,.one (.c (.ptr 1 0))),(5,.one (.c (.slc 2 0 0 4 (.of 0) false))),(6,.one (.c (.int .i64 0)))] [.live ⟨false,0,4,(.rows .fr (l:List Fr)),false⟩,.live ⟨true,24,0,(.row (Row.cs (k:Fr))),false⟩,.live ⟨true,24,4,(.rows .fr ([]:List Fr)),false⟩])):=by kernel_rfl
theorem Q3 (mF:Fr->Fr->Fr) (cF:List Fr->List Fr) (l:List Fr) (k:Fr) (z:Int) (c:Nat) (q:List Fr):roundP (rsE mF cF) 300 (aP Tryz.f34 0) (E9 l k z c q) (dM [0,3,5,6] [0,1] [5])=(.vc (0+l.length*4<=(ad RK.fr l).length/\0<4) (.br (decide (z<(↑l.length:Int))) (.vc ((0<=z/\z<(↑l.length:Int))/\0+l.length*4<=(ad RK.fr l).length/\0<4/\0=0) (.vc (0+z.toNat<l.length) (.vc ((0+c*4<=(ad RK.fr q).length/\0=0)/\c+1<=9223372036854775807/\(c+1)*32<=140737488355328) (.leaf ((.normal,ar 24 [(0,.one (.c (.slc 0 0 (l.length) 4 (.of 0) false))),(3,.one (.c (.ptr 1 0))),(5,.one (.c (.slc 2 0 (c+1) 4 (.of 0) false))),(6,.one (.c (.int .i64 (IntKind.i64.wrap (z+1)))))] [.live ⟨false,0,4,(.rows .fr (l:List Fr)),false⟩,.live ⟨true,24,0,(.row (Row.cs (k:Fr))),false⟩,.live ⟨true,24,4,(.rows .fr (List.take (jc c (4 / 4)) (List.drop 0 q) ++ [mF (l.getD (0+z.toNat) { l0:=0,l1:=0,l2:=0,l3:=0 }) k]:List Fr)),false⟩])))))) (.leaf ((.exit 0,ar 24 [(0,.one (.c (.slc 0 0 (l.length) 4 (.of 0) false))),(3,.one (.c (.ptr 1 0))),(5,.one (.c (.slc 2 0 (c) 4 (.of 0) false))),(6,.one (.c (.int .i64 (z))))] [.live ⟨false,0,4,(.rows .fr (l:List Fr)),false⟩,.live ⟨true,24,0,(.row (Row.cs (k:Fr))),false⟩,.live ⟨true,24,4,(.rows .fr (q:List Fr)),false⟩]))))):=by kernel_rfl
theorem ada (mF:Fr->Fr->Fr) (cF:List Fr->List Fr) (l:List Fr) (k:Fr) (z:Int) (c:Nat) (q:List Fr):letI za':=List.take c (List.drop 0 q);cD (rsE mF cF) oFrs 100 Tryz.f34 (rsC.drop 4) (E9 l k z c q)=(.vc ((0+c*4<=(ad RK.fr q).length/\0=0/\c<1125899906842624/\0=0/\4=4)/\bQ za') (.leaf (some ((List.take (cF za').length (cF za'),(.p ((cF za').length<=(cF za').length))))))):=by kernel_rfl
theorem ado (l:List Fr) (i:Int):cD (En []) r4.out 100 Tryz.f71 (flat (ae Tryz.f71)) (ah Tryz.f71 [rwV .fr 0 l,vI i] [bz .fr l])=(.vc (0+l.length*4<=(ad RK.fr l).length/\0<4) (.br (decide (i<(↑l.length:Int))) (.vc ((0<=i/\i<(↑l.length:Int))/\0+l.length*4<=(ad RK.fr l).length/\0<4/\0=0) (.vc (0+i.toNat<l.length) (.leaf (some ((l.getD (0+i.toNat) { l0:=0,l1:=0,l2:=0,l3:=0 },.t)))))) (.leaf (some (({ l0:=UInt64.ofNat 0,l1:=UInt64.ofNat 0,l2:=UInt64.ofNat 0,l3:=UInt64.ofNat 0 },.t)))))):=by kernel_rfl
noncomputable abbrev rdC:List Code:=flat (ae Tryz.f33)
noncomputable abbrev rdE (tF:List Fr->Int->Fr) (aF:Fr->Fr->Fr) (cF:List Fr->List Fr):Env:=Ens [(71,K2 (ba .fr) (kInt.arg.such B4) r4.res tF),(28,Kr2 aF),(25,CV cF)] [25]
def aaA (l m:List Fr) (z:Int) (c:Nat) (q:List Fr):St:=ar 28 [(0,rwV .fr 0 l),(1,rwV .fr 1 m),(5,qT 2 c),(6,vI z)] [bz .fr l,bz .fr m,eP q]
theorem Wv (tF:List Fr->Int->Fr) (aF:Fr->Fr->Fr) (cF:List Fr->List Fr) (l m:List Fr):stageG (rdE tF aF cF) 100 (rdC.take 3) (ah Tryz.f33 [rwV .fr 0 l,rwV .fr 1 m] [bz .fr l,bz .fr m]) [0,1,5,6] [0,1] [(0,.as),(1,.as),(5,.nilE 2 4),(6,.int)] [.as,.as] [(24,.rows .fr)]=(.leaf (ar 28 [(0,.one (.c (.slc 0 0 (l.length) 4 (.of 0) false))),(1,.one (.c (.slc 1 0 (m.length) 4 (.of 0) false))),(5,.one (.c (.slc 2 0 0 4 (.of 0) false))),(6,.one (.c (.int .i64 0)))] [.live ⟨false,0,4,(.rows .fr (l:List Fr)),false⟩,.live ⟨false,0,4,(.rows .fr (m:List Fr)),false⟩,.live ⟨true,24,4,(.rows .fr ([]:List Fr)),false⟩])):=by kernel_rfl
theorem Ww (tF:List Fr->Int->Fr) (aF:Fr->Fr->Fr) (cF:List Fr->List Fr) (l m:List Fr) (z:Int) (c:Nat) (q:List Fr):roundP (rdE tF aF cF) 300 (aP Tryz.f33 0) (aaA l m z c q) (dM [0,1,5,6] [0,1] [5])=(.vc (0+l.length*4<=(ad RK.fr l).length/\0<4) (.vc (0+m.length*4<=(ad RK.fr m).length/\0<4) (.br (decide (z<if (↑m.length:Int) > (↑l.length:Int) then (↑m.length:Int) else (↑l.length:Int))) (.vc ((0+l.length*4<=(ad RK.fr l).length/\0=0/\l.length<1125899906842624/\0=0/\4=4)/\B4 z) (.vc ((0+m.length*4<=(ad RK.fr m).length/\0=0/\m.length<1125899906842624/\0=0/\4=4)/\B4 z) (.vc ((0+c*4<=(ad RK.fr q).length/\0=0)/\c+1<=9223372036854775807/\(c+1)*32<=140737488355328) (.leaf ((.normal,ar 28 [(0,.one (.c (.slc 0 0 (l.length) 4 (.of 0) false))),(1,.one (.c (.slc 1 0 (m.length) 4 (.of 0) false))),(5,.one (.c (.slc 2 0 (c+1) 4 (.of 0) false))),(6,.one (.c (.int .i64 (IntKind.i64.wrap (z+1)))))] [.live ⟨false,0,4,(.rows .fr (l:List Fr)),false⟩,.live ⟨false,0,4,(.rows .fr (m:List Fr)),false⟩,.live ⟨true,24,4,(.rows .fr (List.take (jc c (4 / 4)) (List.drop 0 q) ++ [aF (tF (List.take l.length (List.drop 0 l)) z) (tF (List.take m.length (List.drop 0 m)) z)]:List Fr)),false⟩])))))) (.leaf ((.exit 0,ar 28 [(0,.one (.c (.slc 0 0 (l.length) 4 (.of 0) false))),(1,.one (.c (.slc 1 0 (m.length) 4 (.of 0) false))),(5,.one (.c (.slc 2 0 (c) 4 (.of 0) false))),(6,.one (.c (.int .i64 (z))))] [.live ⟨false,0,4,(.rows .fr (l:List Fr)),false⟩,.live ⟨false,0,4,(.rows .fr (m:List Fr)),false⟩,.live ⟨true,24,4,(.rows .fr (q:List Fr)),false⟩])))))):=by kernel_rfl
theorem ahc (tF:List Fr->Int->Fr) (aF:Fr->Fr->Fr) (cF:List Fr->List Fr) (l m:List Fr) (z:Int) (c:Nat) (q:List Fr):letI za':=List.take c (List.drop 0 q);cD (rdE tF aF cF) oFrs 100 Tryz.f33 (rdC.drop 4) (aaA l m z c q)=(.vc ((0+c*4<=(ad RK.fr q).length/\0=0/\c<1125899906842624/\0=0/\4=4)/\bQ za') (.leaf (some ((List.take (cF za').length (cF za'),(.p ((cF za').length<=(cF za').length))))))):=by kernel_rfl
noncomputable abbrev lmC:List Code:=flat (ae Tryz.f14)
noncomputable abbrev lmE (mF:Fr->Bool):Env:=En [(22,Krb mF)]
def aez (l:List Fr) (n z:Int):St:=ar 22 [(0,rwV .fr 0 l),(1,vI n),(5,vI z)] [bz .fr l]
theorem Yv (mF:Fr->Bool) (l:List Fr) (n:Int):stageG (lmE mF) 100 (lmC.take 2) (ah Tryz.f14 [rwV .fr 0 l,vI n] [bz .fr l]) [0,1,5] [0] [(0,.as),(1,.as),(5,.int)] [.as] []=(.leaf (ar 22 [(0,.one (.c (.slc 0 0 (l.length) 4 (.of 0) false))),(1,.one (.c (.int .i64 (n)))),(5,.one (.c (.int .i64 0)))] [.live ⟨false,0,4,(.rows .fr (l:List Fr)),false⟩])):=by kernel_rfl
theorem Yw (mF:Fr->Bool) (l:List Fr) (n z:Int):gR (lmE mF) oB 300 Tryz.f14 [aP Tryz.f14 0] (aez l n z) [0,1,5] [0]=(.vc (0+l.length*4<=(ad RK.fr l).length/\0<4) (.br (decide (z<(↑l.length:Int))) (.vc ((0<=z/\z<(↑l.length:Int))/\0+l.length*4<=(ad RK.fr l).length/\0<4/\0=0) (.vc (0+z.toNat<l.length) (.br (!(mF (l.getD (0+z.toNat) { l0:=0,l1:=0,l2:=0,l3:=0 }))) (.leaf (.inr (some ((false,.t))))) (.leaf (.inl ((.normal,ar 22 [(0,.one (.c (.slc 0 0 (l.length) 4 (.of 0) false))),(1,.one (.c (.int .i64 (n)))),(5,.one (.c (.int .i64 (IntKind.i64.wrap (z+1)))))] [.live ⟨false,0,4,(.rows .fr (l:List Fr)),false⟩]))))))) (.leaf (.inl ((.exit 0,ar 22 [(0,.one (.c (.slc 0 0 (l.length) 4 (.of 0) false))),(1,.one (.c (.int .i64 (n)))),(5,.one (.c (.int .i64 (z))))] [.live ⟨false,0,4,(.rows .fr (l:List Fr)),false⟩])))))):=by kernel_rfl
theorem ahU (mF:Fr->Bool) (l:List Fr) (n z:Int):cD (lmE mF) oB 100 Tryz.f14 (lmC.drop 3) (aez l n z) =
 (.vc (0+l.length*4<=(ad RK.fr l).length/\0<4)
  (.leaf (some ((decide ((↑l.length:Int)<=n),.t))))):=by kernel_rfl
noncomputable abbrev lnE (aF mF:Fr->Fr->Fr) (cF:List Fr->List Fr):Env:=Ens [(85,Kr2 aF),(86,Kr2 mF),(54,CV cF)] [54]
abbrev oLin:Out (List Fr × Fr):=ahE .fr (aa Fr) 24
theorem Yr (aF mF:Fr->Fr->Fr) (cF:List Fr->List Fr) (l:List Fr) (z:Fr):b7 (lnE aF mF cF) 100 ((flat (ae Tryz.f56)).take 1) (ah Tryz.f56 [rwV .fr 0 l,v4 z] [bz .fr l]) [0,3,5] [0,1,2]=(.leaf (ar 36 [(0,.one (.c (.slc 0 0 (l.length) 4 (.of 0) false))),(3,.one (.c (.ptr 1 0))),(5,.one (.c (.ptr 2 0)))] [.live ⟨false,0,4,(.rows .fr (l:List Fr)),false⟩,.live ⟨true,24,0,(.row (Row.cs (z:Fr))),false⟩,.live ⟨true,24,0,(.row [(.lit .u64 0),(.lit .u64 0),(.lit .u64 0),(.lit .u64 0)]),false⟩])):=by kernel_rfl
def ajc (l:List Fr) (z r:Fr) (i:Int) (c:Nat) (q:List Fr):St:=ar 36 [(0,rwV .fr 0 l),(3,a8 1),(4,qT 3 c),(5,a8 2),(6,vI i)] [bz .fr l,own 24 (Row.cs z),own 24 (Row.cs r),eP q]
theorem Yq (aF mF:Fr->Fr->Fr) (cF:List Fr->List Fr) (l:List Fr) (z:Fr):letI za':=(if 0 > IntKind.i64.wrap ((↑l.length:Int)-1) then 0 else IntKind.i64.wrap ((↑l.length:Int)-1));letI zb':=((↑l.length:Int)-1);letI zc':=0+l.length*4<=(ad RK.fr l).length/\0<4;letI zd':=UInt64.ofNat 0;stageG (lnE aF mF cF) 100 ((flat (aC Tryz.f56)).take 3) (ar 36 [(0,rwV .fr 0 l),(3,a8 1),(5,a8 2)] [bz .fr l,own 24 (Row.cs z),own 24 (bJ 4)]) [0,3,4,5,6] [0,1,2,3] [(0,.as),(3,.as),(4,.as),(5,.as),(6,.int)] [.as,.as,.one .fr,.as] []=(.vc zc' (.vc ((0<=if 0 > IntKind.i64.wrap zb' then 0 else IntKind.i64.wrap zb')/\(za'<=if 0 > IntKind.i64.wrap zb' then 0 else IntKind.i64.wrap zb')/\((↑32:Int)*if 0 > IntKind.i64.wrap zb' then 0 else IntKind.i64.wrap zb')<=281474976710656/\za'<1125899906842624) (.vc zc' (.leaf (ar 36 [(0,.one (.c (.slc 0 0 (l.length) 4 (.of 0) false))),(3,.one (.c (.ptr 1 0))),(4,.one (.c (.slc 3 0 (za'.toNat) 4 (.of 0) false))),(5,.one (.c (.ptr 2 0))),(6,.one (.c (.int .i64 ((↑l.length:Int)))))] [.live ⟨false,0,4,(.rows .fr (l:List Fr)),false⟩,.live ⟨true,24,0,(.row (Row.cs (z:Fr))),false⟩,.live ⟨true,24,0,(.row [(.u64 zd'),(.u64 zd'),(.u64 zd'),(.u64 zd')]),false⟩,.live ⟨true,24,4,(.rows .fr (List.replicate za'.toNat { l0:=0,l1:=0,l2:=0,l3:=0 }:List Fr)),false⟩]))))):=by kernel_rfl
theorem aew (aF mF:Fr->Fr->Fr) (cF:List Fr->List Fr) (l:List Fr) (z r:Fr) (i:Int) (c:Nat) (q:List Fr):letI za':=(l.getD (0+(IntKind.i64.wrap (i-1)).toNat) { l0:=0,l1:=0,l2:=0,l3:=0 });letI zb':=List.take c (List.drop 0 q);letI zc':=IntKind.i64.wrap (i-1)-1;letI zd':=IntKind.i64.wrap (i-1);letI ze':=(Row.cs (aF za' (mF r z):Fr));letI zf':=IntKind.i64.wrap zc';gR (lnE aF mF cF) oLin 300 Tryz.f56 ((flat (aC Tryz.f56)).drop 3) (ajc l z r i c q) [0,3,4,5,6] [0,1,2,3]=(.br (decide (IntKind.i64.wrap (i-1)<0)) (.vc ((0+c*4<=(ad RK.fr q).length/\0=0/\c<1125899906842624/\0=0/\4=4)/\bQ zb') (.leaf (.inr (some (((List.take (cF zb').length (cF zb'),r),(.p ((cF zb').length<=(cF zb').length)))))))) (.vc ((0<=IntKind.i64.wrap (i-1)/\IntKind.i64.wrap (i-1)<(↑l.length:Int))/\0+l.length*4<=(ad RK.fr l).length/\0<4/\0=0) (.vc (0+zd'.toNat<l.length) (.br (decide (IntKind.i64.wrap (i-1) > 0)) (.vc ((0<=IntKind.i64.wrap zc'/\IntKind.i64.wrap zc'<(↑c:Int))/\0+c*4<=(ad RK.fr q).length/\0<4/\0=0) (.vc (0+zf'.toNat<q.length) (.leaf (.inl ((.goto 0,ar 36 [(0,.one (.c (.slc 0 0 (l.length) 4 (.of 0) false))),(3,.one (.c (.ptr 1 0))),(4,.one (.c (.slc 3 0 (c) 4 (.of 0) false))),(5,.one (.c (.ptr 2 0))),(6,.one (.c (.int .i64 zd')))] [.live ⟨false,0,4,(.rows .fr (l:List Fr)),false⟩,.live ⟨true,24,0,(.row (Row.cs (z:Fr))),false⟩,.live ⟨true,24,0,(.row ze'),false⟩,.live ⟨true,24,4,(.rows .fr (q.set (0+zf'.toNat) (aF za' (mF r z)):List Fr)),false⟩])))))) (.leaf (.inl ((.goto 0,ar 36 [(0,.one (.c (.slc 0 0 (l.length) 4 (.of 0) false))),(3,.one (.c (.ptr 1 0))),(4,.one (.c (.slc 3 0 (c) 4 (.of 0) false))),(5,.one (.c (.ptr 2 0))),(6,.one (.c (.int .i64 zd')))] [.live ⟨false,0,4,(.rows .fr (l:List Fr)),false⟩,.live ⟨true,24,0,(.row (Row.cs (z:Fr))),false⟩,.live ⟨true,24,0,(.row ze'),false⟩,.live ⟨true,24,4,(.rows .fr (q:List Fr)),false⟩])))))))):=by kernel_rfl
end
set_option maxRecDepth 100000
section
theorem afN (m:Nat) (h:m<4294967296):IntKind.i64.wrap (((m+1:Nat):Int)-1)=(m:Int):=(IntWalk.i64_in _ (by omega)).trans (by omega)
theorem qJ (m:Nat) (h:m<4294967296):IntKind.i64.wrap ((m:Int)+1)=((m+1:Nat):Int):=(IntWalk.i64_in _ (by omega)).trans (by omega)
theorem jY (m:Nat):0+((m:Nat):Int).toNat=m:=by omega
abbrev akE (l:List Fr):Type := { n:Nat // n<=l.length/\cK l n=cK l l.length }
theorem HC {l:List Fr} {n:Nat} (h:n=cK l l.length):List.take (0+(((n:Nat):Int).toNat-0)) ([]++List.take (((n:Nat):Int).toNat-0) (List.drop 0 l))=aO l:=by
 rw [Int.toNat_natCast,Nat.sub_zero,Nat.zero_add,List.nil_append,List.drop_zero,List.take_take,Nat.min_self,h]
 rfl
theorem Ij {l:List Fr} (hl:l.length<4294967296) {n:Nat} (h:n=cK l l.length):DoesL (En []) (pcutC.drop 3) (vO l (n:Int)) (EndsAs (En []) Tryz.f54 (bO oFrs (aO l))):=by
 have hle:n<=l.length:=by rw [h];exact mz l _
 have hlen:([]++List.take (((n:Nat):Int).toNat-0) (List.drop 0 l)).length=n:=by
  rw [Int.toNat_natCast,Nat.sub_zero,List.nil_append,List.drop_zero,List.length_take,Nat.min_eq_left hle]
 refine DoesL.ends (aj .nil) 100 (Xd l n) ⟨⟨by omega,by omega,by omega,by rw [aN];omega,by decide,.inl rfl,rfl,rfl⟩,fun _=>⟨⟨⟨by rw [aN];omega,rfl⟩,by omega,by omega⟩,fun _ => ?_⟩⟩
 rw [HC h]
 exact ⟨_,rfl,by show 0+(((n:Nat):Int).toNat-0)<=_;rw [hlen];omega⟩
theorem tf:CallOk Tryz.prog 54 (CV aO) :=
 G1 (E:=En []) Tryz.func54 (c:=ae Tryz.f54) (by kernel_rfl) (ab Tryz.func54 (by kernel_rfl) (by kernel_rfl)) iFew oFrs aO fun l hl=>by
  have hl:l.length<4294967296:=hl.2
  refine DoesL.stageG (aj .nil) 100 2 _ _ _ _ _ (Lf l) ⟨bc l,fun _ => ?_⟩
  refine (?_:DoesL _ _ (vO l (l.length:Int)) _)
  refine DoesL.blockLoop (B:=aP Tryz.f54 0) (rest:=pcutC.drop 3) (id:=0) (by kernel_rfl) (fun n:akE l=>vO l (n.1:Int)) (fun n=>n.1) ⟨l.length,Nat.le_refl _,rfl⟩ fun n => ?_
  obtain ⟨n,h1,h2⟩:=n
  refine (?_:Does _ _ (vO l (n:Int)) _)
  refine Does.round (aj .nil) 100 _ (Lg l n) ⟨fun h => ?_,fun h => ?_⟩
  ·simp only [decide_eq_true_eq] at h
   obtain ⟨m,rfl⟩ : ∃ m,n=m+1:=⟨n-1,by omega⟩
   rw [afN m (by omega),jY]
   refine ⟨hO (by omega),fun _=>⟨by omega,fun _=>⟨fun h3 => ?_,fun h3 => ?_⟩⟩⟩
   ·have h3:fw (l.getD m frZ) frZ=true:=h3
    refine ⟨⟨m,by omega,?_⟩,Nat.lt_succ_self m,rfl⟩
    rw [<- h2]
    show _=(match fw (l.getD m frZ) frZ with | true=>cK l m | false=>m+1)
    rw [h3]
   ·have h3:fw (l.getD m frZ) frZ=false:=h3
    refine ⟨rfl,Ij hl ?_⟩
    rw [<- h2]
    show _=(match fw (l.getD m frZ) frZ with | true=>cK l m | false=>m+1)
    rw [h3]
  ·simp only [decide_eq_false_iff_not] at h
   obtain rfl:n=0:=by omega
   exact ⟨rfl,Ij hl h2⟩
theorem HR {l:List Fr} (hl:l.length<4294967296) {n:Nat} (h:n=cK l l.length):DoesL (En []) (rcutC.drop 3) (vN l (n:Int)) (EndsAs (En []) Tryz.f25 (bO oFrs (aO l))):=by
 have hle:n<=l.length:=by rw [h];exact mz l _
 have hlen:([]++List.take (((n:Nat):Int).toNat-0) (List.drop 0 l)).length=n:=by
  rw [Int.toNat_natCast,Nat.sub_zero,List.nil_append,List.drop_zero,List.length_take,Nat.min_eq_left hle]
 refine DoesL.ends (aj .nil) 100 (Wx l n) ⟨⟨by omega,by omega,by omega,by rw [aN];omega,by decide,.inl rfl,rfl,rfl⟩,fun _=>⟨⟨⟨by rw [aN];omega,rfl⟩,by omega,by omega⟩,fun _ => ?_⟩⟩
 rw [HC h]
 exact ⟨_,rfl,by show 0+(((n:Nat):Int).toNat-0)<=_;rw [hlen];omega⟩
theorem D9:CallOk Tryz.prog 25 (CV aO) :=
 G1 (E:=En []) Tryz.func25 (c:=ae Tryz.f25) (by kernel_rfl) (ab Tryz.func25 (by kernel_rfl) (by kernel_rfl)) iFew oFrs aO fun l hl=>by
  have hl:l.length<4294967296:=hl.2
  refine DoesL.stageG (aj .nil) 100 2 _ _ _ _ _ (Ku l) ⟨bc l,fun _ => ?_⟩
  refine (?_:DoesL _ _ (vN l (l.length:Int)) _)
  refine DoesL.blockLoop (B:=aP Tryz.f25 0) (rest:=rcutC.drop 3) (id:=0) (by kernel_rfl) (fun n:akE l=>vN l (n.1:Int)) (fun n=>n.1) ⟨l.length,Nat.le_refl _,rfl⟩ fun n => ?_
  obtain ⟨n,h1,h2⟩:=n
  refine (?_:Does _ _ (vN l (n:Int)) _)
  refine Does.round (aj .nil) 100 _ (Kv l n) ⟨fun h => ?_,fun h => ?_⟩
  ·simp only [decide_eq_true_eq] at h
   obtain ⟨m,rfl⟩ : ∃ m,n=m+1:=⟨n-1,by omega⟩
   rw [afN m (by omega),jY]
   refine ⟨hO (by omega),fun _=>⟨by omega,fun _=>⟨fun h3 => ?_,fun h3 => ?_⟩⟩⟩
   ·have h3:fw (l.getD m frZ) frZ=true:=h3
    refine ⟨⟨m,by omega,?_⟩,Nat.lt_succ_self m,rfl⟩
    rw [<- h2]
    show _=(match fw (l.getD m frZ) frZ with | true=>cK l m | false=>m+1)
    rw [h3]
   ·have h3:fw (l.getD m frZ) frZ=false:=h3
    refine ⟨rfl,HR hl ?_⟩
    rw [<- h2]
    show _=(match fw (l.getD m frZ) frZ with | true=>cK l m | false=>m+1)
    rw [h3]
  ·simp only [decide_eq_false_iff_not] at h
   obtain rfl:n=0:=by omega
   exact ⟨rfl,HR hl h2⟩
section
variable {aF mF : Fr -> Fr -> Fr}
abbrev RaQ (aF mF:Fr->Fr->Fr) (l:List Fr) (x:Fr):Type := { s:Nat × Fr // s.1<=l.length/\rAt aF mF l x s.1 s.2=rAt aF mF l x l.length frZ }
theorem adp (hE:EnvOk (raE aF mF)) (l:List Fr) (x:Fr) (hl:l.length<1125899906842624):DoesL (raE aF mF) (flat (ae Tryz.f26)) (ah Tryz.f26 [rwV .fr 0 l,v4 x] [bz .fr l]) (EndsAs (raE aF mF) Tryz.f26 (bO r4.out (rAt aF mF l x l.length frZ))):=by
  have hw:IntKind.i64.wrap ((l.length:Int)-1)=(l.length:Int)-1:=IntWalk.i64_in _ (by omega)
  refine DoesL.stageG hE 100 3 _ _ _ _ _ (WC aF mF l x) ⟨bc l,fun _ => ?_⟩
  rw [hw]
  refine (?_:DoesL _ _ (adq l x frZ (l.length-1:Int)) _)
  refine DoesL.blockLoop (B:=aP Tryz.f26 0) (rest:=raC.drop 4) (id:=0) (by kernel_rfl) (fun s:RaQ aF mF l x=>adq l x s.1.2 ((s.1.1:Int)-1)) (fun s=>s.1.1) ⟨(l.length,frZ),Nat.le_refl _,rfl⟩ fun s => ?_
  obtain ⟨⟨n,y⟩,h1,h2⟩:=s
  simp only [] at h1 h2
  refine (?_:Does _ _ (adq l x y ((n:Int)-1)) _)
  refine Does.round hE 300 _ (WD aF mF l x y ((n:Int)-1)) ⟨fun h => ?_,fun h => ?_⟩
  ·simp only [ge_iff_le,decide_eq_true_eq] at h
   obtain ⟨m,rfl⟩ : ∃ m,n=m+1:=⟨n-1,by omega⟩
   have e1:((m+1:Nat):Int)-1=(m:Int):=by omega
   have e2:IntKind.i64.wrap ((m:Int)-1)=(m:Int)-1:=IntWalk.i64_in _ (by omega)
   rw [e1,e2,jY]
   refine ⟨hO (by omega),fun _=>⟨by omega,fun _ => ?_⟩⟩
   rw [HV] at h2
   exact ⟨⟨(m,aF (mF y x) (l.getD m frZ)),by show m<=l.length;omega,h2⟩,Nat.lt_succ_self m,rfl⟩
  ·simp only [ge_iff_le,decide_eq_false_iff_not] at h
   obtain rfl:n=0:=by omega
   rw [HU] at h2
   exact ⟨rfl,DoesL.ends hE 100 (ahf aF mF l x y _) ⟨.t,by rw [<- h2],trivial⟩⟩
end
def fC (l:List Fr) (x:Fr):Fr:=rAt bf aw l x l.length frZ
theorem Eb:CallOk Tryz.prog 26 (K2 (ba .fr) (aa Fr).arg r4.res fC) :=
 G2 (E:=raE bf aw) Tryz.func26 (c:=ae Tryz.f26) (by kernel_rfl) (ab Tryz.func26 (by kernel_rfl) (by kernel_rfl)) (gA .fr) (aa Fr).inp r4.out fC fun l x hl _=>adp (aj (.cons ES (.cons qk .nil))) l x hl
theorem j8 (l:List Fr) {j:Nat} (h:j<l.length):l.take (j+1)=l.take j ++ [l.getD j frZ]:=by
 rw [List.take_add_one,List.getD_eq_getElem?_getD,List.getElem?_eq_getElem h]
 rfl
def aM (l:List Fr) (k:Fr):List Fr:=aO (l.map fun a=>aw a k)
theorem xC:CallOk Tryz.prog 34 (K2 bV (aa Fr).arg oFrs.res aM) :=
 G2 (E:=rsE aw aO) Tryz.func34 (c:=ae Tryz.f34) (by kernel_rfl) (ab Tryz.func34 (by kernel_rfl) (by kernel_rfl)) iFew (aa Fr).inp oFrs aM fun l k hl _=>by
  have hl:l.length<4294967296:=hl.2
  have hE:EnvOk (rsE aw aO):=bn (.cons qk (.cons D9 .nil))
  refine DoesL.stageG hE 100 3 _ _ _ _ _ (Q1 aw aO l k) ?_
  refine (?_:DoesL _ _ (E9 l k ((0:Nat):Int) 0 ((l.take 0).map fun a=>aw a k)) _)
  refine DoesL.blockLoop (B:=aP Tryz.f34 0) (rest:=rsC.drop 4) (id:=0) (by kernel_rfl) (fun j : { j:Nat // j<=l.length }=>E9 l k (j.1:Int) j.1 ((l.take j.1).map fun a=>aw a k)) (fun j=>l.length-j.1) ⟨0,Nat.zero_le _⟩ fun j => ?_
  obtain ⟨j,hj⟩:=j
  refine (?_:Does _ _ (E9 l k (j:Int) j ((l.take j).map fun a=>aw a k)) _)
  have hlen:((l.take j).map fun a=>aw a k).length=j:=by rw [List.length_map,List.length_take,Nat.min_eq_left hj]
  refine Does.roundP hE 300 _ (Q3 aw aO l k (j:Int) j ((l.take j).map fun a=>aw a k)) ⟨bc l,fun _=>⟨fun h => ?_,fun h => ?_⟩⟩
  ·simp only [decide_eq_true_eq] at h
   have hj1:j<l.length:=by omega
   refine ⟨hO hj1,fun _=>⟨wT hj1,fun _=>⟨⟨⟨by rw [aN,hlen];omega,rfl⟩,by omega,by omega⟩,fun _ => ?_⟩⟩⟩
   refine ⟨⟨j+1,hj1⟩,by show l.length-(j+1)<l.length-j;omega,?_⟩
   show _=E9 l k ((j+1:Nat):Int) (j+1) ((l.take (j+1)).map fun a=>aw a k)
   rw [qJ j (by omega),gk hlen,j8 l hj1,List.map_append,jY]
   rfl
  ·simp only [decide_eq_false_iff_not] at h
   obtain rfl:j=l.length:=by omega
   rw [List.take_length] at hlen ⊢
   refine ⟨rfl,DoesL.ends hE 100 (ada aw aO l k _ _ _) ⟨⟨⟨by rw [aN,hlen];omega,rfl,by omega,rfl,rfl⟩,?_⟩,fun _ => ?_⟩⟩
   ·show (List.take l.length (List.drop 0 _)).length<4294967296
    rw [List.length_take]
    omega
   ·rw [am hlen,List.take_length]
    exact ⟨_,rfl,Nat.le_refl _⟩
def nG (l:List Fr) (i:Int):Fr:=atL l i.toNat
theorem ahe:CallOk Tryz.prog 71 (K2 (ba .fr) (kInt.arg.such B4) r4.res nG) :=
 G2 (E:=En []) Tryz.func71 (c:=ae Tryz.f71) (by kernel_rfl) (ab Tryz.func71 (by kernel_rfl) (by kernel_rfl)) (gA .fr) (kInt.inp.such B4) r4.out nG fun l i hl hi=>by
  have hi:0<=i:=hi.2
  refine DoesL.ends (aj .nil) 100 (ado l i) ⟨bc l,fun _=>⟨fun h => ?_,fun h => ?_⟩⟩
  ·simp only [decide_eq_true_eq] at h
   refine ⟨⟨⟨hi,h⟩,by rw [aN];omega,by decide,rfl⟩,fun _=>⟨by omega,fun _=>⟨.t,?_,trivial⟩⟩⟩
   rw [Nat.zero_add]
   rfl
  ·simp only [decide_eq_false_iff_not] at h
   refine ⟨.t,?_,trivial⟩
   unfold nG atL
   rw [List.getD_eq_getElem?_getD,List.getElem?_eq_none (by omega)]
   rfl
def kO (l m:List Fr) (n:Nat):List Fr:=(List.range n).map fun i=>bf (atL l i) (atL m i)
theorem pD (l m:List Fr) (n:Nat):(kO l m n).length=n:=by unfold kO;rw [List.length_map,List.length_range]
theorem MW (l m:List Fr) (n:Nat):kO l m (n+1)=kO l m n ++ [bf (atL l n) (atL m n)]:=by unfold kO;rw [List.range_succ,List.map_append];rfl
theorem ml (j:Nat):B4 (j:Int):=Int.natCast_nonneg j
def cB (l m:List Fr):Nat:=max m.length l.length
def bS (l m:List Fr):List Fr:=aO (kO l m (cB l m))
theorem ye (l m:List Fr):(if (m.length:Int) > (l.length:Int) then (m.length:Int) else (l.length:Int))=(cB l m:Int):=by
 unfold cB
 by_cases h:l.length<m.length
 ·rw [if_pos (by omega),Nat.max_eq_left (by omega)]
 ·rw [if_neg (by omega),Nat.max_eq_right (by omega)]
theorem HW:CallOk Tryz.prog 33 (K2 bV bV oFrs.res bS) :=
 G2 (E:=rdE nG bf aO) Tryz.func33 (c:=ae Tryz.f33) (by kernel_rfl) (ab Tryz.func33 (by kernel_rfl) (by kernel_rfl)) iFew iFew oFrs bS fun l m hl hm=>by
  have hl:l.length<4294967296:=hl.2
  have hm:m.length<4294967296:=hm.2
  have hN:cB l m<4294967296:=Nat.max_lt.2 ⟨hm,hl⟩
  have hE:EnvOk (rdE nG bf aO):=bn (.cons ahe (.cons ES (.cons D9 .nil)))
  refine DoesL.stageG hE 100 3 _ _ _ _ _ (Wv nG bf aO l m) ?_
  refine (?_:DoesL _ _ (aaA l m ((0:Nat):Int) 0 (kO l m 0)) _)
  refine DoesL.blockLoop (B:=aP Tryz.f33 0) (rest:=rdC.drop 4) (id:=0) (by kernel_rfl) (fun j : { j:Nat // j<=cB l m }=>aaA l m (j.1:Int) j.1 (kO l m j.1)) (fun j=>cB l m-j.1) ⟨0,Nat.zero_le _⟩ fun j => ?_
  obtain ⟨j,hj⟩:=j
  refine (?_:Does _ _ (aaA l m (j:Int) j (kO l m j)) _)
  have hlen:=pD l m j
  refine Does.roundP hE 300 _ (Ww nG bf aO l m (j:Int) j (kO l m j)) ⟨bc l,fun _=>⟨bc m,fun _ => ?_⟩⟩
  rw [ye]
  refine ⟨fun h => ?_,fun h => ?_⟩
  ·simp only [decide_eq_true_eq] at h
   have hj1:j<cB l m:=by omega
   refine ⟨⟨cj (by show l.length<1125899906842624;omega),ml j⟩,fun _=>⟨⟨cj (by show m.length<1125899906842624;omega),ml j⟩,fun _=>⟨⟨⟨by rw [aN,hlen];omega,rfl⟩,by omega,by omega⟩,fun _ => ?_⟩⟩⟩
   refine ⟨⟨j+1,hj1⟩,by show cB l m-(j+1)<cB l m-j;omega,?_⟩
   show _=aaA l m ((j+1:Nat):Int) (j+1) (kO l m (j+1))
   rw [qJ j (by omega),gk hlen,am rfl,am rfl,MW]
   rfl
  ·simp only [decide_eq_false_iff_not] at h
   obtain rfl:j=cB l m:=by omega
   refine ⟨rfl,DoesL.ends hE 100 (ahc nG bf aO l m _ _ _) ⟨⟨⟨by rw [aN,hlen];omega,rfl,by omega,rfl,rfl⟩,?_⟩,fun _ => ?_⟩⟩
   ·show (List.take (cB l m) (List.drop 0 _)).length<4294967296
    rw [List.length_take]
    omega
   ·rw [am hlen,List.take_length]
    exact ⟨_,rfl,Nat.le_refl _⟩
def dr (l:List Fr) (n:Int):Bool:=match rh gP l with
 | true=>decide ((l.length:Int)<=n)
 | false=>false
theorem xZ (mF:Fr->Bool) (x:Fr) (l:List Fr):rh mF (x :: l)=match !(mF x) with | true=>false | false=>rh mF l:=rfl
theorem TM (l:List Fr) {i:Nat} (h:i<l.length):l.drop i=l.getD i frZ :: l.drop (i+1):=by
 rw [List.drop_eq_getElem_cons h,List.getD_eq_getElem?_getD,List.getElem?_eq_getElem h]
 rfl
abbrev LmQ (l:List Fr):Type := { i:Nat // i<=l.length/\rh gP (l.drop i)=rh gP l }
theorem zN:CallOk Tryz.prog 14 (K2 (ba .fr) kInt.arg kBool.rs.res dr) :=
 G2 (E:=lmE gP) Tryz.func14 (c:=ae Tryz.f14) (by kernel_rfl) (ab Tryz.func14 (by kernel_rfl) (by kernel_rfl)) (gA .fr) kInt.inp oB dr fun l n hl _=>by
  have hl:l.length<1125899906842624:=hl
  have hE:EnvOk (lmE gP):=aj (.cons aeo .nil)
  refine DoesL.stageG hE 100 2 _ _ _ _ _ (Yv gP l n) ?_
  refine (?_:DoesL _ _ (aez l n ((0:Nat):Int)) _)
  refine DoesL.blockLoopR (B:=aP Tryz.f14 0) (rest:=lmC.drop 3) (id:=0) (by kernel_rfl) (fun i:LmQ l=>aez l n (i.1:Int)) (fun i=>l.length-i.1) ⟨0,Nat.zero_le _,rfl⟩ fun s => ?_
  obtain ⟨i,h0,h1⟩:=s
  refine (?_:DoesL _ _ (aez l n (i:Int)) _)
  refine DoesL.iter hE 300 _ _ (Yw gP l n (i:Int)) ⟨bc l,fun _=>⟨fun h => ?_,fun h => ?_⟩⟩
  ·simp only [decide_eq_true_eq] at h
   have hi:i<l.length:=by omega
   refine ⟨hO hi,fun _=>⟨wT hi,fun _ => ?_⟩⟩
   have hw:IntKind.i64.wrap ((i:Int)+1)=((i+1:Nat):Int):=(IntWalk.i64_in _ (by omega)).trans (by omega)
   rw [TM l hi,xZ] at h1
   rw [jY,hw]
   refine ⟨fun h2 => ?_,fun h2 => ?_⟩
   ·have h2:(!(gP (l.getD i frZ)))=true:=h2
    rw [h2] at h1
    have h1:false=rh gP l:=h1
    exact ⟨.t,by unfold dr;rw [<- h1],trivial⟩
   ·have h2:(!(gP (l.getD i frZ)))=false:=h2
    rw [h2] at h1
    exact ⟨⟨i+1,hi,h1⟩,by show l.length-(i+1)<l.length-i;omega,rfl⟩
  ·simp only [decide_eq_false_iff_not] at h
   obtain rfl:i=l.length:=by omega
   rw [List.drop_length] at h1
   have h1:true=rh gP l:=h1
   refine ⟨rfl,DoesL.ends hE 100 (ahU gP l n _) ⟨bc l,fun _=>⟨.t,?_,trivial⟩⟩⟩
   unfold dr
   rw [<- h1]
end
set_option maxRecDepth 100000
section
def aK (n:Nat):List Fr:=List.replicate n frZ
section
variable {aF mF : Fr -> Fr -> Fr} {cF : List Fr -> List Fr}
theorem S7 (xs:List Fr) (z:Fr) (s:Fr × List Fr):Ca aF mF xs z 0 s=s:=rfl
theorem um (xs:List Fr) (z r:Fr) (q:List Fr) (n:Nat):Ca aF mF xs z (n+2) (r,q)=Ca aF mF xs z (n+1) (aF (xs.getD (n+1) frZ) (mF r z),q.set n (aF (xs.getD (n+1) frZ) (mF r z))):=rfl
theorem B9 (xs:List Fr) (z r:Fr) (q:List Fr):Ca aF mF xs z 1 (r,q)=(aF (xs.getD 0 frZ) (mF r z),q):=rfl
abbrev LnQ (aF mF:Fr->Fr->Fr) (l:List Fr) (z:Fr):Type := { s:Nat × Fr × List Fr // s.1<=l.length/\s.2.2.length=l.length-1/\Ca aF mF l z s.1 (s.2.1,s.2.2)=Ca aF mF l z l.length (frZ,aK (l.length-1)) }
theorem ahQ (m:Nat) (h:m<4294967296):(if 0 > IntKind.i64.wrap ((m:Int)-1) then 0 else IntKind.i64.wrap ((m:Int)-1))=((m-1:Nat):Int):=by
 rw [IntWalk.i64_in ((m:Int)-1) (by omega)]
 split <;> omega
theorem Ys (hE:EnvOk (lnE aF mF cF)) (l:List Fr) (z:Fr) (hl:l.length<4294967296):DoesL (lnE aF mF cF) ((flat (aC Tryz.f56)).take 3) (ar 36 [(0,rwV .fr 0 l),(3,a8 1),(5,a8 2)] [bz .fr l,own 24 (Row.cs z),own 24 (bJ 4)])
  fun r=>match r.1 with | .normal=>r.2=ajc l z frZ (l.length:Int) (l.length-1) (aK (l.length-1)) | _=>False:=by
 have st:=Yq aF mF cF l z
 rw [<- show List.take 3 (List.take 3 (flat (aC Tryz.f56)))=List.take 3 (flat (aC Tryz.f56)) by rw [List.take_take];rfl] at st
 refine DoesL.stageG hE 100 3 _ _ _ _ _ st ?_
 rw [ahQ l.length hl]
 refine ⟨bc l,fun _=>⟨⟨by omega,by omega,by omega,by omega⟩,fun _=>⟨bc l,fun _ => ?_⟩⟩⟩
 rw [show List.drop 3 (List.take 3 (flat (aC Tryz.f56))) = [] by kernel_rfl]
 exact ⟨_,Wk.refl _,rfl⟩
def Vg (aF mF:Fr->Fr->Fr) (cF:List Fr->List Fr) (l:List Fr) (z:Fr):List Fr × Fr:=(cF (Ca aF mF l z l.length (frZ,aK (l.length-1))).2,(Ca aF mF l z l.length (frZ,aK (l.length-1))).1)
theorem Yy (hE:EnvOk (lnE aF mF cF)) (l:List Fr) (z:Fr) (hl:l.length<4294967296):DoesL (lnE aF mF cF) (flat (ae Tryz.f56)) (ah Tryz.f56 [rwV .fr 0 l,v4 z] [bz .fr l])
  (EndsAs (lnE aF mF cF) Tryz.f56 (bO oLin (Vg aF mF cF l z))):=by
 refine DoesL.stageE hE 100 1 _ _ (Yr aF mF cF l z) ?_
 refine DoesL.scopeFnG (body:=aC Tryz.f56) (rest:=mc Tryz.f56) (tail := []) (l:=0) hE (by kernel_rfl) (by kernel_rfl) 3 (by kernel_rfl) (fun s:LnQ aF mF l z=>ajc l z s.1.2.1 (s.1.1:Int) (l.length-1) s.1.2.2) (fun s=>s.1.1)
  ⟨(l.length,frZ,aK (l.length-1)),Nat.le_refl _,List.length_replicate,rfl⟩ (Ys hE l z hl) fun s => ?_
 obtain ⟨⟨m,r,q⟩,h0,h1,h2⟩:=s
 simp only [] at h0 h1 h2
 have hz:IntKind.i64.wrap ((m:Int)-1)=(m:Int)-1:=IntWalk.i64_in _ (by omega)
 refine DoesL.iter hE 300 _ _ (aew aF mF cF l z r (m:Int) (l.length-1) q) ?_
 rw [hz]
 refine ⟨fun h => ?_,fun h => ?_⟩
 ·simp only [decide_eq_true_eq] at h
  obtain rfl:m=0:=by omega
  rw [S7] at h2
  refine ⟨⟨⟨by rw [aN,h1];omega,rfl,by omega,rfl,rfl⟩,?_⟩,fun _ => ?_⟩
  ·show (List.take _ (List.drop 0 q)).length<4294967296
   rw [List.length_take]
   omega
  ·have e:Vg aF mF cF l z=(cF q,r):=by
    unfold Vg
    rw [<- h2]
   rw [am h1,List.take_length,e]
   exact ⟨_,rfl,Nat.le_refl _⟩
 ·simp only [decide_eq_false_iff_not] at h
  obtain ⟨n,rfl⟩ : ∃ n:Nat,m=n+1:=⟨m-1,by omega⟩
  have e1:((n+1:Nat):Int)-1=(n:Int):=by omega
  have e2:IntKind.i64.wrap ((n:Int)-1)=(n:Int)-1:=IntWalk.i64_in _ (by omega)
  rw [e1,e2,jY]
  refine ⟨hO (by omega),fun _=>⟨by omega,fun _=>⟨fun h3 => ?_,fun h3 => ?_⟩⟩⟩
  ·simp only [gt_iff_lt,decide_eq_true_eq] at h3
   obtain ⟨k,rfl⟩ : ∃ k:Nat,n=k+1:=⟨n-1,by omega⟩
   have e3:((k+1:Nat):Int)-1=(k:Int):=by omega
   rw [e3,jY]
   rw [um] at h2
   refine ⟨⟨⟨by omega,by omega⟩,by rw [aN,h1];omega,by decide,rfl⟩,fun _=>⟨by omega,fun _=>⟨rfl,⟨(k+1,aF (l.getD (k+1) frZ) (mF r z),q.set k (aF (l.getD (k+1) frZ) (mF r z))),by show k+1<=l.length;omega,?_,h2⟩,Nat.lt_succ_self _,rfl⟩⟩⟩
   show (q.set k _).length=_
   rw [List.length_set,h1]
  ·simp only [gt_iff_lt,decide_eq_false_iff_not] at h3
   obtain rfl:n=0:=by omega
   rw [B9] at h2
   exact ⟨rfl,⟨(0,aF (l.getD 0 frZ) (mF r z),q),Nat.zero_le _,h1,h2⟩,Nat.lt_succ_self _,rfl⟩
end
def gV (l:List Fr) (z:Fr):List Fr × Fr:=Vg dI cX aO l z
theorem aeB:CallOk Tryz.prog 56 (K2 bV (aa Fr).arg oLin.res gV) :=
 G2 (E:=lnE dI cX aO) Tryz.func56 (c:=ae Tryz.f56) (by kernel_rfl) (ab Tryz.func56 (by kernel_rfl) (by kernel_rfl)) iFew (aa Fr).inp oLin gV fun l z hl _=>Yy (bn (.cons sU (.cons oT (.cons tf .nil)))) l z hl.2
end
section
def tn (f0:Fp->Bool) (a:Fp2):Bool:=(match (f0 a.c0) with | true=>((f0 a.c1)) | false=>((false)))
def O0 (f0:Fp->Bool) (a:Fp2):Tree (Option (Bool)) :=
 (.br (f0 a.c0)
  (.leaf (some ((f0 a.c1))))
  (.leaf (some ((false)))))
theorem SR (f0:Fp->Bool) (a:Fp2):ac (En [(143,Kfb f0)]) kBool.rs 300 Tryz.f146 [.one ((aa Fp2).av a)]=O0 f0 a:=by kernel_rfl
theorem SQ (f0:Fp->Bool) (a:Fp2):(O0 f0 a).sat fun q=>q=some (tn f0 a):=⟨fun h0=>(show some _=some _ from congrArg some (by unfold tn;rw [h0])),fun h0=>(show some _=some _ from congrArg some (by unfold tn;rw [h0]))⟩
def Bf (a:Fp2):Bool:=tn yb a
theorem Yi:CallOk Tryz.prog 146 (K1 (aa Fp2).arg kBool.rs.res Bf) :=
 P1 (aj (.cons aa7 .nil)) Tryz.func146 (ab Tryz.func146 (by kernel_rfl) (by kernel_rfl)) 300 (aa Fp2) kBool.rs Bf (SR yb) (SQ yb)
def EU (f0:Fp->Fp->Fp) (a:Fp2) (b:Fp2):Fp2:=({ c0:=f0 a.c0 b.c0,c1:=f0 a.c1 b.c1 })
def P6 (f0:Fp->Fp->Fp) (a:Fp2) (b:Fp2):Tree (Option (Fp2)) :=
 (.leaf (some ({ c0:=f0 a.c0 b.c0,c1:=f0 a.c1 b.c1 })))
theorem UB (f0:Fp->Fp->Fp) (a:Fp2) (b:Fp2):ac (En [(141,Kff f0)]) (aa Fp2).rs 300 Tryz.f178 [.one ((aa Fp2).av a),.one ((aa Fp2).av b)]=P6 f0 a b:=by kernel_rfl
theorem UA (f0:Fp->Fp->Fp) (a:Fp2) (b:Fp2):(P6 f0 a b).sat fun q=>q=some (EU f0 a b):=(show some _=some _ from rfl)
def aI (a:Fp2) (b:Fp2):Fp2:=EU fo a b
theorem f9:CallOk Tryz.prog 178 (K2 (aa Fp2).arg (aa Fp2).arg (aa Fp2).rs.res aI) :=
 P2 (aj (.cons sc .nil)) Tryz.func178 (ab Tryz.func178 (by kernel_rfl) (by kernel_rfl)) 300 (aa Fp2) (aa Fp2) (aa Fp2).rs aI (UB fo) (UA fo)
def DV (f0:Fp->Fp->Fp) (a:Fp2) (b:Fp2):Fp2:=({ c0:=f0 a.c0 b.c0,c1:=f0 a.c1 b.c1 })
def Ok (f0:Fp->Fp->Fp) (a:Fp2) (b:Fp2):Tree (Option (Fp2)) :=
 (.leaf (some ({ c0:=f0 a.c0 b.c0,c1:=f0 a.c1 b.c1 })))
theorem QN (f0:Fp->Fp->Fp) (a:Fp2) (b:Fp2):ac (En [(142,Kff f0)]) (aa Fp2).rs 300 Tryz.f179 [.one ((aa Fp2).av a),.one ((aa Fp2).av b)]=Ok f0 a b:=by kernel_rfl
theorem QM (f0:Fp->Fp->Fp) (a:Fp2) (b:Fp2):(Ok f0 a b).sat fun q=>q=some (DV f0 a b):=(show some _=some _ from rfl)
def aH (a:Fp2) (b:Fp2):Fp2:=DV fB a b
theorem fV:CallOk Tryz.prog 179 (K2 (aa Fp2).arg (aa Fp2).arg (aa Fp2).rs.res aH) :=
 P2 (aj (.cons sub_ok .nil)) Tryz.func179 (ab Tryz.func179 (by kernel_rfl) (by kernel_rfl)) 300 (aa Fp2) (aa Fp2) (aa Fp2).rs aH (QN fB) (QM fB)
def Es (f0:Fp->Fp) (a:Fp2):Fp2:=({ c0:=f0 a.c0,c1:=f0 a.c1 })
def OW (f0:Fp->Fp) (a:Fp2):Tree (Option (Fp2)) :=
 (.leaf (some ({ c0:=f0 a.c0,c1:=f0 a.c1 })))
theorem Sp (f0:Fp->Fp) (a:Fp2):ac (En [(111,Kf f0)]) (aa Fp2).rs 300 Tryz.f201 [.one ((aa Fp2).av a)]=OW f0 a:=by kernel_rfl
theorem So (f0:Fp->Fp) (a:Fp2):(OW f0 a).sat fun q=>q=some (Es f0 a):=(show some _=some _ from rfl)
def kD (a:Fp2):Fp2:=Es lD a
theorem XQ:CallOk Tryz.prog 201 (K1 (aa Fp2).arg (aa Fp2).rs.res kD) :=
 P1 (aj (.cons Nt .nil)) Tryz.func201 (ab Tryz.func201 (by kernel_rfl) (by kernel_rfl)) 300 (aa Fp2) (aa Fp2).rs kD (Sp lD) (So lD)
def zZ (f0:Fp->Fp->Fp) (f1:Fp->Fp->Fp) (f2:Fp->Fp->Fp) (a:Fp2) (b:Fp2):Fp2:=({ c0:=f2 (f0 a.c0 b.c0) (f0 a.c1 b.c1),c1:=f2 (f0 (f1 a.c0 a.c1) (f1 b.c0 b.c1)) (f1 (f0 a.c0 b.c0) (f0 a.c1 b.c1)) })
def I1 (f0:Fp->Fp->Fp) (f1:Fp->Fp->Fp) (f2:Fp->Fp->Fp) (a:Fp2) (b:Fp2):Tree (Option (Fp2)) :=
 (.leaf (some ({ c0:=f2 (f0 a.c0 b.c0) (f0 a.c1 b.c1),c1:=f2 (f0 (f1 a.c0 a.c1) (f1 b.c0 b.c1)) (f1 (f0 a.c0 b.c0) (f0 a.c1 b.c1)) })))
theorem Mg (f0:Fp->Fp->Fp) (f1:Fp->Fp->Fp) (f2:Fp->Fp->Fp) (a:Fp2) (b:Fp2):ac (En [(140,Kff f0),(141,Kff f1),(142,Kff f2)]) (aa Fp2).rs 300 Tryz.f177 [.one ((aa Fp2).av a),.one ((aa Fp2).av b)]=I1 f0 f1 f2 a b:=by kernel_rfl
theorem Mf (f0:Fp->Fp->Fp) (f1:Fp->Fp->Fp) (f2:Fp->Fp->Fp) (a:Fp2) (b:Fp2):(I1 f0 f1 f2 a b).sat fun q=>q=some (zZ f0 f1 f2 a b):=(show some _=some _ from rfl)
def ag (a:Fp2) (b:Fp2):Fp2:=zZ aZ fo fB a b
theorem cS:CallOk Tryz.prog 177 (K2 (aa Fp2).arg (aa Fp2).arg (aa Fp2).rs.res ag) :=
 P2 (aj (.cons nB (.cons sc (.cons sub_ok .nil)))) Tryz.func177 (ab Tryz.func177 (by kernel_rfl) (by kernel_rfl)) 300 (aa Fp2) (aa Fp2) (aa Fp2).rs ag (Mg aZ fo fB) (Mf aZ fo fB)
def tQ (f0:Fp->Fp) (a:Fp2):Fp2:=({ c0:=f0 a.c0,c1:=f0 a.c1 })
def Bs (f0:Fp->Fp) (a:Fp2):Tree (Option (Fp2)) :=
 (.leaf (some ({ c0:=f0 a.c0,c1:=f0 a.c1 })))
theorem FT (f0:Fp->Fp) (a:Fp2):ac (En [(136,Kf f0)]) (aa Fp2).rs 300 Tryz.f151 [.one ((aa Fp2).av a)]=Bs f0 a:=by kernel_rfl
theorem FS (f0:Fp->Fp) (a:Fp2):(Bs f0 a).sat fun q=>q=some (tQ f0 a):=(show some _=some _ from rfl)
def ay (a:Fp2):Fp2:=tQ bj a
theorem gh:CallOk Tryz.prog 151 (K1 (aa Fp2).arg (aa Fp2).rs.res ay) :=
 P1 (aj (.cons oH .nil)) Tryz.func151 (ab Tryz.func151 (by kernel_rfl) (by kernel_rfl)) 300 (aa Fp2) (aa Fp2).rs ay (FT bj) (FS bj)
def EB (f0:Fp->Fp) (a:Fp2):Fp2:=({ c0:=f0 a.c0,c1:=f0 a.c1 })
def O3 (f0:Fp->Fp) (a:Fp2):Tree (Option (Fp2)) :=
 (.leaf (some ({ c0:=f0 a.c0,c1:=f0 a.c1 })))
theorem S0 (f0:Fp->Fp) (a:Fp2):ac (En [(138,Kf f0)]) (aa Fp2).rs 300 Tryz.f180 [.one ((aa Fp2).av a)]=O3 f0 a:=by kernel_rfl
theorem SZ (f0:Fp->Fp) (a:Fp2):(O3 f0 a).sat fun q=>q=some (EB f0 a):=(show some _=some _ from rfl)
def gu (a:Fp2):Fp2:=EB jm a
theorem zR:CallOk Tryz.prog 180 (K1 (aa Fp2).arg (aa Fp2).rs.res gu) :=
 P1 (aj (.cons NA .nil)) Tryz.func180 (ab Tryz.func180 (by kernel_rfl) (by kernel_rfl)) 300 (aa Fp2) (aa Fp2).rs gu (S0 jm) (SZ jm)
def Ev (f0:Fp2->Fp2->Fp2) (f1:Fp2->Fp2) (a:Fp2) (b:Fp2):Fp2:=(f1 (f0 a b))
def OY (f0:Fp2->Fp2->Fp2) (f1:Fp2->Fp2) (a:Fp2) (b:Fp2):Tree (Option (Fp2)) :=
 (.leaf (some (f1 (f0 a b))))
theorem Sz (f0:Fp2->Fp2->Fp2) (f1:Fp2->Fp2) (a:Fp2) (b:Fp2):ac (En [(177,K2 (aa Fp2).arg (aa Fp2).arg (aa Fp2).rs.res f0),(151,K1 (aa Fp2).arg (aa Fp2).rs.res f1)]) (aa Fp2).rs 300 Tryz.f147 [.one ((aa Fp2).av a),.one ((aa Fp2).av b)]=OY f0 f1 a b:=by kernel_rfl
theorem Sy (f0:Fp2->Fp2->Fp2) (f1:Fp2->Fp2) (a:Fp2) (b:Fp2):(OY f0 f1 a b).sat fun q=>q=some (Ev f0 f1 a b):=(show some _=some _ from rfl)
def b9 (a:Fp2) (b:Fp2):Fp2:=Ev ag ay a b
theorem zJ:CallOk Tryz.prog 147 (K2 (aa Fp2).arg (aa Fp2).arg (aa Fp2).rs.res b9) :=
 P2 (aj (.cons cS (.cons gh .nil))) Tryz.func147 (ab Tryz.func147 (by kernel_rfl) (by kernel_rfl)) 300 (aa Fp2) (aa Fp2) (aa Fp2).rs b9 (Sz ag ay) (Sy ag ay)
def Af (f0:Fp->Fp) (a:Fp2):Fp2:=({ c0:=a.c0,c1:=f0 a.c1 })
def Jb (f0:Fp->Fp) (a:Fp2):Tree (Option (Fp2)) :=
 (.leaf (some ({ c0:=a.c0,c1:=f0 a.c1 })))
theorem MG (f0:Fp->Fp) (a:Fp2):ac (En [(111,Kf f0)]) (aa Fp2).rs 300 Tryz.f191 [.one ((aa Fp2).av a)]=Jb f0 a:=by kernel_rfl
theorem MF (f0:Fp->Fp) (a:Fp2):(Jb f0 a).sat fun q=>q=some (Af f0 a):=(show some _=some _ from rfl)
def dm (a:Fp2):Fp2:=Af lD a
theorem CI:CallOk Tryz.prog 191 (K1 (aa Fp2).arg (aa Fp2).rs.res dm) :=
 P1 (aj (.cons Nt .nil)) Tryz.func191 (ab Tryz.func191 (by kernel_rfl) (by kernel_rfl)) 300 (aa Fp2) (aa Fp2).rs dm (MG lD) (MF lD)
def Na (f0:Fp->Fp->Fp) (f1:Fp->Fp->Fp) (a:Fp2):Fp2:=({ c0:=f1 a.c0 a.c1,c1:=f0 a.c0 a.c1 })
def aam (f0:Fp->Fp->Fp) (f1:Fp->Fp->Fp) (a:Fp2):Tree (Option (Fp2)) :=
 (.leaf (some ({ c0:=f1 a.c0 a.c1,c1:=f0 a.c0 a.c1 })))
theorem VA (f0:Fp->Fp->Fp) (f1:Fp->Fp->Fp) (a:Fp2):ac (En [(141,Kff f0),(142,Kff f1)]) (aa Fp2).rs 300 Tryz.f198 [.one ((aa Fp2).av a)]=aam f0 f1 a:=by kernel_rfl
theorem Vz (f0:Fp->Fp->Fp) (f1:Fp->Fp->Fp) (a:Fp2):(aam f0 f1 a).sat fun q=>q=some (Na f0 f1 a):=(show some _=some _ from rfl)
def iW (a:Fp2):Fp2:=Na fo fB a
theorem wY:CallOk Tryz.prog 198 (K1 (aa Fp2).arg (aa Fp2).rs.res iW) :=
 P1 (aj (.cons sc (.cons sub_ok .nil))) Tryz.func198 (ab Tryz.func198 (by kernel_rfl) (by kernel_rfl)) 300 (aa Fp2) (aa Fp2).rs iW (VA fo fB) (Vz fo fB)
def zE (f0:Fp->Fp->Fp) (f1:Fp->Fp->Fp) (a:Fp2):Fp:=(f0 (f1 a.c0 a.c0) (f1 a.c1 a.c1))
def Ir (f0:Fp->Fp->Fp) (f1:Fp->Fp->Fp) (a:Fp2):Tree (Option (Fp)) :=
 (.leaf (some (f0 (f1 a.c0 a.c0) (f1 a.c1 a.c1))))
theorem Lu (f0:Fp->Fp->Fp) (f1:Fp->Fp->Fp) (a:Fp2):ac (En [(141,Kff f0),(139,Kff f1)]) (aa Fp).rs 300 Tryz.f202 [.one ((aa Fp2).av a)]=Ir f0 f1 a:=by kernel_rfl
theorem Lt (f0:Fp->Fp->Fp) (f1:Fp->Fp->Fp) (a:Fp2):(Ir f0 f1 a).sat fun q=>q=some (zE f0 f1 a):=(show some _=some _ from rfl)
def jA (a:Fp2):Fp:=zE fo gU a
theorem Sd:CallOk Tryz.prog 202 (K1 (aa Fp2).arg (aa Fp).rs.res jA) :=
 P1 (aj (.cons sc (.cons AK .nil))) Tryz.func202 (ab Tryz.func202 (by kernel_rfl) (by kernel_rfl)) 300 (aa Fp2) (aa Fp).rs jA (Lu fo gU) (Lt fo gU)
def qV (f0:Fp->Fp->Fp) (a:Fp2) (k:Fp):Fp2:=({ c0:=f0 a.c0 k,c1:=f0 a.c1 k })
def xn (f0:Fp->Fp->Fp) (a:Fp2) (k:Fp):Tree (Option (Fp2)) :=
 (.leaf (some ({ c0:=f0 a.c0 k,c1:=f0 a.c1 k })))
theorem C7 (f0:Fp->Fp->Fp) (a:Fp2) (k:Fp):ac (En [(139,Kff f0)]) (aa Fp2).rs 300 Tryz.f203 [.one ((aa Fp2).av a),.one ((aa Fp).av k)]=xn f0 a k:=by kernel_rfl
theorem C6 (f0:Fp->Fp->Fp) (a:Fp2) (k:Fp):(xn f0 a k).sat fun q=>q=some (qV f0 a k):=(show some _=some _ from rfl)
def g8 (a:Fp2) (k:Fp):Fp2:=qV gU a k
theorem F7:CallOk Tryz.prog 203 (K2 (aa Fp2).arg (aa Fp).arg (aa Fp2).rs.res g8) :=
 P2 (aj (.cons AK .nil)) Tryz.func203 (ab Tryz.func203 (by kernel_rfl) (by kernel_rfl)) 300 (aa Fp2) (aa Fp) (aa Fp2).rs g8 (C7 gU) (C6 gU)
def lJ (f0:Fp->Fp × Int) (f1:Fp2->Fp) (f2:Fp2->Fp->Fp2) (f3:Fp2->Fp2) (a:Fp2):Fp2 × Int:=(match ((f0 (f1 a)).snd != 0) with | true=>((zeroFp2,(f0 (f1 a)).snd)) | false=>((f2 (f3 a) (f0 (f1 a)).fst,0)))
def Pc (f0:Fp->Fp × Int) (f1:Fp2->Fp) (f2:Fp2->Fp->Fp2) (f3:Fp2->Fp2) (a:Fp2):Tree (Option (Fp2 × Int)) :=
 (.br ((f0 (f1 a)).snd != 0)
  (.leaf (some ((zeroFp2,(f0 (f1 a)).snd))))
  (.leaf (some ((f2 (f3 a) (f0 (f1 a)).fst,0)))))
theorem To (f0:Fp->Fp × Int) (f1:Fp2->Fp) (f2:Fp2->Fp->Fp2) (f3:Fp2->Fp2) (a:Fp2):ac (En [(137,agD f0),(202,K1 (aa Fp2).arg (aa Fp).rs.res f1),(203,K2 (aa Fp2).arg (aa Fp).arg (aa Fp2).rs.res f2),(191,K1 (aa Fp2).arg (aa Fp2).rs.res f3)]) ((aa Fp2).rs2 kInt) 300 Tryz.f199 [.one ((aa Fp2).av a)]=Pc f0 f1 f2 f3 a:=by kernel_rfl
theorem Tn (f0:Fp->Fp × Int) (f1:Fp2->Fp) (f2:Fp2->Fp->Fp2) (f3:Fp2->Fp2) (a:Fp2):(Pc f0 f1 f2 f3 a).sat fun q=>q=some (lJ f0 f1 f2 f3 a):=⟨fun h0=>(show some _=some _ from congrArg some (by unfold lJ;rw [h0])),fun h0=>(show some _=some _ from congrArg some (by unfold lJ;rw [h0]))⟩
def jd (a:Fp2):Fp2 × Int:=lJ i6 jA g8 dm a
theorem IV:CallOk Tryz.prog 199 (K1 (aa Fp2).arg ((aa Fp2).rs2 kInt).res jd) :=
 P1 (aj (.cons abj (.cons Sd (.cons F7 (.cons CI .nil))))) Tryz.func199 (ab Tryz.func199 (by kernel_rfl) (by kernel_rfl)) 300 (aa Fp2) ((aa Fp2).rs2 kInt) jd (To i6 jA g8 dm) (Tn i6 jA g8 dm)
end
section
def EV (f0:Fp->Fp->Fp) (a:Fp2) (b:Fp2):Fp2:=({ c0:=f0 a.c0 b.c0,c1:=f0 a.c1 b.c1 })
def P7 (f0:Fp->Fp->Fp) (a:Fp2) (b:Fp2):Tree (Option (Fp2)) :=
 (.leaf (some ({ c0:=f0 a.c0 b.c0,c1:=f0 a.c1 b.c1 })))
theorem UD (f0:Fp->Fp->Fp) (a:Fp2) (b:Fp2):ac (En [(78,Kff f0)]) (aa Fp2).rs 300 Tryz.f117 [.one ((aa Fp2).av a),.one ((aa Fp2).av b)]=P7 f0 a b:=by kernel_rfl
theorem UC (f0:Fp->Fp->Fp) (a:Fp2) (b:Fp2):(P7 f0 a b).sat fun q=>q=some (EV f0 a b):=(show some _=some _ from rfl)
def ni (a:Fp2) (b:Fp2):Fp2:=EV rB a b
theorem Ju:CallOk Tryz.prog 117 (K2 (aa Fp2).arg (aa Fp2).arg (aa Fp2).rs.res ni) :=
 P2 (aj (.cons P4 .nil)) Tryz.func117 (ab Tryz.func117 (by kernel_rfl) (by kernel_rfl)) 300 (aa Fp2) (aa Fp2) (aa Fp2).rs ni (UD rB) (UC rB)
def DW (f0:Fp->Fp->Fp) (a:Fp2) (b:Fp2):Fp2:=({ c0:=f0 a.c0 b.c0,c1:=f0 a.c1 b.c1 })
def Ol (f0:Fp->Fp->Fp) (a:Fp2) (b:Fp2):Tree (Option (Fp2)) :=
 (.leaf (some ({ c0:=f0 a.c0 b.c0,c1:=f0 a.c1 b.c1 })))
theorem QQ (f0:Fp->Fp->Fp) (a:Fp2) (b:Fp2):ac (En [(164,Kff f0)]) (aa Fp2).rs 300 Tryz.f116 [.one ((aa Fp2).av a),.one ((aa Fp2).av b)]=Ol f0 a b:=by kernel_rfl
theorem QO (f0:Fp->Fp->Fp) (a:Fp2) (b:Fp2):(Ol f0 a b).sat fun q=>q=some (DW f0 a b):=(show some _=some _ from rfl)
def qS (a:Fp2) (b:Fp2):Fp2:=DW nJ a b
theorem VY:CallOk Tryz.prog 116 (K2 (aa Fp2).arg (aa Fp2).arg (aa Fp2).rs.res qS) :=
 P2 (aj (.cons DT .nil)) Tryz.func116 (ab Tryz.func116 (by kernel_rfl) (by kernel_rfl)) 300 (aa Fp2) (aa Fp2) (aa Fp2).rs qS (QQ nJ) (QO nJ)
def Ew (f0:Fp->Fp->Fp) (f1:Fp->Fp->Fp) (f2:Fp->Fp->Fp) (a:Fp2) (b:Fp2):Fp2:=({ c0:=f0 (f1 a.c0 b.c0) (f1 a.c1 b.c1),c1:=f2 (f1 a.c0 b.c1) (f1 a.c1 b.c0) })
def OZ (f0:Fp->Fp->Fp) (f1:Fp->Fp->Fp) (f2:Fp->Fp->Fp) (a:Fp2) (b:Fp2):Tree (Option (Fp2)) :=
 (.leaf (some ({ c0:=f0 (f1 a.c0 b.c0) (f1 a.c1 b.c1),c1:=f2 (f1 a.c0 b.c1) (f1 a.c1 b.c0) })))
theorem SB (f0:Fp->Fp->Fp) (f1:Fp->Fp->Fp) (f2:Fp->Fp->Fp) (a:Fp2) (b:Fp2):ac (En [(164,Kff f0),(79,Kff f1),(78,Kff f2)]) (aa Fp2).rs 300 Tryz.f163 [.one ((aa Fp2).av a),.one ((aa Fp2).av b)]=OZ f0 f1 f2 a b:=by kernel_rfl
theorem SA (f0:Fp->Fp->Fp) (f1:Fp->Fp->Fp) (f2:Fp->Fp->Fp) (a:Fp2) (b:Fp2):(OZ f0 f1 f2 a b).sat fun q=>q=some (Ew f0 f1 f2 a b):=(show some _=some _ from rfl)
def jJ (a:Fp2) (b:Fp2):Fp2:=Ew nJ eQ rB a b
theorem sJ:CallOk Tryz.prog 163 (K2 (aa Fp2).arg (aa Fp2).arg (aa Fp2).rs.res jJ) :=
 P2 (aj (.cons DT (.cons xQ (.cons P4 .nil)))) Tryz.func163 (ab Tryz.func163 (by kernel_rfl) (by kernel_rfl)) 300 (aa Fp2) (aa Fp2) (aa Fp2).rs jJ (SB nJ eQ rB) (SA nJ eQ rB)
def Ag (f0:Fp->Fp) (a:Fp2):Fp2:=({ c0:=a.c0,c1:=f0 a.c1 })
def Jd (f0:Fp->Fp) (a:Fp2):Tree (Option (Fp2)) :=
 (.leaf (some ({ c0:=a.c0,c1:=f0 a.c1 })))
theorem MJ (f0:Fp->Fp) (a:Fp2):ac (En [(127,Kf f0)]) (aa Fp2).rs 300 Tryz.f195 [.one ((aa Fp2).av a)]=Jd f0 a:=by kernel_rfl
theorem MI (f0:Fp->Fp) (a:Fp2):(Jd f0 a).sat fun q=>q=some (Ag f0 a):=(show some _=some _ from rfl)
def n5 (a:Fp2):Fp2:=Ag Bd a
theorem TW:CallOk Tryz.prog 195 (K1 (aa Fp2).arg (aa Fp2).rs.res n5) :=
 P1 (aj (.cons aec .nil)) Tryz.func195 (ab Tryz.func195 (by kernel_rfl) (by kernel_rfl)) 300 (aa Fp2) (aa Fp2).rs n5 (MJ Bd) (MI Bd)
def Ek (f0:UInt64->Fp):Fp2:=({ c0:=f0 (1:UInt64),c1:=zeroFp })
def OK (f0:UInt64->Fp):Tree (Option (Fp2)) :=
 (.leaf (some ({ c0:=f0 (1:UInt64),c1:=zeroFp })))
theorem R6 (f0:UInt64->Fp):ac (En [(76,Kof f0)]) (aa Fp2).rs 300 Tryz.f120 []=OK f0:=by kernel_rfl
theorem R5 (f0:UInt64->Fp):(OK f0).sat fun q=>q=some (Ek f0):=(show some _=some _ from rfl)
def nO  : Fp2:=Ek ofF
theorem zx:CallOk Tryz.prog 120 (K0 (aa Fp2).rs.res nO) :=
 P0 (aj (.cons Ns .nil)) Tryz.func120 (ab Tryz.func120 (by kernel_rfl) (by kernel_rfl)) 300  (aa Fp2).rs nO (R6 ofF) (R5 ofF)
def M4 (f0:UInt64->Fp):Fp2:=({ c0:=f0 (1:UInt64),c1:=f0 (1:UInt64) })
def aac (f0:UInt64->Fp):Tree (Option (Fp2)) :=
 (.leaf (some ({ c0:=f0 (1:UInt64),c1:=f0 (1:UInt64) })))
theorem Vo (f0:UInt64->Fp):ac (En [(76,Kof f0)]) (aa Fp2).rs 300 Tryz.f165 []=aac f0:=by kernel_rfl
theorem Vn (f0:UInt64->Fp):(aac f0).sat fun q=>q=some (M4 f0):=(show some _=some _ from rfl)
def xi2R  : Fp2:=M4 ofF
theorem acA:CallOk Tryz.prog 165 (K0 (aa Fp2).rs.res xi2R) :=
 P0 (aj (.cons Ns .nil)) Tryz.func165 (ab Tryz.func165 (by kernel_rfl) (by kernel_rfl)) 300  (aa Fp2).rs xi2R (Vo ofF) (Vn ofF)
def lK (f0:Fp2->Fp2->Fp2) (f1:Fp2->Fp2) (f2:Fp->Fp × Int) (a:Fp2):Fp2 × Int:=(match ((f2 (f0 a (f1 a)).c0).snd != 0) with | true=>((zeroFp2,(f2 (f0 a (f1 a)).c0).snd)) | false=>((f0 (f1 a) { c0:=(f2 (f0 a (f1 a)).c0).fst,c1:=zeroFp },0)))
def Pd (f0:Fp2->Fp2->Fp2) (f1:Fp2->Fp2) (f2:Fp->Fp × Int) (a:Fp2):Tree (Option (Fp2 × Int)) :=
 (.br ((f2 (f0 a (f1 a)).c0).snd != 0)
  (.leaf (some ((zeroFp2,(f2 (f0 a (f1 a)).c0).snd))))
  (.leaf (some ((f0 (f1 a) { c0:=(f2 (f0 a (f1 a)).c0).fst,c1:=zeroFp },0)))))
theorem Tu (f0:Fp2->Fp2->Fp2) (f1:Fp2->Fp2) (f2:Fp->Fp × Int) (a:Fp2):ac (En [(163,K2 (aa Fp2).arg (aa Fp2).arg (aa Fp2).rs.res f0),(195,K1 (aa Fp2).arg (aa Fp2).rs.res f1),(114,agD f2)]) ((aa Fp2).rs2 kInt) 300 Tryz.f162 [.one ((aa Fp2).av a)]=Pd f0 f1 f2 a:=by kernel_rfl
theorem Tt (f0:Fp2->Fp2->Fp2) (f1:Fp2->Fp2) (f2:Fp->Fp × Int) (a:Fp2):(Pd f0 f1 f2 a).sat fun q=>q=some (lK f0 f1 f2 a):=⟨fun h0=>(show some _=some _ from congrArg some (by unfold lK;rw [h0])),fun h0=>(show some _=some _ from congrArg some (by unfold lK;rw [h0]))⟩
def vl (a:Fp2):Fp2 × Int:=lK jJ n5 pv a
theorem YN:CallOk Tryz.prog 162 (K1 (aa Fp2).arg ((aa Fp2).rs2 kInt).res vl) :=
 P1 (aj (.cons sJ (.cons TW (.cons Pa .nil)))) Tryz.func162 (ab Tryz.func162 (by kernel_rfl) (by kernel_rfl)) 300 (aa Fp2) ((aa Fp2).rs2 kInt) vl (Tu jJ n5 pv) (Tt jJ n5 pv)
end
section
def y9 (f0:Fp2->Fp2->Fp2) (a:Fp6) (b:Fp6) (f:Unit):Fp6:=({ c0:=f0 a.c0 b.c0,c1:=f0 a.c1 b.c1,c2:=f0 a.c2 b.c2 })
def Ho (f0:Fp2->Fp2->Fp2) (a:Fp6) (b:Fp6) (f:Unit):Tree (Option (Fp6)) :=
 (.leaf (some ({ c0:=f0 a.c0 b.c0,c1:=f0 a.c1 b.c1,c2:=f0 a.c2 b.c2 })))
theorem JG (f0:Fp2->Fp2->Fp2) (a:Fp6) (b:Fp6) (f:Unit):ac (En [(178,K2 (aa Fp2).arg (aa Fp2).arg (aa Fp2).rs.res f0)]) (aa Fp6).rs 300 Tryz.f197 [.one ((aa Fp6).av a),.one ((aa Fp6).av b),.one ((kFn 178).av f)]=Ho f0 a b f:=by kernel_rfl
theorem JF (f0:Fp2->Fp2->Fp2) (a:Fp6) (b:Fp6) (f:Unit):(Ho f0 a b f).sat fun q=>q=some (y9 f0 a b f):=(show some _=some _ from rfl)
def vB (a:Fp6) (b:Fp6) (f:Unit):Fp6:=y9 aI a b f
theorem Qj:CallOk Tryz.prog 197 (K3 (aa Fp6).arg (aa Fp6).arg (kFn 178).arg (aa Fp6).rs.res vB) :=
 P3 (aj (.cons f9 .nil)) Tryz.func197 (ab Tryz.func197 (by kernel_rfl) (by kernel_rfl)) 300 (aa Fp6) (aa Fp6) (kFn 178) (aa Fp6).rs vB (JG aI) (JF aI)
def y8 (f0:Fp2->Fp2->Fp2) (a:Fp6) (b:Fp6) (f:Unit):Fp6:=({ c0:=f0 a.c0 b.c0,c1:=f0 a.c1 b.c1,c2:=f0 a.c2 b.c2 })
def Hn (f0:Fp2->Fp2->Fp2) (a:Fp6) (b:Fp6) (f:Unit):Tree (Option (Fp6)) :=
 (.leaf (some ({ c0:=f0 a.c0 b.c0,c1:=f0 a.c1 b.c1,c2:=f0 a.c2 b.c2 })))
theorem JE (f0:Fp2->Fp2->Fp2) (a:Fp6) (b:Fp6) (f:Unit):ac (En [(179,K2 (aa Fp2).arg (aa Fp2).arg (aa Fp2).rs.res f0)]) (aa Fp6).rs 300 Tryz.f197 [.one ((aa Fp6).av a),.one ((aa Fp6).av b),.one ((kFn 179).av f)]=Hn f0 a b f:=by kernel_rfl
theorem JD (f0:Fp2->Fp2->Fp2) (a:Fp6) (b:Fp6) (f:Unit):(Hn f0 a b f).sat fun q=>q=some (y8 f0 a b f):=(show some _=some _ from rfl)
def vA (a:Fp6) (b:Fp6) (f:Unit):Fp6:=y8 aH a b f
theorem Qi:CallOk Tryz.prog 197 (K3 (aa Fp6).arg (aa Fp6).arg (kFn 179).arg (aa Fp6).rs.res vA) :=
 P3 (aj (.cons fV .nil)) Tryz.func197 (ab Tryz.func197 (by kernel_rfl) (by kernel_rfl)) 300 (aa Fp6) (aa Fp6) (kFn 179) (aa Fp6).rs vA (JE aH) (JD aH)
def ET (f0:Fp6->Fp6->Unit->Fp6) (a:Fp6) (b:Fp6):Fp6:=(f0 a b ())
def P5 (f0:Fp6->Fp6->Unit->Fp6) (a:Fp6) (b:Fp6):Tree (Option (Fp6)) :=
 (.leaf (some (f0 a b ())))
theorem Uz (f0:Fp6->Fp6->Unit->Fp6) (a:Fp6) (b:Fp6):ac (En [(197,K3 (aa Fp6).arg (aa Fp6).arg (kFn 178).arg (aa Fp6).rs.res f0)]) (aa Fp6).rs 300 Tryz.f187 [.one ((aa Fp6).av a),.one ((aa Fp6).av b)]=P5 f0 a b:=by kernel_rfl
theorem Uy (f0:Fp6->Fp6->Unit->Fp6) (a:Fp6) (b:Fp6):(P5 f0 a b).sat fun q=>q=some (ET f0 a b):=(show some _=some _ from rfl)
def ng (a:Fp6) (b:Fp6):Fp6:=ET vB a b
theorem aab:CallOk Tryz.prog 187 (K2 (aa Fp6).arg (aa Fp6).arg (aa Fp6).rs.res ng) :=
 P2 (aj (.cons Qj .nil)) Tryz.func187 (ab Tryz.func187 (by kernel_rfl) (by kernel_rfl)) 300 (aa Fp6) (aa Fp6) (aa Fp6).rs ng (Uz vB) (Uy vB)
def DU (f0:Fp6->Fp6->Unit->Fp6) (a:Fp6) (b:Fp6):Fp6:=(f0 a b ())
def Oj (f0:Fp6->Fp6->Unit->Fp6) (a:Fp6) (b:Fp6):Tree (Option (Fp6)) :=
 (.leaf (some (f0 a b ())))
theorem QL (f0:Fp6->Fp6->Unit->Fp6) (a:Fp6) (b:Fp6):ac (En [(197,K3 (aa Fp6).arg (aa Fp6).arg (kFn 179).arg (aa Fp6).rs.res f0)]) (aa Fp6).rs 300 Tryz.f181 [.one ((aa Fp6).av a),.one ((aa Fp6).av b)]=Oj f0 a b:=by kernel_rfl
theorem QK (f0:Fp6->Fp6->Unit->Fp6) (a:Fp6) (b:Fp6):(Oj f0 a b).sat fun q=>q=some (DU f0 a b):=(show some _=some _ from rfl)
def io (a:Fp6) (b:Fp6):Fp6:=DU vA a b
theorem zl:CallOk Tryz.prog 181 (K2 (aa Fp6).arg (aa Fp6).arg (aa Fp6).rs.res io) :=
 P2 (aj (.cons Qi .nil)) Tryz.func181 (ab Tryz.func181 (by kernel_rfl) (by kernel_rfl)) 300 (aa Fp6) (aa Fp6) (aa Fp6).rs io (QL vA) (QK vA)
def Er (f0:Fp6->Fp6->Fp6) (a:Fp6):Fp6:=(f0 zeroFp6 a)
def OV (f0:Fp6->Fp6->Fp6) (a:Fp6):Tree (Option (Fp6)) :=
 (.leaf (some (f0 zeroFp6 a)))
theorem Sn (f0:Fp6->Fp6->Fp6) (a:Fp6):ac (En [(181,K2 (aa Fp6).arg (aa Fp6).arg (aa Fp6).rs.res f0)]) (aa Fp6).rs 300 Tryz.f185 [.one ((aa Fp6).av a)]=OV f0 a:=by kernel_rfl
theorem Sm (f0:Fp6->Fp6->Fp6) (a:Fp6):(OV f0 a).sat fun q=>q=some (Er f0 a):=(show some _=some _ from rfl)
def nP (a:Fp6):Fp6:=Er io a
theorem Iu:CallOk Tryz.prog 185 (K1 (aa Fp6).arg (aa Fp6).rs.res nP) :=
 P1 (aj (.cons zl .nil)) Tryz.func185 (ab Tryz.func185 (by kernel_rfl) (by kernel_rfl)) 300 (aa Fp6) (aa Fp6).rs nP (Sn io) (Sm io)
def M9 (f0:Fp2->Fp2) (a:Fp6):Fp6:=({ c0:=f0 a.c2,c1:=a.c0,c2:=a.c1 })
def aal (f0:Fp2->Fp2) (a:Fp6):Tree (Option (Fp6)) :=
 (.leaf (some ({ c0:=f0 a.c2,c1:=a.c0,c2:=a.c1 })))
theorem Vy (f0:Fp2->Fp2) (a:Fp6):ac (En [(198,K1 (aa Fp2).arg (aa Fp2).rs.res f0)]) (aa Fp6).rs 300 Tryz.f183 [.one ((aa Fp6).av a)]=aal f0 a:=by kernel_rfl
theorem Vx (f0:Fp2->Fp2) (a:Fp6):(aal f0 a).sat fun q=>q=some (M9 f0 a):=(show some _=some _ from rfl)
def uM (a:Fp6):Fp6:=M9 iW a
theorem N8:CallOk Tryz.prog 183 (K1 (aa Fp6).arg (aa Fp6).rs.res uM) :=
 P1 (aj (.cons wY .nil)) Tryz.func183 (ab Tryz.func183 (by kernel_rfl) (by kernel_rfl)) 300 (aa Fp6) (aa Fp6).rs uM (Vy iW) (Vx iW)
def tP (f0:Fp2->Fp2) (a:Fp6):Fp6:=({ c0:=f0 a.c0,c1:=f0 a.c1,c2:=f0 a.c2 })
def Br (f0:Fp2->Fp2) (a:Fp6):Tree (Option (Fp6)) :=
 (.leaf (some ({ c0:=f0 a.c0,c1:=f0 a.c1,c2:=f0 a.c2 })))
theorem FR (f0:Fp2->Fp2) (a:Fp6):ac (En [(151,K1 (aa Fp2).arg (aa Fp2).rs.res f0)]) (aa Fp6).rs 300 Tryz.f188 [.one ((aa Fp6).av a)]=Br f0 a:=by kernel_rfl
theorem FQ (f0:Fp2->Fp2) (a:Fp6):(Br f0 a).sat fun q=>q=some (tP f0 a):=(show some _=some _ from rfl)
def eo (a:Fp6):Fp6:=tP ay a
theorem wM:CallOk Tryz.prog 188 (K1 (aa Fp6).arg (aa Fp6).rs.res eo) :=
 P1 (aj (.cons gh .nil)) Tryz.func188 (ab Tryz.func188 (by kernel_rfl) (by kernel_rfl)) 300 (aa Fp6) (aa Fp6).rs eo (FR ay) (FQ ay)
def EA (f0:Fp2->Fp2) (a:Fp6):Fp6:=({ c0:=f0 a.c0,c1:=f0 a.c1,c2:=f0 a.c2 })
def O2 (f0:Fp2->Fp2) (a:Fp6):Tree (Option (Fp6)) :=
 (.leaf (some ({ c0:=f0 a.c0,c1:=f0 a.c1,c2:=f0 a.c2 })))
theorem SY (f0:Fp2->Fp2) (a:Fp6):ac (En [(180,K1 (aa Fp2).arg (aa Fp2).rs.res f0)]) (aa Fp6).rs 300 Tryz.f152 [.one ((aa Fp6).av a)]=O2 f0 a:=by kernel_rfl
theorem SX (f0:Fp2->Fp2) (a:Fp6):(O2 f0 a).sat fun q=>q=some (EA f0 a):=(show some _=some _ from rfl)
def rk (a:Fp6):Fp6:=EA gu a
theorem Yo:CallOk Tryz.prog 152 (K1 (aa Fp6).arg (aa Fp6).rs.res rk) :=
 P1 (aj (.cons zR .nil)) Tryz.func152 (ab Tryz.func152 (by kernel_rfl) (by kernel_rfl)) 300 (aa Fp6) (aa Fp6).rs rk (SY gu) (SX gu)
def CH (f0:Fp2->Fp2->Fp2) (f1:Fp2->Fp2->Fp2) (f2:Fp2->Fp2->Fp2) (a:Fp6) (b:Fp6) (i:Unit) (j:Unit) (x:Fp2) (y:Fp2):Fp2:=(f2 (f0 (f1 a.c0 a.c1) (f1 b.c0 b.c1)) (f1 x y))
def uA (f0:Fp2->Fp2->Fp2) (f1:Fp2->Fp2->Fp2) (f2:Fp2->Fp2->Fp2) (a:Fp6) (b:Fp6) (i:Unit) (j:Unit) (x:Fp2) (y:Fp2):Tree (Option (Fp2)) :=
 (.leaf (some (f2 (f0 (f1 a.c0 a.c1) (f1 b.c0 b.c1)) (f1 x y))))
theorem GX (f0:Fp2->Fp2->Fp2) (f1:Fp2->Fp2->Fp2) (f2:Fp2->Fp2->Fp2) (a:Fp6) (b:Fp6) (i:Unit) (j:Unit) (x:Fp2) (y:Fp2):ac (En [(177,K2 (aa Fp2).arg (aa Fp2).arg (aa Fp2).rs.res f0),(178,K2 (aa Fp2).arg (aa Fp2).arg (aa Fp2).rs.res f1),(179,K2 (aa Fp2).arg (aa Fp2).arg (aa Fp2).rs.res f2)]) (aa Fp2).rs 300 Tryz.f200 [.one ((aa Fp6).av a),.one ((aa Fp6).av b),.one ((mS 0).av i),.one ((mS 1).av j),.one ((aa Fp2).av x),.one ((aa Fp2).av y)]=uA f0 f1 f2 a b i j x y:=by kernel_rfl
theorem GW (f0:Fp2->Fp2->Fp2) (f1:Fp2->Fp2->Fp2) (f2:Fp2->Fp2->Fp2) (a:Fp6) (b:Fp6) (i:Unit) (j:Unit) (x:Fp2) (y:Fp2):(uA f0 f1 f2 a b i j x y).sat fun q=>q=some (CH f0 f1 f2 a b i j x y):=(show some _=some _ from rfl)
def PJ (a:Fp6) (b:Fp6) (i:Unit) (j:Unit) (x:Fp2) (y:Fp2):Fp2:=CH ag aI aH a b i j x y
theorem MD:CallOk Tryz.prog 200 (KN (KdL.cons (aa Fp6) (KdL.cons (aa Fp6) (KdL.cons (mS 0) (KdL.cons (mS 1) (KdL.cons (aa Fp2) (KdL.cons (aa Fp2) KdL.nil)))))) (aa Fp2).rs.res (fun x=>PJ x.1 x.2.1 x.2.2.1 x.2.2.2.1 x.2.2.2.2.1 x.2.2.2.2.2.1)) :=
 PN (aj (.cons cS (.cons f9 (.cons fV .nil)))) Tryz.func200 (ab Tryz.func200 (by kernel_rfl) (by kernel_rfl)) 300 (KdL.cons (aa Fp6) (KdL.cons (aa Fp6) (KdL.cons (mS 0) (KdL.cons (mS 1) (KdL.cons (aa Fp2) (KdL.cons (aa Fp2) KdL.nil)))))) (aa Fp2).rs (fun x=>PJ x.1 x.2.1 x.2.2.1 x.2.2.2.1 x.2.2.2.2.1 x.2.2.2.2.2.1) (T:=fun x=>uA ag aI aH x.1 x.2.1 x.2.2.1 x.2.2.2.1 x.2.2.2.2.1 x.2.2.2.2.2.1) (fun x=>GX ag aI aH x.1 x.2.1 x.2.2.1 x.2.2.2.1 x.2.2.2.2.1 x.2.2.2.2.2.1) (fun x=>GW ag aI aH x.1 x.2.1 x.2.2.1 x.2.2.2.1 x.2.2.2.2.1 x.2.2.2.2.2.1)
def CG (f0:Fp2->Fp2->Fp2) (f1:Fp2->Fp2->Fp2) (f2:Fp2->Fp2->Fp2) (a:Fp6) (b:Fp6) (i:Unit) (j:Unit) (x:Fp2) (y:Fp2):Fp2:=(f2 (f0 (f1 a.c0 a.c2) (f1 b.c0 b.c2)) (f1 x y))
def uz (f0:Fp2->Fp2->Fp2) (f1:Fp2->Fp2->Fp2) (f2:Fp2->Fp2->Fp2) (a:Fp6) (b:Fp6) (i:Unit) (j:Unit) (x:Fp2) (y:Fp2):Tree (Option (Fp2)) :=
 (.leaf (some (f2 (f0 (f1 a.c0 a.c2) (f1 b.c0 b.c2)) (f1 x y))))
theorem GV (f0:Fp2->Fp2->Fp2) (f1:Fp2->Fp2->Fp2) (f2:Fp2->Fp2->Fp2) (a:Fp6) (b:Fp6) (i:Unit) (j:Unit) (x:Fp2) (y:Fp2):ac (En [(177,K2 (aa Fp2).arg (aa Fp2).arg (aa Fp2).rs.res f0),(178,K2 (aa Fp2).arg (aa Fp2).arg (aa Fp2).rs.res f1),(179,K2 (aa Fp2).arg (aa Fp2).arg (aa Fp2).rs.res f2)]) (aa Fp2).rs 300 Tryz.f200 [.one ((aa Fp6).av a),.one ((aa Fp6).av b),.one ((mS 0).av i),.one ((mS 2).av j),.one ((aa Fp2).av x),.one ((aa Fp2).av y)]=uz f0 f1 f2 a b i j x y:=by kernel_rfl
theorem GU (f0:Fp2->Fp2->Fp2) (f1:Fp2->Fp2->Fp2) (f2:Fp2->Fp2->Fp2) (a:Fp6) (b:Fp6) (i:Unit) (j:Unit) (x:Fp2) (y:Fp2):(uz f0 f1 f2 a b i j x y).sat fun q=>q=some (CG f0 f1 f2 a b i j x y):=(show some _=some _ from rfl)
def PI (a:Fp6) (b:Fp6) (i:Unit) (j:Unit) (x:Fp2) (y:Fp2):Fp2:=CG ag aI aH a b i j x y
theorem MC:CallOk Tryz.prog 200 (KN (KdL.cons (aa Fp6) (KdL.cons (aa Fp6) (KdL.cons (mS 0) (KdL.cons (mS 2) (KdL.cons (aa Fp2) (KdL.cons (aa Fp2) KdL.nil)))))) (aa Fp2).rs.res (fun x=>PI x.1 x.2.1 x.2.2.1 x.2.2.2.1 x.2.2.2.2.1 x.2.2.2.2.2.1)) :=
 PN (aj (.cons cS (.cons f9 (.cons fV .nil)))) Tryz.func200 (ab Tryz.func200 (by kernel_rfl) (by kernel_rfl)) 300 (KdL.cons (aa Fp6) (KdL.cons (aa Fp6) (KdL.cons (mS 0) (KdL.cons (mS 2) (KdL.cons (aa Fp2) (KdL.cons (aa Fp2) KdL.nil)))))) (aa Fp2).rs (fun x=>PI x.1 x.2.1 x.2.2.1 x.2.2.2.1 x.2.2.2.2.1 x.2.2.2.2.2.1) (T:=fun x=>uz ag aI aH x.1 x.2.1 x.2.2.1 x.2.2.2.1 x.2.2.2.2.1 x.2.2.2.2.2.1) (fun x=>GV ag aI aH x.1 x.2.1 x.2.2.1 x.2.2.2.1 x.2.2.2.2.1 x.2.2.2.2.2.1) (fun x=>GU ag aI aH x.1 x.2.1 x.2.2.1 x.2.2.2.1 x.2.2.2.2.1 x.2.2.2.2.2.1)
def CE (f0:Fp2->Fp2->Fp2) (f1:Fp2->Fp2->Fp2) (f2:Fp2->Fp2->Fp2) (a:Fp6) (b:Fp6) (i:Unit) (j:Unit) (x:Fp2) (y:Fp2):Fp2:=(f2 (f0 (f1 a.c1 a.c2) (f1 b.c1 b.c2)) (f1 x y))
def uy (f0:Fp2->Fp2->Fp2) (f1:Fp2->Fp2->Fp2) (f2:Fp2->Fp2->Fp2) (a:Fp6) (b:Fp6) (i:Unit) (j:Unit) (x:Fp2) (y:Fp2):Tree (Option (Fp2)) :=
 (.leaf (some (f2 (f0 (f1 a.c1 a.c2) (f1 b.c1 b.c2)) (f1 x y))))
theorem GT (f0:Fp2->Fp2->Fp2) (f1:Fp2->Fp2->Fp2) (f2:Fp2->Fp2->Fp2) (a:Fp6) (b:Fp6) (i:Unit) (j:Unit) (x:Fp2) (y:Fp2):ac (En [(177,K2 (aa Fp2).arg (aa Fp2).arg (aa Fp2).rs.res f0),(178,K2 (aa Fp2).arg (aa Fp2).arg (aa Fp2).rs.res f1),(179,K2 (aa Fp2).arg (aa Fp2).arg (aa Fp2).rs.res f2)]) (aa Fp2).rs 300 Tryz.f200 [.one ((aa Fp6).av a),.one ((aa Fp6).av b),.one ((mS 1).av i),.one ((mS 2).av j),.one ((aa Fp2).av x),.one ((aa Fp2).av y)]=uy f0 f1 f2 a b i j x y:=by kernel_rfl
theorem GS (f0:Fp2->Fp2->Fp2) (f1:Fp2->Fp2->Fp2) (f2:Fp2->Fp2->Fp2) (a:Fp6) (b:Fp6) (i:Unit) (j:Unit) (x:Fp2) (y:Fp2):(uy f0 f1 f2 a b i j x y).sat fun q=>q=some (CE f0 f1 f2 a b i j x y):=(show some _=some _ from rfl)
def PH (a:Fp6) (b:Fp6) (i:Unit) (j:Unit) (x:Fp2) (y:Fp2):Fp2:=CE ag aI aH a b i j x y
theorem MB:CallOk Tryz.prog 200 (KN (KdL.cons (aa Fp6) (KdL.cons (aa Fp6) (KdL.cons (mS 1) (KdL.cons (mS 2) (KdL.cons (aa Fp2) (KdL.cons (aa Fp2) KdL.nil)))))) (aa Fp2).rs.res (fun x=>PH x.1 x.2.1 x.2.2.1 x.2.2.2.1 x.2.2.2.2.1 x.2.2.2.2.2.1)) :=
 PN (aj (.cons cS (.cons f9 (.cons fV .nil)))) Tryz.func200 (ab Tryz.func200 (by kernel_rfl) (by kernel_rfl)) 300 (KdL.cons (aa Fp6) (KdL.cons (aa Fp6) (KdL.cons (mS 1) (KdL.cons (mS 2) (KdL.cons (aa Fp2) (KdL.cons (aa Fp2) KdL.nil)))))) (aa Fp2).rs (fun x=>PH x.1 x.2.1 x.2.2.1 x.2.2.2.1 x.2.2.2.2.1 x.2.2.2.2.2.1) (T:=fun x=>uy ag aI aH x.1 x.2.1 x.2.2.1 x.2.2.2.1 x.2.2.2.2.1 x.2.2.2.2.2.1) (fun x=>GT ag aI aH x.1 x.2.1 x.2.2.1 x.2.2.2.1 x.2.2.2.2.1 x.2.2.2.2.2.1) (fun x=>GS ag aI aH x.1 x.2.1 x.2.2.1 x.2.2.2.1 x.2.2.2.2.1 x.2.2.2.2.2.1)
end
section
def lI (f0:Fp2->Fp2->Fp2) (f1:Fp2->Fp2->Fp2) (f2:Fp2->Fp2) (f3:Fp2->Fp2->Fp2) (f4:Fp2->Fp2 × Int) (a:Fp6):Fp6 × Int:=(match ((f4 (f3 (f1 a.c0 (f0 (f1 a.c0 a.c0) (f2 (f1 a.c1 a.c2)))) (f2 (f3 (f1 a.c2 (f0 (f2 (f1 a.c2 a.c2)) (f1 a.c0 a.c1))) (f1 a.c1 (f0 (f1 a.c1 a.c1) (f1 a.c0 a.c2))))))).snd != 0) with | true=>((zeroFp6,(f4 (f3 (f1 a.c0 (f0 (f1 a.c0 a.c0) (f2 (f1 a.c1 a.c2)))) (f2 (f3 (f1 a.c2 (f0 (f2 (f1 a.c2 a.c2)) (f1 a.c0 a.c1))) (f1 a.c1 (f0 (f1 a.c1 a.c1) (f1 a.c0 a.c2))))))).snd)) | false=>(({ c0:=f1 (f0 (f1 a.c0 a.c0) (f2 (f1 a.c1 a.c2))) (f4 (f3 (f1 a.c0 (f0 (f1 a.c0 a.c0) (f2 (f1 a.c1 a.c2)))) (f2 (f3 (f1 a.c2 (f0 (f2 (f1 a.c2 a.c2)) (f1 a.c0 a.c1))) (f1 a.c1 (f0 (f1 a.c1 a.c1) (f1 a.c0 a.c2))))))).fst,c1:=f1 (f0 (f2 (f1 a.c2 a.c2)) (f1 a.c0 a.c1)) (f4 (f3 (f1 a.c0 (f0 (f1 a.c0 a.c0) (f2 (f1 a.c1 a.c2)))) (f2 (f3 (f1 a.c2 (f0 (f2 (f1 a.c2 a.c2)) (f1 a.c0 a.c1))) (f1 a.c1 (f0 (f1 a.c1 a.c1) (f1 a.c0 a.c2))))))).fst,c2:=f1 (f0 (f1 a.c1 a.c1) (f1 a.c0 a.c2)) (f4 (f3 (f1 a.c0 (f0 (f1 a.c0 a.c0) (f2 (f1 a.c1 a.c2)))) (f2 (f3 (f1 a.c2 (f0 (f2 (f1 a.c2 a.c2)) (f1 a.c0 a.c1))) (f1 a.c1 (f0 (f1 a.c1 a.c1) (f1 a.c0 a.c2))))))).fst },0)))
def Pb (f0:Fp2->Fp2->Fp2) (f1:Fp2->Fp2->Fp2) (f2:Fp2->Fp2) (f3:Fp2->Fp2->Fp2) (f4:Fp2->Fp2 × Int) (a:Fp6):Tree (Option (Fp6 × Int)):=letI za':=f4 (f3 (f1 a.c0 (f0 (f1 a.c0 a.c0) (f2 (f1 a.c1 a.c2)))) (f2 (f3 (f1 a.c2 (f0 (f2 (f1 a.c2 a.c2)) (f1 a.c0 a.c1))) (f1 a.c1 (f0 (f1 a.c1 a.c1) (f1 a.c0 a.c2))))));
 (.br (za'.snd != 0) (.leaf (some ((zeroFp6,za'.snd)))) (.leaf (some (({ c0:=f1 (f0 (f1 a.c0 a.c0) (f2 (f1 a.c1 a.c2))) za'.fst,c1:=f1 (f0 (f2 (f1 a.c2 a.c2)) (f1 a.c0 a.c1)) za'.fst,c2:=f1 (f0 (f1 a.c1 a.c1) (f1 a.c0 a.c2)) za'.fst },0)))))
theorem Tk (f0:Fp2->Fp2->Fp2) (f1:Fp2->Fp2->Fp2) (f2:Fp2->Fp2) (f3:Fp2->Fp2->Fp2) (f4:Fp2->Fp2 × Int) (a:Fp6):ac (En [(179,K2 (aa Fp2).arg (aa Fp2).arg (aa Fp2).rs.res f0),(147,K2 (aa Fp2).arg (aa Fp2).arg (aa Fp2).rs.res f1),(198,K1 (aa Fp2).arg (aa Fp2).rs.res f2),(178,K2 (aa Fp2).arg (aa Fp2).arg (aa Fp2).rs.res f3),(199,K1 (aa Fp2).arg ((aa Fp2).rs2 kInt).res f4)]) ((aa Fp6).rs2 kInt) 300 Tryz.f184 [.one ((aa Fp6).av a)]=Pb f0 f1 f2 f3 f4 a:=by kernel_rfl
theorem Tj (f0:Fp2->Fp2->Fp2) (f1:Fp2->Fp2->Fp2) (f2:Fp2->Fp2) (f3:Fp2->Fp2->Fp2) (f4:Fp2->Fp2 × Int) (a:Fp6):(Pb f0 f1 f2 f3 f4 a).sat fun q=>q=some (lI f0 f1 f2 f3 f4 a):=⟨fun h0=>(show some _=some _ from congrArg some (by unfold lI;rw [h0])),fun h0=>(show some _=some _ from congrArg some (by unfold lI;rw [h0]))⟩
def sN (a:Fp6):Fp6 × Int:=lI aH b9 iW aI jd a
theorem YK:CallOk Tryz.prog 184 (K1 (aa Fp6).arg ((aa Fp6).rs2 kInt).res sN) :=
 P1 (aj (.cons fV (.cons zJ (.cons wY (.cons f9 (.cons IV .nil)))))) Tryz.func184 (ab Tryz.func184 (by kernel_rfl) (by kernel_rfl)) 300 (aa Fp6) ((aa Fp6).rs2 kInt) sN (Tk aH b9 iW aI jd) (Tj aH b9 iW aI jd)
def Ip  : Fp12:=(oneFp12)
def Io  : Tree (Option (Fp12)) :=
 (.leaf (some (oneFp12)))
theorem Lo  : ac (En []) (aa Fp12).rs 300 Tryz.f110 []=Io  := by kernel_rfl
theorem Lm  : (Io ).sat fun q=>q=some (Ip ):=(show some _=some _ from rfl)
def fg  : Fp12:=Ip
theorem uh:CallOk Tryz.prog 110 (K0 (aa Fp12).rs.res fg) :=
 P0 (aj .nil) Tryz.func110 (ab Tryz.func110 (by kernel_rfl) (by kernel_rfl)) 300  (aa Fp12).rs fg (Lo ) (Lm )
def qL (f0:Fp6->Fp6) (a:Fp12):Fp12:=({ c0:=f0 a.c0,c1:=f0 a.c1 })
def wP (f0:Fp6->Fp6) (a:Fp12):Tree (Option (Fp12)) :=
 (.leaf (some ({ c0:=f0 a.c0,c1:=f0 a.c1 })))
theorem CY (f0:Fp6->Fp6) (a:Fp12):ac (En [(188,K1 (aa Fp6).arg (aa Fp6).rs.res f0)]) (aa Fp12).rs 300 Tryz.f156 [.one ((aa Fp12).av a)]=wP f0 a:=by kernel_rfl
theorem CX (f0:Fp6->Fp6) (a:Fp12):(wP f0 a).sat fun q=>q=some (qL f0 a):=(show some _=some _ from rfl)
def bi (a:Fp12):Fp12:=qL eo a
theorem oo:CallOk Tryz.prog 156 (K1 (aa Fp12).arg (aa Fp12).rs.res bi) :=
 P1 (aj (.cons wM .nil)) Tryz.func156 (ab Tryz.func156 (by kernel_rfl) (by kernel_rfl)) 300 (aa Fp12) (aa Fp12).rs bi (CY eo) (CX eo)
def zS (f0:Fp6->Fp6) (a:Fp12):Fp12:=({ c0:=f0 a.c0,c1:=f0 a.c1 })
def II (f0:Fp6->Fp6) (a:Fp12):Tree (Option (Fp12)) :=
 (.leaf (some ({ c0:=f0 a.c0,c1:=f0 a.c1 })))
theorem LO (f0:Fp6->Fp6) (a:Fp12):ac (En [(152,K1 (aa Fp6).arg (aa Fp6).rs.res f0)]) (aa Fp12).rs 300 Tryz.f107 [.one ((aa Fp12).av a)]=II f0 a:=by kernel_rfl
theorem LN (f0:Fp6->Fp6) (a:Fp12):(II f0 a).sat fun q=>q=some (zS f0 a):=(show some _=some _ from rfl)
def fj (a:Fp12):Fp12:=zS rk a
theorem B7:CallOk Tryz.prog 107 (K1 (aa Fp12).arg (aa Fp12).rs.res fj) :=
 P1 (aj (.cons Yo .nil)) Tryz.func107 (ab Tryz.func107 (by kernel_rfl) (by kernel_rfl)) 300 (aa Fp12) (aa Fp12).rs fj (LO rk) (LN rk)
def uD (f0:Fp6->Fp6) (a:Fp12):Fp12:=({ c0:=a.c0,c1:=f0 a.c1 })
def CJ (f0:Fp6->Fp6) (a:Fp12):Tree (Option (Fp12)) :=
 (.leaf (some ({ c0:=a.c0,c1:=f0 a.c1 })))
theorem GZ (f0:Fp6->Fp6) (a:Fp12):ac (En [(185,K1 (aa Fp6).arg (aa Fp6).rs.res f0)]) (aa Fp12).rs 300 Tryz.f155 [.one ((aa Fp12).av a)]=CJ f0 a:=by kernel_rfl
theorem GY (f0:Fp6->Fp6) (a:Fp12):(CJ f0 a).sat fun q=>q=some (uD f0 a):=(show some _=some _ from rfl)
def cM (a:Fp12):Fp12:=uD nP a
theorem MH:CallOk Tryz.prog 155 (K1 (aa Fp12).arg (aa Fp12).rs.res cM) :=
 P1 (aj (.cons Iu .nil)) Tryz.func155 (ab Tryz.func155 (by kernel_rfl) (by kernel_rfl)) 300 (aa Fp12) (aa Fp12).rs cM (GZ nP) (GY nP)
end
section
def Fp6.nth (a:Fp6):Nat->Fp2
 | 0=>a.c0
 | 1=>a.c1
 | _=>a.c2
def lw (i j:Nat) (a b:Fp6) (x y:Fp2):Fp2:=aH (ag (aI (a.nth i) (a.nth j)) (aI (b.nth i) (b.nth j))) (aI x y)
abbrev abY (F:Nat->Nat->Fp6->Fp6->Fp2->Fp2->Fp2):au:=KOr (KN (KdL.cons (aa Fp6) (KdL.cons (aa Fp6) (KdL.cons (mS 0) (KdL.cons (mS 1) (KdL.cons (aa Fp2) (KdL.cons (aa Fp2) KdL.nil)))))) (aa Fp2).rs.res (fun x=>F 0 1 x.1 x.2.1 x.2.2.2.2.1 x.2.2.2.2.2.1)) (KOr (KN (KdL.cons (aa Fp6) (KdL.cons (aa Fp6) (KdL.cons (mS 0) (KdL.cons (mS 2) (KdL.cons (aa Fp2) (KdL.cons (aa Fp2) KdL.nil)))))) (aa Fp2).rs.res (fun x=>F 0 2 x.1 x.2.1 x.2.2.2.2.1 x.2.2.2.2.2.1)) (KN (KdL.cons (aa Fp6) (KdL.cons (aa Fp6) (KdL.cons (mS 1) (KdL.cons (mS 2) (KdL.cons (aa Fp2) (KdL.cons (aa Fp2) KdL.nil)))))) (aa Fp2).rs.res (fun x=>F 1 2 x.1 x.2.1 x.2.2.2.2.1 x.2.2.2.2.2.1)))
theorem Zu:CallOk Tryz.prog 200 (abY lw) :=
 abZ MD (abZ MC MB (Jx _ _ _)) (Jx _ _ _)
def zY (f0:Fp2->Fp2->Fp2) (f1:Fp2->Fp2->Fp2) (f2:Fp2->Fp2) (f3:Nat->Nat->Fp6->Fp6->Fp2->Fp2->Fp2) (a:Fp6) (b:Fp6):Fp6:=({ c0:=f1 (f0 a.c0 b.c0) (f2 (f3 1 2 a b (f0 a.c1 b.c1) (f0 a.c2 b.c2))),c1:=f1 (f3 0 1 a b (f0 a.c0 b.c0) (f0 a.c1 b.c1)) (f2 (f0 a.c2 b.c2)),c2:=f1 (f3 0 2 a b (f0 a.c0 b.c0) (f0 a.c2 b.c2)) (f0 a.c1 b.c1) })
def I0 (f0:Fp2->Fp2->Fp2) (f1:Fp2->Fp2->Fp2) (f2:Fp2->Fp2) (f3:Nat->Nat->Fp6->Fp6->Fp2->Fp2->Fp2) (a:Fp6) (b:Fp6):Tree (Option (Fp6)):=letI za':=f0 a.c0 b.c0;letI zb':=f0 a.c1 b.c1;letI zc':=f0 a.c2 b.c2;
 (.leaf (some ({ c0:=f1 za' (f2 (f3 1 2 a b zb' zc')),c1:=f1 (f3 0 1 a b za' zb') (f2 zc'),c2:=f1 (f3 0 2 a b za' zc') zb' })))
theorem Me (f0:Fp2->Fp2->Fp2) (f1:Fp2->Fp2->Fp2) (f2:Fp2->Fp2) (f3:Nat->Nat->Fp6->Fp6->Fp2->Fp2->Fp2) (a:Fp6) (b:Fp6):ac (En [(177,K2 (aa Fp2).arg (aa Fp2).arg (aa Fp2).rs.res f0),(178,K2 (aa Fp2).arg (aa Fp2).arg (aa Fp2).rs.res f1),(198,K1 (aa Fp2).arg (aa Fp2).rs.res f2),(200,abY f3)]) (aa Fp6).rs 300 Tryz.f186 [.one ((aa Fp6).av a),.one ((aa Fp6).av b)]=I0 f0 f1 f2 f3 a b:=by kernel_rfl
theorem Md (f0:Fp2->Fp2->Fp2) (f1:Fp2->Fp2->Fp2) (f2:Fp2->Fp2) (f3:Nat->Nat->Fp6->Fp6->Fp2->Fp2->Fp2) (a:Fp6) (b:Fp6):(I0 f0 f1 f2 f3 a b).sat fun q=>q=some (zY f0 f1 f2 f3 a b):=(show some _=some _ from rfl)
def ef (a:Fp6) (b:Fp6):Fp6:=zY ag aI iW lw a b
theorem Cl:CallOk Tryz.prog 186 (K2 (aa Fp6).arg (aa Fp6).arg (aa Fp6).rs.res ef) :=
 P2 (aj (.cons cS (.cons f9 (.cons wY (.cons Zu .nil))))) Tryz.func186 (ab Tryz.func186 (by kernel_rfl) (by kernel_rfl)) 300 (aa Fp6) (aa Fp6) (aa Fp6).rs ef (Me ag aI iW lw) (Md ag aI iW lw)
def Eu (f0:Fp6->Fp6->Fp6) (f1:Fp6->Fp6) (a:Fp6) (b:Fp6):Fp6:=(f1 (f0 a b))
def OX (f0:Fp6->Fp6->Fp6) (f1:Fp6->Fp6) (a:Fp6) (b:Fp6):Tree (Option (Fp6)) :=
 (.leaf (some (f1 (f0 a b))))
theorem Sx (f0:Fp6->Fp6->Fp6) (f1:Fp6->Fp6) (a:Fp6) (b:Fp6):ac (En [(186,K2 (aa Fp6).arg (aa Fp6).arg (aa Fp6).rs.res f0),(188,K1 (aa Fp6).arg (aa Fp6).rs.res f1)]) (aa Fp6).rs 300 Tryz.f182 [.one ((aa Fp6).av a),.one ((aa Fp6).av b)]=OX f0 f1 a b:=by kernel_rfl
theorem Sw (f0:Fp6->Fp6->Fp6) (f1:Fp6->Fp6) (a:Fp6) (b:Fp6):(OX f0 f1 a b).sat fun q=>q=some (Eu f0 f1 a b):=(show some _=some _ from rfl)
def nR (a:Fp6) (b:Fp6):Fp6:=Eu ef eo a b
theorem XY:CallOk Tryz.prog 182 (K2 (aa Fp6).arg (aa Fp6).arg (aa Fp6).rs.res nR) :=
 P2 (aj (.cons Cl (.cons wM .nil))) Tryz.func182 (ab Tryz.func182 (by kernel_rfl) (by kernel_rfl)) 300 (aa Fp6) (aa Fp6) (aa Fp6).rs nR (Sx ef eo) (Sw ef eo)
def up (f0:Fp6->Fp6->Fp6) (f1:Fp6->Fp6->Fp6) (f2:Fp6->Fp6->Fp6) (f3:Fp6->Fp6) (a:Fp12) (b:Fp12):Fp12:=({ c0:=f1 (f0 a.c0 b.c0) (f3 (f0 a.c1 b.c1)),c1:=f2 (f0 (f1 a.c0 a.c1) (f1 b.c0 b.c1)) (f1 (f0 a.c0 b.c0) (f0 a.c1 b.c1)) })
def Cn (f0:Fp6->Fp6->Fp6) (f1:Fp6->Fp6->Fp6) (f2:Fp6->Fp6->Fp6) (f3:Fp6->Fp6) (a:Fp12) (b:Fp12):Tree (Option (Fp12)) :=
 (.leaf (some ({ c0:=f1 (f0 a.c0 b.c0) (f3 (f0 a.c1 b.c1)),c1:=f2 (f0 (f1 a.c0 a.c1) (f1 b.c0 b.c1)) (f1 (f0 a.c0 b.c0) (f0 a.c1 b.c1)) })))
theorem GO (f0:Fp6->Fp6->Fp6) (f1:Fp6->Fp6->Fp6) (f2:Fp6->Fp6->Fp6) (f3:Fp6->Fp6) (a:Fp12) (b:Fp12):ac (En [(186,K2 (aa Fp6).arg (aa Fp6).arg (aa Fp6).rs.res f0),(187,K2 (aa Fp6).arg (aa Fp6).arg (aa Fp6).rs.res f1),(181,K2 (aa Fp6).arg (aa Fp6).arg (aa Fp6).rs.res f2),(183,K1 (aa Fp6).arg (aa Fp6).rs.res f3)]) (aa Fp12).rs 300 Tryz.f154 [.one ((aa Fp12).av a),.one ((aa Fp12).av b)]=Cn f0 f1 f2 f3 a b:=by kernel_rfl
theorem GN (f0:Fp6->Fp6->Fp6) (f1:Fp6->Fp6->Fp6) (f2:Fp6->Fp6->Fp6) (f3:Fp6->Fp6) (a:Fp12) (b:Fp12):(Cn f0 f1 f2 f3 a b).sat fun q=>q=some (up f0 f1 f2 f3 a b):=(show some _=some _ from rfl)
def ax (a:Fp12) (b:Fp12):Fp12:=up ef ng io uM a b
theorem mU:CallOk Tryz.prog 154 (K2 (aa Fp12).arg (aa Fp12).arg (aa Fp12).rs.res ax) :=
 P2 (aj (.cons Cl (.cons aab (.cons zl (.cons N8 .nil))))) Tryz.func154 (ab Tryz.func154 (by kernel_rfl) (by kernel_rfl)) 300 (aa Fp12) (aa Fp12) (aa Fp12).rs ax (GO ef ng io uM) (GN ef ng io uM)
def jq (f0:Fp6->Fp6->Fp6) (f1:Fp6->Fp6->Fp6) (f2:Fp6->Fp6) (f3:Fp6->Fp6 × Int) (f4:Fp6->Fp6) (a:Fp12):Fp12 × Int:=(match ((f3 (f0 (f1 a.c0 a.c0) (f2 (f1 a.c1 a.c1)))).snd != 0) with | true=>((sh,(f3 (f0 (f1 a.c0 a.c0) (f2 (f1 a.c1 a.c1)))).snd)) | false=>(({ c0:=f1 a.c0 (f3 (f0 (f1 a.c0 a.c0) (f2 (f1 a.c1 a.c1)))).fst,c1:=f4 (f1 a.c1 (f3 (f0 (f1 a.c0 a.c0) (f2 (f1 a.c1 a.c1)))).fst) },0)))
def IW (f0:Fp6->Fp6->Fp6) (f1:Fp6->Fp6->Fp6) (f2:Fp6->Fp6) (f3:Fp6->Fp6 × Int) (f4:Fp6->Fp6) (a:Fp12):Tree (Option (Fp12 × Int)):=letI za':=f3 (f0 (f1 a.c0 a.c0) (f2 (f1 a.c1 a.c1)));
 (.br (za'.snd != 0) (.leaf (some ((sh,za'.snd)))) (.leaf (some (({ c0:=f1 a.c0 za'.fst,c1:=f4 (f1 a.c1 za'.fst) },0)))))
theorem L9 (f0:Fp6->Fp6->Fp6) (f1:Fp6->Fp6->Fp6) (f2:Fp6->Fp6) (f3:Fp6->Fp6 × Int) (f4:Fp6->Fp6) (a:Fp12):ac (En [(181,K2 (aa Fp6).arg (aa Fp6).arg (aa Fp6).rs.res f0),(182,K2 (aa Fp6).arg (aa Fp6).arg (aa Fp6).rs.res f1),(183,K1 (aa Fp6).arg (aa Fp6).rs.res f2),(184,K1 (aa Fp6).arg ((aa Fp6).rs2 kInt).res f3),(185,K1 (aa Fp6).arg (aa Fp6).rs.res f4)]) ((aa Fp12).rs2 kInt) 300 Tryz.f153 [.one ((aa Fp12).av a)]=IW f0 f1 f2 f3 f4 a:=by kernel_rfl
theorem L8 (f0:Fp6->Fp6->Fp6) (f1:Fp6->Fp6->Fp6) (f2:Fp6->Fp6) (f3:Fp6->Fp6 × Int) (f4:Fp6->Fp6) (a:Fp12):(IW f0 f1 f2 f3 f4 a).sat fun q=>q=some (jq f0 f1 f2 f3 f4 a):=⟨fun h0=>(show some _=some _ from congrArg some (by unfold jq;rw [h0])),fun h0=>(show some _=some _ from congrArg some (by unfold jq;rw [h0]))⟩
def iC (a:Fp12):Fp12 × Int:=jq io nR uM sN nP a
theorem Tp:CallOk Tryz.prog 153 (K1 (aa Fp12).arg ((aa Fp12).rs2 kInt).res iC) :=
 P1 (aj (.cons zl (.cons XY (.cons N8 (.cons YK (.cons Iu .nil)))))) Tryz.func153 (ab Tryz.func153 (by kernel_rfl) (by kernel_rfl)) 300 (aa Fp12) ((aa Fp12).rs2 kInt) iC (L9 io nR uM sN nP) (L8 io nR uM sN nP)
end
section
abbrev oF2:Out Fp2:=rF2.out
theorem ZN (e:List UInt64) (i:Int):letI za':=IntKind.i64.wrap (i.tdiv 64);cD (En []) oB 100 Tryz.f121 (flat (ae Tryz.f121)) (ah Tryz.f121 [iL.av 0 e,vI i] [dJ eU64 e])=(.vc ((0<=IntKind.i64.wrap (i.tdiv 64)/\IntKind.i64.wrap (i.tdiv 64)<(↑e.length:Int))/\0+e.length*1<=(List.map EK.u64.cell e).length/\0<1) (.vc (0+za'.toNat*1<e.length) (.vc (0<=i.tmod 64) (.leaf (some ((iY (e.getD (0+za'.toNat*1) 0) (i.tmod 64) &&& UInt64.ofNat 1==UInt64.ofNat 1,.t))))))):=by kernel_rfl
abbrev acu (e:List UInt64) (i:Nat):Prop:=i<64*e.length
abbrev akC (F:List UInt64->Nat->Bool):au:=K2c aL qE acu kBool.rs.res F
theorem afg:CallOk Tryz.prog 121 (akC df) :=
 G2c (E:=En []) Tryz.func121 (c:=ae Tryz.f121) (by kernel_rfl) (ab Tryz.func121 (by kernel_rfl) (by kernel_rfl)) iL inpNat acu oB df fun e i he _ hk=>by
  have he:e.length<1125899906842624:=he
  have hk:i<64*e.length:=hk
  have hi:i<9223372036854775808:=by omega
  have hq:i / 64<e.length:=by omega
  refine DoesL.ends (aj .nil) 100 (ZN e (i:Int)) ?_
  rw [zH i hi,zG]
  refine ⟨wS hq,fun _=>⟨wU hq,fun _=>⟨by omega,fun _=>bB ?_⟩⟩⟩
  rw [aeQ]
  exact DZ _ _ (by omega)
def K4 {α:Type} (mF:α->α->α) (a:α) (e:List UInt64):Nat->α->α
 | 0,x=>x
 | n+1,x=>K4 mF a e n (match df e n with | true=>mF (mF x x) a | false=>mF x x)
end
section
abbrev rF12:Rs Fp12:=(aa Fp12).rs
abbrev ai4 (a:Fp12):AV := .one ((aa Fp12).av a)
abbrev v9:Out Fp12:=rF12.out
abbrev Ks2 (F:Fp12->Fp12->Fp12):au:=K2 (aa Fp12).arg (aa Fp12).arg rF12.res F
end
section
def adc (e:List UInt64) (x o:Fp12) (z:Int):St:=ar 34 [(1,inV 0 e),(2,a8 1),(4,a8 2),(5,a8 3),(6,vI z)] [dJ eU64 e,own 145 (Row.cs x),own 145 (bJ 72),own 145 (Row.cs o)]
def tRs (o:Fp12) (wF:Fp12->Fp12) (hF:Fp12->Fp12->Fp12):cQ := [(110,K0 rF12.res o),(156,K1 (aa Fp12).arg rF12.res wF),(154,Ks2 hF)]
theorem Wh (T:cQ) (a:Fp12) (e:List UInt64):b7 (En T) 100 ((flat (ae Tryz.f158)).take 1) (ah Tryz.f158 [ai4 a,iL.av 0 e] [dJ eU64 e]) [1,2,4] [0,1,2] = .leaf (ar 34 [(1,inV 0 e),(2,a8 1),(4,a8 2)] [dJ eU64 e,own 145 (Row.cs a),own 145 (bJ 72)]):=by kernel_rfl
theorem Wg (o:Fp12) (wF:Fp12->Fp12) (hF:Fp12->Fp12->Fp12) (a:Fp12) (e:List UInt64):b7 (En (tRs o wF hF)) 100 ((flat (aC Tryz.f158)).take 3) (ar 34 [(1,inV 0 e),(2,a8 1),(4,a8 2)] [dJ eU64 e,own 145 (Row.cs a),own 145 (bJ 72)]) [1,2,4,5,6] [0,1,2,3] = .vc (0+e.length*1<=(eU64.body e).cells.length/\0<1) (.leaf (adc e a (wF o) (IntKind.i64.wrap (64*e.length)))):=by kernel_rfl
theorem adb (o1:Fp12) (wF:Fp12->Fp12) (hF:Fp12->Fp12->Fp12) (x o:Fp12) (e:List UInt64) (z:Int):letI za':=IntKind.i64.wrap (z-1);gR (En (tRs o1 wF hF)) v9 100 Tryz.f158 ((flat (aC Tryz.f158)).drop 3) (adc e x o z) [1,2,4,5,6] [0,1,2,3] = .br (decide (IntKind.i64.wrap (z-1)<0)) (.leaf (.inr (some (o,.t)))) (.vc ((0<=jN z/\jN z<e.length)/\0+e.length*1<=(eU64.body e).cells.length/\0<1) (.vc (0+(jN z).toNat*1<e.length) (.br (EO e z) (.leaf (.inl (.goto 0,adc e x (hF (hF o o) x) za'))) (.leaf (.inl (.goto 0,adc e x (hF o o) za')))))):=by kernel_rfl
def cU (a:Fp12) (e:List UInt64):Fp12:=K4 ax a e (64*e.length) (bi fg)
abbrev akY (a:Fp12) (e:List UInt64):Type := { q:Int × Fp12 // 0<=q.1/\q.1<=64*e.length/\K4 ax a e q.1.toNat q.2=cU a e }
def rsI (a:Fp12) (e:List UInt64) (q:akY a e):St:=adc e a q.1.2 q.1.1
theorem Rg:CallOk Tryz.prog 158 (K2 (aa Fp12).arg aL rF12.res cU) :=
 G2 (E:=En (tRs fg bi ax)) Tryz.func158 (c:=ae Tryz.f158) (by kernel_rfl) (ab Tryz.func158 (by kernel_rfl) (by kernel_rfl)) (aa Fp12).inp iL v9 cU fun a e _ he=>by
  have hE:EnvOk (En (tRs fg bi ax)):=aj (.cons uh (.cons oo (.cons mU .nil)))
  have he:e.length<1125899906842624:=he
  have hw:IntKind.i64.wrap (64*(e.length:Int))=64*(e.length:Int):=IntWalk.i64_in _ (by omega)
  refine DoesL.stageE hE 100 1 [1,2,4] [0,1,2] (Wh _ a e) ?_
  refine DoesL.scopeFn (body:=aC Tryz.f158) (rest:=mc Tryz.f158) (tail := []) (l:=0) hE (by kernel_rfl) (by kernel_rfl) 100 3 (by kernel_rfl) [1,2,4,5,6] [0,1,2,3] (rsI a e) (fun q=>q.1.1.toNat)
   ⟨(64*(e.length:Int),bi fg),by simp only [];omega,by simp only [];omega,by rw [show ((64*(e.length:Int),bi fg):Int × Fp12).1.toNat=64*e.length by simp only [];omega];simp only [cU]⟩
   (Wg fg bi ax a e) ⟨⟨by rw [cells_len];omega,by decide⟩,fun _=>by rw [hw];exact Tree.sat_leaf (by simp only [rsI])⟩ fun q => ?_
  obtain ⟨⟨z,o⟩,h0,h1,h2⟩:=q
  simp only [] at h0 h1 h2
  have hz:IntKind.i64.wrap (z-1)=z-1:=IntWalk.i64_in _ (by omega)
  refine DoesL.iter hE 100 [1,2,4,5,6] [0,1,2,3] (adb fg bi ax a o e z) ?_
  rw [hz]
  refine ⟨fun h => ?_,fun h => ?_⟩
  ·simp only [decide_eq_true_eq] at h
   obtain rfl:z=0:=by omega
   exact ⟨.t,by rw [<- h2];rfl,trivial⟩
  ·simp only [decide_eq_false_iff_not] at h
   obtain ⟨n,rfl⟩ : ∃ n:Nat,z=(n:Int)+1:=⟨(z-1).toNat,by omega⟩
   rw [me n (by omega),o6 e n (by omega)]
   rw [show ((n:Int)+1).toNat=n+1 by omega] at h2
   simp only [K4] at h2
   refine ⟨⟨⟨by omega,by omega⟩,by rw [cells_len];omega,by decide⟩,fun _=>⟨by omega,fun _=>⟨fun h3 => ?_,fun h3 => ?_⟩⟩⟩
   all_goals
    have hn:((n:Int)+1-1).toNat=n:=by omega
    rw [h3] at h2
    simp only [] at h2
   ·refine ⟨rfl,⟨((n:Int)+1-1,ax (ax o o) a),?_,?_,?_⟩,?_,by simp only [rsI]⟩
    ·show 0<=(n:Int)+1-1;omega
    ·show (n:Int)+1-1<=64*e.length;omega
    ·simpa only [hn] using h2
    ·show ((n:Int)+1-1).toNat<((n:Int)+1).toNat;omega
   ·refine ⟨rfl,⟨((n:Int)+1-1,ax o o),?_,?_,?_⟩,?_,by simp only [rsI]⟩
    ·show 0<=(n:Int)+1-1;omega
    ·show (n:Int)+1-1<=64*e.length;omega
    ·simpa only [hn] using h2
    ·show ((n:Int)+1-1).toNat<((n:Int)+1).toNat;omega
abbrev afE (F:Fp12->List UInt64->Fp12):au:=K2 (aa Fp12).arg aL rF12.res F
end
section
def OJ  : Pg1:=({ x := { l0:=UInt64.ofNat 18103045581585958587,l1:=UInt64.ofNat 7806400890582735599,l2:=UInt64.ofNat 11623291730934869080,l3:=UInt64.ofNat 14080658508445169925,l4:=UInt64.ofNat 2780237799254240271,l5:=UInt64.ofNat 1725392847304644500 },y := { l0:=UInt64.ofNat 912580534683953121,l1:=UInt64.ofNat 15005087156090211044,l2:=UInt64.ofNat 61670280795567085,l3:=UInt64.ofNat 18227722000993880822,l4:=UInt64.ofNat 11573741888802228964,l5:=UInt64.ofNat 627113611842199793 },inf:=false })
def OI  : Tree (Option (Pg1)) :=
 (.leaf (some ({ x := { l0:=UInt64.ofNat 18103045581585958587,l1:=UInt64.ofNat 7806400890582735599,l2:=UInt64.ofNat 11623291730934869080,l3:=UInt64.ofNat 14080658508445169925,l4:=UInt64.ofNat 2780237799254240271,l5:=UInt64.ofNat 1725392847304644500 },y := { l0:=UInt64.ofNat 912580534683953121,l1:=UInt64.ofNat 15005087156090211044,l2:=UInt64.ofNat 61670280795567085,l3:=UInt64.ofNat 18227722000993880822,l4:=UInt64.ofNat 11573741888802228964,l5:=UInt64.ofNat 627113611842199793 },inf:=false })))
theorem R4  : ac (En []) (aa Pg1).rs 300 Tryz.f63 []=OI  := by kernel_rfl
theorem R2  : (OI ).sat fun q=>q=some (OJ ):=(show some _=some _ from rfl)
def oneG1  : Pg1:=OJ
theorem Xm:CallOk Tryz.prog 63 (K0 (aa Pg1).rs.res oneG1) :=
 P0 (aj .nil) Tryz.func63 (ab Tryz.func63 (by kernel_rfl) (by kernel_rfl)) 300  (aa Pg1).rs oneG1 (R4 ) (R2 )
def D3 (f0:Fp->Fp->Fp) (f1:Fp->Fp->Fp) (x:Fp):Fp:=(f0 (f1 (f1 x x) x) { l0:=UInt64.ofNat 4,l1:=UInt64.ofNat 0,l2:=UInt64.ofNat 0,l3:=UInt64.ofNat 0,l4:=UInt64.ofNat 0,l5:=UInt64.ofNat 0 })
def Ov (f0:Fp->Fp->Fp) (f1:Fp->Fp->Fp) (x:Fp):Tree (Option (Fp)) :=
 (.leaf (some (f0 (f1 (f1 x x) x) { l0:=UInt64.ofNat 4,l1:=UInt64.ofNat 0,l2:=UInt64.ofNat 0,l3:=UInt64.ofNat 0,l4:=UInt64.ofNat 0,l5:=UInt64.ofNat 0 })))
theorem Ra (f0:Fp->Fp->Fp) (f1:Fp->Fp->Fp) (x:Fp):ac (En [(141,Kff f0),(139,Kff f1)]) (aa Fp).rs 300 Tryz.f144 [.one ((aa Fp).av x)]=Ov f0 f1 x:=by kernel_rfl
theorem Q9 (f0:Fp->Fp->Fp) (f1:Fp->Fp->Fp) (x:Fp):(Ov f0 f1 x).sat fun q=>q=some (D3 f0 f1 x):=(show some _=some _ from rfl)
def xv (x:Fp):Fp:=D3 fo gU x
theorem Wm:CallOk Tryz.prog 144 (K1 (aa Fp).arg (aa Fp).rs.res xv) :=
 P1 (aj (.cons sc (.cons AK .nil))) Tryz.func144 (ab Tryz.func144 (by kernel_rfl) (by kernel_rfl)) 300 (aa Fp) (aa Fp).rs xv (Ra fo gU) (Q9 fo gU)
def mi (f0:Fp->Bool) (f1:Fp->Fp->Fp) (f2:Fp->Fp) (p:Pg1):Bool:=(match (p.inf) with | true=>((q8 (p) (infG1))) | false=>(match (f0 p.x) with | true=>(match (f0 p.y) with | true=>((la (f1 p.y p.y) (f2 p.x))) | false=>((false))) | false=>((false))))
def aaU (f0:Fp->Bool) (f1:Fp->Fp->Fp) (f2:Fp->Fp) (p:Pg1):Tree (Option (Bool)) :=
 (.br (p.inf) (.leaf (some ((q8 (p) (infG1))))) (.br (f0 p.x) (.br (f0 p.y) (.leaf (some ((la (f1 p.y p.y) (f2 p.x))))) (.leaf (some ((false))))) (.leaf (some ((false))))))
theorem Xt (f0:Fp->Bool) (f1:Fp->Fp->Fp) (f2:Fp->Fp) (p:Pg1):ac (En [(143,Kfb f0),(139,Kff f1),(144,K1 (aa Fp).arg (aa Fp).rs.res f2)]) kBool.rs 300 Tryz.f97 [.one ((aa Pg1).av p)]=aaU f0 f1 f2 p:=by kernel_rfl
theorem Xs (f0:Fp->Bool) (f1:Fp->Fp->Fp) (f2:Fp->Fp) (p:Pg1):(aaU f0 f1 f2 p).sat fun q=>q=some (mi f0 f1 f2 p):=⟨fun h0=>(show some _=some _ from congrArg some (by unfold mi;rw [h0])),fun h0=>⟨fun h1=>⟨fun h2=>(show some _=some _ from congrArg some (by unfold mi;rw [h0,h1,h2])),fun h2=>(show some _=some _ from congrArg some (by unfold mi;rw [h0,h1,h2]))⟩,fun h1=>(show some _=some _ from congrArg some (by unfold mi;rw [h0,h1]))⟩⟩
def Vb (p:Pg1):Bool:=mi yb gU xv p
theorem adU:CallOk Tryz.prog 97 (K1 (aa Pg1).arg kBool.rs.res Vb) :=
 P1 (aj (.cons aa7 (.cons AK (.cons Wm .nil)))) Tryz.func97 (ab Tryz.func97 (by kernel_rfl) (by kernel_rfl)) 300 (aa Pg1) kBool.rs Vb (Xt yb gU xv) (Xs yb gU xv)
def jo (f0:Fp->Fp) (p:Pg1):Sp1:=(match (p.inf) with | true=>(dF) | false=>({ x:=f0 p.x,y:=f0 p.y,z:=f0 oneFp }))
def IQ (f0:Fp->Fp) (p:Pg1):Tree (Option (Sp1)) :=
 (.br (p.inf)
  (.leaf (some (dF)))
  (.leaf (some ({ x:=f0 p.x,y:=f0 p.y,z:=f0 oneFp }))))
theorem LV (f0:Fp->Fp) (p:Pg1):ac (En [(136,Kf f0)]) (aa Sp1).rs 300 Tryz.f89 [.one ((aa Pg1).av p)]=IQ f0 p:=by kernel_rfl
theorem LU (f0:Fp->Fp) (p:Pg1):(IQ f0 p).sat fun q=>q=some (jo f0 p):=⟨fun h0=>(show some _=some _ from congrArg some (by unfold jo;rw [h0])),fun h0=>(show some _=some _ from congrArg some (by unfold jo;rw [h0]))⟩
def dR (p:Pg1):Sp1:=jo bj p
theorem Cc:CallOk Tryz.prog 89 (K1 (aa Pg1).arg (aa Sp1).rs.res dR) :=
 P1 (aj (.cons oH .nil)) Tryz.func89 (ab Tryz.func89 (by kernel_rfl) (by kernel_rfl)) 300 (aa Pg1) (aa Sp1).rs dR (LV bj) (LU bj)
def y7 (a:Fp):Bool:=((la (a) (zeroFp)))
def Hi (a:Fp):Tree (Option (Bool)) :=
 (.leaf (some ((la (a) (zeroFp)))))
theorem JB (a:Fp):ac (En []) kBool.rs 300 Tryz.f98 [.one ((aa Fp).av a)]=Hi a:=by kernel_rfl
theorem JA (a:Fp):(Hi a).sat fun q=>q=some (y7 a):=(show some _=some _ from rfl)
def il (a:Fp):Bool:=y7  a
theorem Bp:CallOk Tryz.prog 98 (K1 (aa Fp).arg kBool.rs.res il) :=
 P1 (aj .nil) Tryz.func98 (ab Tryz.func98 (by kernel_rfl) (by kernel_rfl)) 300 (aa Fp) kBool.rs il (JB ) (JA )
def jp (f0:Fp->Fp × Int) (f1:Fp->Fp) (f2:Fp->Fp->Fp) (s:Sp1):Pg1:=(match ((f0 (f1 s.z)).snd != 0) with | true=>(infG1) | false=>({ x:=f2 (f1 s.x) (f2 (f0 (f1 s.z)).fst (f0 (f1 s.z)).fst),y:=f2 (f1 s.y) (f2 (f2 (f0 (f1 s.z)).fst (f0 (f1 s.z)).fst) (f0 (f1 s.z)).fst),inf:=false }))
def IT (f0:Fp->Fp × Int) (f1:Fp->Fp) (f2:Fp->Fp->Fp) (s:Sp1):Tree (Option (Pg1)):=letI za':=f2 (f0 (f1 s.z)).fst (f0 (f1 s.z)).fst;
 (.br ((f0 (f1 s.z)).snd != 0) (.leaf (some (infG1))) (.leaf (some ({ x:=f2 (f1 s.x) za',y:=f2 (f1 s.y) (f2 za' (f0 (f1 s.z)).fst),inf:=false }))))
theorem L1 (f0:Fp->Fp × Int) (f1:Fp->Fp) (f2:Fp->Fp->Fp) (s:Sp1):ac (En [(137,agD f0),(138,Kf f1),(139,Kff f2)]) (aa Pg1).rs 300 Tryz.f90 [.one ((aa Sp1).av s)]=IT f0 f1 f2 s:=by kernel_rfl
theorem L0 (f0:Fp->Fp × Int) (f1:Fp->Fp) (f2:Fp->Fp->Fp) (s:Sp1):(IT f0 f1 f2 s).sat fun q=>q=some (jp f0 f1 f2 s):=⟨fun h0=>(show some _=some _ from congrArg some (by unfold jp;rw [h0])),fun h0=>(show some _=some _ from congrArg some (by unfold jp;rw [h0]))⟩
def fk (s:Sp1):Pg1:=jp i6 jm gU s
theorem Tc:CallOk Tryz.prog 90 (K1 (aa Sp1).arg (aa Pg1).rs.res fk) :=
 P1 (aj (.cons abj (.cons NA (.cons AK .nil)))) Tryz.func90 (ab Tryz.func90 (by kernel_rfl) (by kernel_rfl)) 300 (aa Sp1) (aa Pg1).rs fk (L1 i6 jm gU) (L0 i6 jm gU)
def tT (f0:Fp->Fp->Fp) (f1:Fp->Fp->Fp) (f2:Fp->Fp->Fp) (s:Sp1):Sp1:=({ x:=f2 (f0 (f1 (f1 (f0 s.x s.x) (f0 s.x s.x)) (f0 s.x s.x)) (f1 (f1 (f0 s.x s.x) (f0 s.x s.x)) (f0 s.x s.x))) (f1 (f1 (f1 (f0 s.x (f0 s.y s.y)) (f0 s.x (f0 s.y s.y))) (f1 (f0 s.x (f0 s.y s.y)) (f0 s.x (f0 s.y s.y)))) (f1 (f1 (f0 s.x (f0 s.y s.y)) (f0 s.x (f0 s.y s.y))) (f1 (f0 s.x (f0 s.y s.y)) (f0 s.x (f0 s.y s.y))))),y:=f2 (f0 (f1 (f1 (f0 s.x s.x) (f0 s.x s.x)) (f0 s.x s.x)) (f2 (f1 (f1 (f0 s.x (f0 s.y s.y)) (f0 s.x (f0 s.y s.y))) (f1 (f0 s.x (f0 s.y s.y)) (f0 s.x (f0 s.y s.y)))) (f2 (f0 (f1 (f1 (f0 s.x s.x) (f0 s.x s.x)) (f0 s.x s.x)) (f1 (f1 (f0 s.x s.x) (f0 s.x s.x)) (f0 s.x s.x))) (f1 (f1 (f1 (f0 s.x (f0 s.y s.y)) (f0 s.x (f0 s.y s.y))) (f1 (f0 s.x (f0 s.y s.y)) (f0 s.x (f0 s.y s.y)))) (f1 (f1 (f0 s.x (f0 s.y s.y)) (f0 s.x (f0 s.y s.y))) (f1 (f0 s.x (f0 s.y s.y)) (f0 s.x (f0 s.y s.y)))))))) (f1 (f1 (f1 (f0 (f0 s.y s.y) (f0 s.y s.y)) (f0 (f0 s.y s.y) (f0 s.y s.y))) (f1 (f0 (f0 s.y s.y) (f0 s.y s.y)) (f0 (f0 s.y s.y) (f0 s.y s.y)))) (f1 (f1 (f0 (f0 s.y s.y) (f0 s.y s.y)) (f0 (f0 s.y s.y) (f0 s.y s.y))) (f1 (f0 (f0 s.y s.y) (f0 s.y s.y)) (f0 (f0 s.y s.y) (f0 s.y s.y))))),z:=f1 (f0 s.y s.z) (f0 s.y s.z) })
def By (f0:Fp->Fp->Fp) (f1:Fp->Fp->Fp) (f2:Fp->Fp->Fp) (s:Sp1):Tree (Option (Sp1)):=letI za':=f1 (f0 s.x (f0 s.y s.y)) (f0 s.x (f0 s.y s.y));letI zb':=f0 (f0 s.y s.y) (f0 s.y s.y);letI zc':=f1 (f1 (f0 s.x s.x) (f0 s.x s.x)) (f0 s.x s.x);letI zd':=f1 (f1 za' za') (f1 za' za');letI ze':=f1 (f1 zb' zb') (f1 zb' zb');
 (.leaf (some ({ x:=f2 (f0 zc' zc') zd',y:=f2 (f0 zc' (f2 (f1 za' za') (f2 (f0 zc' zc') zd'))) (f1 ze' ze'),z:=f1 (f0 s.y s.z) (f0 s.y s.z) })))
theorem FY (f0:Fp->Fp->Fp) (f1:Fp->Fp->Fp) (f2:Fp->Fp->Fp) (s:Sp1):ac (En [(140,Kff f0),(141,Kff f1),(142,Kff f2)]) (aa Sp1).rs 300 Tryz.f91 [.one ((aa Sp1).av s)]=By f0 f1 f2 s:=by kernel_rfl
theorem FX (f0:Fp->Fp->Fp) (f1:Fp->Fp->Fp) (f2:Fp->Fp->Fp) (s:Sp1):(By f0 f1 f2 s).sat fun q=>q=some (tT f0 f1 f2 s):=(show some _=some _ from rfl)
def a9 (s:Sp1):Sp1:=tT aZ fo fB s
theorem qO:CallOk Tryz.prog 91 (K1 (aa Sp1).arg (aa Sp1).rs.res a9) :=
 P1 (aj (.cons nB (.cons sc (.cons sub_ok .nil)))) Tryz.func91 (ab Tryz.func91 (by kernel_rfl) (by kernel_rfl)) 300 (aa Sp1) (aa Sp1).rs a9 (FY aZ fo fB) (FX aZ fo fB)
def cG (f0:Fp->Bool) (f1:Fp->Fp->Fp) (f2:Fp->Fp->Fp) (f3:Sp1->Sp1) (f4:Fp->Fp->Fp) (s:Sp1) (t:Sp1):Sp1:=(match (f0 s.z) with | true=>(t) | false=>(match (f0 t.z) with | true=>(s) | false=>(match (f0 (f2 (f1 t.x (f1 s.z s.z)) (f1 s.x (f1 t.z t.z)))) with | true=>(match (f0 (f2 (f1 t.y (f1 (f1 s.z s.z) s.z)) (f1 s.y (f1 (f1 t.z t.z) t.z)))) with | true=>(f3 s) | false=>(dF)) | false=>({ x:=f2 (f2 (f1 (f2 (f1 t.y (f1 (f1 s.z s.z) s.z)) (f1 s.y (f1 (f1 t.z t.z) t.z))) (f2 (f1 t.y (f1 (f1 s.z s.z) s.z)) (f1 s.y (f1 (f1 t.z t.z) t.z)))) (f1 (f1 (f2 (f1 t.x (f1 s.z s.z)) (f1 s.x (f1 t.z t.z))) (f2 (f1 t.x (f1 s.z s.z)) (f1 s.x (f1 t.z t.z)))) (f2 (f1 t.x (f1 s.z s.z)) (f1 s.x (f1 t.z t.z))))) (f4 (f1 (f1 s.x (f1 t.z t.z)) (f1 (f2 (f1 t.x (f1 s.z s.z)) (f1 s.x (f1 t.z t.z))) (f2 (f1 t.x (f1 s.z s.z)) (f1 s.x (f1 t.z t.z))))) (f1 (f1 s.x (f1 t.z t.z)) (f1 (f2 (f1 t.x (f1 s.z s.z)) (f1 s.x (f1 t.z t.z))) (f2 (f1 t.x (f1 s.z s.z)) (f1 s.x (f1 t.z t.z)))))),y:=f2 (f1 (f2 (f1 t.y (f1 (f1 s.z s.z) s.z)) (f1 s.y (f1 (f1 t.z t.z) t.z))) (f2 (f1 (f1 s.x (f1 t.z t.z)) (f1 (f2 (f1 t.x (f1 s.z s.z)) (f1 s.x (f1 t.z t.z))) (f2 (f1 t.x (f1 s.z s.z)) (f1 s.x (f1 t.z t.z))))) (f2 (f2 (f1 (f2 (f1 t.y (f1 (f1 s.z s.z) s.z)) (f1 s.y (f1 (f1 t.z t.z) t.z))) (f2 (f1 t.y (f1 (f1 s.z s.z) s.z)) (f1 s.y (f1 (f1 t.z t.z) t.z)))) (f1 (f1 (f2 (f1 t.x (f1 s.z s.z)) (f1 s.x (f1 t.z t.z))) (f2 (f1 t.x (f1 s.z s.z)) (f1 s.x (f1 t.z t.z)))) (f2 (f1 t.x (f1 s.z s.z)) (f1 s.x (f1 t.z t.z))))) (f4 (f1 (f1 s.x (f1 t.z t.z)) (f1 (f2 (f1 t.x (f1 s.z s.z)) (f1 s.x (f1 t.z t.z))) (f2 (f1 t.x (f1 s.z s.z)) (f1 s.x (f1 t.z t.z))))) (f1 (f1 s.x (f1 t.z t.z)) (f1 (f2 (f1 t.x (f1 s.z s.z)) (f1 s.x (f1 t.z t.z))) (f2 (f1 t.x (f1 s.z s.z)) (f1 s.x (f1 t.z t.z))))))))) (f1 (f1 s.y (f1 (f1 t.z t.z) t.z)) (f1 (f1 (f2 (f1 t.x (f1 s.z s.z)) (f1 s.x (f1 t.z t.z))) (f2 (f1 t.x (f1 s.z s.z)) (f1 s.x (f1 t.z t.z)))) (f2 (f1 t.x (f1 s.z s.z)) (f1 s.x (f1 t.z t.z))))),z:=f1 (f1 s.z t.z) (f2 (f1 t.x (f1 s.z s.z)) (f1 s.x (f1 t.z t.z))) }))))
def Ii (f0:Fp->Bool) (f1:Fp->Fp->Fp) (f2:Fp->Fp->Fp) (f3:Sp1->Sp1) (f4:Fp->Fp->Fp) (s:Sp1) (t:Sp1):Tree (Option (Sp1)):=letI za':=f2 (f1 t.x (f1 s.z s.z)) (f1 s.x (f1 t.z t.z));letI zb':=f2 (f1 t.y (f1 (f1 s.z s.z) s.z)) (f1 s.y (f1 (f1 t.z t.z) t.z));letI zc':=f1 (f1 s.x (f1 t.z t.z)) (f1 za' za');letI zd':=f2 (f1 zb' zb') (f1 (f1 za' za') za');letI ze':=f1 (f1 s.y (f1 (f1 t.z t.z) t.z)) (f1 (f1 za' za') za');letI zf':=f1 zb' (f2 zc' (f2 zd' (f4 zc' zc')));
 (.br (f0 s.z) (.leaf (some (t))) (.br (f0 t.z) (.leaf (some (s))) (.br (f0 za') (.br (f0 zb') (.leaf (some (f3 s))) (.br (f0 za') (.leaf (some (dF))) (.leaf (some ({ x:=f2 zd' (f4 zc' zc'),y:=f2 zf' ze',z:=f1 (f1 s.z t.z) za' }))))) (.br (f0 za') (.leaf (some (dF))) (.leaf (some ({ x:=f2 zd' (f4 zc' zc'),y:=f2 zf' ze',z:=f1 (f1 s.z t.z) za' })))))))
theorem Lb (f0:Fp->Bool) (f1:Fp->Fp->Fp) (f2:Fp->Fp->Fp) (f3:Sp1->Sp1) (f4:Fp->Fp->Fp) (s:Sp1) (t:Sp1):ac (En [(98,K1 (aa Fp).arg kBool.rs.res f0),(140,Kff f1),(142,Kff f2),(91,K1 (aa Sp1).arg (aa Sp1).rs.res f3),(141,Kff f4)]) (aa Sp1).rs 300 Tryz.f92 [.one ((aa Sp1).av s),.one ((aa Sp1).av t)]=Ii f0 f1 f2 f3 f4 s t:=by kernel_rfl
theorem La (f0:Fp->Bool) (f1:Fp->Fp->Fp) (f2:Fp->Fp->Fp) (f3:Sp1->Sp1) (f4:Fp->Fp->Fp) (s:Sp1) (t:Sp1):(Ii f0 f1 f2 f3 f4 s t).sat fun q=>q=some (cG f0 f1 f2 f3 f4 s t):=⟨fun h0=>(show some _=some _ from congrArg some (by unfold cG;rw [h0])),fun h0=>⟨fun h1=>(show some _=some _ from congrArg some (by unfold cG;rw [h0,h1])),fun h1=>⟨fun h2=>⟨fun h3=>(show some _=some _ from congrArg some (by unfold cG;rw [h0,h1,h2,h3])),fun h3=>⟨fun _=>(show some _=some _ from congrArg some (by unfold cG;rw [h0,h1,h2,h3])),fun h4=>absurd (h2.symm.trans h4) (by decide)⟩⟩,fun h2=>⟨fun h3=>absurd (h2.symm.trans h3) (by decide),fun _=>(show some _=some _ from congrArg some (by unfold cG;rw [h0,h1,h2]))⟩⟩⟩⟩
def aR (s:Sp1) (t:Sp1):Sp1:=cG il aZ fB a9 fo s t
theorem ud:CallOk Tryz.prog 92 (K2 (aa Sp1).arg (aa Sp1).arg (aa Sp1).rs.res aR) :=
 P2 (aj (.cons Bp (.cons nB (.cons sub_ok (.cons qO (.cons sc .nil)))))) Tryz.func92 (ab Tryz.func92 (by kernel_rfl) (by kernel_rfl)) 300 (aa Sp1) (aa Sp1) (aa Sp1).rs aR (Lb il aZ fB a9 fo) (La il aZ fB a9 fo)
def lC (f0:Fp->Fp) (p:Pg1):Pg1:=(match (p.inf) with | true=>(p) | false=>({ x:=p.x,y:=f0 p.y,inf:=false }))
def OU (f0:Fp->Fp) (p:Pg1):Tree (Option (Pg1)) :=
 (.br (p.inf)
  (.leaf (some (p)))
  (.leaf (some ({ x:=p.x,y:=f0 p.y,inf:=false }))))
theorem Sj (f0:Fp->Fp) (p:Pg1):ac (En [(111,Kf f0)]) (aa Pg1).rs 300 Tryz.f68 [.one ((aa Pg1).av p)]=OU f0 p:=by kernel_rfl
theorem Si (f0:Fp->Fp) (p:Pg1):(OU f0 p).sat fun q=>q=some (lC f0 p):=⟨fun h0=>(show some _=some _ from congrArg some (by unfold lC;rw [h0])),fun h0=>(show some _=some _ from congrArg some (by unfold lC;rw [h0]))⟩
def mL (p:Pg1):Pg1:=lC lD p
theorem XO:CallOk Tryz.prog 68 (K1 (aa Pg1).arg (aa Pg1).rs.res mL) :=
 P1 (aj (.cons Nt .nil)) Tryz.func68 (ab Tryz.func68 (by kernel_rfl) (by kernel_rfl)) 300 (aa Pg1) (aa Pg1).rs mL (Sj lD) (Si lD)
end
section
def KI (e:List UInt64) (x o:Fp2) (z:Int):St:=ar 39 [(1,inV 0 e),(4,a8 1),(5,a8 2),(6,a8 3),(7,vI z)] [dJ eU64 e,own 40 (bJ 12),own 40 (Row.cs x),own 40 (Row.cs o)]
def afT (wF:Fp2->Fp2) (hF:Fp2->Fp2->Fp2) (lF:Fp2->Fp2):cQ := [(151,Kp1 wF),(177,Kp2 hF),(180,Kp1 lF)]
theorem Rr (T:cQ) (a:Fp2) (e:List UInt64):b7 (En T) 100 ((flat (ae Tryz.f189)).take 1) (ah Tryz.f189 [vF2 a,iL.av 0 e] [dJ eU64 e]) [1,2,4] [0,1,2] = .leaf (ar 39 [(1,inV 0 e),(2,a8 1),(4,a8 2)] [dJ eU64 e,own 40 (Row.cs a),own 40 (bJ 12)]):=by kernel_rfl
theorem Rq (hF:Fp2->Fp2->Fp2) (wF lF:Fp2->Fp2) (a:Fp2) (e:List UInt64):b7 (En (afT wF hF lF)) 100 ((flat (aC Tryz.f189)).take 3) (ar 39 [(1,inV 0 e),(2,a8 1),(4,a8 2)] [dJ eU64 e,own 40 (Row.cs a),own 40 (bJ 12)]) [1,4,5,6,7] [0,2,3,4] = .vc (0+e.length*1<=(eU64.body e).cells.length/\0<1) (.leaf (KI e (wF a) (wF oneFp2) (IntKind.i64.wrap (64*e.length)))):=by kernel_rfl
theorem WK (hF:Fp2->Fp2->Fp2) (wF lF:Fp2->Fp2) (x o:Fp2) (e:List UInt64) (z:Int):letI za':=IntKind.i64.wrap (z-1);gR (En (afT wF hF lF)) oF2 100 Tryz.f189 ((flat (aC Tryz.f189)).drop 3) (KI e x o z) [1,4,5,6,7] [0,1,2,3] = .br (decide (IntKind.i64.wrap (z-1)<0)) (.leaf (.inr (some (lF o,.t)))) (.vc ((0<=jN z/\jN z<e.length)/\0+e.length*1<=(eU64.body e).cells.length/\0<1) (.vc (0+(jN z).toNat*1<e.length) (.br (EO e z) (.leaf (.inl (.goto 0,KI e x (hF (hF o o) x) za'))) (.leaf (.inl (.goto 0,KI e x (hF o o) za')))))):=by kernel_rfl
def Fc (x:Fp2) (e:List UInt64):Nat->Fp2->Fp2
 | 0,o=>gu o
 | n+1,o=>Fc x e n (match df e n with | true=>ag (ag o o) x | false=>ag o o)
def pg (a:Fp2) (e:List UInt64):Fp2:=Fc (ay a) e (64*e.length) (ay oneFp2)
abbrev ake (a:Fp2) (e:List UInt64):Type := { q:Int × Fp2 // 0<=q.1/\q.1<=64*e.length/\Fc (ay a) e q.1.toNat q.2=pg a e }
def af4 (a:Fp2) (e:List UInt64) (q:ake a e):St:=KI e (ay a) q.1.2 q.1.1
theorem ahl:CallOk Tryz.prog 189 (K2 (aa Fp2).arg aL rF2.res pg) :=
 G2 (E:=En (afT ay ag gu)) Tryz.func189 (c:=ae Tryz.f189) (by kernel_rfl) (ab Tryz.func189 (by kernel_rfl) (by kernel_rfl)) (aa Fp2).inp iL oF2 pg fun a e _ he=>by
  have hE:EnvOk (En (afT ay ag gu)):=aj (.cons gh (.cons cS (.cons zR .nil)))
  have he:e.length<1125899906842624:=he
  have hw:IntKind.i64.wrap (64*(e.length:Int))=64*(e.length:Int):=IntWalk.i64_in _ (by omega)
  refine DoesL.stageE hE 100 1 [1,2,4] [0,1,2] (Rr _ a e) ?_
  refine DoesL.scopeFn (body:=aC Tryz.f189) (rest:=mc Tryz.f189) (tail := []) (l:=0) hE (by kernel_rfl) (by kernel_rfl) 100 3 (by kernel_rfl) [1,4,5,6,7] [0,2,3,4] (af4 a e) (fun q=>q.1.1.toNat)
   ⟨(64*(e.length:Int),ay oneFp2),by simp only [];omega,by simp only [];omega,by rw [show ((64*(e.length:Int),ay oneFp2):Int × Fp2).1.toNat=64*e.length by simp only [];omega];simp only [pg]⟩
   (Rq ag ay gu a e) ⟨⟨by rw [cells_len];omega,by decide⟩,fun _=>by rw [hw];exact Tree.sat_leaf (by simp only [af4])⟩ fun q => ?_
  obtain ⟨⟨z,o⟩,h0,h1,h2⟩:=q
  simp only [] at h0 h1 h2
  have hz:IntKind.i64.wrap (z-1)=z-1:=IntWalk.i64_in _ (by omega)
  refine DoesL.iter hE 100 [1,4,5,6,7] [0,1,2,3] (WK ag ay gu (ay a) o e z) ?_
  rw [hz]
  refine ⟨fun h => ?_,fun h => ?_⟩
  ·simp only [decide_eq_true_eq] at h
   obtain rfl:z=0:=by omega
   exact ⟨.t,by rw [<- h2];rfl,trivial⟩
  ·simp only [decide_eq_false_iff_not] at h
   obtain ⟨n,rfl⟩ : ∃ n:Nat,z=(n:Int)+1:=⟨(z-1).toNat,by omega⟩
   rw [me n (by omega),o6 e n (by omega)]
   rw [show ((n:Int)+1).toNat=n+1 by omega] at h2
   simp only [Fc] at h2
   refine ⟨⟨⟨by omega,by omega⟩,by rw [cells_len];omega,by decide⟩,fun _=>⟨by omega,fun _=>⟨fun h3 => ?_,fun h3 => ?_⟩⟩⟩
   all_goals
    have hn:((n:Int)+1-1).toNat=n:=by omega
    rw [h3] at h2
    simp only [] at h2
   ·refine ⟨rfl,⟨((n:Int)+1-1,ag (ag o o) (ay a)),?_,?_,?_⟩,?_,by simp only [af4]⟩
    ·show 0<=(n:Int)+1-1;omega
    ·show (n:Int)+1-1<=64*e.length;omega
    ·simpa only [hn] using h2
    ·show ((n:Int)+1-1).toNat<((n:Int)+1).toNat;omega
   ·refine ⟨rfl,⟨((n:Int)+1-1,ag o o),?_,?_,?_⟩,?_,by simp only [af4]⟩
    ·show 0<=(n:Int)+1-1;omega
    ·show (n:Int)+1-1<=64*e.length;omega
    ·simpa only [hn] using h2
    ·show ((n:Int)+1-1).toNat<((n:Int)+1).toNat;omega
end
end Go.Proofs.YtgpafcehehaiiaaGreat
