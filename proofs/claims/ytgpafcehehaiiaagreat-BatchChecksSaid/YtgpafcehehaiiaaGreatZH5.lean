/- Texts of the proof, joined. -/
import Derived.Test.YtgpafcehehaiiaaGreatRows
import Derived.IntWalk
import Derived.Test.YtgpafcehehaiiaaGreatZH4
set_option linter.unusedSectionVars false
set_option linter.unusedSimpArgs false
set_option linter.unusedVariables false
namespace Go.Proofs.YtgpafcehehaiiaaGreat
open Go.RowKit
theorem bodied {f : Nat} {fn : Func} (h : Tryz.prog.funcs[f]? = some fn) (h1 : fn.body.isSome = true) (h2 : (fn.name == "runtime.NumGoroutine") = false) : Bodied Tryz.prog f := ⟨fn, h, h1, h2⟩
theorem follows_mixed:Tryz.prog.follows .mixedOrders=true:=by kernel_rfl
theorem add64_ok:CallOk Tryz.prog 94 (K3x addS addC):=Kadd_ok Tryz.func94 (by kernel_rfl) (by kernel_rfl) (by kernel_rfl) (by kernel_rfl)
theorem sub64_ok:CallOk Tryz.prog 93 (K3x subS subB):=Ksub_ok Tryz.func93 (by kernel_rfl) (by kernel_rfl) (by kernel_rfl) (by kernel_rfl)
noncomputable def T0:Table := [(94,K3x addS addC),(93,K3x subS subB)]
theorem T0_ok:TableOk Tryz.prog T0 := .cons add64_ok (.cons sub64_ok .nil)
def pLimbs:Fp:=⟨0xb9feffffffffaaab,0x1eabfffeb153ffff,0x6730d2a0f6b0f624,0x64774b84f38512bf,0x4b1ba7b6434bacd7,0x1a0111ea397fe69a⟩
noncomputable def E0:Env:=mkEnv Tryz.prog T0 []
theorem E0_ok:EnvOk E0:=mkEnv_ok follows_mixed T0_ok
theorem modulus_ok:CallOk Tryz.prog 173 (K0 (kRow Fp).rs.res pLimbs):=P0 E0_ok Tryz.func173 (bodied Tryz.func173 (by kernel_rfl) (by kernel_rfl)) 100 (kRow Fp).rs pLimbs (T := .leaf (some pLimbs)) (by kernel_rfl) rfl
noncomputable def T1:Table:=(173,K0 (kRow Fp).rs.res pLimbs) :: T0
theorem T1_ok:TableOk Tryz.prog T1 := .cons modulus_ok T0_ok
noncomputable def E1:Env:=mkEnv Tryz.prog T1 []
theorem E1_ok:EnvOk E1:=mkEnv_ok follows_mixed T1_ok
def lessT (a:Fp):Fp × Bool :=
 let c0:=subB a.l0 pLimbs.l0 false
 let c1:=subB a.l1 pLimbs.l1 c0
 let c2:=subB a.l2 pLimbs.l2 c1
 let c3:=subB a.l3 pLimbs.l3 c2
 let c4:=subB a.l4 pLimbs.l4 c3
 (⟨subS a.l0 pLimbs.l0 false,subS a.l1 pLimbs.l1 c0,subS a.l2 pLimbs.l2 c1,subS a.l3 pLimbs.l3 c2,subS a.l4 pLimbs.l4 c3,subS a.l5 pLimbs.l5 c4⟩,subB a.l5 pLimbs.l5 c4)
def lessF (a:Fp) (over:UInt64):Fp:=match decide (over<b2u (lessT a).2) with | true=>a | false=>(lessT a).1
theorem less_ok:CallOk Tryz.prog 175 (K2 (kRow Fp).arg kU64.arg (kRow Fp).rs.res lessF) :=
 P2 E1_ok Tryz.func175 (bodied Tryz.func175 (by kernel_rfl) (by kernel_rfl)) 100 (kRow Fp) kU64 (kRow Fp).rs lessF
  (T:=fun a o => .br (decide (o<b2u (lessT a).2)) (.leaf (some a)) (.leaf (some (lessT a).1))) (by intro a o;kernel_rfl)
  (by intro a o;exact ⟨fun h=>congrArg some (by unfold lessF;rw [h]),fun h=>congrArg some (by unfold lessF;rw [h])⟩)
end Go.Proofs.YtgpafcehehaiiaaGreat
namespace Go.Proofs.YtgpafcehehaiiaaGreat
open Go.RowKit
def mulHi (x y:UInt64):UInt64 :=
 let t:=shrU x 32*(y &&& 4294967295)+shrU ((x &&& 4294967295)*(y &&& 4294967295)) 32
 shrU x 32*shrU y 32+shrU t 32+shrU ((t &&& 4294967295)+(x &&& 4294967295)*shrU y 32) 32
theorem mul64_ok:CallOk Tryz.prog 96 (K2 kU64.arg kU64.arg (kU64.rs2 kU64).res fun x y=>(mulHi x y,x*y)) :=
 P2 E0_ok Tryz.func96 (bodied Tryz.func96 (by kernel_rfl) (by kernel_rfl)) 100 kU64 kU64 (kU64.rs2 kU64) (fun x y=>(mulHi x y,x*y))
  (T:=fun x y => .leaf (some (mulHi x y,x*y))) (by intro x y;kernel_rfl) (fun _ _=>rfl)
theorem shrU32_nat (x:UInt64):(shrU x 32).toNat=x.toNat / 4294967296:=by
 have:=x.toNat_lt
 unfold shrU
 rw [show (min (Int.toNat 32) 64)=32 from rfl,UInt64.toNat_ofNat']
 omega
theorem and32_nat (x:UInt64):(x &&& 4294967295).toNat=x.toNat % 4294967296:=by
 rw [UInt64.toNat_and]
 exact Nat.and_two_pow_sub_one_eq_mod x.toNat 32
theorem mulHi_nat (x y:UInt64):(mulHi x y).toNat=x.toNat*y.toNat / 18446744073709551616:=by
 have hx:=x.toNat_lt
 have hy:=y.toNat_lt
 have h1:x.toNat=4294967296*(x.toNat / 4294967296)+x.toNat % 4294967296:=by omega
 have h2:y.toNat=4294967296*(y.toNat / 4294967296)+y.toNat % 4294967296:=by omega
 have b0:x.toNat % 4294967296<=4294967295:=by omega
 have b1:x.toNat / 4294967296<=4294967295:=by omega
 have c0:y.toNat % 4294967296<=4294967295:=by omega
 have c1:y.toNat / 4294967296<=4294967295:=by omega
 unfold mulHi
 simp only [UInt64.toNat_add,UInt64.toNat_mul,shrU32_nat,and32_nat]
 generalize hx0:x.toNat % 4294967296=x0 at *
 generalize hx1:x.toNat / 4294967296=x1 at *
 generalize hy0:y.toNat % 4294967296=y0 at *
 generalize hy1:y.toNat / 4294967296=y1 at *
 have p00:x0*y0<=4294967295*4294967295:=Nat.mul_le_mul b0 c0
 have p01:x0*y1<=4294967295*4294967295:=Nat.mul_le_mul b0 c1
 have p10:x1*y0<=4294967295*4294967295:=Nat.mul_le_mul b1 c0
 have p11:x1*y1<=4294967295*4294967295:=Nat.mul_le_mul b1 c1
 have e:x.toNat*y.toNat=18446744073709551616*(x1*y1)+4294967296*(x1*y0)+4294967296*(x0*y1)+x0*y0:=by
  rw [h1,h2]
  simp only [Nat.mul_add,Nat.add_mul]
  have q1:4294967296*x1*(4294967296*y1)=18446744073709551616*(x1*y1):=by
   rw [Nat.mul_mul_mul_comm]
  have q2:4294967296*x1*y0=4294967296*(x1*y0):=Nat.mul_assoc _ _ _
  have q3:x0*(4294967296*y1)=4294967296*(x0*y1):=by rw [Nat.mul_left_comm]
  omega
 rw [e]
 generalize x0*y0=p at *
 generalize x0*y1=q at *
 generalize x1*y0=r at *
 generalize x1*y1=s at *
 omega
def macL (x y t c:UInt64):UInt64:=addS (addS (x*y) t false) c false
def macH (x y t c:UInt64):UInt64:=mulHi x y+b2u (addC (x*y) t false)+b2u (addC (addS (x*y) t false) c false)
theorem mac_nat (x y t c:UInt64):(macH x y t c).toNat*18446744073709551616+(macL x y t c).toNat=x.toNat*y.toNat+t.toNat+c.toNat:=by
 have hx:=x.toNat_lt
 have hy:=y.toNat_lt
 have ht:=t.toNat_lt
 have hc:=c.toNat_lt
 have hp:x.toNat*y.toNat<=18446744073709551615*18446744073709551615:=Nat.mul_le_mul (by omega) (by omega)
 unfold macH macL
 simp only [UInt64.toNat_add,b2u_nat,addS_nat,addC_nat,mulHi_nat,UInt64.toNat_mul,Bool.toNat_false]
 generalize x.toNat*y.toNat=p at *
 omega
end Go.Proofs.YtgpafcehehaiiaaGreat
namespace Go.Proofs.YtgpafcehehaiiaaGreat
open Go.RowKit
noncomputable def T2:Table:=(175,K2 (kRow Fp).arg kU64.arg (kRow Fp).rs.res lessF) :: (96,K2 kU64.arg kU64.arg (kU64.rs2 kU64).res fun x y=>(mulHi x y,x*y)) :: T1
theorem T2_ok:TableOk Tryz.prog T2 := .cons less_ok (.cons mul64_ok T1_ok)
noncomputable def E2:Env:=mkEnv Tryz.prog T2 []
theorem E2_ok:EnvOk E2:=mkEnv_ok follows_mixed T2_ok
structure L7 where
 t0:UInt64
 t1:UInt64
 t2:UInt64
 t3:UInt64
 t4:UInt64
 t5:UInt64
 t6:UInt64
def pInv:UInt64:=0x89f3fffcfffcfffd
def roundB (t0 t1 t2 t3 t4 t5 top:UInt64) (more:Bool):L7 :=
 let x:=t0*pInv
 let d0:=mulHi x pLimbs.l0+b2u (addC (x*pLimbs.l0) t0 false)
 let d1:=macH x pLimbs.l1 t1 d0
 let d2:=macH x pLimbs.l2 t2 d1
 let d3:=macH x pLimbs.l3 t3 d2
 let d4:=macH x pLimbs.l4 t4 d3
 let d5:=macH x pLimbs.l5 t5 d4
 ⟨macL x pLimbs.l1 t1 d0,macL x pLimbs.l2 t2 d1,macL x pLimbs.l3 t3 d2,macL x pLimbs.l4 t4 d3,macL x pLimbs.l5 t5 d4,addS top d5 false,b2u more+b2u (addC top d5 false)⟩
def roundF (a:Fp) (b:UInt64) (t:L7):L7 :=
 let c0:=macH a.l0 b t.t0 0
 let c1:=macH a.l1 b t.t1 c0
 let c2:=macH a.l2 b t.t2 c1
 let c3:=macH a.l3 b t.t3 c2
 let c4:=macH a.l4 b t.t4 c3
 let c5:=macH a.l5 b t.t5 c4
 roundB (macL a.l0 b t.t0 0) (macL a.l1 b t.t1 c0) (macL a.l2 b t.t2 c1) (macL a.l3 b t.t3 c2) (macL a.l4 b t.t4 c3) (macL a.l5 b t.t5 c4) (addS t.t6 c5 false) (addC t.t6 c5 false)
def half1 (a b:Fp):L7:=roundF a b.l0 ⟨0,0,0,0,0,0,0⟩
def half2 (a b:Fp):L7:=roundF a b.l1 (half1 a b)
def half3 (a b:Fp):L7:=roundF a b.l2 (half2 a b)
def half4 (a b:Fp):L7:=roundF a b.l3 (half3 a b)
def half5 (a b:Fp):L7:=roundF a b.l4 (half4 a b)
def halfT (a b:Fp):L7:=roundF a b.l5 (half5 a b)
def L7.low (t:L7):Fp:=⟨t.t0,t.t1,t.t2,t.t3,t.t4,t.t5⟩
def halfF (a b:Fp):Fp:=lessF (halfT a b).low (halfT a b).t6
def ptrV (n:Nat):AV := .one (.c (.ptr n 0))
def litV (n:Nat):AV := .one (.c (.lit .i64 n))
def own (ty:TypeId) (cs:List Cell):HE := .live ⟨true,ty,0,.row cs,false⟩
def L7.cs (t:L7):List Cell := [.u64 t.t0,.u64 t.t1,.u64 t.t2,.u64 t.t3,.u64 t.t4,.u64 t.t5,.u64 t.t6]
def zeros (n:Nat):List Cell:=List.replicate n (.lit .u64 0)
def hSt (a b:Fp) (k:Nat) (t:List Cell):St :=
 mkSt 139 [(2,ptrV 0),(3,ptrV 1),(4,ptrV 2),(5,ptrV 3),(6,ptrV 4),(18,litV k)] [own 31 (Row.cs a),own 31 (Row.cs b),own 31 (zeros 6),own 31 (Row.cs pLimbs),own 184 t]
def hCut:X->Option (List Nat × List Nat):=same [2,3,4,5,6,18] [0,1,2,3,4]
noncomputable def hCode:List Code:=flat (codeOf Tryz.f140)
noncomputable def hBody:Code:=loopAt Tryz.f140 0
set_option maxRecDepth 100000
theorem half_start (a b:Fp):stageT E2 100 (hCode.take 4) (startSt Tryz.f140 [.one ((kRow Fp).av a),.one ((kRow Fp).av b)] []) [2,3,4,5,6,18] [0,1,2,3,4] = .leaf (hSt a b 0 (zeros 7)):=by kernel_rfl
theorem half_round0 (a b:Fp):roundT E2 100 hBody (hSt a b 0 (zeros 7)) hCut = .leaf (.normal,hSt a b 1 (roundF a b.l0 ⟨0,0,0,0,0,0,0⟩).cs):=by kernel_rfl
theorem half_round1 (a b:Fp) (t:L7):roundT E2 100 hBody (hSt a b 1 t.cs) hCut = .leaf (.normal,hSt a b 2 (roundF a b.l1 t).cs):=by kernel_rfl
theorem half_round2 (a b:Fp) (t:L7):roundT E2 100 hBody (hSt a b 2 t.cs) hCut = .leaf (.normal,hSt a b 3 (roundF a b.l2 t).cs):=by kernel_rfl
theorem half_round3 (a b:Fp) (t:L7):roundT E2 100 hBody (hSt a b 3 t.cs) hCut = .leaf (.normal,hSt a b 4 (roundF a b.l3 t).cs):=by kernel_rfl
theorem half_round4 (a b:Fp) (t:L7):roundT E2 100 hBody (hSt a b 4 t.cs) hCut = .leaf (.normal,hSt a b 5 (roundF a b.l4 t).cs):=by kernel_rfl
theorem half_round5 (a b:Fp) (t:L7):roundT E2 100 hBody (hSt a b 5 t.cs) hCut = .leaf (.normal,hSt a b 6 (roundF a b.l5 t).cs):=by kernel_rfl
theorem half_out (a b:Fp) (t:L7):roundT E2 100 hBody (hSt a b 6 t.cs) hCut = .leaf (.exit 0,hSt a b 6 t.cs):=by kernel_rfl
theorem half_fin (a b:Fp) (t:L7):finT E2 (kRow Fp).rs 100 Tryz.f140 (hCode.drop 5) (hSt a b 6 t.cs) = .leaf (some (lessF t.low t.t6)):=by kernel_rfl
theorem half_split:hCode.drop 4 = .block 0 (.loop hBody) :: hCode.drop 5:=by kernel_rfl
def hInv (a b:Fp) (k:Fin 7):St :=
 match k with
 | 0=>hSt a b 0 (zeros 7)
 | 1=>hSt a b 1 (half1 a b).cs
 | 2=>hSt a b 2 (half2 a b).cs
 | 3=>hSt a b 3 (half3 a b).cs
 | 4=>hSt a b 4 (half4 a b).cs
 | 5=>hSt a b 5 (half5 a b).cs
 | 6=>hSt a b 6 (halfT a b).cs
theorem half_ok:CallOk Tryz.prog 140 (K2 (kRow Fp).arg (kRow Fp).arg (kRow Fp).rs.res halfF):=by
 refine Q2 (E:=E2) Tryz.func140 (c:=codeOf Tryz.f140) (by kernel_rfl) (bodied Tryz.func140 (by kernel_rfl) (by kernel_rfl)) (kRow Fp) (kRow Fp) (kRow Fp).rs halfF fun a b => ?_
 refine DoesL.stageTo E2_ok 100 4 [2,3,4,5,6,18] [0,1,2,3,4] (half_start a b) ?_
 refine DoesL.blockLoop half_split (hInv a b) (fun k=>6-k.1) 0 fun k => ?_
 match k with
 | 0=>exact Does.round E2_ok 100 hCut (half_round0 a b) ⟨1,by decide,by simp only [hInv,half1]⟩
 | 1=>exact Does.round E2_ok 100 hCut (half_round1 a b _) ⟨2,by decide,by simp only [hInv,half2]⟩
 | 2=>exact Does.round E2_ok 100 hCut (half_round2 a b _) ⟨3,by decide,by simp only [hInv,half3]⟩
 | 3=>exact Does.round E2_ok 100 hCut (half_round3 a b _) ⟨4,by decide,by simp only [hInv,half4]⟩
 | 4=>exact Does.round E2_ok 100 hCut (half_round4 a b _) ⟨5,by decide,by simp only [hInv,half5]⟩
 | 5=>exact Does.round E2_ok 100 hCut (half_round5 a b _) ⟨6,by decide,by simp only [hInv,halfT]⟩
 | 6=>exact Does.round E2_ok 100 hCut (half_out a b _) ⟨rfl,DoesL.fin E2_ok 100 (half_fin a b _) (Tree.sat_leaf (by simp only [halfF]))⟩
end Go.Proofs.YtgpafcehehaiiaaGreat
namespace Go.Proofs.YtgpafcehehaiiaaGreat
open Go.RowKit
abbrev Kc (x:Fp):Contract:=K0 (kRow Fp).rs.res x
abbrev Kf (F:Fp->Fp):Contract:=K1 (kRow Fp).arg (kRow Fp).rs.res F
abbrev Kff (F:Fp->Fp->Fp):Contract:=K2 (kRow Fp).arg (kRow Fp).arg (kRow Fp).rs.res F
noncomputable abbrev En (T:Table):Env:=mkEnv Tryz.prog T []
theorem En_ok {T:Table} (h:TableOk Tryz.prog T):EnvOk (En T):=mkEnv_ok follows_mixed h
abbrev vF (a:Fp):AV := .one ((kRow Fp).av a)
abbrev vU (a:UInt64):AV := .one (kU64.av a)
abbrev rF:Rs Fp:=(kRow Fp).rs
def sqLimbs:Fp:=⟨0xf4df1f341c341746,0x0a76e6a609d104f1,0x8de5476c4c95b6d5,0x67eb88a9939d83c0,0x9a793e85b519952d,0x11988fe592cae3aa⟩
theorem square_ok:CallOk Tryz.prog 172 (Kc sqLimbs):=P0 E0_ok Tryz.func172 (bodied Tryz.func172 (by kernel_rfl) (by kernel_rfl)) 100 rF sqLimbs (T := .leaf (some sqLimbs)) (by kernel_rfl) rfl
def wholeF (a:Fp):Fp:=halfF a sqLimbs
def oneFp:Fp:=⟨1,0,0,0,0,0⟩
def zeroFp:Fp:=⟨0,0,0,0,0,0⟩
def lowF (a:Fp):Fp:=halfF a oneFp
theorem whole_run (hF:Fp->Fp->Fp) (q a:Fp):plainRun (En [(140,Kff hF),(172,Kc q)]) rF 100 Tryz.f136 [vF a] = .leaf (some (hF a q)):=by kernel_rfl
theorem low_run (hF:Fp->Fp->Fp) (a:Fp):plainRun (En [(140,Kff hF)]) rF 100 Tryz.f138 [vF a] = .leaf (some (hF a oneFp)):=by kernel_rfl
theorem whole_ok:CallOk Tryz.prog 136 (Kf wholeF):=P1 (En_ok (.cons half_ok (.cons square_ok .nil))) Tryz.func136 (bodied Tryz.func136 (by kernel_rfl) (by kernel_rfl)) 100 (kRow Fp) rF wholeF (whole_run halfF sqLimbs) (fun _=>Tree.sat_leaf (by simp only [wholeF]))
theorem low_ok:CallOk Tryz.prog 138 (Kf lowF):=P1 (En_ok (.cons half_ok .nil)) Tryz.func138 (bodied Tryz.func138 (by kernel_rfl) (by kernel_rfl)) 100 (kRow Fp) rF lowF (low_run halfF) (fun _=>Tree.sat_leaf (by simp only [lowF]))
def addT (a b:Fp):Fp × Bool :=
 let c0:=addC a.l0 b.l0 false
 let c1:=addC a.l1 b.l1 c0
 let c2:=addC a.l2 b.l2 c1
 let c3:=addC a.l3 b.l3 c2
 let c4:=addC a.l4 b.l4 c3
 (⟨addS a.l0 b.l0 false,addS a.l1 b.l1 c0,addS a.l2 b.l2 c1,addS a.l3 b.l3 c2,addS a.l4 b.l4 c3,addS a.l5 b.l5 c4⟩,addC a.l5 b.l5 c4)
def addF (a b:Fp):Fp:=lessF (addT a b).1 (b2u (addT a b).2)
theorem add_run (lF:Fp->UInt64->Fp) (a b:Fp):plainRun (En [(94,K3x addS addC),(175,K2 (kRow Fp).arg kU64.arg rF.res lF)]) rF 100 Tryz.f141 [vF a,vF b] = .leaf (some (lF (addT a b).1 (b2u (addT a b).2))):=by kernel_rfl
theorem add_ok:CallOk Tryz.prog 141 (Kff addF):=P2 (En_ok (.cons add64_ok (.cons less_ok .nil))) Tryz.func141 (bodied Tryz.func141 (by kernel_rfl) (by kernel_rfl)) 100 (kRow Fp) (kRow Fp) rF addF (add_run lessF) (fun _ _=>Tree.sat_leaf (by simp only [addF]))
def subT (a b:Fp):Fp × Bool :=
 let c0:=subB a.l0 b.l0 false
 let c1:=subB a.l1 b.l1 c0
 let c2:=subB a.l2 b.l2 c1
 let c3:=subB a.l3 b.l3 c2
 let c4:=subB a.l4 b.l4 c3
 (⟨subS a.l0 b.l0 false,subS a.l1 b.l1 c0,subS a.l2 b.l2 c1,subS a.l3 b.l3 c2,subS a.l4 b.l4 c3,subS a.l5 b.l5 c4⟩,subB a.l5 b.l5 c4)
def subF (a b:Fp):Fp:=match decide (b2u (subT a b).2=0) with | true=>(subT a b).1 | false=>(addT (subT a b).1 pLimbs).1
theorem sub_run (a b:Fp):plainRun E1 rF 100 Tryz.f142 [vF a,vF b] = .br (decide (b2u (subT a b).2=0)) (.leaf (some (subT a b).1)) (.leaf (some (addT (subT a b).1 pLimbs).1)):=by kernel_rfl
theorem sub_ok:CallOk Tryz.prog 142 (Kff subF):=P2 E1_ok Tryz.func142 (bodied Tryz.func142 (by kernel_rfl) (by kernel_rfl)) 100 (kRow Fp) (kRow Fp) rF subF sub_run
 (by intro a b;exact ⟨fun h=>congrArg some (by unfold subF;rw [h]),fun h=>congrArg some (by unfold subF;rw [h])⟩)
def negF (a:Fp):Fp:=subF zeroFp a
def mulF (a b:Fp):Fp:=wholeF (halfF a b)
def ofF (n:UInt64):Fp:=⟨n,0,0,0,0,0⟩
theorem neg_run (sF:Fp->Fp->Fp) (a:Fp):plainRun (En [(142,Kff sF)]) rF 100 Tryz.f111 [vF a] = .leaf (some (sF zeroFp a)):=by kernel_rfl
theorem neg_ok:CallOk Tryz.prog 111 (Kf negF):=P1 (En_ok (.cons sub_ok .nil)) Tryz.func111 (bodied Tryz.func111 (by kernel_rfl) (by kernel_rfl)) 100 (kRow Fp) rF negF (neg_run subF) (fun _=>Tree.sat_leaf (by simp only [negF]))
theorem mul_run (hF:Fp->Fp->Fp) (wF:Fp->Fp) (a b:Fp):plainRun (En [(140,Kff hF),(136,Kf wF)]) rF 100 Tryz.f139 [vF a,vF b] = .leaf (some (wF (hF a b))):=by kernel_rfl
theorem mul_ok:CallOk Tryz.prog 139 (Kff mulF):=P2 (En_ok (.cons half_ok (.cons whole_ok .nil))) Tryz.func139 (bodied Tryz.func139 (by kernel_rfl) (by kernel_rfl)) 100 (kRow Fp) (kRow Fp) rF mulF (mul_run halfF wholeF) (fun _ _=>Tree.sat_leaf (by simp only [mulF]))
end Go.Proofs.YtgpafcehehaiiaaGreat
namespace Go.Proofs.YtgpafcehehaiiaaGreat
open Go.RowKit
def argNat:Arg Nat where
 rd:=fun _ v=>match v with
  | .one (.c (.lit .i64 n))=>match decide (0<=n) with
   | true=>some (n.toNat,.t,[])
   | false=>none
  | .one (.c (.int .i64 n))=>some (n.toNat,.p (0<=n),[])
  | _=>none
 is:=fun _ v x=>v = .int .i64 (x:Int)
 ok:=fun {w0 β h w v x p rs} e hp _ _=>by
  split at e
  ·split at e
   ·rename_i hd
    cases e
    simp only [decide_eq_true_eq] at hd
    simp only [gv,g1,gc]
    congr 1
    omega
   ·cases e
  ·cases e
   have:(0:Int)<=_:=hp
   simp only [gv,g1,gc]
   congr 1
   omega
  ·cases e
 near:=fun e _=>e
def inpNat:Inp Nat where
 arg:=argNat
 av:=fun _ x => .one (.c (.int .i64 (x:Int)))
 hes:=fun _ => []
 fact:=fun _=>True
 known:=fun _=>trivial
 intro:=fun {w0 β heap w v x} hr _ hv=>⟨β,by rw [List.append_nil];exact hr,hv.symm,okc_none rfl,fun _ _=>rfl⟩
abbrev oU:Out UInt64:=kU64.rs.out
abbrev iL:Inp (List UInt64):=inpSl eU64
abbrev aL:Arg (List UInt64):=argSl eU64
def atF (xs:List UInt64) (i:Nat):UInt64:=xs.getD i 0
theorem at_run (xs:List UInt64) (i:Nat):letI za':=0+xs.length*1<=(eU64.body xs).cells.length/\0<1;endT (En []) oU 100 Tryz.f196 (flat (codeOf Tryz.f196)) (startSt Tryz.f196 [iL.av 0 xs,inpNat.av 1 i] [inHE eU64 xs]) = .vc za' (.br (decide ((i:Int)<(xs.length:Int))) (.vc ((0<=(i:Int)/\(i:Int)<(xs.length:Int))/\za') (.vc (0+(i:Int).toNat*1<xs.length) (.leaf (some (xs.getD (0+(i:Int).toNat*1) 0,.t))))) (.leaf (some (0,.t)))):=by kernel_rfl
theorem at_ok:CallOk Tryz.prog 196 (K2 aL argNat kU64.rs.res atF) :=
 G2 (E:=En []) Tryz.func196 (c:=codeOf Tryz.f196) (by kernel_rfl) (bodied Tryz.func196 (by kernel_rfl) (by kernel_rfl)) iL inpNat oU atF fun xs i _ _=>by
  refine DoesL.ends (En_ok .nil) 100 (at_run xs i) ⟨⟨by rw [eU64.cells_len];omega,by decide⟩,fun _=>⟨fun h => ?_,fun h => ?_⟩⟩
  ·simp only [decide_eq_true_eq] at h
   refine ⟨⟨⟨by omega,h⟩,by rw [eU64.cells_len];omega,by decide⟩,fun _=>⟨by omega,fun _=>⟨.t,?_,trivial⟩⟩⟩
   simp [atF]
  ·simp only [decide_eq_false_iff_not] at h
   refine ⟨.t,?_,trivial⟩
   have:xs.length<=i:=by omega
   simp [atF,List.getElem?_eq_none this]
def scopeAt:Code->Option Code
 | .scope a=>some a
 | .seq a b=>match scopeAt a with | some c=>some c | none=>scopeAt b
 | .block _ a=>scopeAt a
 | _=>none
def scopeOf (fn:Func):Code:=match scopeAt (codeOf fn) with | some c=>c | none => .skip
def restOf (fn:Func):Code:=match findLabel (scopeOf fn) 0 with | some c=>c | none => .skip
abbrev vI (z:Int):AV := .one (.c (.int .i64 z))
abbrev oI:Out Int:=kInt.rs.out
abbrev okL (xs:List UInt64):Prop:=0+xs.length<=xs.length/\xs.length<topLen/\RC.fits (.of 0) 0 xs.length 1 1
def cmpSt (xs ys:List UInt64) (z:Int):St:=mkSt 31 [(0,inV 0 xs),(1,inV 1 ys),(5,vI z)] [inHE eU64 xs,inHE eU64 ys]
def maxI (xs ys:List UInt64):Int:=if (ys.length:Int) > xs.length then ys.length else xs.length
theorem cmp_front (T:Table) (xs ys:List UInt64):stageT (En T) 100 ((flat (codeOf Tryz.f176)).take 1) (startSt Tryz.f176 [iL.av 0 xs,iL.av 1 ys] [inHE eU64 xs,inHE eU64 ys]) [0,1] [0,1] =
  .leaf (mkSt 31 [(0,inV 0 xs),(1,inV 1 ys)] [inHE eU64 xs,inHE eU64 ys]):=by kernel_rfl
theorem cmp_start (T:Table) (xs ys:List UInt64):stageT (En T) 100 ((flat (scopeOf Tryz.f176)).take 2) (mkSt 31 [(0,inV 0 xs),(1,inV 1 ys)] [inHE eU64 xs,inHE eU64 ys]) [0,1,5] [0,1] = .vc (0+xs.length*1<=(eU64.body xs).cells.length/\0<1) (.vc (0+ys.length*1<=(eU64.body ys).cells.length/\0<1) (.leaf (cmpSt xs ys (maxI xs ys)))):=by kernel_rfl
theorem cmp_iter (aF:List UInt64->Nat->UInt64) (xs ys:List UInt64) (z:Int):letI za':=IntKind.i64.wrap (z-1);letI zb':=(xs.drop 0).take xs.length;letI zc':=(ys.drop 0).take ys.length;iterT (En [(196,K2 aL argNat kU64.rs.res aF)]) oI 100 Tryz.f176 ((flat (scopeOf Tryz.f176)).drop 2) (cmpSt xs ys z) [0,1,5] [0,1] = .br (decide (IntKind.i64.wrap (z-1)<0)) (.leaf (.inr (some (0,.t)))) (.vc (okL xs/\0<=IntKind.i64.wrap (z-1)) (.vc (okL ys/\0<=IntKind.i64.wrap (z-1)) (.br (decide (aF zb' za'.toNat<aF zc' za'.toNat)) (.leaf (.inr (some (-1,.t)))) (.br (decide (aF zb' za'.toNat > aF zc' za'.toNat)) (.leaf (.inr (some (1,.t)))) (.leaf (.inl (.goto 0,cmpSt xs ys za'))))))):=by kernel_rfl
def cmpAt (xs ys:List UInt64):Nat->Int
 | 0=>0
 | n+1=>if atF xs n<atF ys n then -1 else if atF xs n > atF ys n then 1 else cmpAt xs ys n
def cmpF (xs ys:List UInt64):Int:=cmpAt xs ys (maxI xs ys).toNat
theorem cells_len (xs:List UInt64):(eU64.body xs).cells.length=xs.length:=eU64.cells_len xs
theorem okL_of {xs:List UInt64} (h:xs.length<topLen):okL xs:=⟨by omega,h,by simp [RC.fits]⟩
abbrev CmpOk (xs ys:List UInt64):Type := { z:Int // 0<=z/\z<topLen/\cmpAt xs ys z.toNat=cmpF xs ys }
def cmpI (xs ys:List UInt64) (z:CmpOk xs ys):St:=cmpSt xs ys z.1
theorem cmp_ok:CallOk Tryz.prog 176 (K2 aL aL kInt.rs.res cmpF) :=
 G2 (E:=En [(196,K2 aL argNat kU64.rs.res atF)]) Tryz.func176 (c:=codeOf Tryz.f176) (by kernel_rfl) (bodied Tryz.func176 (by kernel_rfl) (by kernel_rfl)) iL iL oI cmpF fun xs ys hx hy=>by
  have hE:EnvOk (En [(196,K2 aL argNat kU64.rs.res atF)]):=En_ok (.cons at_ok .nil)
  have hx:xs.length<1125899906842624:=hx
  have hy:ys.length<1125899906842624:=hy
  have hm:0<=maxI xs ys/\maxI xs ys<topLen:=by unfold maxI topLen;split <;> omega
  refine DoesL.stageE hE 100 1 [0,1] [0,1] (cmp_front _ xs ys) ?_
  refine DoesL.scopeFn (body:=scopeOf Tryz.f176) (rest:=restOf Tryz.f176) (tail := []) (l:=0) hE (by kernel_rfl) (by kernel_rfl) 100 2 (by kernel_rfl) [0,1,5] [0,1] (cmpI xs ys) (fun z=>z.1.toNat)
   ⟨maxI xs ys,hm.1,hm.2,rfl⟩ (cmp_start _ xs ys) ⟨⟨by rw [cells_len];omega,by decide⟩,fun _=>⟨⟨by rw [cells_len];omega,by decide⟩,fun _=>rfl⟩⟩ fun z => ?_
  ·obtain ⟨z,h0,h1,h2⟩:=z
   have h1:z<1125899906842624:=h1
   have hw:IntKind.i64.wrap (z-1)=z-1:=IntWalk.i64_in _ (by omega)
   refine DoesL.iter hE 100 [0,1,5] [0,1] (cmp_iter atF xs ys z) ?_
   rw [hw]
   simp only [List.drop_zero,List.take_length]
   refine ⟨fun h => ?_,fun h=>⟨⟨okL_of hx,?_⟩,fun _=>⟨⟨okL_of hy,?_⟩,fun _=>⟨fun h3 => ?_,fun h3=>⟨fun h4 => ?_,fun h4 => ?_⟩⟩⟩⟩⟩
   ·simp only [decide_eq_true_eq] at h
    obtain rfl:z=0:=by omega
    exact ⟨.t,by rw [<- h2];rfl,trivial⟩
   all_goals simp only [decide_eq_false_iff_not] at h
   ·omega
   ·omega
   all_goals
    obtain ⟨n,rfl⟩ : ∃ n:Nat,z=(n:Int)+1:=⟨(z-1).toNat,by omega⟩
    rw [show ((n:Int)+1).toNat=n+1 by omega] at h2
    rw [show ((n:Int)+1-1).toNat=n by omega] at h3
    simp only [cmpAt] at h2
   ·simp only [decide_eq_true_eq] at h3
    rw [if_pos h3] at h2
    exact ⟨.t,by rw [<- h2],trivial⟩
   ·rw [show ((n:Int)+1-1).toNat=n by omega] at h4
    simp only [decide_eq_false_iff_not] at h3
    simp only [decide_eq_true_eq] at h4
    rw [if_neg h3,if_pos h4] at h2
    exact ⟨.t,by rw [<- h2],trivial⟩
   ·rw [show ((n:Int)+1-1).toNat=n by omega] at h4
    simp only [decide_eq_false_iff_not] at h3 h4
    rw [if_neg h3,if_neg h4] at h2
    exact ⟨rfl,⟨(n:Int)+1-1,by omega,by unfold topLen;omega,by rw [show ((n:Int)+1-1).toNat=n by omega];exact h2⟩,by simp only [];omega,rfl⟩
end Go.Proofs.YtgpafcehehaiiaaGreat
namespace Go.Proofs.YtgpafcehehaiiaaGreat
open Go.RowKit
def Fp.list (a:Fp):List UInt64 := [a.l0,a.l1,a.l2,a.l3,a.l4,a.l5]
def halvedF (a:Fp):Fp:=⟨shrU a.l0 1 ||| shlU a.l1 63,shrU a.l1 1 ||| shlU a.l2 63,shrU a.l2 1 ||| shlU a.l3 63,shrU a.l3 1 ||| shlU a.l4 63,shrU a.l4 1 ||| shlU a.l5 63,shrU a.l5 1⟩
abbrev Kcmp (cF:List UInt64->List UInt64->Int):Contract:=K2 aL aL kInt.rs.res cF
def mayF (a:Fp):Bool:=decide (cmpF a.list pLimbs.list<0)
theorem may_run (cF:List UInt64->List UInt64->Int) (m a:Fp):plainRun (En [(176,Kcmp cF),(173,Kc m)]) kBool.rs 100 Tryz.f143 [vF a] = .leaf (some (decide (cF a.list m.list<0))):=by kernel_rfl
theorem may_ok:CallOk Tryz.prog 143 (K1 (kRow Fp).arg kBool.rs.res mayF):=P1 (En_ok (.cons cmp_ok (.cons modulus_ok .nil))) Tryz.func143 (bodied Tryz.func143 (by kernel_rfl) (by kernel_rfl)) 100 (kRow Fp) kBool.rs mayF (may_run cmpF pLimbs) (fun _=>Tree.sat_leaf (by simp only [mayF]))
def greatF (a:Fp):Bool:=decide (cmpF a.list (halvedF pLimbs).list > 0)
abbrev oF:Out Fp:=rF.out
def powSt (e:List UInt64) (x o:Fp) (z:Int):St:=mkSt 38 [(1,inV 0 e),(4,ptrV 1),(5,ptrV 2),(6,ptrV 3),(7,vI z)] [inHE eU64 e,own 31 (zeros 6),own 31 (Row.cs x),own 31 (Row.cs o)]
def tPow (wF:Fp->Fp) (hF:Fp->Fp->Fp) (lF:Fp->Fp):Table := [(136,Kf wF),(140,Kff hF),(138,Kf lF)]
theorem pow_front (T:Table) (a:Fp) (e:List UInt64):stageT (En T) 100 ((flat (codeOf Tryz.f174)).take 1) (startSt Tryz.f174 [vF a,iL.av 0 e] [inHE eU64 e]) [1,2,4] [0,1,2] = .leaf (mkSt 38 [(1,inV 0 e),(2,ptrV 1),(4,ptrV 2)] [inHE eU64 e,own 31 (Row.cs a),own 31 (zeros 6)]):=by kernel_rfl
theorem pow_start (hF:Fp->Fp->Fp) (wF lF:Fp->Fp) (a:Fp) (e:List UInt64):stageT (En (tPow wF hF lF)) 100 ((flat (scopeOf Tryz.f174)).take 3) (mkSt 38 [(1,inV 0 e),(2,ptrV 1),(4,ptrV 2)] [inHE eU64 e,own 31 (Row.cs a),own 31 (zeros 6)]) [1,4,5,6,7] [0,2,3,4] = .vc (0+e.length*1<=(eU64.body e).cells.length/\0<1) (.leaf (powSt e (wF a) (wF oneFp) (IntKind.i64.wrap (64*e.length)))):=by kernel_rfl
def quoZ (z:Int):Int:=IntKind.i64.wrap ((IntKind.i64.wrap (z-1)).tdiv 64)
def remZ (z:Int):UInt64:=UInt64.ofNat (((IntKind.i64.wrap (z-1)).tmod 64) % 18446744073709551616).toNat
def bitZ (e:List UInt64) (z:Int):Bool:=shrU (e.getD (0+(quoZ z).toNat*1) 0) ((remZ z).toNat:Int) &&& 1==1
theorem pow_iter (hF:Fp->Fp->Fp) (wF lF:Fp->Fp) (x o:Fp) (e:List UInt64) (z:Int):letI za':=IntKind.i64.wrap (z-1);iterT (En (tPow wF hF lF)) oF 100 Tryz.f174 ((flat (scopeOf Tryz.f174)).drop 3) (powSt e x o z) [1,4,5,6,7] [0,1,2,3] = .br (decide (IntKind.i64.wrap (z-1)<0)) (.leaf (.inr (some (lF o,.t)))) (.vc ((0<=quoZ z/\quoZ z<e.length)/\0+e.length*1<=(eU64.body e).cells.length/\0<1) (.vc (0+(quoZ z).toNat*1<e.length) (.br (bitZ e z) (.leaf (.inl (.goto 0,powSt e x (hF (hF o o) x) za'))) (.leaf (.inl (.goto 0,powSt e x (hF o o) za')))))):=by kernel_rfl
def bitAt (e:List UInt64) (i:Nat):Bool:=(e.getD (i / 64) 0).toNat.testBit (i % 64)
theorem shr_bit (x:UInt64) (k:Nat) (hk:k<64):(shrU x (k:Int) &&& 1==1)=x.toNat.testBit k:=by
 have h1:(shrU x (k:Int)).toNat=x.toNat / 2 ^ k:=by
  have:=x.toNat_lt
  unfold shrU
  rw [Int.toNat_natCast,Nat.min_eq_left (by omega),UInt64.toNat_ofNat']
  exact Nat.mod_eq_of_lt (Nat.lt_of_le_of_lt (Nat.div_le_self _ _) this)
 have h2:(shrU x (k:Int) &&& 1).toNat=x.toNat / 2 ^ k % 2:=by
  rw [UInt64.toNat_and,h1]
  exact Nat.and_one_is_mod _
 rw [Nat.testBit_eq_decide_div_mod_eq]
 rw [<- h2]
 have h3:(shrU x (k:Int) &&& 1==1)=decide ((shrU x (k:Int) &&& 1)=1):=rfl
 rw [h3]
 have:((shrU x (k:Int) &&& 1)=1) <-> (shrU x (k:Int) &&& 1).toNat=1:=⟨fun h=>by rw [h];rfl,fun h=>UInt64.toNat.inj (by rw [h];rfl)⟩
 exact decide_eq_decide.2 this
theorem quoZ_nat (n:Nat) (h:n<576460752303423488):quoZ ((n:Int)+1)=((n / 64:Nat):Int):=by
 unfold quoZ
 rw [show (n:Int)+1-1=n by omega,IntWalk.i64_in (n:Int) (by omega),show ((n:Int)).tdiv 64=((n / 64:Nat):Int) by rw [Int.tdiv_eq_ediv_of_nonneg (by omega)];omega,IntWalk.i64_in _ (by omega)]
theorem bitZ_nat (e:List UInt64) (n:Nat) (h:n<576460752303423488):bitZ e ((n:Int)+1)=bitAt e n:=by
 unfold bitZ bitAt
 rw [quoZ_nat n h]
 have h1:(remZ ((n:Int)+1)).toNat=n % 64:=by
  unfold remZ
  rw [show (n:Int)+1-1=n by omega,IntWalk.i64_in (n:Int) (by omega),show ((n:Int)).tmod 64=((n % 64:Nat):Int) by rw [Int.tmod_eq_emod_of_nonneg (by omega)];omega]
  rw [show (((n % 64:Nat):Int) % 18446744073709551616).toNat=n % 64 by omega,UInt64.toNat_ofNat']
  omega
 rw [h1,shr_bit _ _ (by omega)]
 simp only [Nat.zero_add,Nat.mul_one,Int.toNat_natCast]
def powAt (x:Fp) (e:List UInt64):Nat->Fp->Fp
 | 0,o=>lowF o
 | n+1,o=>powAt x e n (match bitAt e n with | true=>halfF (halfF o o) x | false=>halfF o o)
def powF (a:Fp) (e:List UInt64):Fp:=powAt (wholeF a) e (64*e.length) (wholeF oneFp)
abbrev PowOk (a:Fp) (e:List UInt64):Type := { q:Int × Fp // 0<=q.1/\q.1<=64*e.length/\powAt (wholeF a) e q.1.toNat q.2=powF a e }
def powI (a:Fp) (e:List UInt64) (q:PowOk a e):St:=powSt e (wholeF a) q.1.2 q.1.1
theorem pow_ok:CallOk Tryz.prog 174 (K2 (kRow Fp).arg aL rF.res powF) :=
 G2 (E:=En (tPow wholeF halfF lowF)) Tryz.func174 (c:=codeOf Tryz.f174) (by kernel_rfl) (bodied Tryz.func174 (by kernel_rfl) (by kernel_rfl)) (kRow Fp).inp iL oF powF fun a e _ he=>by
  have hE:EnvOk (En (tPow wholeF halfF lowF)):=En_ok (.cons whole_ok (.cons half_ok (.cons low_ok .nil)))
  have he:e.length<1125899906842624:=he
  have hw:IntKind.i64.wrap (64*(e.length:Int))=64*(e.length:Int):=IntWalk.i64_in _ (by omega)
  refine DoesL.stageE hE 100 1 [1,2,4] [0,1,2] (pow_front _ a e) ?_
  refine DoesL.scopeFn (body:=scopeOf Tryz.f174) (rest:=restOf Tryz.f174) (tail := []) (l:=0) hE (by kernel_rfl) (by kernel_rfl) 100 3 (by kernel_rfl) [1,4,5,6,7] [0,2,3,4] (powI a e) (fun q=>q.1.1.toNat)
   ⟨(64*(e.length:Int),wholeF oneFp),by simp only [];omega,by simp only [];omega,by rw [show ((64*(e.length:Int),wholeF oneFp):Int × Fp).1.toNat=64*e.length by simp only [];omega];simp only [powF]⟩
   (pow_start halfF wholeF lowF a e) ⟨⟨by rw [cells_len];omega,by decide⟩,fun _=>by rw [hw];exact Tree.sat_leaf (by simp only [powI])⟩ fun q => ?_
  obtain ⟨⟨z,o⟩,h0,h1,h2⟩:=q
  simp only [] at h0 h1 h2
  have hz:IntKind.i64.wrap (z-1)=z-1:=IntWalk.i64_in _ (by omega)
  refine DoesL.iter hE 100 [1,4,5,6,7] [0,1,2,3] (pow_iter halfF wholeF lowF (wholeF a) o e z) ?_
  rw [hz]
  refine ⟨fun h => ?_,fun h => ?_⟩
  ·simp only [decide_eq_true_eq] at h
   obtain rfl:z=0:=by omega
   exact ⟨.t,by rw [<- h2];rfl,trivial⟩
  ·simp only [decide_eq_false_iff_not] at h
   obtain ⟨n,rfl⟩ : ∃ n:Nat,z=(n:Int)+1:=⟨(z-1).toNat,by omega⟩
   rw [quoZ_nat n (by omega),bitZ_nat e n (by omega)]
   rw [show ((n:Int)+1).toNat=n+1 by omega] at h2
   simp only [powAt] at h2
   refine ⟨⟨⟨by omega,by omega⟩,by rw [cells_len];omega,by decide⟩,fun _=>⟨by omega,fun _=>⟨fun h3 => ?_,fun h3 => ?_⟩⟩⟩
   all_goals
    have hn:((n:Int)+1-1).toNat=n:=by omega
    rw [h3] at h2
    simp only [] at h2
   ·refine ⟨rfl,⟨((n:Int)+1-1,halfF (halfF o o) (wholeF a)),?_,?_,?_⟩,?_,by simp only [powI]⟩
    ·show 0<=(n:Int)+1-1;omega
    ·show (n:Int)+1-1<=64*e.length;omega
    ·simpa only [hn] using h2
    ·show ((n:Int)+1-1).toNat<((n:Int)+1).toNat;omega
   ·refine ⟨rfl,⟨((n:Int)+1-1,halfF o o),?_,?_,?_⟩,?_,by simp only [powI]⟩
    ·show 0<=(n:Int)+1-1;omega
    ·show (n:Int)+1-1<=64*e.length;omega
    ·simpa only [hn] using h2
    ·show ((n:Int)+1-1).toNat<((n:Int)+1).toNat;omega
end Go.Proofs.YtgpafcehehaiiaaGreat
namespace Go.Proofs.YtgpafcehehaiiaaGreat
open Go.RowKit
abbrev rFI:Rs (Fp × Int):=(kRow Fp).rs2 kInt
abbrev Kpow (pF:Fp->List UInt64->Fp):Contract:=K2 (kRow Fp).arg aL rF.res pF
def fpEq (a b:Fp):Bool:=a.l0==b.l0 && (a.l1==b.l1 && (a.l2==b.l2 && (a.l3==b.l3 && (a.l4==b.l4 && (a.l5==b.l5 && true)))))
theorem fpEq_iff (a b:Fp):fpEq a b=true <-> a=b:=by
 cases a;cases b
 simp [fpEq]
def invF (a:Fp):Fp × Int:=match fpEq a zeroFp with | true=>(a,7) | false=>(powF a [pLimbs.l0-2,pLimbs.l1,pLimbs.l2,pLimbs.l3,pLimbs.l4,pLimbs.l5],0)
theorem inv_run (pF:Fp->List UInt64->Fp) (m a:Fp):plainRun (En [(173,Kc m),(174,Kpow pF)]) rFI 100 Tryz.f137 [vF a] =
  .br (fpEq a zeroFp) (.leaf (some (a,7))) (.leaf (some (pF a [m.l0-2,m.l1,m.l2,m.l3,m.l4,m.l5],0))):=by kernel_rfl
theorem inv_ok:CallOk Tryz.prog 137 (K1 (kRow Fp).arg rFI.res invF):=P1 (En_ok (.cons modulus_ok (.cons pow_ok .nil))) Tryz.func137 (bodied Tryz.func137 (by kernel_rfl) (by kernel_rfl)) 100 (kRow Fp) rFI invF (inv_run powF pLimbs)
 (fun a=>⟨fun h=>congrArg some (by simp only [invF,h]),fun h=>congrArg some (by simp only [invF,h])⟩)
end Go.Proofs.YtgpafcehehaiiaaGreat
namespace Go.Proofs.YtgpafcehehaiiaaGreat
open Go.RowKit
noncomputable abbrev Ens (T:Table) (ns:List Nat):Env:=mkEnv Tryz.prog T ns
theorem Ens_ok {T:Table} {ns:List Nat} (h:TableOk Tryz.prog T):EnvOk (Ens T ns):=mkEnv_ok follows_mixed h
abbrev oS (ty:TypeId):Out Fp:=outSlR Fp ty 6 (fun _=>rfl)
abbrev iS:Inp Fp:=inpSlR Fp 6 (fun _=>rfl)
abbrev aS:Arg Fp:=argSlR Fp
abbrev rS (ty:TypeId):Res Fp:=resSlR Fp ty 6 (fun _=>rfl)
abbrev oB:Out Bool:=kBool.rs.out
theorem refP_run:endT (En []) (oS 22) 100 Tryz.f125 (flat (codeOf Tryz.f125)) (startSt Tryz.f125 [] []) = .leaf (some (pLimbs,.t)):=by kernel_rfl
theorem refP_ok:CallOk Tryz.prog 125 (K0 (rS 22) pLimbs) :=
 G0 (E:=En []) Tryz.func125 (c:=codeOf Tryz.f125) (by kernel_rfl) (bodied Tryz.func125 (by kernel_rfl) (by kernel_rfl)) (oS 22) pLimbs (DoesL.ends (En_ok .nil) 100 refP_run ⟨.t,rfl,trivial⟩)
def belowF (a m:Fp):Bool :=
 match a.l5 != m.l5 with
 | true=>decide (a.l5<m.l5)
 | false=>match a.l4 != m.l4 with
  | true=>decide (a.l4<m.l4)
  | false=>match a.l3 != m.l3 with
   | true=>decide (a.l3<m.l3)
   | false=>match a.l2 != m.l2 with
    | true=>decide (a.l2<m.l2)
    | false=>match a.l1 != m.l1 with
     | true=>decide (a.l1<m.l1)
     | false=>match a.l0 != m.l0 with
      | true=>decide (a.l0<m.l0)
      | false=>false
def lfB (b:Bool):Tree (Option (Bool × Pr)) := .leaf (some (b,.t))
def belowT (a m:Fp):Tree (Option (Bool × Pr)) :=
 .br (a.l5 != m.l5) (lfB (decide (a.l5<m.l5))) (.br (a.l4 != m.l4) (lfB (decide (a.l4<m.l4))) (.br (a.l3 != m.l3) (lfB (decide (a.l3<m.l3))) (.br (a.l2 != m.l2) (lfB (decide (a.l2<m.l2))) (.br (a.l1 != m.l1) (lfB (decide (a.l1<m.l1))) (.br (a.l0 != m.l0) (lfB (decide (a.l0<m.l0))) (lfB false))))))
theorem below_run (a m:Fp):endT (En []) oB 100 Tryz.f52 (flat (codeOf Tryz.f52)) (startSt Tryz.f52 [iS.av 0 a,iS.av 1 m] (iS.hes a++iS.hes m))=belowT a m:=by kernel_rfl
theorem belowT_sat (a m:Fp):(belowT a m).sat fun q => ∃ p,q=some (belowF a m,p)/\p.holds:=by
 unfold belowF
 refine ⟨fun h => ?_,fun h => ?_⟩ <;> rw [h]
 ·exact ⟨.t,rfl,trivial⟩
 refine ⟨fun h => ?_,fun h => ?_⟩ <;> rw [h]
 ·exact ⟨.t,rfl,trivial⟩
 refine ⟨fun h => ?_,fun h => ?_⟩ <;> rw [h]
 ·exact ⟨.t,rfl,trivial⟩
 refine ⟨fun h => ?_,fun h => ?_⟩ <;> rw [h]
 ·exact ⟨.t,rfl,trivial⟩
 refine ⟨fun h => ?_,fun h => ?_⟩ <;> rw [h]
 ·exact ⟨.t,rfl,trivial⟩
 refine ⟨fun h => ?_,fun h => ?_⟩ <;> rw [h]
 ·exact ⟨.t,rfl,trivial⟩
 ·exact ⟨.t,rfl,trivial⟩
theorem below_ok:CallOk Tryz.prog 52 (K2 aS aS oB.res belowF) :=
 G2 (E:=En []) Tryz.func52 (c:=codeOf Tryz.f52) (by kernel_rfl) (bodied Tryz.func52 (by kernel_rfl) (by kernel_rfl)) iS iS oB belowF fun a m _ _=>DoesL.ends (En_ok .nil) 100 (below_run a m) (belowT_sat a m)
end Go.Proofs.YtgpafcehehaiiaaGreat
namespace Go.Proofs.YtgpafcehehaiiaaGreat
open Go.RowKit
abbrev Kfb (F:Fp->Bool):Contract:=K1 (kRow Fp).arg kBool.rs.res F
abbrev Kinv (iF:Fp->Fp × Int):Contract:=K1 (kRow Fp).arg rFI.res iF
abbrev Kof (oF':UInt64->Fp):Contract:=K1 kU64.arg rF.res oF'
end Go.Proofs.YtgpafcehehaiiaaGreat
namespace Go.Proofs.YtgpafcehehaiiaaGreat
open Go.RowKit
abbrev rL:Res (List UInt64):=resSl eU64 22
abbrev oL:Out (List UInt64):=outSl eU64 22
abbrev short (xs:List UInt64):Prop:=xs.length<1099511627776
abbrev aLc:Arg (List UInt64):=aL.such short
abbrev iLc:Inp (List UInt64):=iL.such short
abbrev tiny (xs:List UInt64):Prop:=xs.length<4294967296
abbrev aLt:Arg (List UInt64):=aL.such tiny
abbrev iLt:Inp (List UInt64):=iL.such tiny
theorem u64_len (xs:List UInt64):(List.map EK.u64.cell xs).length=xs.length:=List.length_map ..
theorem limb_run (xs:List UInt64) (i:Nat):letI za':=List.map EK.u64.cell xs;letI zb':=(↑xs.length:Int);endT (En []) oU 100 Tryz.f167 (flat (codeOf Tryz.f167)) (startSt Tryz.f167 [iL.av 0 xs,inpNat.av 1 i] [inHE eU64 xs])=(.vc (0+xs.length*1<=za'.length/\0<1) (.br (decide ((↑i:Int)<zb')) (.vc ((0<=(↑i:Int)/\(↑i:Int)<zb')/\0+xs.length*1<=za'.length/\0<1) (.vc (0+(↑i:Int).toNat*1<xs.length) (.leaf (some ((xs.getD (0+(↑i:Int).toNat*1) 0,.t)))))) (.leaf (some ((UInt64.ofNat 0,.t)))))):=by kernel_rfl
theorem limb_ok:CallOk Tryz.prog 167 (K2 aL argNat kU64.rs.res atF) :=
 G2 (E:=En []) Tryz.func167 (c:=codeOf Tryz.f167) (by kernel_rfl) (bodied Tryz.func167 (by kernel_rfl) (by kernel_rfl)) iL inpNat oU atF fun xs i _ _=>by
  refine DoesL.ends (En_ok .nil) 100 (limb_run xs i) ⟨⟨by rw [u64_len];omega,by decide⟩,fun _=>⟨fun h => ?_,fun h => ?_⟩⟩
  ·simp only [decide_eq_true_eq] at h
   refine ⟨⟨⟨by omega,h⟩,by rw [u64_len];omega,by decide⟩,fun _=>⟨by omega,fun _=>⟨.t,?_,trivial⟩⟩⟩
   simp [atF]
  ·simp only [decide_eq_false_iff_not] at h
   refine ⟨.t,?_,trivial⟩
   have:xs.length<=i:=by omega
   simp [atF,List.getElem?_eq_none this]
theorem bit_run (xs:List UInt64) (i:Nat):letI za':=((↑i:Int).tdiv 64);letI zb':=List.map EK.u64.cell xs;letI zc':=IntKind.i64.wrap za';letI zd':=(↑xs.length:Int);endT (En []) oU 100 Tryz.f166 (flat (codeOf Tryz.f166)) (startSt Tryz.f166 [iL.av 0 xs,inpNat.av 1 i] [inHE eU64 xs])=(.vc (0+xs.length*1<=zb'.length/\0<1) (.br (decide (IntKind.i64.wrap za' >= zd')) (.leaf (some ((UInt64.ofNat 0,.t)))) (.vc ((0<=IntKind.i64.wrap za'/\IntKind.i64.wrap za'<zd')/\0+xs.length*1<=zb'.length/\0<1) (.vc (0+zc'.toNat*1<xs.length) (.vc (0<=(↑i:Int).tmod 64) (.leaf (some ((shrU (xs.getD (0+zc'.toNat*1) 0) ((↑i:Int).tmod 64) &&& UInt64.ofNat 1,.t))))))))):=by kernel_rfl
theorem bitAt_shr (xs:List UInt64) (i:Nat):shrU (xs.getD (i / 64) 0) ((i % 64:Nat):Int) &&& 1=b2u (bitAt xs i):=by
 have h:=shr_bit (xs.getD (i / 64) 0) (i % 64) (by omega)
 unfold bitAt
 rw [<- h]
 have h2 : ∀ y:UInt64,y &&& 1=b2u (y &&& 1==1):=fun y=>by
  have:(y &&& 1).toNat=y.toNat % 2:=by rw [UInt64.toNat_and];exact Nat.and_one_is_mod _
  have h3:(y &&& 1)=0 \/ (y &&& 1)=1:=by
   rcases Nat.mod_two_eq_zero_or_one y.toNat with h | h
   ·exact .inl (UInt64.toNat.inj (by rw [this,h];rfl))
   ·exact .inr (UInt64.toNat.inj (by rw [this,h];rfl))
  rcases h3 with h | h <;> rw [h] <;> rfl
 exact h2 _
theorem natdiv_Z (i:Nat) (h:i<9223372036854775808):IntKind.i64.wrap (((i:Nat):Int).tdiv 64)=((i / 64:Nat):Int):=by
 rw [show ((i:Int)).tdiv 64=((i / 64:Nat):Int) by rw [Int.tdiv_eq_ediv_of_nonneg (by omega)];omega,IntWalk.i64_in _ (by omega)]
theorem natmod_Z (i:Nat):((i:Nat):Int).tmod 64=((i % 64:Nat):Int):=by rw [Int.tmod_eq_emod_of_nonneg (by omega)];omega
def argIdx:Arg Nat where
 rd:=fun _ v=>match v with
  | .one (.c (.lit .i64 n))=>match decide (0<=n) && decide (n<9223372036854775808) with
   | true=>some (n.toNat,.t,[])
   | false=>none
  | .one (.c (.int .i64 n))=>some (n.toNat,.p (0<=n/\n<9223372036854775808),[])
  | _=>none
 is:=fun _ v x=>v = .int .i64 (x:Int)/\x<9223372036854775808
 ok:=fun {w0 β h w v x p rs} e hp _ _=>by
  split at e
  ·split at e
   ·rename_i hd
    cases e
    simp only [Bool.and_eq_true,decide_eq_true_eq] at hd
    refine ⟨?_,by omega⟩
    simp only [gv,g1,gc]
    congr 1
    omega
   ·cases e
  ·cases e
   have hp:(0:Int)<=_/\_<(9223372036854775808:Int):=hp
   refine ⟨?_,by omega⟩
   simp only [gv,g1,gc]
   congr 1
   omega
  ·cases e
 near:=fun e _=>e
def inpIdx:Inp Nat where
 arg:=argIdx
 av:=fun _ x => .one (.c (.int .i64 (x:Int)))
 hes:=fun _ => []
 fact:=fun x=>x<9223372036854775808
 known:=fun h=>h.2
 intro:=fun {w0 β heap w v x} hr _ hv=>⟨β,by rw [List.append_nil];exact hr,hv.1.symm,okc_none rfl,fun _ _=>rfl⟩
def bitF (xs:List UInt64) (i:Nat):UInt64:=b2u (bitAt xs i)
theorem bit_ok:CallOk Tryz.prog 166 (K2 aL argIdx kU64.rs.res bitF) :=
 G2 (E:=En []) Tryz.func166 (c:=codeOf Tryz.f166) (by kernel_rfl) (bodied Tryz.func166 (by kernel_rfl) (by kernel_rfl)) iL inpIdx oU bitF fun xs i _ hi=>by
  have hi:i<9223372036854775808:=hi
  refine DoesL.ends (En_ok .nil) 100 (bit_run xs i) ⟨⟨by rw [u64_len];omega,by decide⟩,fun _=>⟨fun h => ?_,fun h => ?_⟩⟩
  ·simp only [decide_eq_true_eq] at h
   rw [natdiv_Z i hi] at h
   refine ⟨.t,?_,trivial⟩
   have:xs.length<=i / 64:=by omega
   simp [bitF,bitAt,List.getD_eq_getElem?_getD,List.getElem?_eq_none this]
   rfl
  ·simp only [decide_eq_false_iff_not] at h
   rw [natdiv_Z i hi] at h ⊢
   refine ⟨⟨⟨by omega,by omega⟩,by rw [u64_len];omega,by decide⟩,fun _=>⟨by omega,fun _=>⟨by rw [natmod_Z];omega,fun _=>⟨.t,?_,trivial⟩⟩⟩⟩
   rw [natmod_Z]
   have:=bitAt_shr xs i
   simp only [Nat.zero_add,Nat.mul_one,Int.toNat_natCast]
   exact congrArg (fun z=>some (z,Pr.t)) this.symm ▸ rfl
end Go.Proofs.YtgpafcehehaiiaaGreat
namespace Go.Proofs.YtgpafcehehaiiaaGreat
open Go.RowKit
noncomputable abbrev cutC:List Code:=flat (codeOf Tryz.f168)
def cutSt (xs:List UInt64) (z:Int):St:=mkSt 23 [(0,inV 0 xs),(3,vI z)] [inHE eU64 xs]
theorem cut_start (xs:List UInt64):stageG (En []) 100 (cutC.take 2) (startSt Tryz.f168 [iL.av 0 xs] [inHE eU64 xs]) [0,3] [0] [(0,.as),(3,.int)] [] []=(.vc (0+xs.length*1<=(List.map EK.u64.cell xs).length/\0<1) (.leaf (mkSt 23 [(0,.one (.c (.slc 0 0 (xs.length) 1 (.of 0) false))),(3,.one (.c (.int .i64 ((↑xs.length:Int)))))] [.live ⟨false,0,1,(.elts .u64 (xs:List UInt64)),false⟩]))):=by kernel_rfl
theorem cut_round (xs:List UInt64) (z:Int):letI za':=IntKind.i64.wrap (z-1);roundT (En []) 100 (loopAt Tryz.f168 0) (cutSt xs z) (same [0,3] [0])=(.br (decide (z > 0)) (.vc ((0<=IntKind.i64.wrap (z-1)/\IntKind.i64.wrap (z-1)<(↑xs.length:Int))/\0+xs.length*1<=(List.map EK.u64.cell xs).length/\0<1) (.vc (0+za'.toNat*1<xs.length) (.br (xs.getD (0+za'.toNat*1) 0==UInt64.ofNat 0) (.leaf ((.normal,mkSt 23 [(0,.one (.c (.slc 0 0 (xs.length) 1 (.of 0) false))),(3,.one (.c (.int .i64 za')))] [.live ⟨false,0,1,(.elts .u64 (xs:List UInt64)),false⟩]))) (.leaf ((.exit 0,mkSt 23 [(0,.one (.c (.slc 0 0 (xs.length) 1 (.of 0) false))),(3,.one (.c (.int .i64 (z))))] [.live ⟨false,0,1,(.elts .u64 (xs:List UInt64)),false⟩])))))) (.leaf ((.exit 0,mkSt 23 [(0,.one (.c (.slc 0 0 (xs.length) 1 (.of 0) false))),(3,.one (.c (.int .i64 (z))))] [.live ⟨false,0,1,(.elts .u64 (xs:List UInt64)),false⟩])))):=by kernel_rfl
theorem cut_end (xs:List UInt64) (z:Int):endT (En []) oL 100 Tryz.f168 (cutC.drop 3) (cutSt xs z)=(.vc (0<=z/\0<=z.toNat/\z.toNat<=xs.length/\0+xs.length*1<=(List.map EK.u64.cell xs).length/\0<1/\(0=0 \/ 0<z.toNat)/\0=0/\1=1) (.vc (0+(z.toNat-0)<=xs.length/\0+(z.toNat-0)<=9223372036854775807/\(0+(z.toNat-0))*8<=140737488355328) (.leaf (some ((List.take (0+(z.toNat-0)) ([]++List.take (z.toNat-0) (List.drop 0 xs)),(.p (0+(z.toNat-0)<=([]++List.take (z.toNat-0) (List.drop 0 xs)).length)))))))):=by kernel_rfl
theorem cut_split:cutC.drop 2 = .block 0 (.loop (loopAt Tryz.f168 0)) :: cutC.drop 3:=by kernel_rfl
def cutN (xs:List UInt64):Nat->Nat
 | 0=>0
 | n+1=>if atF xs n=0 then cutN xs n else n+1
def cutF (xs:List UInt64):List UInt64:=xs.take (cutN xs xs.length)
abbrev CutOk (xs:List UInt64):Type := { n:Nat // n<=xs.length/\cutN xs n=cutN xs xs.length }
theorem cut_ok:CallOk Tryz.prog 168 (K1 aLc rL cutF) :=
 G1 (E:=En []) Tryz.func168 (c:=codeOf Tryz.f168) (by kernel_rfl) (bodied Tryz.func168 (by kernel_rfl) (by kernel_rfl)) iLc oL cutF fun xs hx=>by
  have hx:xs.length<1099511627776:=hx.2
  refine DoesL.stageG (En_ok .nil) 100 2 [0,3] [0] [(0,.as),(3,.int)] [] [] (cut_start xs) ⟨⟨by rw [u64_len];omega,by decide⟩,fun _ => ?_⟩
  refine DoesL.blockLoop cut_split (fun n:CutOk xs=>cutSt xs (n.1:Int)) (fun n=>n.1) ⟨xs.length,Nat.le_refl _,rfl⟩ fun n => ?_
  obtain ⟨n,h1,h2⟩:=n
  refine Does.round (En_ok .nil) 100 _ (cut_round xs n) ⟨fun h => ?_,fun h => ?_⟩
  ·simp only [decide_eq_true_eq] at h
   obtain ⟨m,rfl⟩ : ∃ m,n=m+1:=⟨n-1,by omega⟩
   have hw:IntKind.i64.wrap (((m+1:Nat):Int)-1)=(m:Int):=by rw [IntWalk.i64_in _ (by omega)];omega
   rw [hw]
   refine ⟨⟨⟨by omega,by omega⟩,by rw [u64_len];omega,by decide⟩,fun _=>⟨by omega,fun _=>⟨fun h3 => ?_,fun h3 => ?_⟩⟩⟩
   ·refine ⟨⟨m,by omega,?_⟩,by show m<m+1;omega,rfl⟩
    rw [<- h2]
    have:atF xs m=0:=by
     simp only [beq_iff_eq,Nat.zero_add,Nat.mul_one,Int.toNat_natCast] at h3
     exact h3
    simp only [cutN,if_pos this]
   ·refine ⟨rfl,DoesL.ends (En_ok .nil) 100 (cut_end xs ((m+1:Nat):Int)) ⟨?_,fun _=>⟨?_,fun _=>reads_p ?_ ?_⟩⟩⟩
    ·rw [u64_len,Int.toNat_natCast];exact ⟨by omega,by omega,by omega,by omega,by decide,.inl rfl,rfl,rfl⟩
    ·rw [Int.toNat_natCast];omega
    ·simp only [Int.toNat_natCast,Nat.zero_add,Nat.sub_zero,List.drop_zero,List.nil_append,List.take_take,Nat.min_self]
     unfold cutF
     rw [<- h2]
     have:atF xs m ≠ 0:=by
      simp only [beq_eq_false_iff_ne,Nat.zero_add,Nat.mul_one,Int.toNat_natCast] at h3
      exact h3
     simp only [cutN,if_neg this]
    ·simp only [Int.toNat_natCast,Nat.zero_add,Nat.sub_zero,List.drop_zero,List.nil_append,List.length_take]
     omega
  ·simp only [decide_eq_false_iff_not] at h
   obtain rfl:n=0:=by omega
   refine ⟨rfl,DoesL.ends (En_ok .nil) 100 (cut_end xs 0) ⟨?_,fun _=>⟨?_,fun _=>reads_p ?_ ?_⟩⟩⟩
   ·rw [u64_len];exact ⟨by omega,by omega,by simp,by omega,by decide,.inl rfl,rfl,rfl⟩
   ·simp
   ·unfold cutF
    rw [<- h2]
    simp [cutN]
   ·simp
end Go.Proofs.YtgpafcehehaiiaaGreat
namespace Go.Proofs.YtgpafcehehaiiaaGreat
open Go.RowKit
noncomputable abbrev rcmpC:List Code:=flat (codeOf Tryz.f169)
noncomputable abbrev rcmpB:Code:=loopAt Tryz.f169 0
def ownL (xs:List UInt64):HE := .live ⟨true,22,1,.elts .u64 xs,false⟩
def slV (i:Nat) (xs:List UInt64):AV := .one (.c (.slc i 0 xs.length 1 (.of 0) false))
def rcmpS0 (a b:List UInt64):St:=mkSt 45 [(0,slV 0 a),(1,slV 1 b)] [ownL a,ownL b]
def rcmpSt (a b:List UInt64) (z:Int):St:=mkSt 45 [(0,slV 0 a),(1,slV 1 b),(5,vI z)] [ownL a,ownL b]
noncomputable abbrev rcmpE (cF:List UInt64->List UInt64):Env:=Ens [(168,K1 aLc rL cF)] [168]
theorem rcmpE_ok:EnvOk (rcmpE cutF):=Ens_ok (.cons cut_ok .nil)
theorem rcmp_start (cF:List UInt64->List UInt64) (xs ys:List UInt64):letI za':=List.take xs.length (List.drop 0 xs);letI zb':=List.take ys.length (List.drop 0 ys);stageT (rcmpE cF) 100 (rcmpC.take 2) (startSt Tryz.f169 [iL.av 0 xs,iL.av 1 ys] [inHE eU64 xs,inHE eU64 ys]) [0,1] [2,3]=(.vc ((0+xs.length<=xs.length/\xs.length<1125899906842624/\0=0/\1=1)/\short za') (.vc ((0+ys.length<=ys.length/\ys.length<1125899906842624/\0=0/\1=1)/\short zb') (.leaf (mkSt 45 [(0,.one (.c (.slc 0 0 ((cF za').length) 1 (.of 0) false))),(1,.one (.c (.slc 1 0 ((cF zb').length) 1 (.of 0) false)))] [.live ⟨true,22,1,(.elts .u64 (cF za':List UInt64)),false⟩,.live ⟨true,22,1,(.elts .u64 (cF zb':List UInt64)),false⟩])))):=by kernel_rfl
theorem rcmp_len (cF:List UInt64->List UInt64) (a b:List UInt64):letI za':=0+a.length*1<=(List.map EK.u64.cell a).length/\0<1;letI zb':=0+b.length*1<=(List.map EK.u64.cell b).length/\0<1;letI zc':=(↑a.length:Int);segT (rcmpE cF) oI 100 Tryz.f169 ((rcmpC.drop 2).take 3) (rcmpS0 a b) [0,1,5] [0,1] [(0,.as),(1,.as),(5,.int)] [] []=(.vc za' (.vc zb' (.br (zc' != (↑b.length:Int)) (.vc za' (.vc zb' (.br (decide (zc'<(↑b.length:Int))) (.leaf (.inr (some ((-1,.t))))) (.leaf (.inr (some ((1,.t)))))))) (.vc za' (.leaf (.inl (mkSt 45 [(0,.one (.c (.slc 0 0 (a.length) 1 (.of 0) false))),(1,.one (.c (.slc 1 0 (b.length) 1 (.of 0) false))),(5,.one (.c (.int .i64 (IntKind.i64.wrap (zc'-1)))))] [.live ⟨true,22,1,(.elts .u64 (a:List UInt64)),false⟩,.live ⟨true,22,1,(.elts .u64 (b:List UInt64)),false⟩]))))))):=by kernel_rfl
theorem rcmp_round (cF:List UInt64->List UInt64) (a b:List UInt64) (z:Int):letI za':=((0<=z/\z<(↑a.length:Int))/\0+a.length*1<=(List.map EK.u64.cell a).length/\0<1);letI zb':=((0<=z/\z<(↑b.length:Int))/\0+b.length*1<=(List.map EK.u64.cell b).length/\0<1);letI zc':=0+z.toNat*1;letI zd':=0+z.toNat*1<a.length;letI ze':=0+z.toNat*1<b.length;iterT (rcmpE cF) oI 100 Tryz.f169 [rcmpB] (rcmpSt a b z) [0,1,5] [0,1]=(.br (decide (z >= 0)) (.vc za' (.vc zd' (.vc zb' (.vc ze' (.br (decide (a.getD zc' 0<b.getD zc' 0)) (.leaf (.inr (some ((-1,.t))))) (.vc za' (.vc zd' (.vc zb' (.vc ze' (.br (decide (b.getD zc' 0<a.getD zc' 0)) (.leaf (.inr (some ((1,.t))))) (.leaf (.inl ((.normal,mkSt 45 [(0,.one (.c (.slc 0 0 (a.length) 1 (.of 0) false))),(1,.one (.c (.slc 1 0 (b.length) 1 (.of 0) false))),(5,.one (.c (.int .i64 (IntKind.i64.wrap (z-1)))))] [.live ⟨true,22,1,(.elts .u64 (a:List UInt64)),false⟩,.live ⟨true,22,1,(.elts .u64 (b:List UInt64)),false⟩])))))))))))))) (.leaf (.inl ((.exit 0,mkSt 45 [(0,.one (.c (.slc 0 0 (a.length) 1 (.of 0) false))),(1,.one (.c (.slc 1 0 (b.length) 1 (.of 0) false))),(5,.one (.c (.int .i64 (z))))] [.live ⟨true,22,1,(.elts .u64 (a:List UInt64)),false⟩,.live ⟨true,22,1,(.elts .u64 (b:List UInt64)),false⟩]))))):=by kernel_rfl
theorem rcmp_end (cF:List UInt64->List UInt64) (a b:List UInt64) (z:Int):endT (rcmpE cF) oI 100 Tryz.f169 (rcmpC.drop 6) (rcmpSt a b z) =
 (.leaf (some ((0,.t)))):=by kernel_rfl
theorem vcLen (xs:List UInt64):0+xs.length*1<=(List.map EK.u64.cell xs).length/\0<1:=⟨by rw [u64_len];omega,by decide⟩
theorem vcIdx {xs:List UInt64} {n:Nat} (h:n<xs.length):((0:Int)<=(n:Int)/\(n:Int)<(xs.length:Int))/\0+xs.length*1<=(List.map EK.u64.cell xs).length/\0<1:=⟨⟨by omega,by omega⟩,vcLen xs⟩
theorem vcGet {xs:List UInt64} {n:Nat} (h:n<xs.length):0+((n:Int)).toNat*1<xs.length:=by rw [Int.toNat_natCast];omega
theorem getZ (xs:List UInt64) (n:Nat):xs.getD (0+((n:Int)).toNat*1) 0=atF xs n:=by rw [Int.toNat_natCast,Nat.zero_add,Nat.mul_one];rfl
theorem wrap_pred (n:Nat) (h:n<9223372036854775807):IntKind.i64.wrap ((n:Int)-1)=(n:Int)-1:=IntWalk.i64_in _ (by omega)
theorem wrap_succ (n:Nat) (h:n<9223372036854775807):IntKind.i64.wrap ((n:Int)+1)=((n+1:Nat):Int):=by rw [IntWalk.i64_in _ (by omega)];omega
theorem whole (xs:List UInt64):List.take xs.length (List.drop 0 xs)=xs:=by rw [List.drop_zero,List.take_length]
theorem okL' {xs:List UInt64} (h:xs.length<1125899906842624):0+xs.length<=xs.length/\xs.length<1125899906842624/\0=0/\1=1:=⟨by omega,h,rfl,rfl⟩
theorem okC {xs:List UInt64} (h:xs.length<1099511627776):(0+xs.length<=xs.length/\xs.length<1125899906842624/\0=0/\1=1)/\short (List.take xs.length (List.drop 0 xs)):=⟨okL' (by omega),by rw [whole];exact h⟩
def cmpR (xs ys:List UInt64):Int :=
 if (cutF xs).length ≠ (cutF ys).length then (if (cutF xs).length<(cutF ys).length then -1 else 1) else cmpAt (cutF xs) (cutF ys) (cutF xs).length
abbrev RcOk (a b:List UInt64):Type := { z:Int // -1<=z/\z<a.length/\cmpAt a b (z+1).toNat=cmpAt a b a.length }
theorem rcmp_ok:CallOk Tryz.prog 169 (K2 aLc aLc kInt.rs.res cmpR) :=
 G2 (E:=rcmpE cutF) Tryz.func169 (c:=codeOf Tryz.f169) (by kernel_rfl) (bodied Tryz.func169 (by kernel_rfl) (by kernel_rfl)) iLc iLc oI cmpR fun xs ys hx hy=>by
  have hx:xs.length<1099511627776:=hx.2
  have hy:ys.length<1099511627776:=hy.2
  have hE:=rcmpE_ok
  have hcl : ∀ zs:List UInt64,(cutF zs).length<=zs.length:=fun zs=>by unfold cutF;rw [List.length_take];omega
  have cx:=hcl xs
  have cy:=hcl ys
  refine DoesL.stageE hE 100 2 [0,1] [2,3] (rcmp_start cutF xs ys) ?_
  simp only [List.drop_zero,List.take_length]
  refine ⟨⟨⟨by omega,by omega,trivial,trivial⟩,hx⟩,fun _=>⟨⟨⟨by omega,by omega,trivial,trivial⟩,hy⟩,fun _ => ?_⟩⟩
  have ex:cmpR xs ys=if (cutF xs).length ≠ (cutF ys).length then (if (cutF xs).length<(cutF ys).length then -1 else 1) else cmpAt (cutF xs) (cutF ys) (cutF xs).length:=rfl
  generalize cutF xs=a at *
  generalize cutF ys=b at *
  refine DoesL.seg hE 100 3 [0,1,5] [0,1] [(0,.as),(1,.as),(5,.int)] [] [] (rcmp_len cutF a b) ⟨vcLen a,fun _=>⟨vcLen b,fun _=>⟨fun h=>⟨vcLen a,fun _=>⟨vcLen b,fun _=>⟨fun h2 => ?_,fun h2 => ?_⟩⟩⟩,fun h=>⟨vcLen a,fun _ => ?_⟩⟩⟩⟩
  ·simp only [bne_iff_ne,ne_eq,decide_eq_true_eq] at h h2
   exact reads_t (by rw [ex,if_pos (by omega),if_pos (by omega)])
  ·simp only [bne_iff_ne,ne_eq,decide_eq_false_iff_not] at h h2
   exact reads_t (by rw [ex,if_pos (by omega),if_neg (by omega)])
  ·simp only [bne_eq_false_iff_eq] at h
   have hl:a.length=b.length:=by omega
   rw [if_neg (by omega)] at ex
   have hw:IntKind.i64.wrap ((a.length:Int)-1)=(a.length:Int)-1:=wrap_pred _ (by omega)
   rw [hw]
   refine DoesL.blockLoopR (B:=rcmpB) (rest:=rcmpC.drop 6) (id:=0) (by kernel_rfl) (fun z:RcOk a b=>rcmpSt a b z.1) (fun z=>(z.1+1).toNat) ⟨(a.length:Int)-1,by omega,by omega,by rw [show ((a.length:Int)-1+1).toNat=a.length by omega]⟩ fun z => ?_
   obtain ⟨z,z1,z2,z3⟩:=z
   refine DoesL.iter hE 100 [0,1,5] [0,1] (rcmp_round cutF a b z) ⟨fun h0 => ?_,fun h0 => ?_⟩
   ·simp only [ge_iff_le,decide_eq_true_eq] at h0
    obtain ⟨n,rfl⟩ : ∃ n:Nat,z=(n:Int):=⟨z.toNat,by omega⟩
    have na:n<a.length:=by omega
    have nb:n<b.length:=by omega
    rw [getZ,getZ,wrap_pred _ (by omega)]
    rw [show ((n:Int)+1).toNat=n+1 by omega] at z3
    have st:cmpAt a b (n+1)=if atF a n<atF b n then -1 else if atF a n > atF b n then 1 else cmpAt a b n:=rfl
    refine ⟨vcIdx na,fun _=>⟨vcGet na,fun _=>⟨by exact vcIdx nb,fun _=>⟨vcGet nb,fun _=>⟨fun h1 => ?_,fun h1=>⟨vcIdx na,fun _=>⟨vcGet na,fun _=>⟨vcIdx nb,fun _=>⟨vcGet nb,fun _=>⟨fun h2 => ?_,fun h2 => ?_⟩⟩⟩⟩⟩⟩⟩⟩⟩⟩
    ·simp only [decide_eq_true_eq] at h1
     exact reads_t (by rw [ex,<- z3,st,if_pos h1])
    ·simp only [decide_eq_true_eq,decide_eq_false_iff_not] at h1 h2
     exact reads_t (by rw [ex,<- z3,st,if_neg h1,if_pos h2])
    ·simp only [decide_eq_false_iff_not] at h1 h2
     refine ⟨⟨(n:Int)-1,by omega,by omega,?_⟩,?_,rfl⟩
     ·rw [show ((n:Int)-1+1).toNat=n by omega,<- z3,st,if_neg h1,if_neg h2]
     ·simp only [];omega
   ·simp only [ge_iff_le,decide_eq_false_iff_not] at h0
    obtain rfl:z = -1:=by omega
    refine ⟨rfl,DoesL.ends hE 100 (rcmp_end cutF a b (-1)) (reads_t ?_)⟩
    rw [ex,<- z3]
    rfl
end Go.Proofs.YtgpafcehehaiiaaGreat
namespace Go.Proofs.YtgpafcehehaiiaaGreat
open Go.RowKit
abbrev bitV (b:Bool):AV := .one (.c (.bit b))
theorem max_if (a b:Nat):(if (b:Int) > (a:Int) then (b:Int) else (a:Int))=((max a b:Nat):Int):=by split <;> omega
theorem own_eq (xs:List UInt64) (x:UInt64):List.take xs.length (List.drop 0 xs) ++ [x]=xs ++ [x]:=by rw [List.drop_zero,List.take_length]
theorem len_snoc (xs:List UInt64) (x:UInt64):xs.length+1=(xs ++ [x]).length:=by simp
noncomputable abbrev rlessC:List Code:=flat (codeOf Tryz.f134)
noncomputable abbrev rlessB:Code:=loopAt Tryz.f134 0
abbrev rLI:Res (List UInt64 × Int):=resSl2 eU64 22
abbrev oLI:Out (List UInt64 × Int):=outSl2 eU64 22
def rlessSt (xs ys out:List UInt64) (c:Bool) (z:Int):St:=mkSt 42 [(0,inV 0 xs),(1,inV 1 ys),(6,slV 2 out),(7,bitV c),(8,vI z)] [inHE eU64 xs,inHE eU64 ys,ownL out]
noncomputable abbrev rlessE (pF:List UInt64->List UInt64->Int) (lF:List UInt64->Nat->UInt64) (S:UInt64->UInt64->Bool->UInt64) (C:UInt64->UInt64->Bool->Bool) (cF:List UInt64->List UInt64):Env :=
 Ens [(169,K2 aLc aLc kInt.rs.res pF),(167,K2 aL argNat kU64.rs.res lF),(93,K3x S C),(168,K1 aLc rL cF)] [168]
theorem rlessE_ok:EnvOk (rlessE cmpR atF subS subB cutF):=Ens_ok (.cons rcmp_ok (.cons limb_ok (.cons sub64_ok (.cons cut_ok .nil))))
theorem rless_start (pF:List UInt64->List UInt64->Int) (lF:List UInt64->Nat->UInt64) (S:UInt64->UInt64->Bool->UInt64) (C:UInt64->UInt64->Bool->Bool) (cF:List UInt64->List UInt64) (xs ys:List UInt64):letI za':=List.take xs.length (List.drop 0 xs);letI zb':=List.take ys.length (List.drop 0 ys);segT (rlessE pF lF S C cF) oLI 100 Tryz.f134 (rlessC.take 6) (startSt Tryz.f134 [iL.av 0 xs,iL.av 1 ys] [inHE eU64 xs,inHE eU64 ys]) [0,1,6,7,8] [0,1] [(0,.as),(1,.as),(6,.nil 2),(7,.bit),(8,.int)] [] [(22,.u64)]=(.vc (((0+xs.length<=xs.length/\xs.length<1125899906842624/\0=0/\1=1)/\short za')/\(0+ys.length<=ys.length/\ys.length<1125899906842624/\0=0/\1=1)/\short zb') (.br (decide (pF za' zb'<0)) (.leaf (.inr (some ((([],1),.t))))) (.leaf (.inl (mkSt 42 [(0,.one (.c (.slc 0 0 (xs.length) 1 (.of 0) false))),(1,.one (.c (.slc 1 0 (ys.length) 1 (.of 0) false))),(6,.one (.c (.slc 2 0 0 1 (.of 0) false))),(7,.one (.c (.bit (false)))),(8,.one (.c (.int .i64 0)))] [.live ⟨false,0,1,(.elts .u64 (xs:List UInt64)),false⟩,.live ⟨false,0,1,(.elts .u64 (ys:List UInt64)),false⟩,.live ⟨true,22,1,(.elts .u64 ([]:List UInt64)),false⟩]))))):=by kernel_rfl
theorem rless_round (pF:List UInt64->List UInt64->Int) (lF:List UInt64->Nat->UInt64) (S:UInt64->UInt64->Bool->UInt64) (C:UInt64->UInt64->Bool->Bool) (cF:List UInt64->List UInt64) (xs ys out:List UInt64) (c:Bool) (z:Int):letI za':=lF (List.take xs.length (List.drop 0 xs)) z.toNat;letI zb':=lF (List.take ys.length (List.drop 0 ys)) z.toNat;letI zc':=(↑ys.length:Int);letI zd':=(↑xs.length:Int);roundT (rlessE pF lF S C cF) 100 rlessB (rlessSt xs ys out c z) (fun x=>match x with | .normal=>some ([0,1,6,7,8],[0,1,4]) | _=>some ([0,1,6,7,8],[0,1,2]))=(.vc (0+xs.length*1<=(List.map EK.u64.cell xs).length/\0<1) (.vc (0+ys.length*1<=(List.map EK.u64.cell ys).length/\0<1) (.br (decide (z<if zc' > zd' then zc' else zd')) (.vc ((0+xs.length<=xs.length/\xs.length<1125899906842624/\0=0/\1=1)/\0<=z) (.vc ((0+ys.length<=ys.length/\ys.length<1125899906842624/\0=0/\1=1)/\0<=z) (.vc (0+out.length<=out.length/\out.length+1<=9223372036854775807/\(out.length+1)*8<=140737488355328) (.leaf ((.normal,mkSt 42 [(0,.one (.c (.slc 0 0 (xs.length) 1 (.of 0) false))),(1,.one (.c (.slc 1 0 (ys.length) 1 (.of 0) false))),(6,.one (.c (.slc 2 0 (out.length+1) 1 (.of 0) false))),(7,.one (.c (.bit (C za' zb' c)))),(8,.one (.c (.int .i64 (IntKind.i64.wrap (z+1)))))] [.live ⟨false,0,1,(.elts .u64 (xs:List UInt64)),false⟩,.live ⟨false,0,1,(.elts .u64 (ys:List UInt64)),false⟩,.live ⟨true,22,1,(.elts .u64 (List.take out.length (List.drop 0 out) ++ [S za' zb' c]:List UInt64)),false⟩])))))) (.leaf ((.exit 0,mkSt 42 [(0,.one (.c (.slc 0 0 (xs.length) 1 (.of 0) false))),(1,.one (.c (.slc 1 0 (ys.length) 1 (.of 0) false))),(6,.one (.c (.slc 2 0 (out.length) 1 (.of 0) false))),(7,.one (.c (.bit (c)))),(8,.one (.c (.int .i64 (z))))] [.live ⟨false,0,1,(.elts .u64 (xs:List UInt64)),false⟩,.live ⟨false,0,1,(.elts .u64 (ys:List UInt64)),false⟩,.live ⟨true,22,1,(.elts .u64 (out:List UInt64)),false⟩])))))):=by kernel_rfl
theorem rless_end (pF:List UInt64->List UInt64->Int) (lF:List UInt64->Nat->UInt64) (S:UInt64->UInt64->Bool->UInt64) (C:UInt64->UInt64->Bool->Bool) (cF:List UInt64->List UInt64) (xs ys out:List UInt64) (c:Bool) (z:Int):letI za':=List.take out.length (List.drop 0 out);endT (rlessE pF lF S C cF) oLI 100 Tryz.f134 (rlessC.drop 7) (rlessSt xs ys out c z)=(.vc ((0+out.length<=out.length/\out.length<1125899906842624/\0=0/\1=1)/\short za') (.leaf (some (((List.take (cF za').length (cF za'),0),(.p ((cF za').length<=(cF za').length))))))):=by kernel_rfl
def subAt (xs ys:List UInt64):Nat->List UInt64 × Bool
 | 0=>([],false)
 | k+1=>((subAt xs ys k).1 ++ [subS (atF xs k) (atF ys k) (subAt xs ys k).2],subB (atF xs k) (atF ys k) (subAt xs ys k).2)
theorem subAt_len (xs ys:List UInt64) : ∀ k,(subAt xs ys k).1.length=k
 | 0=>rfl
 | k+1=>by simp only [subAt,List.length_append,subAt_len xs ys k,List.length_singleton]
def rlessF (xs ys:List UInt64):List UInt64 × Int:=if cmpR xs ys<0 then ([],1) else (cutF (subAt xs ys (max xs.length ys.length)).1,0)
theorem rless_ok:CallOk Tryz.prog 134 (K2 aLt aLt rLI rlessF) :=
 G2 (E:=rlessE cmpR atF subS subB cutF) Tryz.func134 (c:=codeOf Tryz.f134) (by kernel_rfl) (bodied Tryz.func134 (by kernel_rfl) (by kernel_rfl)) iLt iLt oLI rlessF fun xs ys hx hy=>by
  have hx:xs.length<4294967296:=hx.2
  have hy:ys.length<4294967296:=hy.2
  have hE:=rlessE_ok
  refine DoesL.seg hE 100 6 _ _ _ _ _ (rless_start cmpR atF subS subB cutF xs ys) ?_
  refine ⟨⟨okC (by omega),okC (by omega)⟩,fun _=>⟨fun h => ?_,fun h => ?_⟩⟩
  ·rw [whole,whole] at h
   simp only [decide_eq_true_eq] at h
   exact reads_t (by rw [rlessF,if_pos h])
  rw [whole,whole] at h
  simp only [decide_eq_false_iff_not] at h
  have ex:rlessF xs ys=(cutF (subAt xs ys (max xs.length ys.length)).1,0):=by rw [rlessF,if_neg h]
  refine DoesL.blockLoop (B:=rlessB) (rest:=rlessC.drop 7) (id:=0) (by kernel_rfl) (fun k : { k:Nat // k<=max xs.length ys.length }=>rlessSt xs ys (subAt xs ys k.1).1 (subAt xs ys k.1).2 (k.1:Int)) (fun k=>max xs.length ys.length-k.1) ⟨0,by omega⟩ fun k => ?_
  obtain ⟨k,hk⟩:=k
  have hl:=subAt_len xs ys k
  show Does _ _ (rlessSt xs ys (subAt xs ys k).1 (subAt xs ys k).2 (k:Int)) _
  refine Does.round hE 100 _ (rless_round cmpR atF subS subB cutF xs ys _ _ (k:Int)) ⟨vcLen xs,fun _=>⟨vcLen ys,fun _=>⟨fun h => ?_,fun h => ?_⟩⟩⟩
  ·rw [max_if] at h
   simp only [decide_eq_true_eq] at h
   refine ⟨⟨okL' (by omega),by omega⟩,fun _=>⟨⟨okL' (by omega),by omega⟩,fun _=>⟨⟨by omega,by omega,by omega⟩,fun _ => ?_⟩⟩⟩
   refine ⟨⟨k+1,by omega⟩,by show max xs.length ys.length-(k+1)<max xs.length ys.length-k;omega,?_⟩
   rw [wrap_succ k (by omega),own_eq,len_snoc _ (subS (atF xs k) (atF ys k) (subAt xs ys k).2),whole,whole,Int.toNat_natCast]
   rfl
  ·rw [max_if] at h
   simp only [decide_eq_false_iff_not] at h
   obtain rfl:k=max xs.length ys.length:=by omega
   refine ⟨rfl,DoesL.ends hE 100 (rless_end cmpR atF subS subB cutF xs ys _ _ _) ⟨okC (by omega),fun _ => ?_⟩⟩
   rw [whole]
   refine reads_p ?_ (Nat.le_refl _)
   rw [List.take_length,ex]
end Go.Proofs.YtgpafcehehaiiaaGreat
namespace Go.Proofs.YtgpafcehehaiiaaGreat
open Go.RowKit
end Go.Proofs.YtgpafcehehaiiaaGreat
namespace Go.Proofs.YtgpafcehehaiiaaGreat
open Go.RowKit
noncomputable abbrev rsubC:List Code:=flat (codeOf Tryz.f95)
noncomputable abbrev rsubB:Code:=loopAt Tryz.f95 0
def rsubSt (ty ty':TypeId) (xs ys:List UInt64) (c:Bool) (z:Int):St:=mkSt 28 [(0,slW 0 xs),(1,slW 1 ys),(4,bitV c),(5,vI z)] (wrHE ty ty' xs ys)
noncomputable abbrev rsubE (S:UInt64->UInt64->Bool->UInt64) (C:UInt64->UInt64->Bool->Bool):Env:=En [(93,K3x S C)]
theorem rsubE_ok:EnvOk (rsubE subS subB):=En_ok (.cons sub64_ok .nil)
theorem rsub_start (S:UInt64->UInt64->Bool->UInt64) (C:UInt64->UInt64->Bool->Bool) (ty ty':TypeId) (xs ys:List UInt64):stageG (rsubE S C) 100 (rsubC.take 2) (startSt Tryz.f95 [slW 0 xs,slW 1 ys] (wrHE ty ty' xs ys)) [0,1,4,5] [0,1] [(0,.as),(1,.as),(4,.bit),(5,.int)] [] []=(.leaf (mkSt 28 [(0,.one (.c (.slc 0 0 (xs.length) 1 (.of 0) false))),(1,.one (.c (.slc 1 0 (ys.length) 1 (.of 0) false))),(4,.one (.c (.bit (false)))),(5,.one (.c (.int .i64 0)))] [.live ⟨true,(ty),1,(.elts .u64 (xs:List UInt64)),true⟩,.live ⟨false,(ty'),1,(.elts .u64 (ys:List UInt64)),false⟩])):=by kernel_rfl
theorem rsub_round (S:UInt64->UInt64->Bool->UInt64) (C:UInt64->UInt64->Bool->Bool) (ty ty':TypeId) (xs ys:List UInt64) (c:Bool) (z:Int):letI za':=((0<=z/\z<(↑xs.length:Int))/\0+xs.length*1<=(List.map EK.u64.cell xs).length/\0<1);letI zb':=0+z.toNat*1;letI zc':=0+z.toNat*1<xs.length;letI zd':=List.map EK.u64.cell ys;letI ze':=(↑ys.length:Int);roundT (rsubE S C) 100 rsubB (rsubSt ty ty' xs ys c z) (same [0,1,4,5] [0,1])=(.vc (0+ys.length*1<=zd'.length/\0<1) (.br (decide (z<ze')) (.vc za' (.vc zc' (.vc ((0<=z/\z<ze')/\0+ys.length*1<=zd'.length/\0<1) (.vc (0+z.toNat*1<ys.length) (.vc za' (.vc zc' (.leaf ((.normal,mkSt 28 [(0,.one (.c (.slc 0 0 (xs.length) 1 (.of 0) false))),(1,.one (.c (.slc 1 0 (ys.length) 1 (.of 0) false))),(4,.one (.c (.bit (C (xs.getD zb' 0) (ys.getD zb' 0) c)))),(5,.one (.c (.int .i64 (IntKind.i64.wrap (z+1)))))] [.live ⟨true,(ty),1,(.elts .u64 (xs.set zb' (S (xs.getD zb' 0) (ys.getD zb' 0) c):List UInt64)),true⟩,.live ⟨false,(ty'),1,(.elts .u64 (ys:List UInt64)),false⟩]))))))))) (.leaf ((.exit 0,mkSt 28 [(0,.one (.c (.slc 0 0 (xs.length) 1 (.of 0) false))),(1,.one (.c (.slc 1 0 (ys.length) 1 (.of 0) false))),(4,.one (.c (.bit (c)))),(5,.one (.c (.int .i64 (z))))] [.live ⟨true,(ty),1,(.elts .u64 (xs:List UInt64)),true⟩,.live ⟨false,(ty'),1,(.elts .u64 (ys:List UInt64)),false⟩]))))):=by kernel_rfl
theorem rsub_end (S:UInt64->UInt64->Bool->UInt64) (C:UInt64->UInt64->Bool->Bool) (ty ty':TypeId) (xs ys:List UInt64) (c:Bool) (z:Int):wendT (rsubE S C) 100 Tryz.f95 (rsubC.drop 3) (rsubSt ty ty' xs ys c z)=(.leaf (some ((AV.tup [],hpS (wrHE ty ty' xs ys) 0)))):=by kernel_rfl
theorem rfp_run (xs:List UInt64):letI za':=List.take xs.length (List.drop 0 xs);letI zb':=UInt64.ofNat 0;endT (En []) oF 100 Tryz.f128 (flat (codeOf Tryz.f128)) (startSt Tryz.f128 [iL.av 0 xs] [inHE eU64 xs])=(.vc (0+xs.length<=xs.length) (.leaf (some (({ l0:=pickC (Nat.blt 0 xs.length) (za'.getD 0 0) zb',l1:=pickC (Nat.blt 1 xs.length) (za'.getD 1 0) zb',l2:=pickC (Nat.blt 2 xs.length) (za'.getD 2 0) zb',l3:=pickC (Nat.blt 3 xs.length) (za'.getD 3 0) zb',l4:=pickC (Nat.blt 4 xs.length) (za'.getD 4 0) zb',l5:=pickC (Nat.blt 5 xs.length) (za'.getD 5 0) zb' },.t))))):=by kernel_rfl
theorem set_get (xs:List UInt64) (k:Nat) (v:UInt64) {j:Nat} (h:j ≠ k):atF (xs.set k v) j=atF xs j:=by
 unfold atF
 rw [List.getD_eq_getElem?_getD,List.getD_eq_getElem?_getD,List.getElem?_set_ne (Ne.symm h)]
def subW:Nat->List UInt64->List UInt64->Bool->List UInt64 × Bool
 | 0,xs,ys,c=>(xs,c)
 | k+1,xs,ys,c=>((subW k xs ys c).1.set k (subS (atF xs k) (atF ys k) (subW k xs ys c).2),subB (atF xs k) (atF ys k) (subW k xs ys c).2)
theorem subW_len (xs ys:List UInt64) (c:Bool) : ∀ k,(subW k xs ys c).1.length=xs.length
 | 0=>rfl
 | k+1=>by simp only [subW,List.length_set,subW_len xs ys c k]
theorem subW_at (xs ys:List UInt64) (c:Bool) : ∀ k j,k<=j->atF (subW k xs ys c).1 j=atF xs j
 | 0,j,_=>rfl
 | k+1,j,h=>by
  simp only [subW]
  rw [set_get _ _ _ (by omega),subW_at xs ys c k j (by omega)]
theorem rsub_ok:CallOk Tryz.prog 95 (Kwl fun xs ys=>(subW ys.length xs ys false).1):=by
 refine Kwl_ok (E:=rsubE subS subB) Tryz.func95 (c:=codeOf Tryz.f95) (by kernel_rfl) (bodied Tryz.func95 (by kernel_rfl) (by kernel_rfl)) (fun xs ys=>subW_len _ _ _ _) fun ty ty' xs ys h0 hl hb => ?_
 have hE:=rsubE_ok
 refine DoesL.stageG hE 100 2 _ _ _ _ _ (rsub_start subS subB ty ty' xs ys) ?_
 refine DoesL.blockLoop (B:=rsubB) (rest:=rsubC.drop 3) (id:=0) (by kernel_rfl) (fun k : { k:Nat // k<=ys.length }=>rsubSt ty ty' (subW k.1 xs ys false).1 ys (subW k.1 xs ys false).2 (k.1:Int)) (fun k=>ys.length-k.1) ⟨0,by omega⟩ fun k => ?_
 obtain ⟨k,hk⟩:=k
 have hw:=subW_len xs ys false k
 have ha:=subW_at xs ys false k k (Nat.le_refl _)
 show Does _ _ (rsubSt ty ty' (subW k xs ys false).1 ys (subW k xs ys false).2 (k:Int)) _
 refine Does.round hE 100 _ (rsub_round subS subB ty ty' (subW k xs ys false).1 ys (subW k xs ys false).2 (k:Int)) ⟨vcLen ys,fun _=>⟨fun h => ?_,fun h => ?_⟩⟩
 ·simp only [decide_eq_true_eq] at h
  have k1:k<ys.length:=by omega
  have k2:k<(subW k xs ys false).1.length:=by omega
  refine ⟨vcIdx k2,fun _=>⟨vcGet k2,fun _=>⟨vcIdx k1,fun _=>⟨vcGet k1,fun _=>⟨vcIdx k2,fun _=>⟨vcGet k2,fun _ => ?_⟩⟩⟩⟩⟩⟩
  refine ⟨⟨k+1,by omega⟩,by show ys.length-(k+1)<ys.length-k;omega,?_⟩
  rw [wrap_succ k (by omega),getZ,getZ,Int.toNat_natCast,Nat.zero_add,Nat.mul_one,ha]
  have e:(subW (k+1) xs ys false).1.length=(subW k xs ys false).1.length:=by rw [subW_len,subW_len]
  show _=rsubSt ty ty' (subW (k+1) xs ys false).1 ys (subW (k+1) xs ys false).2 ((k+1:Nat):Int)
  unfold rsubSt slW
  rw [e]
  rfl
 ·simp only [decide_eq_false_iff_not] at h
  obtain rfl:k=ys.length:=by omega
  exact ⟨rfl,DoesL.wends hE 100 (rsub_end subS subB ty ty' _ ys _ _) (Tree.sat_leaf rfl)⟩
def ofL (xs:List UInt64):Fp:=⟨atF xs 0,atF xs 1,atF xs 2,atF xs 3,atF xs 4,atF xs 5⟩
theorem pick_at (xs:List UInt64) (k:Nat):pickC (Nat.blt k xs.length) ((List.take xs.length (List.drop 0 xs)).getD k 0) (UInt64.ofNat 0)=atF xs k:=by
 rw [whole]
 cases h:Nat.blt k xs.length with
 | true=>rfl
 | false =>
  have : ¬ k<xs.length:=fun h2=>by rw [show Nat.blt k xs.length=true from Nat.ble_eq_true_of_le h2] at h;cases h
  simp only [pickC,atF,List.getD_eq_getElem?_getD]
  rw [List.getElem?_eq_none (by omega)]
  rfl
theorem rfp_ok:CallOk Tryz.prog 128 (K1 aL oF.res ofL) :=
 G1 (E:=En []) Tryz.func128 (c:=codeOf Tryz.f128) (by kernel_rfl) (bodied Tryz.func128 (by kernel_rfl) (by kernel_rfl)) iL oF ofL fun xs hx=>by
  refine DoesL.ends (En_ok .nil) 100 (rfp_run xs) ⟨by omega,fun _=>reads_t ?_⟩
  rw [pick_at,pick_at,pick_at,pick_at,pick_at,pick_at]
  rfl
abbrev rSu:Res Fp:=rS 22
abbrev oSu:Out Fp:=oS 22
def six (a:Fp):List UInt64 := [a.l0,a.l1,a.l2,a.l3,a.l4,a.l5]
def wrOk (a m:Fp):Prop:=0<(six a).length/\(six m).length<=(six a).length/\(six a).length<4294967296
theorem wrOk_ok (a m:Fp):wrOk a m:=⟨Nat.lt_of_lt_of_le (by decide:0<6) (Nat.le_refl 6),Nat.le_refl 6,(by decide:6<4294967296)⟩
abbrev Ksub:Contract:=Kwl fun xs ys=>(subW ys.length xs ys false).1
noncomputable abbrev plusE (bF:Fp->Fp->Bool):Env:=En [(94,K3x addS addC),(52,K2 aS aS oB.res bF),(95,Ksub)]
theorem plusE_ok:EnvOk (plusE belowF):=En_ok (.cons add64_ok (.cons below_ok (.cons rsub_ok .nil)))
def lfF (a:Fp):Tree (Option (Fp × Pr)) := .leaf (some (a,.t))
def plusT (bF:Fp->Fp->Bool) (a b m:Fp):Tree (Option (Fp × Pr)) :=
 .br (b2u (addT a b).2==1) (.vc (wrOk (addT a b).1 m) (lfF (subT (addT a b).1 m).1)) (.br (!(bF (addT a b).1 m)) (.vc (wrOk (addT a b).1 m) (lfF (subT (addT a b).1 m).1)) (lfF (addT a b).1))
theorem plus_run (bF:Fp->Fp->Bool) (a b m:Fp):endT (plusE bF) oSu 300 Tryz.f59 (flat (codeOf Tryz.f59)) (startSt Tryz.f59 [iS.av 0 a,iS.av 1 b,iS.av 2 m] (iS.hes a++iS.hes b++iS.hes m))=plusT bF a b m:=by kernel_rfl
def plusF (a b m:Fp):Fp:=match b2u (addT a b).2==1 with
 | true=>(subT (addT a b).1 m).1
 | false=>match !(belowF (addT a b).1 m) with
  | true=>(subT (addT a b).1 m).1
  | false=>(addT a b).1
theorem plusT_sat (a b m:Fp):(plusT belowF a b m).sat fun q => ∃ p,q=some (plusF a b m,p)/\p.holds:=by
 refine ⟨fun h=>⟨wrOk_ok _ _,fun _ => ?_⟩,fun h=>⟨fun h2=>⟨wrOk_ok _ _,fun _ => ?_⟩,fun h2 => ?_⟩⟩
 ·exact reads_t (by unfold plusF;rw [h])
 ·exact reads_t (by unfold plusF;rw [h,h2])
 ·exact reads_t (by unfold plusF;rw [h,h2])
theorem plus_ok:CallOk Tryz.prog 59 (K3 aS aS aS rSu plusF) :=
 G3 (E:=plusE belowF) Tryz.func59 (c:=codeOf Tryz.f59) (by kernel_rfl) (bodied Tryz.func59 (by kernel_rfl) (by kernel_rfl)) iS iS iS oSu plusF fun a b m _ _ _=>DoesL.ends plusE_ok 300 (plus_run belowF a b m) (plusT_sat a b m)
noncomputable abbrev minusE:Env:=En [(94,K3x addS addC),(93,K3x subS subB)]
theorem minusE_ok:EnvOk minusE:=En_ok (.cons add64_ok (.cons sub64_ok .nil))
def minusT (a b m:Fp):Tree (Option (Fp × Pr)) := .br (b2u (subT a b).2==1) (lfF (addT (subT a b).1 m).1) (lfF (subT a b).1)
theorem minus_run (a b m:Fp):endT minusE oSu 300 Tryz.f58 (flat (codeOf Tryz.f58)) (startSt Tryz.f58 [iS.av 0 a,iS.av 1 b,iS.av 2 m] (iS.hes a++iS.hes b++iS.hes m))=minusT a b m:=by kernel_rfl
def minusF (a b m:Fp):Fp:=match b2u (subT a b).2==1 with
 | true=>(addT (subT a b).1 m).1
 | false=>(subT a b).1
theorem minus_ok:CallOk Tryz.prog 58 (K3 aS aS aS rSu minusF) :=
 G3 (E:=minusE) Tryz.func58 (c:=codeOf Tryz.f58) (by kernel_rfl) (bodied Tryz.func58 (by kernel_rfl) (by kernel_rfl)) iS iS iS oSu minusF fun a b m _ _ _=>DoesL.ends minusE_ok 300 (minus_run a b m)
  ⟨fun h=>reads_t (by unfold minusF;rw [h]),fun h=>reads_t (by unfold minusF;rw [h])⟩
abbrev K3s (F:Fp->Fp->Fp->Fp):Contract:=K3 aS aS aS rSu F
abbrev Kfp (F:List UInt64->Fp):Contract:=K1 aL oF.res F
theorem addP_run (pF:Fp->Fp->Fp->Fp) (m a b:Fp):plainRun (Ens [(59,K3s pF),(125,K0 rSu m),(128,Kfp ofL)] [59,125]) rF 100 Tryz.f78 [vF a,vF b] = .leaf (some (pF a b m)):=by kernel_rfl
def addPF (a b:Fp):Fp:=plusF a b pLimbs
theorem addP_ok:CallOk Tryz.prog 78 (Kff addPF):=P2 (Ens_ok (.cons plus_ok (.cons refP_ok (.cons rfp_ok .nil)))) Tryz.func78 (bodied Tryz.func78 (by kernel_rfl) (by kernel_rfl)) 100 (kRow Fp) (kRow Fp) rF addPF (addP_run plusF pLimbs) (fun _ _=>Tree.sat_leaf (by simp only [addPF]))
theorem subP_run (pF:Fp->Fp->Fp->Fp) (m a b:Fp):plainRun (Ens [(58,K3s pF),(125,K0 rSu m),(128,Kfp ofL)] [58,125]) rF 100 Tryz.f164 [vF a,vF b] = .leaf (some (pF a b m)):=by kernel_rfl
def subPF (a b:Fp):Fp:=minusF a b pLimbs
theorem subP_ok:CallOk Tryz.prog 164 (Kff subPF):=P2 (Ens_ok (.cons minus_ok (.cons refP_ok (.cons rfp_ok .nil)))) Tryz.func164 (bodied Tryz.func164 (by kernel_rfl) (by kernel_rfl)) 100 (kRow Fp) (kRow Fp) rF subPF (subP_run minusF pLimbs) (fun _ _=>Tree.sat_leaf (by simp only [subPF]))
theorem negP_run (sF:Fp->Fp->Fp) (a:Fp):plainRun (En [(164,Kff sF)]) rF 100 Tryz.f127 [vF a] = .leaf (some (sF zeroFp a)):=by kernel_rfl
def negPF (a:Fp):Fp:=subPF zeroFp a
theorem negP_ok:CallOk Tryz.prog 127 (Kf negPF):=P1 (En_ok (.cons subP_ok .nil)) Tryz.func127 (bodied Tryz.func127 (by kernel_rfl) (by kernel_rfl)) 100 (kRow Fp) rF negPF (negP_run subPF) (fun _=>Tree.sat_leaf (by simp only [negPF]))
theorem ofP_run (n:UInt64):plainRun (En []) rF 100 Tryz.f76 [vU n] = .leaf (some (ofF n)):=by kernel_rfl
theorem ofP_ok:CallOk Tryz.prog 76 (K1 kU64.arg rF.res ofF):=P1 (En_ok .nil) Tryz.func76 (bodied Tryz.func76 (by kernel_rfl) (by kernel_rfl)) 100 kU64 rF ofF ofP_run (fun _=>Tree.sat_leaf rfl)
end Go.Proofs.YtgpafcehehaiiaaGreat
namespace Go.Proofs.YtgpafcehehaiiaaGreat
open Go.RowKit
def rmL (x y t c:UInt64):UInt64:=addS (addS t (x*y) false) c false
def rmH (x y t c:UInt64):UInt64:=mulHi x y+b2u (addC t (x*y) false)+b2u (addC (addS t (x*y) false) c false)
theorem addS_comm (x y:UInt64) (c:Bool):addS x y c=addS y x c:=UInt64.toNat.inj (by rw [addS_nat,addS_nat,Nat.add_comm x.toNat])
theorem addC_comm (x y:UInt64) (c:Bool):addC x y c=addC y x c:=by
 have h1:=addC_nat x y c
 have h2:=addC_nat y x c
 rw [Nat.add_comm x.toNat,<- h2] at h1
 cases h3:addC x y c <;> cases h4:addC y x c <;> simp [h3,h4] at h1 <;> rfl
theorem rmL_eq (x y t c:UInt64):rmL x y t c=macL x y t c:=by unfold rmL macL;rw [addS_comm t]
theorem rmH_eq (x y t c:UInt64):rmH x y t c=macH x y t c:=by unfold rmH macH;rw [addS_comm t,addC_comm t]
def montB (m:Fp) (inv:UInt64) (t0 t1 t2 t3 t4 t5 top:UInt64) (more:Bool):L7 :=
 let x:=t0*inv
 let d0:=mulHi x m.l0+b2u (addC t0 (x*m.l0) false)
 let d1:=rmH x m.l1 t1 d0
 let d2:=rmH x m.l2 t2 d1
 let d3:=rmH x m.l3 t3 d2
 let d4:=rmH x m.l4 t4 d3
 let d5:=rmH x m.l5 t5 d4
 ⟨rmL x m.l1 t1 d0,rmL x m.l2 t2 d1,rmL x m.l3 t3 d2,rmL x m.l4 t4 d3,rmL x m.l5 t5 d4,addS top d5 false,b2u more+b2u (addC top d5 false)⟩
def montM (ai:UInt64) (b:Fp) (t:L7):Bool :=
 let c0:=rmH ai b.l0 t.t0 0
 let c1:=rmH ai b.l1 t.t1 c0
 let c2:=rmH ai b.l2 t.t2 c1
 let c3:=rmH ai b.l3 t.t3 c2
 let c4:=rmH ai b.l4 t.t4 c3
 let c5:=rmH ai b.l5 t.t5 c4
 addC t.t6 c5 false
def montR (m:Fp) (inv:UInt64) (ai:UInt64) (b:Fp) (t:L7):L7 :=
 let c0:=rmH ai b.l0 t.t0 0
 let c1:=rmH ai b.l1 t.t1 c0
 let c2:=rmH ai b.l2 t.t2 c1
 let c3:=rmH ai b.l3 t.t3 c2
 let c4:=rmH ai b.l4 t.t4 c3
 let c5:=rmH ai b.l5 t.t5 c4
 montB m inv (rmL ai b.l0 t.t0 0) (rmL ai b.l1 t.t1 c0) (rmL ai b.l2 t.t2 c1) (rmL ai b.l3 t.t3 c2) (rmL ai b.l4 t.t4 c3) (rmL ai b.l5 t.t5 c4) (addS t.t6 c5 false) (addC t.t6 c5 false)
noncomputable abbrev montC:List Code:=flat (codeOf Tryz.f60)
noncomputable abbrev montO:Code:=loopAt Tryz.f60 1
noncomputable abbrev montE (bF:Fp->Fp->Bool):Env:=En [(96,K2 kU64.arg kU64.arg (kU64.rs2 kU64).res fun x y=>(mulHi x y,x*y)),(94,K3x addS addC),(52,K2 aS aS oB.res bF),(95,Ksub)]
theorem montE_ok:EnvOk (montE belowF):=En_ok (.cons mul64_ok (.cons add64_ok (.cons below_ok (.cons rsub_ok .nil))))
def slR (i n:Nat):AV := .one (.c (.slc i 0 n 1 (.of 0) true))
def mSt (a b m:Fp) (inv:UInt64) (k:Nat) (t:List Cell):St :=
 mkSt 222 [(0,slR 0 6),(1,slR 1 6),(2,slR 2 6),(7,litV 6),(8,vU inv),(10,slR 3 8),(11,litV k)] [.live ⟨false,0,1,.row (Row.cs a),false⟩,.live ⟨false,0,1,.row (Row.cs b),false⟩,.live ⟨false,0,1,.row (Row.cs m),false⟩,.live ⟨true,22,1,.row t,false⟩]
def mCut:X->Option (List Nat × List Nat):=same [0,1,2,7,8,10,11] [0,1,2,3]
def eight (t:L7) (h:Bool):List Cell:=t.cs ++ [.bit h]
def newt (m x:UInt64):UInt64:=x*(2-m*x)
def montInv (m:UInt64):UInt64:=0-newt m (newt m (newt m (newt m (newt m (newt m m)))))
set_option maxRecDepth 100000
theorem mont_start (bF:Fp->Fp->Bool) (a b m:Fp):stageT (montE bF) 300 (montC.take 8) (startSt Tryz.f60 [iS.av 0 a,iS.av 1 b,iS.av 2 m] (iS.hes a++iS.hes b++iS.hes m)) [0,1,2,7,8,10,11] [0,1,2,3] = .leaf (mSt a b m (montInv m.l0) 0 (zeros 8)):=by kernel_rfl
theorem mont_round0 (bF:Fp->Fp->Bool) (a b m:Fp) (inv:UInt64):roundT (montE bF) 300 montO (mSt a b m inv 0 (zeros 8)) mCut = .leaf (.normal,mSt a b m inv 1 (eight (montR m inv a.l0 b ⟨0,0,0,0,0,0,0⟩) (montM a.l0 b ⟨0,0,0,0,0,0,0⟩))):=by kernel_rfl
theorem mont_round1 (bF:Fp->Fp->Bool) (a b m:Fp) (inv:UInt64) (t:L7) (h:Bool):roundT (montE bF) 300 montO (mSt a b m inv 1 (eight t h)) mCut = .leaf (.normal,mSt a b m inv 2 (eight (montR m inv a.l1 b t) (montM a.l1 b t))):=by kernel_rfl
theorem mont_round2 (bF:Fp->Fp->Bool) (a b m:Fp) (inv:UInt64) (t:L7) (h:Bool):roundT (montE bF) 300 montO (mSt a b m inv 2 (eight t h)) mCut = .leaf (.normal,mSt a b m inv 3 (eight (montR m inv a.l2 b t) (montM a.l2 b t))):=by kernel_rfl
theorem mont_round3 (bF:Fp->Fp->Bool) (a b m:Fp) (inv:UInt64) (t:L7) (h:Bool):roundT (montE bF) 300 montO (mSt a b m inv 3 (eight t h)) mCut = .leaf (.normal,mSt a b m inv 4 (eight (montR m inv a.l3 b t) (montM a.l3 b t))):=by kernel_rfl
theorem mont_round4 (bF:Fp->Fp->Bool) (a b m:Fp) (inv:UInt64) (t:L7) (h:Bool):roundT (montE bF) 300 montO (mSt a b m inv 4 (eight t h)) mCut = .leaf (.normal,mSt a b m inv 5 (eight (montR m inv a.l4 b t) (montM a.l4 b t))):=by kernel_rfl
theorem mont_round5 (bF:Fp->Fp->Bool) (a b m:Fp) (inv:UInt64) (t:L7) (h:Bool):roundT (montE bF) 300 montO (mSt a b m inv 5 (eight t h)) mCut = .leaf (.normal,mSt a b m inv 6 (eight (montR m inv a.l5 b t) (montM a.l5 b t))):=by kernel_rfl
theorem mont_out (bF:Fp->Fp->Bool) (a b m:Fp) (inv:UInt64) (t:L7) (h:Bool):roundT (montE bF) 300 montO (mSt a b m inv 6 (eight t h)) mCut = .leaf (.exit 2,mSt a b m inv 6 (eight t h)):=by kernel_rfl
def wrOk8 (m:Fp):Prop:=0<8/\6<=8/\8<4294967296
def montT (bF:Fp->Fp->Bool) (m:Fp) (t:L7):Tree (Option (Fp × Pr)) :=
 .br (t.t6 != 0) (.vc (wrOk8 m) (lfF (subT t.low m).1)) (.br (!(bF t.low m)) (.vc (wrOk8 m) (lfF (subT t.low m).1)) (lfF t.low))
theorem mont_end (bF:Fp->Fp->Bool) (a b m:Fp) (inv:UInt64) (t:L7) (h:Bool):endT (montE bF) oSu 300 Tryz.f60 (montC.drop 9) (mSt a b m inv 6 (eight t h))=montT bF m t:=by kernel_rfl
def montE7 (m:Fp) (t:L7):Fp:=match t.t6 != 0 with
 | true=>(subT t.low m).1
 | false=>match !(belowF t.low m) with
  | true=>(subT t.low m).1
  | false=>t.low
def mont1 (a b m:Fp):L7:=montR m (montInv m.l0) a.l0 b ⟨0,0,0,0,0,0,0⟩
def mont2 (a b m:Fp):L7:=montR m (montInv m.l0) a.l1 b (mont1 a b m)
def mont3 (a b m:Fp):L7:=montR m (montInv m.l0) a.l2 b (mont2 a b m)
def mont4 (a b m:Fp):L7:=montR m (montInv m.l0) a.l3 b (mont3 a b m)
def mont5 (a b m:Fp):L7:=montR m (montInv m.l0) a.l4 b (mont4 a b m)
def mont6 (a b m:Fp):L7:=montR m (montInv m.l0) a.l5 b (mont5 a b m)
def montF (a b m:Fp):Fp:=montE7 m (mont6 a b m)
theorem montT_sat (m:Fp) (t:L7):(montT belowF m t).sat fun q => ∃ p,q=some (montE7 m t,p)/\p.holds:=by
 have w:wrOk8 m:=⟨by decide,by decide,by decide⟩
 refine ⟨fun h=>⟨w,fun _ => ?_⟩,fun h=>⟨fun h2=>⟨w,fun _ => ?_⟩,fun h2 => ?_⟩⟩
 ·exact reads_t (by unfold montE7;rw [h])
 ·exact reads_t (by unfold montE7;rw [h,h2])
 ·exact reads_t (by unfold montE7;rw [h,h2])
def mAt (a b m:Fp) (q:Fin 7 × Bool):St :=
 match q.1 with
 | 0=>mSt a b m (montInv m.l0) 0 (zeros 8)
 | 1=>mSt a b m (montInv m.l0) 1 (eight (mont1 a b m) q.2)
 | 2=>mSt a b m (montInv m.l0) 2 (eight (mont2 a b m) q.2)
 | 3=>mSt a b m (montInv m.l0) 3 (eight (mont3 a b m) q.2)
 | 4=>mSt a b m (montInv m.l0) 4 (eight (mont4 a b m) q.2)
 | 5=>mSt a b m (montInv m.l0) 5 (eight (mont5 a b m) q.2)
 | 6=>mSt a b m (montInv m.l0) 6 (eight (mont6 a b m) q.2)
theorem mont_split:montC.drop 8 = .block 2 (.loop montO) :: montC.drop 9:=by kernel_rfl
theorem mont_ok:CallOk Tryz.prog 60 (K3 aS aS aS rSu montF) :=
 G3 (E:=montE belowF) Tryz.func60 (c:=codeOf Tryz.f60) (by kernel_rfl) (bodied Tryz.func60 (by kernel_rfl) (by kernel_rfl)) iS iS iS oSu montF fun a b m _ _ _=>by
  have hE:=montE_ok
  refine DoesL.stageTo hE 300 8 _ _ (mont_start belowF a b m) ?_
  refine DoesL.blockLoop mont_split (mAt a b m) (fun q=>6-q.1.1) (0,false) fun q => ?_
  obtain ⟨k,h⟩:=q
  match k with
  | 0=>exact Does.round hE 300 mCut (mont_round0 belowF a b m _) ⟨(1,montM a.l0 b ⟨0,0,0,0,0,0,0⟩),by show 6-1<6-0;decide,by simp only [mAt,mont1]⟩
  | 1=>exact Does.round hE 300 mCut (mont_round1 belowF a b m _ (mont1 a b m) h) ⟨(2,montM a.l1 b (mont1 a b m)),by show 6-2<6-1;decide,by simp only [mAt,mont2]⟩
  | 2=>exact Does.round hE 300 mCut (mont_round2 belowF a b m _ (mont2 a b m) h) ⟨(3,montM a.l2 b (mont2 a b m)),by show 6-3<6-2;decide,by simp only [mAt,mont3]⟩
  | 3=>exact Does.round hE 300 mCut (mont_round3 belowF a b m _ (mont3 a b m) h) ⟨(4,montM a.l3 b (mont3 a b m)),by show 6-4<6-3;decide,by simp only [mAt,mont4]⟩
  | 4=>exact Does.round hE 300 mCut (mont_round4 belowF a b m _ (mont4 a b m) h) ⟨(5,montM a.l4 b (mont4 a b m)),by show 6-5<6-4;decide,by simp only [mAt,mont5]⟩
  | 5=>exact Does.round hE 300 mCut (mont_round5 belowF a b m _ (mont5 a b m) h) ⟨(6,montM a.l5 b (mont5 a b m)),by show 6-6<6-5;decide,by simp only [mAt,mont6]⟩
  | 6=>exact Does.round hE 300 mCut (mont_out belowF a b m _ (mont6 a b m) h) ⟨rfl,DoesL.ends hE 300 (mont_end belowF a b m _ (mont6 a b m) h) (montT_sat m (mont6 a b m))⟩
theorem mulP_run (pF:Fp->Fp->Fp->Fp) (m a b:Fp):plainRun (Ens [(60,K3s pF),(125,K0 rSu m),(128,Kfp ofL)] [60,125]) rF 100 Tryz.f79 [vF a,vF b] = .leaf (some (pF (pF a b m) sqLimbs m)):=by kernel_rfl
def mulPF (a b:Fp):Fp:=montF (montF a b pLimbs) sqLimbs pLimbs
theorem mulP_ok:CallOk Tryz.prog 79 (Kff mulPF):=P2 (Ens_ok (.cons mont_ok (.cons refP_ok (.cons rfp_ok .nil)))) Tryz.func79 (bodied Tryz.func79 (by kernel_rfl) (by kernel_rfl)) 100 (kRow Fp) (kRow Fp) rF mulPF (mulP_run montF pLimbs) (fun _ _=>Tree.sat_leaf (by simp only [mulPF]))
end Go.Proofs.YtgpafcehehaiiaaGreat
namespace Go.Proofs.YtgpafcehehaiiaaGreat
open Go.RowKit
abbrev Kof' (F:UInt64->Fp):Contract:=K1 kU64.arg rF.res F
noncomputable abbrev powPC:List Code:=flat (codeOf Tryz.f122)
noncomputable abbrev powPB:Code:=loopAt Tryz.f122 0
noncomputable abbrev powPE (oF':UInt64->Fp) (mF:Fp->Fp->Fp) (bF:List UInt64->Nat->UInt64):Env:=En [(76,Kof' oF'),(79,Kff mF),(166,K2 aL argIdx kU64.rs.res bF)]
theorem powPE_ok:EnvOk (powPE ofF mulPF bitF):=En_ok (.cons ofP_ok (.cons mulP_ok (.cons bit_ok .nil)))
def powPSt (e:List UInt64) (a x:Fp) (z:Int):St:=mkSt 27 [(1,inV 0 e),(2,ptrV 1),(4,ptrV 2),(5,ptrV 3),(6,vI z)] [inHE eU64 e,own 31 (Row.cs a),own 31 (zeros 6),own 31 (Row.cs x)]
theorem powP_start (oF':UInt64->Fp) (mF:Fp->Fp->Fp) (bF:List UInt64->Nat->UInt64) (a:Fp) (e:List UInt64):stageT (powPE oF' mF bF) 100 (powPC.take 3) (startSt Tryz.f122 [vF a,iL.av 0 e] [inHE eU64 e]) [1,2,4,5,6] [0,1,2,3]=(.vc (0+e.length*1<=(List.map EK.u64.cell e).length/\0<1) (.leaf (mkSt 27 [(1,.one (.c (.slc 0 0 (e.length) 1 (.of 0) false))),(2,.one (.c (.ptr 1 0))),(4,.one (.c (.ptr 2 0))),(5,.one (.c (.ptr 3 0))),(6,.one (.c (.int .i64 (IntKind.i64.wrap (IntKind.i64.wrap (64*(↑e.length:Int))-1)))))] [.live ⟨false,0,1,(.elts .u64 (e:List UInt64)),false⟩,.live ⟨true,31,0,(.row (Row.cs (a:Fp))),false⟩,.live ⟨true,31,0,(.row [(.lit .u64 0),(.lit .u64 0),(.lit .u64 0),(.lit .u64 0),(.lit .u64 0),(.lit .u64 0)]),false⟩,.live ⟨true,31,0,(.row (Row.cs (oF' (UInt64.ofNat 1):Fp))),false⟩]))):=by kernel_rfl
theorem powP_round (oF':UInt64->Fp) (mF:Fp->Fp->Fp) (bF:List UInt64->Nat->UInt64) (a x:Fp) (e:List UInt64) (z:Int):letI za':=(Row.cs (a:Fp));letI zb':=IntKind.i64.wrap (z-1);roundT (powPE oF' mF bF) 100 powPB (powPSt e a x z) (same [1,2,4,5,6] [0,1,2,3])=(.br (decide (z >= 0)) (.vc ((0+e.length<=e.length/\e.length<1125899906842624/\0=0/\1=1)/\0<=z/\z<9223372036854775808) (.br (bF (List.take e.length (List.drop 0 e)) z.toNat==UInt64.ofNat 1) (.leaf ((.normal,mkSt 27 [(1,.one (.c (.slc 0 0 (e.length) 1 (.of 0) false))),(2,.one (.c (.ptr 1 0))),(4,.one (.c (.ptr 2 0))),(5,.one (.c (.ptr 3 0))),(6,.one (.c (.int .i64 zb')))] [.live ⟨false,0,1,(.elts .u64 (e:List UInt64)),false⟩,.live ⟨true,31,0,(.row za'),false⟩,.live ⟨true,31,0,(.row [(.lit .u64 0),(.lit .u64 0),(.lit .u64 0),(.lit .u64 0),(.lit .u64 0),(.lit .u64 0)]),false⟩,.live ⟨true,31,0,(.row (Row.cs (mF (mF x x) a:Fp))),false⟩]))) (.leaf ((.normal,mkSt 27 [(1,.one (.c (.slc 0 0 (e.length) 1 (.of 0) false))),(2,.one (.c (.ptr 1 0))),(4,.one (.c (.ptr 2 0))),(5,.one (.c (.ptr 3 0))),(6,.one (.c (.int .i64 zb')))] [.live ⟨false,0,1,(.elts .u64 (e:List UInt64)),false⟩,.live ⟨true,31,0,(.row za'),false⟩,.live ⟨true,31,0,(.row [(.lit .u64 0),(.lit .u64 0),(.lit .u64 0),(.lit .u64 0),(.lit .u64 0),(.lit .u64 0)]),false⟩,.live ⟨true,31,0,(.row (Row.cs (mF x x:Fp))),false⟩]))))) (.leaf ((.exit 0,mkSt 27 [(1,.one (.c (.slc 0 0 (e.length) 1 (.of 0) false))),(2,.one (.c (.ptr 1 0))),(4,.one (.c (.ptr 2 0))),(5,.one (.c (.ptr 3 0))),(6,.one (.c (.int .i64 (z))))] [.live ⟨false,0,1,(.elts .u64 (e:List UInt64)),false⟩,.live ⟨true,31,0,(.row za'),false⟩,.live ⟨true,31,0,(.row [(.lit .u64 0),(.lit .u64 0),(.lit .u64 0),(.lit .u64 0),(.lit .u64 0),(.lit .u64 0)]),false⟩,.live ⟨true,31,0,(.row (Row.cs (x:Fp))),false⟩])))):=by kernel_rfl
theorem powP_end (oF':UInt64->Fp) (mF:Fp->Fp->Fp) (bF:List UInt64->Nat->UInt64) (a x:Fp) (e:List UInt64) (z:Int):endT (powPE oF' mF bF) oF 100 Tryz.f122 (powPC.drop 4) (powPSt e a x z) =
 (.leaf (some ((x,.t)))):=by kernel_rfl
def powPAt (a:Fp) (e:List UInt64):Nat->Fp->Fp
 | 0,x=>x
 | n+1,x=>powPAt a e n (match bitAt e n with | true=>mulPF (mulPF x x) a | false=>mulPF x x)
def powPF (a:Fp) (e:List UInt64):Fp:=powPAt a e (64*e.length) (ofF 1)
abbrev PowPOk (a:Fp) (e:List UInt64):Type := { q:Int × Fp // -1<=q.1/\q.1<64*e.length/\powPAt a e (q.1+1).toNat q.2=powPF a e }
theorem powP_ok:CallOk Tryz.prog 122 (K2 (kRow Fp).arg aL rF.res powPF) :=
 G2 (E:=powPE ofF mulPF bitF) Tryz.func122 (c:=codeOf Tryz.f122) (by kernel_rfl) (bodied Tryz.func122 (by kernel_rfl) (by kernel_rfl)) (kRow Fp).inp iL oF powPF fun a e _ he=>by
  have he:e.length<1125899906842624:=he
  have hE:=powPE_ok
  refine DoesL.stageE hE 100 3 _ _ (powP_start ofF mulPF bitF a e) ⟨vcLen e,fun _ => ?_⟩
  have hw:IntKind.i64.wrap (IntKind.i64.wrap (64*(e.length:Int))-1)=64*(e.length:Int)-1:=by rw [IntWalk.i64_in (64*(e.length:Int)) (by omega),IntWalk.i64_in _ (by omega)]
  rw [hw]
  refine DoesL.blockLoop (B:=powPB) (rest:=powPC.drop 4) (id:=0) (by kernel_rfl) (fun q:PowPOk a e=>powPSt e a q.1.2 q.1.1) (fun q=>(q.1.1+1).toNat) ⟨(64*(e.length:Int)-1,ofF 1),by simp only [];omega,by simp only [];omega,by
   simp only []
   rw [show (64*(e.length:Int)-1+1).toNat=64*e.length by omega]
   rfl⟩ fun q => ?_
  obtain ⟨⟨z,x⟩,h0,h1,h2⟩:=q
  simp only [] at h0 h1 h2
  show Does _ _ (powPSt e a x z) _
  refine Does.round hE 100 _ (powP_round ofF mulPF bitF a x e z) ⟨fun h => ?_,fun h => ?_⟩
  ·simp only [ge_iff_le,decide_eq_true_eq] at h
   obtain ⟨n,rfl⟩ : ∃ n:Nat,z=(n:Int):=⟨z.toNat,by omega⟩
   rw [wrap_pred n (by omega),whole,Int.toNat_natCast]
   rw [show ((n:Int)+1).toNat=n+1 by omega] at h2
   simp only [powPAt] at h2
   have hb:(bitF e n==UInt64.ofNat 1)=bitAt e n:=by
    unfold bitF
    cases bitAt e n <;> rfl
   rw [hb]
   refine ⟨⟨okL' he,by omega,by omega⟩,fun _=>⟨fun h3 => ?_,fun h3 => ?_⟩⟩
   all_goals
    have hn:((n:Int)-1+1).toNat=n:=by omega
    rw [h3] at h2
    simp only [] at h2
   ·refine ⟨⟨((n:Int)-1,mulPF (mulPF x x) a),?_,?_,?_⟩,?_,?_⟩
    ·show -1<=(n:Int)-1;omega
    ·show (n:Int)-1<64*e.length;omega
    ·simpa only [hn] using h2
    ·show ((n:Int)-1+1).toNat<((n:Int)+1).toNat;omega
    ·kernel_rfl
   ·refine ⟨⟨((n:Int)-1,mulPF x x),?_,?_,?_⟩,?_,?_⟩
    ·show -1<=(n:Int)-1;omega
    ·show (n:Int)-1<64*e.length;omega
    ·simpa only [hn] using h2
    ·show ((n:Int)-1+1).toNat<((n:Int)+1).toNat;omega
    ·kernel_rfl
  ·simp only [ge_iff_le,decide_eq_false_iff_not] at h
   obtain rfl:z = -1:=by omega
   exact ⟨rfl,DoesL.ends hE 100 (powP_end ofF mulPF bitF a x e (-1)) (reads_t (by
    rw [show ((-1:Int)+1).toNat=0 from rfl] at h2
    simp only [powPAt] at h2
    exact h2))⟩
abbrev Kpow' (F:Fp->List UInt64->Fp):Contract:=K2 (kRow Fp).arg aL rF.res F
noncomputable abbrev invPE (m:Fp) (lF:List UInt64->List UInt64->List UInt64 × Int) (pF:Fp->List UInt64->Fp):Env:=Ens [(125,K0 rSu m),(134,K2 aLt aLt rLI lF),(122,Kpow' pF)] [125,134]
theorem invP_run (m:Fp) (lF:List UInt64->List UInt64->List UInt64 × Int) (pF:Fp->List UInt64->Fp) (a:Fp):letI za':=lF [m.l0,m.l1,m.l2,m.l3,m.l4,m.l5] [UInt64.ofNat 2];plainRun (invPE m lF pF) rFI 100 Tryz.f114 [vF a]=(.br (fpEq (a) ({ l0:=UInt64.ofNat 0,l1:=UInt64.ofNat 0,l2:=UInt64.ofNat 0,l3:=UInt64.ofNat 0,l4:=UInt64.ofNat 0,l5:=UInt64.ofNat 0 })) (.leaf (some ((a,7)))) (.vc (tiny [m.l0,m.l1,m.l2,m.l3,m.l4,m.l5]/\tiny [UInt64.ofNat 2]) (.vc (0+za'.fst.length<=za'.fst.length/\za'.fst.length<1125899906842624/\0=0/\1=1) (.leaf (some ((pF a (List.take za'.fst.length (List.drop 0 za'.fst)),0))))))):=by kernel_rfl
theorem cutF_len (xs:List UInt64):(cutF xs).length<=xs.length:=by unfold cutF;rw [List.length_take];omega
theorem rless_len (xs ys:List UInt64):(rlessF xs ys).1.length<=max xs.length ys.length:=by
 unfold rlessF
 split
 ·simp
 ·have h:=cutF_len (subAt xs ys (max xs.length ys.length)).1
  rw [subAt_len] at h
  exact h
theorem pList_len:pLimbs.list.length=6:=rfl
def pm2:List UInt64:=(rlessF pLimbs.list [2]).1
def invPF (a:Fp):Fp × Int:=match fpEq a zeroFp with | true=>(a,7) | false=>(powPF a pm2,0)
theorem pm2_len:pm2.length<=6:=rless_len pLimbs.list [2]
theorem invP_ok:CallOk Tryz.prog 114 (K1 (kRow Fp).arg rFI.res invPF) :=
 P1 (E:=invPE pLimbs rlessF powPF) (Ens_ok (.cons refP_ok (.cons rless_ok (.cons powP_ok .nil)))) Tryz.func114 (bodied Tryz.func114 (by kernel_rfl) (by kernel_rfl)) 100 (kRow Fp) rFI invPF (invP_run pLimbs rlessF powPF)
  (fun a=>by
   refine ⟨fun h => ?_,fun h=>⟨⟨?_,?_⟩,fun _=>⟨okL' ?_,fun _ => ?_⟩⟩⟩
   ·have h:fpEq a zeroFp=true:=h
    exact congrArg some (by unfold invPF;rw [h])
   ·show pLimbs.list.length<_;rw [pList_len];decide
   ·show 1<4294967296;decide
   ·exact Nat.lt_of_le_of_lt pm2_len (by decide)
   ·have h:fpEq a zeroFp=false:=h
    rw [whole]
    exact congrArg some (by unfold invPF;rw [h];rfl))
end Go.Proofs.YtgpafcehehaiiaaGreat
namespace Go.Proofs.YtgpafcehehaiiaaGreat
open Go.RowKit
section
def rLimbs:Fr:=⟨0xffffffff00000001,0x53bda402fffe5bfe,0x3339d80809a1d805,0x73eda753299d7d48⟩
def sq4Limbs:Fr:=⟨0xc999e990f3f29c6d,0x2b6cedcb87925c23,0x05d314967254398f,0x0748d9d99f59ff11⟩
def zeroFr:Fr:=⟨0,0,0,0⟩
def oneFr:Fr:=⟨1,0,0,0⟩
abbrev r4:Rs Fr:=(kRow Fr).rs
abbrev v4 (a:Fr):AV := .one ((kRow Fr).av a)
abbrev Kr1 (F:Fr->Fr):Contract:=K1 (kRow Fr).arg r4.res F
abbrev Kr2 (F:Fr->Fr->Fr):Contract:=K2 (kRow Fr).arg (kRow Fr).arg r4.res F
abbrev Krb (F:Fr->Bool):Contract:=K1 (kRow Fr).arg kBool.rs.res F
def Fr.list (a:Fr):List UInt64 := [a.l0,a.l1,a.l2,a.l3]
def frEq (a b:Fr):Bool:=a.l0==b.l0 && (a.l1==b.l1 && (a.l2==b.l2 && (a.l3==b.l3 && true)))
theorem frEq_iff (a b:Fr):frEq a b=true <-> a=b:=by
 cases a;cases b
 simp [frEq]
abbrev oS4 (ty:TypeId):Out Fr:=outSlR Fr ty 4 (fun _=>rfl)
abbrev iS4:Inp Fr:=inpSlR Fr 4 (fun _=>rfl)
abbrev aS4:Arg Fr:=argSlR Fr
abbrev rS4 (ty:TypeId):Res Fr:=resSlR Fr ty 4 (fun _=>rfl)
theorem refR_run:endT (En []) (oS4 22) 100 Tryz.f53 (flat (codeOf Tryz.f53)) (startSt Tryz.f53 [] []) = .leaf (some (rLimbs,.t)):=by kernel_rfl
theorem refR_ok:CallOk Tryz.prog 53 (K0 (rS4 22) rLimbs) :=
 G0 (E:=En []) Tryz.func53 (c:=codeOf Tryz.f53) (by kernel_rfl) (bodied Tryz.func53 (by kernel_rfl) (by kernel_rfl)) (oS4 22) rLimbs (DoesL.ends (En_ok .nil) 100 refR_run ⟨.t,rfl,trivial⟩)
theorem modulus4_ok:CallOk Tryz.prog 145 (K0 r4.res rLimbs):=P0 E0_ok Tryz.func145 (bodied Tryz.func145 (by kernel_rfl) (by kernel_rfl)) 100 r4 rLimbs (T := .leaf (some rLimbs)) (by kernel_rfl) rfl
theorem R4_run (m:Fr):endT (En [(145,K0 r4.res m)]) (oS4 24) 100 Tryz.f100 (flat (codeOf Tryz.f100)) (startSt Tryz.f100 [] []) = .leaf (some (m,.t)):=by kernel_rfl
theorem R4_ok:CallOk Tryz.prog 100 (K0 (rS4 24) rLimbs) :=
 G0 (E:=En [(145,K0 r4.res rLimbs)]) Tryz.func100 (c:=codeOf Tryz.f100) (by kernel_rfl) (bodied Tryz.func100 (by kernel_rfl) (by kernel_rfl)) (oS4 24) rLimbs (DoesL.ends (En_ok (.cons modulus4_ok .nil)) 100 (R4_run rLimbs) ⟨.t,rfl,trivial⟩)
def below4F (a m:Fr):Bool :=
 match a.l3 != m.l3 with
 | true=>decide (a.l3<m.l3)
 | false=>match a.l2 != m.l2 with
  | true=>decide (a.l2<m.l2)
  | false=>match a.l1 != m.l1 with
   | true=>decide (a.l1<m.l1)
   | false=>match a.l0 != m.l0 with
    | true=>decide (a.l0<m.l0)
    | false=>false
def below4T (a m:Fr):Tree (Option (Bool × Pr)) :=
 .br (a.l3 != m.l3) (lfB (decide (a.l3<m.l3))) (.br (a.l2 != m.l2) (lfB (decide (a.l2<m.l2))) (.br (a.l1 != m.l1) (lfB (decide (a.l1<m.l1))) (.br (a.l0 != m.l0) (lfB (decide (a.l0<m.l0))) (lfB false))))
theorem below4_run (a m:Fr):endT (En []) oB 100 Tryz.f52 (flat (codeOf Tryz.f52)) (startSt Tryz.f52 [iS4.av 0 a,iS4.av 1 m] (iS4.hes a++iS4.hes m))=below4T a m:=by kernel_rfl
theorem below4T_sat (a m:Fr):(below4T a m).sat fun q => ∃ p,q=some (below4F a m,p)/\p.holds:=by
 unfold below4F
 refine ⟨fun h => ?_,fun h => ?_⟩ <;> rw [h]
 ·exact ⟨.t,rfl,trivial⟩
 refine ⟨fun h => ?_,fun h => ?_⟩ <;> rw [h]
 ·exact ⟨.t,rfl,trivial⟩
 refine ⟨fun h => ?_,fun h => ?_⟩ <;> rw [h]
 ·exact ⟨.t,rfl,trivial⟩
 refine ⟨fun h => ?_,fun h => ?_⟩ <;> rw [h]
 ·exact ⟨.t,rfl,trivial⟩
 ·exact ⟨.t,rfl,trivial⟩
theorem below4_ok:CallOk Tryz.prog 52 (K2 aS4 aS4 oB.res below4F) :=
 G2 (E:=En []) Tryz.func52 (c:=codeOf Tryz.f52) (by kernel_rfl) (bodied Tryz.func52 (by kernel_rfl) (by kernel_rfl)) iS4 iS4 oB below4F fun a m _ _=>DoesL.ends (En_ok .nil) 100 (below4_run a m) (below4T_sat a m)
def mayRF (a:Fr):Bool:=below4F a rLimbs
theorem mayR_run (bF:Fr->Fr->Bool) (m a:Fr):plainRun (Ens [(52,K2 aS4 aS4 oB.res bF),(53,K0 (rS4 22) m)] [53]) kBool.rs 100 Tryz.f22 [v4 a] = .leaf (some (bF a m)):=by kernel_rfl
theorem mayR_ok:CallOk Tryz.prog 22 (Krb mayRF):=P1 (Ens_ok (.cons below4_ok (.cons refR_ok .nil))) Tryz.func22 (bodied Tryz.func22 (by kernel_rfl) (by kernel_rfl)) 100 (kRow Fr) kBool.rs mayRF (mayR_run below4F rLimbs) (fun _=>Tree.sat_leaf (by simp only [mayRF]))
def ofL4 (xs:List UInt64):Fr:=⟨atF xs 0,atF xs 1,atF xs 2,atF xs 3⟩
abbrev oF4:Out Fr:=r4.out
theorem rfr_run (xs:List UInt64):letI za':=List.take xs.length (List.drop 0 xs);letI zb':=UInt64.ofNat 0;endT (En []) oF4 100 Tryz.f57 (flat (codeOf Tryz.f57)) (startSt Tryz.f57 [iL.av 0 xs] [inHE eU64 xs])=(.vc (0+xs.length<=xs.length) (.leaf (some (({ l0:=pickC (Nat.blt 0 xs.length) (za'.getD 0 0) zb',l1:=pickC (Nat.blt 1 xs.length) (za'.getD 1 0) zb',l2:=pickC (Nat.blt 2 xs.length) (za'.getD 2 0) zb',l3:=pickC (Nat.blt 3 xs.length) (za'.getD 3 0) zb' },.t))))):=by kernel_rfl
theorem rfr_ok:CallOk Tryz.prog 57 (K1 aL oF4.res ofL4) :=
 G1 (E:=En []) Tryz.func57 (c:=codeOf Tryz.f57) (by kernel_rfl) (bodied Tryz.func57 (by kernel_rfl) (by kernel_rfl)) iL oF4 ofL4 fun xs hx=>by
  refine DoesL.ends (En_ok .nil) 100 (rfr_run xs) ⟨by omega,fun _=>reads_t ?_⟩
  rw [pick_at,pick_at,pick_at,pick_at]
  rfl
def add4T (a b:Fr):Fr × Bool :=
 let c0:=addC a.l0 b.l0 false
 let c1:=addC a.l1 b.l1 c0
 let c2:=addC a.l2 b.l2 c1
 (⟨addS a.l0 b.l0 false,addS a.l1 b.l1 c0,addS a.l2 b.l2 c1,addS a.l3 b.l3 c2⟩,addC a.l3 b.l3 c2)
def sub4T (a b:Fr):Fr × Bool :=
 let c0:=subB a.l0 b.l0 false
 let c1:=subB a.l1 b.l1 c0
 let c2:=subB a.l2 b.l2 c1
 (⟨subS a.l0 b.l0 false,subS a.l1 b.l1 c0,subS a.l2 b.l2 c1,subS a.l3 b.l3 c2⟩,subB a.l3 b.l3 c2)
abbrev rS4u:Res Fr:=rS4 22
abbrev oS4u:Out Fr:=oS4 22
def four (a:Fr):List UInt64 := [a.l0,a.l1,a.l2,a.l3]
def wrOk4 (a m:Fr):Prop:=0<(four a).length/\(four m).length<=(four a).length/\(four a).length<4294967296
theorem wrOk4_ok (a m:Fr):wrOk4 a m:=⟨Nat.lt_of_lt_of_le (by decide:0<4) (Nat.le_refl 4),Nat.le_refl 4,(by decide:4<4294967296)⟩
noncomputable abbrev plus4E (bF:Fr->Fr->Bool):Env:=En [(94,K3x addS addC),(52,K2 aS4 aS4 oB.res bF),(95,Ksub)]
theorem plus4E_ok:EnvOk (plus4E below4F):=En_ok (.cons add64_ok (.cons below4_ok (.cons rsub_ok .nil)))
def lfR (a:Fr):Tree (Option (Fr × Pr)) := .leaf (some (a,.t))
def plus4T (bF:Fr->Fr->Bool) (a b m:Fr):Tree (Option (Fr × Pr)) :=
 .br (b2u (add4T a b).2==1) (.vc (wrOk4 (add4T a b).1 m) (lfR (sub4T (add4T a b).1 m).1)) (.br (!(bF (add4T a b).1 m)) (.vc (wrOk4 (add4T a b).1 m) (lfR (sub4T (add4T a b).1 m).1)) (lfR (add4T a b).1))
theorem plus4_run (bF:Fr->Fr->Bool) (a b m:Fr):endT (plus4E bF) oS4u 300 Tryz.f59 (flat (codeOf Tryz.f59)) (startSt Tryz.f59 [iS4.av 0 a,iS4.av 1 b,iS4.av 2 m] (iS4.hes a++iS4.hes b++iS4.hes m))=plus4T bF a b m:=by kernel_rfl
def plus4F (a b m:Fr):Fr:=match b2u (add4T a b).2==1 with
 | true=>(sub4T (add4T a b).1 m).1
 | false=>match !(below4F (add4T a b).1 m) with
  | true=>(sub4T (add4T a b).1 m).1
  | false=>(add4T a b).1
theorem plus4T_sat (a b m:Fr):(plus4T below4F a b m).sat fun q => ∃ p,q=some (plus4F a b m,p)/\p.holds:=by
 refine ⟨fun h=>⟨wrOk4_ok _ _,fun _ => ?_⟩,fun h=>⟨fun h2=>⟨wrOk4_ok _ _,fun _ => ?_⟩,fun h2 => ?_⟩⟩
 ·exact reads_t (by unfold plus4F;rw [h])
 ·exact reads_t (by unfold plus4F;rw [h,h2])
 ·exact reads_t (by unfold plus4F;rw [h,h2])
theorem plus4_ok:CallOk Tryz.prog 59 (K3 aS4 aS4 aS4 rS4u plus4F) :=
 G3 (E:=plus4E below4F) Tryz.func59 (c:=codeOf Tryz.f59) (by kernel_rfl) (bodied Tryz.func59 (by kernel_rfl) (by kernel_rfl)) iS4 iS4 iS4 oS4u plus4F fun a b m _ _ _=>DoesL.ends plus4E_ok 300 (plus4_run below4F a b m) (plus4T_sat a b m)
def minus4T (a b m:Fr):Tree (Option (Fr × Pr)) := .br (b2u (sub4T a b).2==1) (lfR (add4T (sub4T a b).1 m).1) (lfR (sub4T a b).1)
theorem minus4_run (a b m:Fr):endT minusE oS4u 300 Tryz.f58 (flat (codeOf Tryz.f58)) (startSt Tryz.f58 [iS4.av 0 a,iS4.av 1 b,iS4.av 2 m] (iS4.hes a++iS4.hes b++iS4.hes m))=minus4T a b m:=by kernel_rfl
def minus4F (a b m:Fr):Fr:=match b2u (sub4T a b).2==1 with
 | true=>(add4T (sub4T a b).1 m).1
 | false=>(sub4T a b).1
theorem minus4_ok:CallOk Tryz.prog 58 (K3 aS4 aS4 aS4 rS4u minus4F) :=
 G3 (E:=minusE) Tryz.func58 (c:=codeOf Tryz.f58) (by kernel_rfl) (bodied Tryz.func58 (by kernel_rfl) (by kernel_rfl)) iS4 iS4 iS4 oS4u minus4F fun a b m _ _ _=>DoesL.ends minusE_ok 300 (minus4_run a b m)
  ⟨fun h=>reads_t (by unfold minus4F;rw [h]),fun h=>reads_t (by unfold minus4F;rw [h])⟩
abbrev K3s4 (F:Fr->Fr->Fr->Fr):Contract:=K3 aS4 aS4 aS4 rS4u F
abbrev Kfr (F:List UInt64->Fr):Contract:=K1 aL oF4.res F
theorem addR_run (pF:Fr->Fr->Fr->Fr) (m a b:Fr):plainRun (Ens [(59,K3s4 pF),(53,K0 rS4u m),(57,Kfr ofL4)] [59,53]) r4 100 Tryz.f28 [v4 a,v4 b] = .leaf (some (pF a b m)):=by kernel_rfl
def addRF (a b:Fr):Fr:=plus4F a b rLimbs
theorem addR_ok:CallOk Tryz.prog 28 (Kr2 addRF):=P2 (Ens_ok (.cons plus4_ok (.cons refR_ok (.cons rfr_ok .nil)))) Tryz.func28 (bodied Tryz.func28 (by kernel_rfl) (by kernel_rfl)) 100 (kRow Fr) (kRow Fr) r4 addRF (addR_run plus4F rLimbs) (fun _ _=>Tree.sat_leaf (by simp only [addRF]))
theorem subR_run (pF:Fr->Fr->Fr->Fr) (m a b:Fr):plainRun (Ens [(58,K3s4 pF),(53,K0 rS4u m),(57,Kfr ofL4)] [58,53]) r4 100 Tryz.f27 [v4 a,v4 b] = .leaf (some (pF a b m)):=by kernel_rfl
def subRF (a b:Fr):Fr:=minus4F a b rLimbs
theorem subR_ok:CallOk Tryz.prog 27 (Kr2 subRF):=P2 (Ens_ok (.cons minus4_ok (.cons refR_ok (.cons rfr_ok .nil)))) Tryz.func27 (bodied Tryz.func27 (by kernel_rfl) (by kernel_rfl)) 100 (kRow Fr) (kRow Fr) r4 subRF (subR_run minus4F rLimbs) (fun _ _=>Tree.sat_leaf (by simp only [subRF]))
def negRF (a:Fr):Fr:=subRF zeroFr a
structure L5 where
 t0:UInt64
 t1:UInt64
 t2:UInt64
 t3:UInt64
 t4:UInt64
def L5.low (t:L5):Fr:=⟨t.t0,t.t1,t.t2,t.t3⟩
def L5.cs (t:L5):List Cell := [.u64 t.t0,.u64 t.t1,.u64 t.t2,.u64 t.t3,.u64 t.t4]
def mont4B (m:Fr) (inv:UInt64) (t0 t1 t2 t3 top:UInt64) (more:Bool):L5 :=
 let x:=t0*inv
 let d0:=mulHi x m.l0+b2u (addC t0 (x*m.l0) false)
 let d1:=rmH x m.l1 t1 d0
 let d2:=rmH x m.l2 t2 d1
 let d3:=rmH x m.l3 t3 d2
 ⟨rmL x m.l1 t1 d0,rmL x m.l2 t2 d1,rmL x m.l3 t3 d2,addS top d3 false,b2u more+b2u (addC top d3 false)⟩
def mont4M (ai:UInt64) (b:Fr) (t:L5):Bool :=
 let c0:=rmH ai b.l0 t.t0 0
 let c1:=rmH ai b.l1 t.t1 c0
 let c2:=rmH ai b.l2 t.t2 c1
 let c3:=rmH ai b.l3 t.t3 c2
 addC t.t4 c3 false
def mont4R (m:Fr) (inv:UInt64) (ai:UInt64) (b:Fr) (t:L5):L5 :=
 let c0:=rmH ai b.l0 t.t0 0
 let c1:=rmH ai b.l1 t.t1 c0
 let c2:=rmH ai b.l2 t.t2 c1
 let c3:=rmH ai b.l3 t.t3 c2
 mont4B m inv (rmL ai b.l0 t.t0 0) (rmL ai b.l1 t.t1 c0) (rmL ai b.l2 t.t2 c1) (rmL ai b.l3 t.t3 c2) (addS t.t4 c3 false) (addC t.t4 c3 false)
noncomputable abbrev mont4E (bF:Fr->Fr->Bool):Env:=En [(96,K2 kU64.arg kU64.arg (kU64.rs2 kU64).res fun x y=>(mulHi x y,x*y)),(94,K3x addS addC),(52,K2 aS4 aS4 oB.res bF),(95,Ksub)]
theorem mont4E_ok:EnvOk (mont4E below4F):=En_ok (.cons mul64_ok (.cons add64_ok (.cons below4_ok (.cons rsub_ok .nil))))
def mSt4 (a b m:Fr) (inv:UInt64) (k:Nat) (t:List Cell):St :=
 mkSt 222 [(0,slR 0 4),(1,slR 1 4),(2,slR 2 4),(7,litV 4),(8,vU inv),(10,slR 3 6),(11,litV k)] [.live ⟨false,0,1,.row (Row.cs a),false⟩,.live ⟨false,0,1,.row (Row.cs b),false⟩,.live ⟨false,0,1,.row (Row.cs m),false⟩,.live ⟨true,22,1,.row t,false⟩]
def six4 (t:L5) (h:Bool):List Cell:=t.cs ++ [.bit h]
set_option maxRecDepth 100000
theorem mont4_start (bF:Fr->Fr->Bool) (a b m:Fr):stageT (mont4E bF) 300 (montC.take 8) (startSt Tryz.f60 [iS4.av 0 a,iS4.av 1 b,iS4.av 2 m] (iS4.hes a++iS4.hes b++iS4.hes m)) [0,1,2,7,8,10,11] [0,1,2,3] = .leaf (mSt4 a b m (montInv m.l0) 0 (zeros 6)):=by kernel_rfl
theorem mont4_round0 (bF:Fr->Fr->Bool) (a b m:Fr) (inv:UInt64):roundT (mont4E bF) 300 montO (mSt4 a b m inv 0 (zeros 6)) mCut = .leaf (.normal,mSt4 a b m inv 1 (six4 (mont4R m inv a.l0 b ⟨0,0,0,0,0⟩) (mont4M a.l0 b ⟨0,0,0,0,0⟩))):=by kernel_rfl
theorem mont4_round1 (bF:Fr->Fr->Bool) (a b m:Fr) (inv:UInt64) (t:L5) (h:Bool):roundT (mont4E bF) 300 montO (mSt4 a b m inv 1 (six4 t h)) mCut = .leaf (.normal,mSt4 a b m inv 2 (six4 (mont4R m inv a.l1 b t) (mont4M a.l1 b t))):=by kernel_rfl
theorem mont4_round2 (bF:Fr->Fr->Bool) (a b m:Fr) (inv:UInt64) (t:L5) (h:Bool):roundT (mont4E bF) 300 montO (mSt4 a b m inv 2 (six4 t h)) mCut = .leaf (.normal,mSt4 a b m inv 3 (six4 (mont4R m inv a.l2 b t) (mont4M a.l2 b t))):=by kernel_rfl
theorem mont4_round3 (bF:Fr->Fr->Bool) (a b m:Fr) (inv:UInt64) (t:L5) (h:Bool):roundT (mont4E bF) 300 montO (mSt4 a b m inv 3 (six4 t h)) mCut = .leaf (.normal,mSt4 a b m inv 4 (six4 (mont4R m inv a.l3 b t) (mont4M a.l3 b t))):=by kernel_rfl
theorem mont4_out (bF:Fr->Fr->Bool) (a b m:Fr) (inv:UInt64) (t:L5) (h:Bool):roundT (mont4E bF) 300 montO (mSt4 a b m inv 4 (six4 t h)) mCut = .leaf (.exit 2,mSt4 a b m inv 4 (six4 t h)):=by kernel_rfl
def wrOk6 (m:Fr):Prop:=0<6/\4<=6/\6<4294967296
def mont4T (bF:Fr->Fr->Bool) (m:Fr) (t:L5):Tree (Option (Fr × Pr)) :=
 .br (t.t4 != 0) (.vc (wrOk6 m) (lfR (sub4T t.low m).1)) (.br (!(bF t.low m)) (.vc (wrOk6 m) (lfR (sub4T t.low m).1)) (lfR t.low))
theorem mont4_end (bF:Fr->Fr->Bool) (a b m:Fr) (inv:UInt64) (t:L5) (h:Bool):endT (mont4E bF) oS4u 300 Tryz.f60 (montC.drop 9) (mSt4 a b m inv 4 (six4 t h))=mont4T bF m t:=by kernel_rfl
def mont4X (m:Fr) (t:L5):Fr:=match t.t4 != 0 with
 | true=>(sub4T t.low m).1
 | false=>match !(below4F t.low m) with
  | true=>(sub4T t.low m).1
  | false=>t.low
def mont4_1 (a b m:Fr):L5:=mont4R m (montInv m.l0) a.l0 b ⟨0,0,0,0,0⟩
def mont4_2 (a b m:Fr):L5:=mont4R m (montInv m.l0) a.l1 b (mont4_1 a b m)
def mont4_3 (a b m:Fr):L5:=mont4R m (montInv m.l0) a.l2 b (mont4_2 a b m)
def mont4_4 (a b m:Fr):L5:=mont4R m (montInv m.l0) a.l3 b (mont4_3 a b m)
def mont4F (a b m:Fr):Fr:=mont4X m (mont4_4 a b m)
theorem mont4T_sat (m:Fr) (t:L5):(mont4T below4F m t).sat fun q => ∃ p,q=some (mont4X m t,p)/\p.holds:=by
 have w:wrOk6 m:=⟨by decide,by decide,by decide⟩
 refine ⟨fun h=>⟨w,fun _ => ?_⟩,fun h=>⟨fun h2=>⟨w,fun _ => ?_⟩,fun h2 => ?_⟩⟩
 ·exact reads_t (by unfold mont4X;rw [h])
 ·exact reads_t (by unfold mont4X;rw [h,h2])
 ·exact reads_t (by unfold mont4X;rw [h,h2])
def mAt4 (a b m:Fr) (q:Fin 5 × Bool):St :=
 match q.1 with
 | 0=>mSt4 a b m (montInv m.l0) 0 (zeros 6)
 | 1=>mSt4 a b m (montInv m.l0) 1 (six4 (mont4_1 a b m) q.2)
 | 2=>mSt4 a b m (montInv m.l0) 2 (six4 (mont4_2 a b m) q.2)
 | 3=>mSt4 a b m (montInv m.l0) 3 (six4 (mont4_3 a b m) q.2)
 | 4=>mSt4 a b m (montInv m.l0) 4 (six4 (mont4_4 a b m) q.2)
theorem mont4_ok:CallOk Tryz.prog 60 (K3 aS4 aS4 aS4 rS4u mont4F) :=
 G3 (E:=mont4E below4F) Tryz.func60 (c:=codeOf Tryz.f60) (by kernel_rfl) (bodied Tryz.func60 (by kernel_rfl) (by kernel_rfl)) iS4 iS4 iS4 oS4u mont4F fun a b m _ _ _=>by
  have hE:=mont4E_ok
  refine DoesL.stageTo hE 300 8 _ _ (mont4_start below4F a b m) ?_
  refine DoesL.blockLoop mont_split (mAt4 a b m) (fun q=>4-q.1.1) (0,false) fun q => ?_
  obtain ⟨k,h⟩:=q
  match k with
  | 0=>exact Does.round hE 300 mCut (mont4_round0 below4F a b m _) ⟨(1,mont4M a.l0 b ⟨0,0,0,0,0⟩),by show 4-1<4-0;decide,by simp only [mAt4,mont4_1]⟩
  | 1=>exact Does.round hE 300 mCut (mont4_round1 below4F a b m _ (mont4_1 a b m) h) ⟨(2,mont4M a.l1 b (mont4_1 a b m)),by show 4-2<4-1;decide,by simp only [mAt4,mont4_2]⟩
  | 2=>exact Does.round hE 300 mCut (mont4_round2 below4F a b m _ (mont4_2 a b m) h) ⟨(3,mont4M a.l2 b (mont4_2 a b m)),by show 4-3<4-2;decide,by simp only [mAt4,mont4_3]⟩
  | 3=>exact Does.round hE 300 mCut (mont4_round3 below4F a b m _ (mont4_3 a b m) h) ⟨(4,mont4M a.l3 b (mont4_3 a b m)),by show 4-4<4-3;decide,by simp only [mAt4,mont4_4]⟩
  | 4=>exact Does.round hE 300 mCut (mont4_out below4F a b m _ (mont4_4 a b m) h) ⟨rfl,DoesL.ends hE 300 (mont4_end below4F a b m _ (mont4_4 a b m) h) (mont4T_sat m (mont4_4 a b m))⟩
theorem mulR_run (pF:Fr->Fr->Fr->Fr) (m a b:Fr):plainRun (Ens [(60,K3s4 pF),(53,K0 rS4u m),(57,Kfr ofL4)] [60,53]) r4 100 Tryz.f29 [v4 a,v4 b] = .leaf (some (pF (pF a b m) sq4Limbs m)):=by kernel_rfl
def mulRF (a b:Fr):Fr:=mont4F (mont4F a b rLimbs) sq4Limbs rLimbs
theorem mulR_ok:CallOk Tryz.prog 29 (Kr2 mulRF):=P2 (Ens_ok (.cons mont4_ok (.cons refR_ok (.cons rfr_ok .nil)))) Tryz.func29 (bodied Tryz.func29 (by kernel_rfl) (by kernel_rfl)) 100 (kRow Fr) (kRow Fr) r4 mulRF (mulR_run mont4F rLimbs) (fun _ _=>Tree.sat_leaf (by simp only [mulRF]))
end
section
def zeroFp2:Fp2:=⟨zeroFp,zeroFp⟩
def oneFp2:Fp2:=⟨oneFp,zeroFp⟩
def xiFp2:Fp2:=⟨oneFp,oneFp⟩
abbrev rF2:Rs Fp2:=(kRow Fp2).rs
abbrev vF2 (a:Fp2):AV := .one ((kRow Fp2).av a)
abbrev Kp1 (F:Fp2->Fp2):Contract:=K1 (kRow Fp2).arg rF2.res F
abbrev Kp2 (F:Fp2->Fp2->Fp2):Contract:=K2 (kRow Fp2).arg (kRow Fp2).arg rF2.res F
def fp2Eq (a b:Fp2):Bool:=fpEq a.c0 b.c0 && (fpEq a.c1 b.c1 && true)
theorem fp2Eq_iff (a b:Fp2):fp2Eq a b=true <-> a=b:=by
 unfold fp2Eq
 rw [Bool.and_true,Bool.and_eq_true,fpEq_iff,fpEq_iff]
 cases a;cases b
 simp
def zeroFp6:Fp6:=⟨zeroFp2,zeroFp2,zeroFp2⟩
def oneFp6:Fp6:=⟨oneFp2,zeroFp2,zeroFp2⟩
structure Fp12 where
 c0:Fp6
 c1:Fp6
def Fp12.rd (xs:List Cell):Option Fp12:=match (Row.rd (xs.take 36):Option Fp6),(Row.rd (xs.drop 36):Option Fp6) with
 | some a,some b=>some ⟨a,b⟩
 | _,_=>none
instance : Row Fp12 where
 rd:=Fp12.rd
 cs:=fun x=>Row.cs x.c0++Row.cs x.c1
 rd_ok:=fun {xs x} h β=>by
  unfold Fp12.rd at h
  split at h
  ·rename_i a b h1 h2
   cases h
   exact two_rows 36 h1 h2 β
  ·cases h
 cs_ok:=fun x β=>by rw [List.map_append,List.map_append,Row.cs_ok x.c0,Row.cs_ok x.c1]
 cs_id:=fun x c hc=>by
  rcases List.mem_append.1 hc with h | h
  ·exact Row.cs_id _ c h
  ·exact Row.cs_id _ c h
def zeroFp12:Fp12:=⟨zeroFp6,zeroFp6⟩
def oneFp12:Fp12:=⟨oneFp6,zeroFp6⟩
def fp6Eq (a b:Fp6):Bool:=fp2Eq a.c0 b.c0 && (fp2Eq a.c1 b.c1 && (fp2Eq a.c2 b.c2 && true))
theorem fp6Eq_iff (a b:Fp6):fp6Eq a b=true <-> a=b:=by
 unfold fp6Eq
 rw [Bool.and_true,Bool.and_eq_true,Bool.and_eq_true,fp2Eq_iff,fp2Eq_iff,fp2Eq_iff]
 cases a;cases b
 simp
def fp12Eq (a b:Fp12):Bool:=fp6Eq a.c0 b.c0 && (fp6Eq a.c1 b.c1 && true)
theorem fp12Eq_iff (a b:Fp12):fp12Eq a b=true <-> a=b:=by
 unfold fp12Eq
 rw [Bool.and_true,Bool.and_eq_true,fp6Eq_iff,fp6Eq_iff]
 cases a;cases b
 simp
end
section
def infG1:Pg1:=⟨zeroFp,zeroFp,true⟩
def pg1Eq (a b:Pg1):Bool:=fpEq a.x b.x && (fpEq a.y b.y && ((a.inf==b.inf) && true))
theorem pg1Eq_iff (a b:Pg1):pg1Eq a b=true <-> a=b:=by
 unfold pg1Eq
 rw [Bool.and_true,Bool.and_eq_true,Bool.and_eq_true,fpEq_iff,fpEq_iff,beq_iff_eq]
 cases a;cases b
 simp
def infG2:Pg2:=⟨zeroFp2,zeroFp2,true⟩
def pg2Eq (a b:Pg2):Bool:=fp2Eq a.x b.x && (fp2Eq a.y b.y && ((a.inf==b.inf) && true))
theorem pg2Eq_iff (a b:Pg2):pg2Eq a b=true <-> a=b:=by
 unfold pg2Eq
 rw [Bool.and_true,Bool.and_eq_true,Bool.and_eq_true,fp2Eq_iff,fp2Eq_iff,beq_iff_eq]
 cases a;cases b
 simp
def zeroSp:Sp1:=⟨zeroFp,zeroFp,zeroFp⟩
abbrev kg1:Kd Pg1:=kRow Pg1
abbrev kg2:Kd Pg2:=kRow Pg2
end
set_option maxRecDepth 100000
section
abbrev Kr0 (x:Fr):Contract:=K0 r4.res x
noncomputable def T1r:Table:=(145,Kr0 rLimbs) :: T0
theorem T1r_ok:TableOk Tryz.prog T1r := .cons modulus4_ok T0_ok
noncomputable def E1r:Env:=mkEnv Tryz.prog T1r []
theorem E1r_ok:EnvOk E1r:=mkEnv_ok follows_mixed T1r_ok
def less4T (a:Fr):Fr × Bool :=
 let c0:=subB a.l0 rLimbs.l0 false
 let c1:=subB a.l1 rLimbs.l1 c0
 let c2:=subB a.l2 rLimbs.l2 c1
 (⟨subS a.l0 rLimbs.l0 false,subS a.l1 rLimbs.l1 c0,subS a.l2 rLimbs.l2 c1,subS a.l3 rLimbs.l3 c2⟩,subB a.l3 rLimbs.l3 c2)
def less4F (a:Fr) (over:UInt64):Fr:=match decide (over<b2u (less4T a).2) with | true=>a | false=>(less4T a).1
theorem less4_ok:CallOk Tryz.prog 131 (K2 (kRow Fr).arg kU64.arg r4.res less4F) :=
 P2 E1r_ok Tryz.func131 (bodied Tryz.func131 (by kernel_rfl) (by kernel_rfl)) 100 (kRow Fr) kU64 r4 less4F
  (T:=fun a o => .br (decide (o<b2u (less4T a).2)) (.leaf (some a)) (.leaf (some (less4T a).1))) (by intro a o;kernel_rfl)
  (by intro a o;exact ⟨fun h=>congrArg some (by unfold less4F;rw [h]),fun h=>congrArg some (by unfold less4F;rw [h])⟩)
noncomputable def T2r:Table:=(131,K2 (kRow Fr).arg kU64.arg r4.res less4F) :: (96,K2 kU64.arg kU64.arg (kU64.rs2 kU64).res fun x y=>(mulHi x y,x*y)) :: T1r
theorem T2r_ok:TableOk Tryz.prog T2r := .cons less4_ok (.cons mul64_ok T1r_ok)
noncomputable def E2r:Env:=mkEnv Tryz.prog T2r []
theorem E2r_ok:EnvOk E2r:=mkEnv_ok follows_mixed T2r_ok
def rInvW:UInt64:=0xfffffffeffffffff
def round4B (t0 t1 t2 t3 top:UInt64) (more:Bool):L5 :=
 let x:=t0*rInvW
 let d0:=mulHi x rLimbs.l0+b2u (addC (x*rLimbs.l0) t0 false)
 let d1:=macH x rLimbs.l1 t1 d0
 let d2:=macH x rLimbs.l2 t2 d1
 let d3:=macH x rLimbs.l3 t3 d2
 ⟨macL x rLimbs.l1 t1 d0,macL x rLimbs.l2 t2 d1,macL x rLimbs.l3 t3 d2,addS top d3 false,b2u more+b2u (addC top d3 false)⟩
def round4F (a:Fr) (b:UInt64) (t:L5):L5 :=
 let c0:=macH a.l0 b t.t0 0
 let c1:=macH a.l1 b t.t1 c0
 let c2:=macH a.l2 b t.t2 c1
 let c3:=macH a.l3 b t.t3 c2
 round4B (macL a.l0 b t.t0 0) (macL a.l1 b t.t1 c0) (macL a.l2 b t.t2 c1) (macL a.l3 b t.t3 c2) (addS t.t4 c3 false) (addC t.t4 c3 false)
def halfr1 (a b:Fr):L5:=round4F a b.l0 ⟨0,0,0,0,0⟩
def halfr2 (a b:Fr):L5:=round4F a b.l1 (halfr1 a b)
def halfr3 (a b:Fr):L5:=round4F a b.l2 (halfr2 a b)
def halfrT (a b:Fr):L5:=round4F a b.l3 (halfr3 a b)
def halfR (a b:Fr):Fr:=less4F (halfrT a b).low (halfrT a b).t4
def hSt4 (a b:Fr) (k:Nat) (t:List Cell):St :=
 mkSt 139 [(2,ptrV 0),(3,ptrV 1),(4,ptrV 2),(5,ptrV 3),(6,ptrV 4),(18,litV k)] [own 24 (Row.cs a),own 24 (Row.cs b),own 24 (zeros 4),own 24 (Row.cs rLimbs),own 182 t]
noncomputable def h4Code:List Code:=flat (codeOf Tryz.f133)
noncomputable def h4Body:Code:=loopAt Tryz.f133 0
theorem halfr_start (a b:Fr):stageT E2r 100 (h4Code.take 4) (startSt Tryz.f133 [v4 a,v4 b] []) [2,3,4,5,6,18] [0,1,2,3,4] = .leaf (hSt4 a b 0 (zeros 5)):=by kernel_rfl
theorem halfr_round0 (a b:Fr):roundT E2r 100 h4Body (hSt4 a b 0 (zeros 5)) hCut = .leaf (.normal,hSt4 a b 1 (round4F a b.l0 ⟨0,0,0,0,0⟩).cs):=by kernel_rfl
theorem halfr_round1 (a b:Fr) (t:L5):roundT E2r 100 h4Body (hSt4 a b 1 t.cs) hCut = .leaf (.normal,hSt4 a b 2 (round4F a b.l1 t).cs):=by kernel_rfl
theorem halfr_round2 (a b:Fr) (t:L5):roundT E2r 100 h4Body (hSt4 a b 2 t.cs) hCut = .leaf (.normal,hSt4 a b 3 (round4F a b.l2 t).cs):=by kernel_rfl
theorem halfr_round3 (a b:Fr) (t:L5):roundT E2r 100 h4Body (hSt4 a b 3 t.cs) hCut = .leaf (.normal,hSt4 a b 4 (round4F a b.l3 t).cs):=by kernel_rfl
theorem halfr_out (a b:Fr) (t:L5):roundT E2r 100 h4Body (hSt4 a b 4 t.cs) hCut = .leaf (.exit 0,hSt4 a b 4 t.cs):=by kernel_rfl
theorem halfr_fin (a b:Fr) (t:L5):finT E2r r4 100 Tryz.f133 (h4Code.drop 5) (hSt4 a b 4 t.cs) = .leaf (some (less4F t.low t.t4)):=by kernel_rfl
theorem halfr_split:h4Code.drop 4 = .block 0 (.loop h4Body) :: h4Code.drop 5:=by kernel_rfl
def h4Inv (a b:Fr) (k:Fin 5):St :=
 match k with
 | 0=>hSt4 a b 0 (zeros 5)
 | 1=>hSt4 a b 1 (halfr1 a b).cs
 | 2=>hSt4 a b 2 (halfr2 a b).cs
 | 3=>hSt4 a b 3 (halfr3 a b).cs
 | 4=>hSt4 a b 4 (halfrT a b).cs
theorem halfR_ok:CallOk Tryz.prog 133 (Kr2 halfR):=by
 refine Q2 (E:=E2r) Tryz.func133 (c:=codeOf Tryz.f133) (by kernel_rfl) (bodied Tryz.func133 (by kernel_rfl) (by kernel_rfl)) (kRow Fr) (kRow Fr) r4 halfR fun a b => ?_
 refine DoesL.stageTo E2r_ok 100 4 [2,3,4,5,6,18] [0,1,2,3,4] (halfr_start a b) ?_
 refine DoesL.blockLoop halfr_split (h4Inv a b) (fun k=>4-k.1) 0 fun k => ?_
 match k with
 | 0=>exact Does.round E2r_ok 100 hCut (halfr_round0 a b) ⟨1,by decide,by simp only [h4Inv,halfr1]⟩
 | 1=>exact Does.round E2r_ok 100 hCut (halfr_round1 a b _) ⟨2,by decide,by simp only [h4Inv,halfr2]⟩
 | 2=>exact Does.round E2r_ok 100 hCut (halfr_round2 a b _) ⟨3,by decide,by simp only [h4Inv,halfr3]⟩
 | 3=>exact Does.round E2r_ok 100 hCut (halfr_round3 a b _) ⟨4,by decide,by simp only [h4Inv,halfrT]⟩
 | 4=>exact Does.round E2r_ok 100 hCut (halfr_out a b _) ⟨rfl,DoesL.fin E2r_ok 100 (halfr_fin a b _) (Tree.sat_leaf (by simp only [halfR]))⟩
theorem square4_ok:CallOk Tryz.prog 171 (Kr0 sq4Limbs):=P0 E0_ok Tryz.func171 (bodied Tryz.func171 (by kernel_rfl) (by kernel_rfl)) 100 r4 sq4Limbs (T := .leaf (some sq4Limbs)) (by kernel_rfl) rfl
def wholeR (a:Fr):Fr:=halfR a sq4Limbs
theorem wholeR_run (hF:Fr->Fr->Fr) (q a:Fr):plainRun (En [(133,Kr2 hF),(171,Kr0 q)]) r4 100 Tryz.f132 [v4 a] = .leaf (some (hF a q)):=by kernel_rfl
theorem wholeR_ok:CallOk Tryz.prog 132 (Kr1 wholeR):=P1 (En_ok (.cons halfR_ok (.cons square4_ok .nil))) Tryz.func132 (bodied Tryz.func132 (by kernel_rfl) (by kernel_rfl)) 100 (kRow Fr) r4 wholeR (wholeR_run halfR sq4Limbs) (fun _=>Tree.sat_leaf (by simp only [wholeR]))
def addPR (a b:Fr):Fr:=less4F (add4T a b).1 (b2u (add4T a b).2)
theorem addPR_run (lF:Fr->UInt64->Fr) (a b:Fr):plainRun (En [(94,K3x addS addC),(131,K2 (kRow Fr).arg kU64.arg r4.res lF)]) r4 100 Tryz.f85 [v4 a,v4 b] = .leaf (some (lF (add4T a b).1 (b2u (add4T a b).2))):=by kernel_rfl
theorem addPR_ok:CallOk Tryz.prog 85 (Kr2 addPR):=P2 (En_ok (.cons add64_ok (.cons less4_ok .nil))) Tryz.func85 (bodied Tryz.func85 (by kernel_rfl) (by kernel_rfl)) 100 (kRow Fr) (kRow Fr) r4 addPR (addPR_run less4F) (fun _ _=>Tree.sat_leaf (by simp only [addPR]))
def subPR (a b:Fr):Fr:=match decide (b2u (sub4T a b).2=0) with | true=>(sub4T a b).1 | false=>(add4T (sub4T a b).1 rLimbs).1
theorem subPR_run (a b:Fr):plainRun E1r r4 100 Tryz.f105 [v4 a,v4 b] = .br (decide (b2u (sub4T a b).2=0)) (.leaf (some (sub4T a b).1)) (.leaf (some (add4T (sub4T a b).1 rLimbs).1)):=by kernel_rfl
theorem subPR_ok:CallOk Tryz.prog 105 (Kr2 subPR):=P2 E1r_ok Tryz.func105 (bodied Tryz.func105 (by kernel_rfl) (by kernel_rfl)) 100 (kRow Fr) (kRow Fr) r4 subPR subPR_run (fun _ _=>⟨fun h=>congrArg some (by unfold subPR;rw [h]),fun h=>congrArg some (by unfold subPR;rw [h])⟩)
def negPR (a:Fr):Fr:=subPR zeroFr a
theorem negPR_run (sF:Fr->Fr->Fr) (a:Fr):plainRun (En [(105,Kr2 sF)]) r4 100 Tryz.f65 [v4 a] = .leaf (some (sF zeroFr a)):=by kernel_rfl
theorem negPR_ok:CallOk Tryz.prog 65 (Kr1 negPR):=P1 (En_ok (.cons subPR_ok .nil)) Tryz.func65 (bodied Tryz.func65 (by kernel_rfl) (by kernel_rfl)) 100 (kRow Fr) r4 negPR (negPR_run subPR) (fun _=>Tree.sat_leaf (by simp only [negPR]))
def mulPR (a b:Fr):Fr:=wholeR (halfR a b)
theorem mulPR_run (hF:Fr->Fr->Fr) (wF:Fr->Fr) (a b:Fr):plainRun (En [(133,Kr2 hF),(132,Kr1 wF)]) r4 100 Tryz.f86 [v4 a,v4 b] = .leaf (some (wF (hF a b))):=by kernel_rfl
theorem mulPR_ok:CallOk Tryz.prog 86 (Kr2 mulPR):=P2 (En_ok (.cons halfR_ok (.cons wholeR_ok .nil))) Tryz.func86 (bodied Tryz.func86 (by kernel_rfl) (by kernel_rfl)) 100 (kRow Fr) (kRow Fr) r4 mulPR (mulPR_run halfR wholeR) (fun _ _=>Tree.sat_leaf (by simp only [mulPR]))
def ofPR (n:UInt64):Fr:=⟨n,0,0,0⟩
theorem ofPR_run (n:UInt64):plainRun (En []) r4 100 Tryz.f64 [vU n] = .leaf (some (ofPR n)):=by kernel_rfl
theorem ofPR_ok:CallOk Tryz.prog 64 (K1 kU64.arg r4.res ofPR):=P1 (En_ok .nil) Tryz.func64 (bodied Tryz.func64 (by kernel_rfl) (by kernel_rfl)) 100 kU64 r4 ofPR ofPR_run (fun _=>Tree.sat_leaf (by simp only [ofPR]))
end
set_option maxRecDepth 100000
section
abbrev oFrs:Out (List Fr):=outRw .fr 24
abbrev fewR (xs:List Fr):Prop:=xs.length<4294967296
abbrev aFew:Arg (List Fr):=(argRw .fr).such fewR
abbrev iFew:Inp (List Fr):=(inpRw .fr).such fewR
abbrev Kcut (F:List Fr->List Fr):Contract:=K1 aFew oFrs.res F
def frZ:Fr:=⟨UInt64.ofNat 0,UInt64.ofNat 0,UInt64.ofNat 0,UInt64.ofNat 0⟩
def cutN4 (xs:List Fr):Nat->Nat
 | 0=>0
 | n+1=>match frEq (xs.getD n frZ) frZ with
  | true=>cutN4 xs n
  | false=>n+1
def cutL (xs:List Fr):List Fr:=xs.take (cutN4 xs xs.length)
theorem cutN4_le (xs:List Fr) : ∀ n,cutN4 xs n<=n
 | 0=>Nat.le_refl _
 | n+1=>by
  unfold cutN4
  cases frEq (xs.getD n frZ) frZ with
  | true=>exact Nat.le_succ_of_le (cutN4_le xs n)
  | false=>exact Nat.le_refl _
theorem cutL_len (xs:List Fr):(cutL xs).length=cutN4 xs xs.length:=by
 unfold cutL
 rw [List.length_take,Nat.min_eq_left (cutN4_le xs _)]
theorem cutL_le (xs:List Fr):(cutL xs).length<=xs.length:=by rw [cutL_len];exact cutN4_le xs _
section
variable (aF mF : Fr -> Fr -> Fr)
def rAt (xs:List Fr) (x:Fr):Nat->Fr->Fr
 | 0,y=>y
 | n+1,y=>rAt xs x n (aF (mF y x) (xs.getD n frZ))
theorem rAt_zero (xs:List Fr) (x y:Fr):rAt aF mF xs x 0 y=y:=rfl
theorem rAt_succ (xs:List Fr) (x y:Fr) (n:Nat):rAt aF mF xs x (n+1) y=rAt aF mF xs x n (aF (mF y x) (xs.getD n frZ)):=rfl
def mayLs (mF:Fr->Bool):List Fr->Bool
 | []=>true
 | x :: l=>match !(mF x) with
  | true=>false
  | false=>mayLs mF l
end
def natI (i:Int):Prop:=0<=i
def atL (l:List Fr) (i:Nat):Fr:=l.getD i frZ
def ownFrs (l:List Fr):HE := .live ⟨true,24,4,.rows .fr l,false⟩
def slFr (i c:Nat):AV := .one (.c (.slc i 0 c 4 (.of 0) false))
noncomputable abbrev pcutC:List Code:=flat (codeOf Tryz.f54)
def pcutSt (l:List Fr) (z:Int):St:=mkSt 24 [(0,rwV .fr 0 l),(3,vI z)] [rwHE .fr l]
theorem pcut_start (l:List Fr):stageG (En []) 100 (pcutC.take 2) (startSt Tryz.f54 [rwV .fr 0 l] [rwHE .fr l]) [0,3] [0] [(0,.as),(3,.int)] [.as] []=(.vc (0+l.length*4<=(rowsC RK.fr l).length/\0<4) (.leaf (mkSt 24 [(0,.one (.c (.slc 0 0 (l.length) 4 (.of 0) false))),(3,.one (.c (.int .i64 ((↑l.length:Int)))))] [.live ⟨false,0,4,(.rows .fr (l:List Fr)),false⟩]))):=by kernel_rfl
theorem pcut_round (l:List Fr) (z:Int):letI za':=IntKind.i64.wrap (z-1);roundT (En []) 100 (loopAt Tryz.f54 0) (pcutSt l z) (same [0,3] [0])=(.br (decide (z > 0)) (.vc ((0<=IntKind.i64.wrap (z-1)/\IntKind.i64.wrap (z-1)<(↑l.length:Int))/\0+l.length*4<=(rowsC RK.fr l).length/\0<4/\0=0) (.vc (0+za'.toNat<l.length) (.br (frEq (l.getD (0+za'.toNat) { l0:=0,l1:=0,l2:=0,l3:=0 }) ({ l0:=UInt64.ofNat 0,l1:=UInt64.ofNat 0,l2:=UInt64.ofNat 0,l3:=UInt64.ofNat 0 })) (.leaf ((.normal,mkSt 24 [(0,.one (.c (.slc 0 0 (l.length) 4 (.of 0) false))),(3,.one (.c (.int .i64 za')))] [.live ⟨false,0,4,(.rows .fr (l:List Fr)),false⟩]))) (.leaf ((.exit 0,mkSt 24 [(0,.one (.c (.slc 0 0 (l.length) 4 (.of 0) false))),(3,.one (.c (.int .i64 (z))))] [.live ⟨false,0,4,(.rows .fr (l:List Fr)),false⟩])))))) (.leaf ((.exit 0,mkSt 24 [(0,.one (.c (.slc 0 0 (l.length) 4 (.of 0) false))),(3,.one (.c (.int .i64 (z))))] [.live ⟨false,0,4,(.rows .fr (l:List Fr)),false⟩])))):=by kernel_rfl
theorem pcut_end (l:List Fr) (z:Int):endT (En []) oFrs 100 Tryz.f54 (pcutC.drop 3) (pcutSt l z)=(.vc (0<=z/\0<=z.toNat/\z.toNat<=l.length/\0+l.length*4<=(rowsC RK.fr l).length/\0<4/\(0=0 \/ 0<z.toNat)/\0=0/\4=4) (.vc ((0+(z.toNat-0)*4<=(rowsC RK.fr l).length/\0=0)/\0+(z.toNat-0)<=9223372036854775807/\(0+(z.toNat-0))*32<=140737488355328) (.leaf (some ((List.take (0+(z.toNat-0)) ([]++List.take (z.toNat-0) (List.drop 0 l)),(.p (0+(z.toNat-0)<=([]++List.take (z.toNat-0) (List.drop 0 l)).length)))))))):=by kernel_rfl
noncomputable abbrev raC:List Code:=flat (codeOf Tryz.f26)
noncomputable abbrev raE (aF mF:Fr->Fr->Fr):Env:=En [(28,Kr2 aF),(29,Kr2 mF)]
def raSt (l:List Fr) (x y:Fr) (z:Int):St:=mkSt 23 [(0,rwV .fr 0 l),(3,ptrV 1),(4,ptrV 2),(5,ptrV 3),(6,vI z)] [rwHE .fr l,own 24 (Row.cs x),own 24 (zeros 4),own 24 (Row.cs y)]
theorem ra_start (aF mF:Fr->Fr->Fr) (l:List Fr) (x:Fr):letI za':=UInt64.ofNat 0;stageG (raE aF mF) 100 (raC.take 3) (startSt Tryz.f26 [rwV .fr 0 l,v4 x] [rwHE .fr l]) [0,3,4,5,6] [0,1,2,3] [(0,.as),(3,.as),(4,.as),(5,.as),(6,.int)] [.as,.as,.as,.one .fr] []=(.vc (0+l.length*4<=(rowsC RK.fr l).length/\0<4) (.leaf (mkSt 23 [(0,.one (.c (.slc 0 0 (l.length) 4 (.of 0) false))),(3,.one (.c (.ptr 1 0))),(4,.one (.c (.ptr 2 0))),(5,.one (.c (.ptr 3 0))),(6,.one (.c (.int .i64 (IntKind.i64.wrap ((↑l.length:Int)-1)))))] [.live ⟨false,0,4,(.rows .fr (l:List Fr)),false⟩,.live ⟨true,24,0,(.row (Row.cs (x:Fr))),false⟩,.live ⟨true,24,0,(.row [(.lit .u64 0),(.lit .u64 0),(.lit .u64 0),(.lit .u64 0)]),false⟩,.live ⟨true,24,0,(.row [(.u64 za'),(.u64 za'),(.u64 za'),(.u64 za')]),false⟩]))):=by kernel_rfl
theorem ra_round (aF mF:Fr->Fr->Fr) (l:List Fr) (x y:Fr) (z:Int):roundT (raE aF mF) 300 (loopAt Tryz.f26 0) (raSt l x y z) (same [0,3,4,5,6] [0,1,2,3])=(.br (decide (z >= 0)) (.vc ((0<=z/\z<(↑l.length:Int))/\0+l.length*4<=(rowsC RK.fr l).length/\0<4/\0=0) (.vc (0+z.toNat<l.length) (.leaf ((.normal,mkSt 23 [(0,.one (.c (.slc 0 0 (l.length) 4 (.of 0) false))),(3,.one (.c (.ptr 1 0))),(4,.one (.c (.ptr 2 0))),(5,.one (.c (.ptr 3 0))),(6,.one (.c (.int .i64 (IntKind.i64.wrap (z-1)))))] [.live ⟨false,0,4,(.rows .fr (l:List Fr)),false⟩,.live ⟨true,24,0,(.row (Row.cs (x:Fr))),false⟩,.live ⟨true,24,0,(.row [(.lit .u64 0),(.lit .u64 0),(.lit .u64 0),(.lit .u64 0)]),false⟩,.live ⟨true,24,0,(.row (Row.cs (aF (mF y x) (l.getD (0+z.toNat) { l0:=0,l1:=0,l2:=0,l3:=0 }):Fr))),false⟩]))))) (.leaf ((.exit 0,mkSt 23 [(0,.one (.c (.slc 0 0 (l.length) 4 (.of 0) false))),(3,.one (.c (.ptr 1 0))),(4,.one (.c (.ptr 2 0))),(5,.one (.c (.ptr 3 0))),(6,.one (.c (.int .i64 (z))))] [.live ⟨false,0,4,(.rows .fr (l:List Fr)),false⟩,.live ⟨true,24,0,(.row (Row.cs (x:Fr))),false⟩,.live ⟨true,24,0,(.row [(.lit .u64 0),(.lit .u64 0),(.lit .u64 0),(.lit .u64 0)]),false⟩,.live ⟨true,24,0,(.row (Row.cs (y:Fr))),false⟩])))):=by kernel_rfl
theorem ra_end (aF mF:Fr->Fr->Fr) (l:List Fr) (x y:Fr) (z:Int):endT (raE aF mF) r4.out 100 Tryz.f26 (raC.drop 4) (raSt l x y z) =
 (.leaf (some ((y,.t)))):=by kernel_rfl
noncomputable abbrev lmC:List Code:=flat (codeOf Tryz.f14)
noncomputable abbrev lmE (mF:Fr->Bool):Env:=En [(22,Krb mF)]
def lmSt (l:List Fr) (n z:Int):St:=mkSt 22 [(0,rwV .fr 0 l),(1,vI n),(5,vI z)] [rwHE .fr l]
theorem lm_start (mF:Fr->Bool) (l:List Fr) (n:Int):stageG (lmE mF) 100 (lmC.take 2) (startSt Tryz.f14 [rwV .fr 0 l,vI n] [rwHE .fr l]) [0,1,5] [0] [(0,.as),(1,.as),(5,.int)] [.as] []=(.leaf (mkSt 22 [(0,.one (.c (.slc 0 0 (l.length) 4 (.of 0) false))),(1,.one (.c (.int .i64 (n)))),(5,.one (.c (.int .i64 0)))] [.live ⟨false,0,4,(.rows .fr (l:List Fr)),false⟩])):=by kernel_rfl
theorem lm_round (mF:Fr->Bool) (l:List Fr) (n z:Int):iterT (lmE mF) oB 300 Tryz.f14 [loopAt Tryz.f14 0] (lmSt l n z) [0,1,5] [0]=(.vc (0+l.length*4<=(rowsC RK.fr l).length/\0<4) (.br (decide (z<(↑l.length:Int))) (.vc ((0<=z/\z<(↑l.length:Int))/\0+l.length*4<=(rowsC RK.fr l).length/\0<4/\0=0) (.vc (0+z.toNat<l.length) (.br (!(mF (l.getD (0+z.toNat) { l0:=0,l1:=0,l2:=0,l3:=0 }))) (.leaf (.inr (some ((false,.t))))) (.leaf (.inl ((.normal,mkSt 22 [(0,.one (.c (.slc 0 0 (l.length) 4 (.of 0) false))),(1,.one (.c (.int .i64 (n)))),(5,.one (.c (.int .i64 (IntKind.i64.wrap (z+1)))))] [.live ⟨false,0,4,(.rows .fr (l:List Fr)),false⟩]))))))) (.leaf (.inl ((.exit 0,mkSt 22 [(0,.one (.c (.slc 0 0 (l.length) 4 (.of 0) false))),(1,.one (.c (.int .i64 (n)))),(5,.one (.c (.int .i64 (z))))] [.live ⟨false,0,4,(.rows .fr (l:List Fr)),false⟩])))))):=by kernel_rfl
theorem lm_end (mF:Fr->Bool) (l:List Fr) (n z:Int):endT (lmE mF) oB 100 Tryz.f14 (lmC.drop 3) (lmSt l n z) =
 (.vc (0+l.length*4<=(rowsC RK.fr l).length/\0<4)
  (.leaf (some ((decide ((↑l.length:Int)<=n),.t))))):=by kernel_rfl
end
set_option maxRecDepth 100000
section
theorem wrapD (m:Nat) (h:m<4294967296):IntKind.i64.wrap (((m+1:Nat):Int)-1)=(m:Int):=(IntWalk.i64_in _ (by omega)).trans (by omega)
theorem wrapU (m:Nat) (h:m<4294967296):IntKind.i64.wrap ((m:Int)+1)=((m+1:Nat):Int):=(IntWalk.i64_in _ (by omega)).trans (by omega)
theorem zeroN (m:Nat):0+((m:Nat):Int).toNat=m:=by omega
abbrev CutQ (l:List Fr):Type := { n:Nat // n<=l.length/\cutN4 l n=cutN4 l l.length }
theorem take_cut {l:List Fr} {n:Nat} (h:n=cutN4 l l.length):List.take (0+(((n:Nat):Int).toNat-0)) ([]++List.take (((n:Nat):Int).toNat-0) (List.drop 0 l))=cutL l:=by
 rw [Int.toNat_natCast,Nat.sub_zero,Nat.zero_add,List.nil_append,List.drop_zero,List.take_take,Nat.min_self,h]
 rfl
theorem pcut_fin {l:List Fr} (hl:l.length<4294967296) {n:Nat} (h:n=cutN4 l l.length):DoesL (En []) (pcutC.drop 3) (pcutSt l (n:Int)) (EndsAs (En []) Tryz.f54 (Reads oFrs (cutL l))):=by
 have hle:n<=l.length:=by rw [h];exact cutN4_le l _
 have hlen:([]++List.take (((n:Nat):Int).toNat-0) (List.drop 0 l)).length=n:=by
  rw [Int.toNat_natCast,Nat.sub_zero,List.nil_append,List.drop_zero,List.length_take,Nat.min_eq_left hle]
 refine DoesL.ends (En_ok .nil) 100 (pcut_end l n) ⟨⟨by omega,by omega,by omega,by rw [rowsC_fr];omega,by decide,.inl rfl,rfl,rfl⟩,fun _=>⟨⟨⟨by rw [rowsC_fr];omega,rfl⟩,by omega,by omega⟩,fun _ => ?_⟩⟩
 rw [take_cut h]
 exact ⟨_,rfl,by show 0+(((n:Nat):Int).toNat-0)<=_;rw [hlen];omega⟩
theorem pcut_ok:CallOk Tryz.prog 54 (Kcut cutL) :=
 G1 (E:=En []) Tryz.func54 (c:=codeOf Tryz.f54) (by kernel_rfl) (bodied Tryz.func54 (by kernel_rfl) (by kernel_rfl)) iFew oFrs cutL fun l hl=>by
  have hl:l.length<4294967296:=hl.2
  refine DoesL.stageG (En_ok .nil) 100 2 _ _ _ _ _ (pcut_start l) ⟨vcLenFr l,fun _ => ?_⟩
  refine (?_:DoesL _ _ (pcutSt l (l.length:Int)) _)
  refine DoesL.blockLoop (B:=loopAt Tryz.f54 0) (rest:=pcutC.drop 3) (id:=0) (by kernel_rfl) (fun n:CutQ l=>pcutSt l (n.1:Int)) (fun n=>n.1) ⟨l.length,Nat.le_refl _,rfl⟩ fun n => ?_
  obtain ⟨n,h1,h2⟩:=n
  refine (?_:Does _ _ (pcutSt l (n:Int)) _)
  refine Does.round (En_ok .nil) 100 _ (pcut_round l n) ⟨fun h => ?_,fun h => ?_⟩
  ·simp only [decide_eq_true_eq] at h
   obtain ⟨m,rfl⟩ : ∃ m,n=m+1:=⟨n-1,by omega⟩
   rw [wrapD m (by omega),zeroN]
   refine ⟨vcIdxFr (by omega),fun _=>⟨by omega,fun _=>⟨fun h3 => ?_,fun h3 => ?_⟩⟩⟩
   ·have h3:frEq (l.getD m frZ) frZ=true:=h3
    refine ⟨⟨m,by omega,?_⟩,Nat.lt_succ_self m,rfl⟩
    rw [<- h2]
    show _=(match frEq (l.getD m frZ) frZ with | true=>cutN4 l m | false=>m+1)
    rw [h3]
   ·have h3:frEq (l.getD m frZ) frZ=false:=h3
    refine ⟨rfl,pcut_fin hl ?_⟩
    rw [<- h2]
    show _=(match frEq (l.getD m frZ) frZ with | true=>cutN4 l m | false=>m+1)
    rw [h3]
  ·simp only [decide_eq_false_iff_not] at h
   obtain rfl:n=0:=by omega
   exact ⟨rfl,pcut_fin hl h2⟩
section
variable {aF mF : Fr -> Fr -> Fr}
abbrev RaQ (aF mF:Fr->Fr->Fr) (l:List Fr) (x:Fr):Type := { s:Nat × Fr // s.1<=l.length/\rAt aF mF l x s.1 s.2=rAt aF mF l x l.length frZ }
theorem ra_does (hE:EnvOk (raE aF mF)) (l:List Fr) (x:Fr) (hl:l.length<1125899906842624):DoesL (raE aF mF) (flat (codeOf Tryz.f26)) (startSt Tryz.f26 [rwV .fr 0 l,v4 x] [rwHE .fr l]) (EndsAs (raE aF mF) Tryz.f26 (Reads r4.out (rAt aF mF l x l.length frZ))):=by
  have hw:IntKind.i64.wrap ((l.length:Int)-1)=(l.length:Int)-1:=IntWalk.i64_in _ (by omega)
  refine DoesL.stageG hE 100 3 _ _ _ _ _ (ra_start aF mF l x) ⟨vcLenFr l,fun _ => ?_⟩
  rw [hw]
  refine (?_:DoesL _ _ (raSt l x frZ (l.length-1:Int)) _)
  refine DoesL.blockLoop (B:=loopAt Tryz.f26 0) (rest:=raC.drop 4) (id:=0) (by kernel_rfl) (fun s:RaQ aF mF l x=>raSt l x s.1.2 ((s.1.1:Int)-1)) (fun s=>s.1.1) ⟨(l.length,frZ),Nat.le_refl _,rfl⟩ fun s => ?_
  obtain ⟨⟨n,y⟩,h1,h2⟩:=s
  simp only [] at h1 h2
  refine (?_:Does _ _ (raSt l x y ((n:Int)-1)) _)
  refine Does.round hE 300 _ (ra_round aF mF l x y ((n:Int)-1)) ⟨fun h => ?_,fun h => ?_⟩
  ·simp only [ge_iff_le,decide_eq_true_eq] at h
   obtain ⟨m,rfl⟩ : ∃ m,n=m+1:=⟨n-1,by omega⟩
   have e1:((m+1:Nat):Int)-1=(m:Int):=by omega
   have e2:IntKind.i64.wrap ((m:Int)-1)=(m:Int)-1:=IntWalk.i64_in _ (by omega)
   rw [e1,e2,zeroN]
   refine ⟨vcIdxFr (by omega),fun _=>⟨by omega,fun _ => ?_⟩⟩
   rw [rAt_succ] at h2
   exact ⟨⟨(m,aF (mF y x) (l.getD m frZ)),by show m<=l.length;omega,h2⟩,Nat.lt_succ_self m,rfl⟩
  ·simp only [ge_iff_le,decide_eq_false_iff_not] at h
   obtain rfl:n=0:=by omega
   rw [rAt_zero] at h2
   exact ⟨rfl,DoesL.ends hE 100 (ra_end aF mF l x y _) ⟨.t,by rw [<- h2],trivial⟩⟩
end
def rAtF (l:List Fr) (x:Fr):Fr:=rAt addRF mulRF l x l.length frZ
theorem rAtF_ok:CallOk Tryz.prog 26 (K2 (argRw .fr) (kRow Fr).arg r4.res rAtF) :=
 G2 (E:=raE addRF mulRF) Tryz.func26 (c:=codeOf Tryz.f26) (by kernel_rfl) (bodied Tryz.func26 (by kernel_rfl) (by kernel_rfl)) (inpRw .fr) (kRow Fr).inp r4.out rAtF fun l x hl _=>ra_does (En_ok (.cons addR_ok (.cons mulR_ok .nil))) l x hl
theorem take_snocR (l:List Fr) {j:Nat} (h:j<l.length):l.take (j+1)=l.take j ++ [l.getD j frZ]:=by
 rw [List.take_add_one,List.getD_eq_getElem?_getD,List.getElem?_eq_getElem h]
 rfl
def atLi (l:List Fr) (i:Int):Fr:=atL l i.toNat
theorem natI_nat (j:Nat):natI (j:Int):=Int.natCast_nonneg j
def maxN (l m:List Fr):Nat:=max m.length l.length
theorem maxN_if (l m:List Fr):(if (m.length:Int) > (l.length:Int) then (m.length:Int) else (l.length:Int))=(maxN l m:Int):=by
 unfold maxN
 by_cases h:l.length<m.length
 ·rw [if_pos (by omega),Nat.max_eq_left (by omega)]
 ·rw [if_neg (by omega),Nat.max_eq_right (by omega)]
def mayLF (l:List Fr) (n:Int):Bool:=match mayLs mayRF l with
 | true=>decide ((l.length:Int)<=n)
 | false=>false
theorem mayLs_cons (mF:Fr->Bool) (x:Fr) (l:List Fr):mayLs mF (x :: l)=match !(mF x) with | true=>false | false=>mayLs mF l:=rfl
theorem drop_getR (l:List Fr) {i:Nat} (h:i<l.length):l.drop i=l.getD i frZ :: l.drop (i+1):=by
 rw [List.drop_eq_getElem_cons h,List.getD_eq_getElem?_getD,List.getElem?_eq_getElem h]
 rfl
abbrev LmQ (l:List Fr):Type := { i:Nat // i<=l.length/\mayLs mayRF (l.drop i)=mayLs mayRF l }
theorem mayLF_ok:CallOk Tryz.prog 14 (K2 (argRw .fr) kInt.arg kBool.rs.res mayLF) :=
 G2 (E:=lmE mayRF) Tryz.func14 (c:=codeOf Tryz.f14) (by kernel_rfl) (bodied Tryz.func14 (by kernel_rfl) (by kernel_rfl)) (inpRw .fr) kInt.inp oB mayLF fun l n hl _=>by
  have hl:l.length<1125899906842624:=hl
  have hE:EnvOk (lmE mayRF):=En_ok (.cons mayR_ok .nil)
  refine DoesL.stageG hE 100 2 _ _ _ _ _ (lm_start mayRF l n) ?_
  refine (?_:DoesL _ _ (lmSt l n ((0:Nat):Int)) _)
  refine DoesL.blockLoopR (B:=loopAt Tryz.f14 0) (rest:=lmC.drop 3) (id:=0) (by kernel_rfl) (fun i:LmQ l=>lmSt l n (i.1:Int)) (fun i=>l.length-i.1) ⟨0,Nat.zero_le _,rfl⟩ fun s => ?_
  obtain ⟨i,h0,h1⟩:=s
  refine (?_:DoesL _ _ (lmSt l n (i:Int)) _)
  refine DoesL.iter hE 300 _ _ (lm_round mayRF l n (i:Int)) ⟨vcLenFr l,fun _=>⟨fun h => ?_,fun h => ?_⟩⟩
  ·simp only [decide_eq_true_eq] at h
   have hi:i<l.length:=by omega
   refine ⟨vcIdxFr hi,fun _=>⟨vcGetFr hi,fun _ => ?_⟩⟩
   have hw:IntKind.i64.wrap ((i:Int)+1)=((i+1:Nat):Int):=(IntWalk.i64_in _ (by omega)).trans (by omega)
   rw [drop_getR l hi,mayLs_cons] at h1
   rw [zeroN,hw]
   refine ⟨fun h2 => ?_,fun h2 => ?_⟩
   ·have h2:(!(mayRF (l.getD i frZ)))=true:=h2
    rw [h2] at h1
    have h1:false=mayLs mayRF l:=h1
    exact ⟨.t,by unfold mayLF;rw [<- h1],trivial⟩
   ·have h2:(!(mayRF (l.getD i frZ)))=false:=h2
    rw [h2] at h1
    exact ⟨⟨i+1,hi,h1⟩,by show l.length-(i+1)<l.length-i;omega,rfl⟩
  ·simp only [decide_eq_false_iff_not] at h
   obtain rfl:i=l.length:=by omega
   rw [List.drop_length] at h1
   have h1:true=mayLs mayRF l:=h1
   refine ⟨rfl,DoesL.ends hE 100 (lm_end mayRF l n _) ⟨vcLenFr l,fun _=>⟨.t,?_,trivial⟩⟩⟩
   unfold mayLF
   rw [<- h1]
end
section
def mayF2_G (f0:Fp->Bool) (a:Fp2):Bool:=(match (f0 a.c0) with | true=>((f0 a.c1)) | false=>((false)))
def mayF2_T (f0:Fp->Bool) (a:Fp2):Tree (Option (Bool)) :=
 (.br (f0 a.c0)
  (.leaf (some ((f0 a.c1))))
  (.leaf (some ((false)))))
theorem mayF2_run (f0:Fp->Bool) (a:Fp2):plainRun (En [(143,Kfb f0)]) kBool.rs 300 Tryz.f146 [.one ((kRow Fp2).av a)]=mayF2_T f0 a:=by kernel_rfl
theorem mayF2_sat (f0:Fp->Bool) (a:Fp2):(mayF2_T f0 a).sat fun q=>q=some (mayF2_G f0 a):=⟨fun h0=>(show some _=some _ from congrArg some (by unfold mayF2_G;rw [h0])),fun h0=>(show some _=some _ from congrArg some (by unfold mayF2_G;rw [h0]))⟩
def mayF2 (a:Fp2):Bool:=mayF2_G mayF a
theorem mayF2_ok:CallOk Tryz.prog 146 (K1 (kRow Fp2).arg kBool.rs.res mayF2) :=
 P1 (En_ok (.cons may_ok .nil)) Tryz.func146 (bodied Tryz.func146 (by kernel_rfl) (by kernel_rfl)) 300 (kRow Fp2) kBool.rs mayF2 (mayF2_run mayF) (mayF2_sat mayF)
def addF2_G (f0:Fp->Fp->Fp) (a:Fp2) (b:Fp2):Fp2:=({ c0:=f0 a.c0 b.c0,c1:=f0 a.c1 b.c1 })
def addF2_T (f0:Fp->Fp->Fp) (a:Fp2) (b:Fp2):Tree (Option (Fp2)) :=
 (.leaf (some ({ c0:=f0 a.c0 b.c0,c1:=f0 a.c1 b.c1 })))
theorem addF2_run (f0:Fp->Fp->Fp) (a:Fp2) (b:Fp2):plainRun (En [(141,Kff f0)]) (kRow Fp2).rs 300 Tryz.f178 [.one ((kRow Fp2).av a),.one ((kRow Fp2).av b)]=addF2_T f0 a b:=by kernel_rfl
theorem addF2_sat (f0:Fp->Fp->Fp) (a:Fp2) (b:Fp2):(addF2_T f0 a b).sat fun q=>q=some (addF2_G f0 a b):=(show some _=some _ from rfl)
def addF2 (a:Fp2) (b:Fp2):Fp2:=addF2_G addF a b
theorem addF2_ok:CallOk Tryz.prog 178 (K2 (kRow Fp2).arg (kRow Fp2).arg (kRow Fp2).rs.res addF2) :=
 P2 (En_ok (.cons add_ok .nil)) Tryz.func178 (bodied Tryz.func178 (by kernel_rfl) (by kernel_rfl)) 300 (kRow Fp2) (kRow Fp2) (kRow Fp2).rs addF2 (addF2_run addF) (addF2_sat addF)
def subF2_G (f0:Fp->Fp->Fp) (a:Fp2) (b:Fp2):Fp2:=({ c0:=f0 a.c0 b.c0,c1:=f0 a.c1 b.c1 })
def subF2_T (f0:Fp->Fp->Fp) (a:Fp2) (b:Fp2):Tree (Option (Fp2)) :=
 (.leaf (some ({ c0:=f0 a.c0 b.c0,c1:=f0 a.c1 b.c1 })))
theorem subF2_run (f0:Fp->Fp->Fp) (a:Fp2) (b:Fp2):plainRun (En [(142,Kff f0)]) (kRow Fp2).rs 300 Tryz.f179 [.one ((kRow Fp2).av a),.one ((kRow Fp2).av b)]=subF2_T f0 a b:=by kernel_rfl
theorem subF2_sat (f0:Fp->Fp->Fp) (a:Fp2) (b:Fp2):(subF2_T f0 a b).sat fun q=>q=some (subF2_G f0 a b):=(show some _=some _ from rfl)
def subF2 (a:Fp2) (b:Fp2):Fp2:=subF2_G subF a b
theorem subF2_ok:CallOk Tryz.prog 179 (K2 (kRow Fp2).arg (kRow Fp2).arg (kRow Fp2).rs.res subF2) :=
 P2 (En_ok (.cons sub_ok .nil)) Tryz.func179 (bodied Tryz.func179 (by kernel_rfl) (by kernel_rfl)) 300 (kRow Fp2) (kRow Fp2) (kRow Fp2).rs subF2 (subF2_run subF) (subF2_sat subF)
def negF2_G (f0:Fp->Fp) (a:Fp2):Fp2:=({ c0:=f0 a.c0,c1:=f0 a.c1 })
def negF2_T (f0:Fp->Fp) (a:Fp2):Tree (Option (Fp2)) :=
 (.leaf (some ({ c0:=f0 a.c0,c1:=f0 a.c1 })))
theorem negF2_run (f0:Fp->Fp) (a:Fp2):plainRun (En [(111,Kf f0)]) (kRow Fp2).rs 300 Tryz.f201 [.one ((kRow Fp2).av a)]=negF2_T f0 a:=by kernel_rfl
theorem negF2_sat (f0:Fp->Fp) (a:Fp2):(negF2_T f0 a).sat fun q=>q=some (negF2_G f0 a):=(show some _=some _ from rfl)
def negF2 (a:Fp2):Fp2:=negF2_G negF a
theorem negF2_ok:CallOk Tryz.prog 201 (K1 (kRow Fp2).arg (kRow Fp2).rs.res negF2) :=
 P1 (En_ok (.cons neg_ok .nil)) Tryz.func201 (bodied Tryz.func201 (by kernel_rfl) (by kernel_rfl)) 300 (kRow Fp2) (kRow Fp2).rs negF2 (negF2_run negF) (negF2_sat negF)
def halfF2_G (f0:Fp->Fp->Fp) (f1:Fp->Fp->Fp) (f2:Fp->Fp->Fp) (a:Fp2) (b:Fp2):Fp2:=({ c0:=f2 (f0 a.c0 b.c0) (f0 a.c1 b.c1),c1:=f2 (f0 (f1 a.c0 a.c1) (f1 b.c0 b.c1)) (f1 (f0 a.c0 b.c0) (f0 a.c1 b.c1)) })
def halfF2_T (f0:Fp->Fp->Fp) (f1:Fp->Fp->Fp) (f2:Fp->Fp->Fp) (a:Fp2) (b:Fp2):Tree (Option (Fp2)) :=
 (.leaf (some ({ c0:=f2 (f0 a.c0 b.c0) (f0 a.c1 b.c1),c1:=f2 (f0 (f1 a.c0 a.c1) (f1 b.c0 b.c1)) (f1 (f0 a.c0 b.c0) (f0 a.c1 b.c1)) })))
theorem halfF2_run (f0:Fp->Fp->Fp) (f1:Fp->Fp->Fp) (f2:Fp->Fp->Fp) (a:Fp2) (b:Fp2):plainRun (En [(140,Kff f0),(141,Kff f1),(142,Kff f2)]) (kRow Fp2).rs 300 Tryz.f177 [.one ((kRow Fp2).av a),.one ((kRow Fp2).av b)]=halfF2_T f0 f1 f2 a b:=by kernel_rfl
theorem halfF2_sat (f0:Fp->Fp->Fp) (f1:Fp->Fp->Fp) (f2:Fp->Fp->Fp) (a:Fp2) (b:Fp2):(halfF2_T f0 f1 f2 a b).sat fun q=>q=some (halfF2_G f0 f1 f2 a b):=(show some _=some _ from rfl)
def halfF2 (a:Fp2) (b:Fp2):Fp2:=halfF2_G halfF addF subF a b
theorem halfF2_ok:CallOk Tryz.prog 177 (K2 (kRow Fp2).arg (kRow Fp2).arg (kRow Fp2).rs.res halfF2) :=
 P2 (En_ok (.cons half_ok (.cons add_ok (.cons sub_ok .nil)))) Tryz.func177 (bodied Tryz.func177 (by kernel_rfl) (by kernel_rfl)) 300 (kRow Fp2) (kRow Fp2) (kRow Fp2).rs halfF2 (halfF2_run halfF addF subF) (halfF2_sat halfF addF subF)
def wholeF2_G (f0:Fp->Fp) (a:Fp2):Fp2:=({ c0:=f0 a.c0,c1:=f0 a.c1 })
def wholeF2_T (f0:Fp->Fp) (a:Fp2):Tree (Option (Fp2)) :=
 (.leaf (some ({ c0:=f0 a.c0,c1:=f0 a.c1 })))
theorem wholeF2_run (f0:Fp->Fp) (a:Fp2):plainRun (En [(136,Kf f0)]) (kRow Fp2).rs 300 Tryz.f151 [.one ((kRow Fp2).av a)]=wholeF2_T f0 a:=by kernel_rfl
theorem wholeF2_sat (f0:Fp->Fp) (a:Fp2):(wholeF2_T f0 a).sat fun q=>q=some (wholeF2_G f0 a):=(show some _=some _ from rfl)
def wholeF2 (a:Fp2):Fp2:=wholeF2_G wholeF a
theorem wholeF2_ok:CallOk Tryz.prog 151 (K1 (kRow Fp2).arg (kRow Fp2).rs.res wholeF2) :=
 P1 (En_ok (.cons whole_ok .nil)) Tryz.func151 (bodied Tryz.func151 (by kernel_rfl) (by kernel_rfl)) 300 (kRow Fp2) (kRow Fp2).rs wholeF2 (wholeF2_run wholeF) (wholeF2_sat wholeF)
def lowF2_G (f0:Fp->Fp) (a:Fp2):Fp2:=({ c0:=f0 a.c0,c1:=f0 a.c1 })
def lowF2_T (f0:Fp->Fp) (a:Fp2):Tree (Option (Fp2)) :=
 (.leaf (some ({ c0:=f0 a.c0,c1:=f0 a.c1 })))
theorem lowF2_run (f0:Fp->Fp) (a:Fp2):plainRun (En [(138,Kf f0)]) (kRow Fp2).rs 300 Tryz.f180 [.one ((kRow Fp2).av a)]=lowF2_T f0 a:=by kernel_rfl
theorem lowF2_sat (f0:Fp->Fp) (a:Fp2):(lowF2_T f0 a).sat fun q=>q=some (lowF2_G f0 a):=(show some _=some _ from rfl)
def lowF2 (a:Fp2):Fp2:=lowF2_G lowF a
theorem lowF2_ok:CallOk Tryz.prog 180 (K1 (kRow Fp2).arg (kRow Fp2).rs.res lowF2) :=
 P1 (En_ok (.cons low_ok .nil)) Tryz.func180 (bodied Tryz.func180 (by kernel_rfl) (by kernel_rfl)) 300 (kRow Fp2) (kRow Fp2).rs lowF2 (lowF2_run lowF) (lowF2_sat lowF)
def mulF2_G (f0:Fp2->Fp2->Fp2) (f1:Fp2->Fp2) (a:Fp2) (b:Fp2):Fp2:=(f1 (f0 a b))
def mulF2_T (f0:Fp2->Fp2->Fp2) (f1:Fp2->Fp2) (a:Fp2) (b:Fp2):Tree (Option (Fp2)) :=
 (.leaf (some (f1 (f0 a b))))
theorem mulF2_run (f0:Fp2->Fp2->Fp2) (f1:Fp2->Fp2) (a:Fp2) (b:Fp2):plainRun (En [(177,K2 (kRow Fp2).arg (kRow Fp2).arg (kRow Fp2).rs.res f0),(151,K1 (kRow Fp2).arg (kRow Fp2).rs.res f1)]) (kRow Fp2).rs 300 Tryz.f147 [.one ((kRow Fp2).av a),.one ((kRow Fp2).av b)]=mulF2_T f0 f1 a b:=by kernel_rfl
theorem mulF2_sat (f0:Fp2->Fp2->Fp2) (f1:Fp2->Fp2) (a:Fp2) (b:Fp2):(mulF2_T f0 f1 a b).sat fun q=>q=some (mulF2_G f0 f1 a b):=(show some _=some _ from rfl)
def mulF2 (a:Fp2) (b:Fp2):Fp2:=mulF2_G halfF2 wholeF2 a b
theorem mulF2_ok:CallOk Tryz.prog 147 (K2 (kRow Fp2).arg (kRow Fp2).arg (kRow Fp2).rs.res mulF2) :=
 P2 (En_ok (.cons halfF2_ok (.cons wholeF2_ok .nil))) Tryz.func147 (bodied Tryz.func147 (by kernel_rfl) (by kernel_rfl)) 300 (kRow Fp2) (kRow Fp2) (kRow Fp2).rs mulF2 (mulF2_run halfF2 wholeF2) (mulF2_sat halfF2 wholeF2)
def conjF2_G (f0:Fp->Fp) (a:Fp2):Fp2:=({ c0:=a.c0,c1:=f0 a.c1 })
def conjF2_T (f0:Fp->Fp) (a:Fp2):Tree (Option (Fp2)) :=
 (.leaf (some ({ c0:=a.c0,c1:=f0 a.c1 })))
theorem conjF2_run (f0:Fp->Fp) (a:Fp2):plainRun (En [(111,Kf f0)]) (kRow Fp2).rs 300 Tryz.f191 [.one ((kRow Fp2).av a)]=conjF2_T f0 a:=by kernel_rfl
theorem conjF2_sat (f0:Fp->Fp) (a:Fp2):(conjF2_T f0 a).sat fun q=>q=some (conjF2_G f0 a):=(show some _=some _ from rfl)
def conjF2 (a:Fp2):Fp2:=conjF2_G negF a
theorem conjF2_ok:CallOk Tryz.prog 191 (K1 (kRow Fp2).arg (kRow Fp2).rs.res conjF2) :=
 P1 (En_ok (.cons neg_ok .nil)) Tryz.func191 (bodied Tryz.func191 (by kernel_rfl) (by kernel_rfl)) 300 (kRow Fp2) (kRow Fp2).rs conjF2 (conjF2_run negF) (conjF2_sat negF)
def upF2_G (f0:Fp->Fp->Fp) (f1:Fp->Fp->Fp) (a:Fp2):Fp2:=({ c0:=f1 a.c0 a.c1,c1:=f0 a.c0 a.c1 })
def upF2_T (f0:Fp->Fp->Fp) (f1:Fp->Fp->Fp) (a:Fp2):Tree (Option (Fp2)) :=
 (.leaf (some ({ c0:=f1 a.c0 a.c1,c1:=f0 a.c0 a.c1 })))
theorem upF2_run (f0:Fp->Fp->Fp) (f1:Fp->Fp->Fp) (a:Fp2):plainRun (En [(141,Kff f0),(142,Kff f1)]) (kRow Fp2).rs 300 Tryz.f198 [.one ((kRow Fp2).av a)]=upF2_T f0 f1 a:=by kernel_rfl
theorem upF2_sat (f0:Fp->Fp->Fp) (f1:Fp->Fp->Fp) (a:Fp2):(upF2_T f0 f1 a).sat fun q=>q=some (upF2_G f0 f1 a):=(show some _=some _ from rfl)
def upF2 (a:Fp2):Fp2:=upF2_G addF subF a
theorem upF2_ok:CallOk Tryz.prog 198 (K1 (kRow Fp2).arg (kRow Fp2).rs.res upF2) :=
 P1 (En_ok (.cons add_ok (.cons sub_ok .nil))) Tryz.func198 (bodied Tryz.func198 (by kernel_rfl) (by kernel_rfl)) 300 (kRow Fp2) (kRow Fp2).rs upF2 (upF2_run addF subF) (upF2_sat addF subF)
def normF2_G (f0:Fp->Fp->Fp) (f1:Fp->Fp->Fp) (a:Fp2):Fp:=(f0 (f1 a.c0 a.c0) (f1 a.c1 a.c1))
def normF2_T (f0:Fp->Fp->Fp) (f1:Fp->Fp->Fp) (a:Fp2):Tree (Option (Fp)) :=
 (.leaf (some (f0 (f1 a.c0 a.c0) (f1 a.c1 a.c1))))
theorem normF2_run (f0:Fp->Fp->Fp) (f1:Fp->Fp->Fp) (a:Fp2):plainRun (En [(141,Kff f0),(139,Kff f1)]) (kRow Fp).rs 300 Tryz.f202 [.one ((kRow Fp2).av a)]=normF2_T f0 f1 a:=by kernel_rfl
theorem normF2_sat (f0:Fp->Fp->Fp) (f1:Fp->Fp->Fp) (a:Fp2):(normF2_T f0 f1 a).sat fun q=>q=some (normF2_G f0 f1 a):=(show some _=some _ from rfl)
def normF2 (a:Fp2):Fp:=normF2_G addF mulF a
theorem normF2_ok:CallOk Tryz.prog 202 (K1 (kRow Fp2).arg (kRow Fp).rs.res normF2) :=
 P1 (En_ok (.cons add_ok (.cons mul_ok .nil))) Tryz.func202 (bodied Tryz.func202 (by kernel_rfl) (by kernel_rfl)) 300 (kRow Fp2) (kRow Fp).rs normF2 (normF2_run addF mulF) (normF2_sat addF mulF)
def scaledF2_G (f0:Fp->Fp->Fp) (a:Fp2) (k:Fp):Fp2:=({ c0:=f0 a.c0 k,c1:=f0 a.c1 k })
def scaledF2_T (f0:Fp->Fp->Fp) (a:Fp2) (k:Fp):Tree (Option (Fp2)) :=
 (.leaf (some ({ c0:=f0 a.c0 k,c1:=f0 a.c1 k })))
theorem scaledF2_run (f0:Fp->Fp->Fp) (a:Fp2) (k:Fp):plainRun (En [(139,Kff f0)]) (kRow Fp2).rs 300 Tryz.f203 [.one ((kRow Fp2).av a),.one ((kRow Fp).av k)]=scaledF2_T f0 a k:=by kernel_rfl
theorem scaledF2_sat (f0:Fp->Fp->Fp) (a:Fp2) (k:Fp):(scaledF2_T f0 a k).sat fun q=>q=some (scaledF2_G f0 a k):=(show some _=some _ from rfl)
def scaledF2 (a:Fp2) (k:Fp):Fp2:=scaledF2_G mulF a k
theorem scaledF2_ok:CallOk Tryz.prog 203 (K2 (kRow Fp2).arg (kRow Fp).arg (kRow Fp2).rs.res scaledF2) :=
 P2 (En_ok (.cons mul_ok .nil)) Tryz.func203 (bodied Tryz.func203 (by kernel_rfl) (by kernel_rfl)) 300 (kRow Fp2) (kRow Fp) (kRow Fp2).rs scaledF2 (scaledF2_run mulF) (scaledF2_sat mulF)
def invF2_G (f0:Fp->Fp × Int) (f1:Fp2->Fp) (f2:Fp2->Fp->Fp2) (f3:Fp2->Fp2) (a:Fp2):Fp2 × Int:=(match ((f0 (f1 a)).snd != 0) with | true=>((zeroFp2,(f0 (f1 a)).snd)) | false=>((f2 (f3 a) (f0 (f1 a)).fst,0)))
def invF2_T (f0:Fp->Fp × Int) (f1:Fp2->Fp) (f2:Fp2->Fp->Fp2) (f3:Fp2->Fp2) (a:Fp2):Tree (Option (Fp2 × Int)) :=
 (.br ((f0 (f1 a)).snd != 0)
  (.leaf (some ((zeroFp2,(f0 (f1 a)).snd))))
  (.leaf (some ((f2 (f3 a) (f0 (f1 a)).fst,0)))))
theorem invF2_run (f0:Fp->Fp × Int) (f1:Fp2->Fp) (f2:Fp2->Fp->Fp2) (f3:Fp2->Fp2) (a:Fp2):plainRun (En [(137,Kinv f0),(202,K1 (kRow Fp2).arg (kRow Fp).rs.res f1),(203,K2 (kRow Fp2).arg (kRow Fp).arg (kRow Fp2).rs.res f2),(191,K1 (kRow Fp2).arg (kRow Fp2).rs.res f3)]) ((kRow Fp2).rs2 kInt) 300 Tryz.f199 [.one ((kRow Fp2).av a)]=invF2_T f0 f1 f2 f3 a:=by kernel_rfl
theorem invF2_sat (f0:Fp->Fp × Int) (f1:Fp2->Fp) (f2:Fp2->Fp->Fp2) (f3:Fp2->Fp2) (a:Fp2):(invF2_T f0 f1 f2 f3 a).sat fun q=>q=some (invF2_G f0 f1 f2 f3 a):=⟨fun h0=>(show some _=some _ from congrArg some (by unfold invF2_G;rw [h0])),fun h0=>(show some _=some _ from congrArg some (by unfold invF2_G;rw [h0]))⟩
def invF2 (a:Fp2):Fp2 × Int:=invF2_G invF normF2 scaledF2 conjF2 a
theorem invF2_ok:CallOk Tryz.prog 199 (K1 (kRow Fp2).arg ((kRow Fp2).rs2 kInt).res invF2) :=
 P1 (En_ok (.cons inv_ok (.cons normF2_ok (.cons scaledF2_ok (.cons conjF2_ok .nil))))) Tryz.func199 (bodied Tryz.func199 (by kernel_rfl) (by kernel_rfl)) 300 (kRow Fp2) ((kRow Fp2).rs2 kInt) invF2 (invF2_run invF normF2 scaledF2 conjF2) (invF2_sat invF normF2 scaledF2 conjF2)
end
section
def add2R_G (f0:Fp->Fp->Fp) (a:Fp2) (b:Fp2):Fp2:=({ c0:=f0 a.c0 b.c0,c1:=f0 a.c1 b.c1 })
def add2R_T (f0:Fp->Fp->Fp) (a:Fp2) (b:Fp2):Tree (Option (Fp2)) :=
 (.leaf (some ({ c0:=f0 a.c0 b.c0,c1:=f0 a.c1 b.c1 })))
theorem add2R_run (f0:Fp->Fp->Fp) (a:Fp2) (b:Fp2):plainRun (En [(78,Kff f0)]) (kRow Fp2).rs 300 Tryz.f117 [.one ((kRow Fp2).av a),.one ((kRow Fp2).av b)]=add2R_T f0 a b:=by kernel_rfl
theorem add2R_sat (f0:Fp->Fp->Fp) (a:Fp2) (b:Fp2):(add2R_T f0 a b).sat fun q=>q=some (add2R_G f0 a b):=(show some _=some _ from rfl)
def add2R (a:Fp2) (b:Fp2):Fp2:=add2R_G addPF a b
theorem add2R_ok:CallOk Tryz.prog 117 (K2 (kRow Fp2).arg (kRow Fp2).arg (kRow Fp2).rs.res add2R) :=
 P2 (En_ok (.cons addP_ok .nil)) Tryz.func117 (bodied Tryz.func117 (by kernel_rfl) (by kernel_rfl)) 300 (kRow Fp2) (kRow Fp2) (kRow Fp2).rs add2R (add2R_run addPF) (add2R_sat addPF)
def sub2R_G (f0:Fp->Fp->Fp) (a:Fp2) (b:Fp2):Fp2:=({ c0:=f0 a.c0 b.c0,c1:=f0 a.c1 b.c1 })
def sub2R_T (f0:Fp->Fp->Fp) (a:Fp2) (b:Fp2):Tree (Option (Fp2)) :=
 (.leaf (some ({ c0:=f0 a.c0 b.c0,c1:=f0 a.c1 b.c1 })))
theorem sub2R_run (f0:Fp->Fp->Fp) (a:Fp2) (b:Fp2):plainRun (En [(164,Kff f0)]) (kRow Fp2).rs 300 Tryz.f116 [.one ((kRow Fp2).av a),.one ((kRow Fp2).av b)]=sub2R_T f0 a b:=by kernel_rfl
theorem sub2R_sat (f0:Fp->Fp->Fp) (a:Fp2) (b:Fp2):(sub2R_T f0 a b).sat fun q=>q=some (sub2R_G f0 a b):=(show some _=some _ from rfl)
def sub2R (a:Fp2) (b:Fp2):Fp2:=sub2R_G subPF a b
theorem sub2R_ok:CallOk Tryz.prog 116 (K2 (kRow Fp2).arg (kRow Fp2).arg (kRow Fp2).rs.res sub2R) :=
 P2 (En_ok (.cons subP_ok .nil)) Tryz.func116 (bodied Tryz.func116 (by kernel_rfl) (by kernel_rfl)) 300 (kRow Fp2) (kRow Fp2) (kRow Fp2).rs sub2R (sub2R_run subPF) (sub2R_sat subPF)
def mul2R_G (f0:Fp->Fp->Fp) (f1:Fp->Fp->Fp) (f2:Fp->Fp->Fp) (a:Fp2) (b:Fp2):Fp2:=({ c0:=f0 (f1 a.c0 b.c0) (f1 a.c1 b.c1),c1:=f2 (f1 a.c0 b.c1) (f1 a.c1 b.c0) })
def mul2R_T (f0:Fp->Fp->Fp) (f1:Fp->Fp->Fp) (f2:Fp->Fp->Fp) (a:Fp2) (b:Fp2):Tree (Option (Fp2)) :=
 (.leaf (some ({ c0:=f0 (f1 a.c0 b.c0) (f1 a.c1 b.c1),c1:=f2 (f1 a.c0 b.c1) (f1 a.c1 b.c0) })))
theorem mul2R_run (f0:Fp->Fp->Fp) (f1:Fp->Fp->Fp) (f2:Fp->Fp->Fp) (a:Fp2) (b:Fp2):plainRun (En [(164,Kff f0),(79,Kff f1),(78,Kff f2)]) (kRow Fp2).rs 300 Tryz.f163 [.one ((kRow Fp2).av a),.one ((kRow Fp2).av b)]=mul2R_T f0 f1 f2 a b:=by kernel_rfl
theorem mul2R_sat (f0:Fp->Fp->Fp) (f1:Fp->Fp->Fp) (f2:Fp->Fp->Fp) (a:Fp2) (b:Fp2):(mul2R_T f0 f1 f2 a b).sat fun q=>q=some (mul2R_G f0 f1 f2 a b):=(show some _=some _ from rfl)
def mul2R (a:Fp2) (b:Fp2):Fp2:=mul2R_G subPF mulPF addPF a b
theorem mul2R_ok:CallOk Tryz.prog 163 (K2 (kRow Fp2).arg (kRow Fp2).arg (kRow Fp2).rs.res mul2R) :=
 P2 (En_ok (.cons subP_ok (.cons mulP_ok (.cons addP_ok .nil)))) Tryz.func163 (bodied Tryz.func163 (by kernel_rfl) (by kernel_rfl)) 300 (kRow Fp2) (kRow Fp2) (kRow Fp2).rs mul2R (mul2R_run subPF mulPF addPF) (mul2R_sat subPF mulPF addPF)
def conj2R_G (f0:Fp->Fp) (a:Fp2):Fp2:=({ c0:=a.c0,c1:=f0 a.c1 })
def conj2R_T (f0:Fp->Fp) (a:Fp2):Tree (Option (Fp2)) :=
 (.leaf (some ({ c0:=a.c0,c1:=f0 a.c1 })))
theorem conj2R_run (f0:Fp->Fp) (a:Fp2):plainRun (En [(127,Kf f0)]) (kRow Fp2).rs 300 Tryz.f195 [.one ((kRow Fp2).av a)]=conj2R_T f0 a:=by kernel_rfl
theorem conj2R_sat (f0:Fp->Fp) (a:Fp2):(conj2R_T f0 a).sat fun q=>q=some (conj2R_G f0 a):=(show some _=some _ from rfl)
def conj2R (a:Fp2):Fp2:=conj2R_G negPF a
theorem conj2R_ok:CallOk Tryz.prog 195 (K1 (kRow Fp2).arg (kRow Fp2).rs.res conj2R) :=
 P1 (En_ok (.cons negP_ok .nil)) Tryz.func195 (bodied Tryz.func195 (by kernel_rfl) (by kernel_rfl)) 300 (kRow Fp2) (kRow Fp2).rs conj2R (conj2R_run negPF) (conj2R_sat negPF)
def one2R_G (f0:UInt64->Fp):Fp2:=({ c0:=f0 (1:UInt64),c1:=zeroFp })
def one2R_T (f0:UInt64->Fp):Tree (Option (Fp2)) :=
 (.leaf (some ({ c0:=f0 (1:UInt64),c1:=zeroFp })))
theorem one2R_run (f0:UInt64->Fp):plainRun (En [(76,Kof f0)]) (kRow Fp2).rs 300 Tryz.f120 []=one2R_T f0:=by kernel_rfl
theorem one2R_sat (f0:UInt64->Fp):(one2R_T f0).sat fun q=>q=some (one2R_G f0):=(show some _=some _ from rfl)
def one2R  : Fp2:=one2R_G ofF
theorem one2R_ok:CallOk Tryz.prog 120 (K0 (kRow Fp2).rs.res one2R) :=
 P0 (En_ok (.cons ofP_ok .nil)) Tryz.func120 (bodied Tryz.func120 (by kernel_rfl) (by kernel_rfl)) 300  (kRow Fp2).rs one2R (one2R_run ofF) (one2R_sat ofF)
def xi2R_G (f0:UInt64->Fp):Fp2:=({ c0:=f0 (1:UInt64),c1:=f0 (1:UInt64) })
def xi2R_T (f0:UInt64->Fp):Tree (Option (Fp2)) :=
 (.leaf (some ({ c0:=f0 (1:UInt64),c1:=f0 (1:UInt64) })))
theorem xi2R_run (f0:UInt64->Fp):plainRun (En [(76,Kof f0)]) (kRow Fp2).rs 300 Tryz.f165 []=xi2R_T f0:=by kernel_rfl
theorem xi2R_sat (f0:UInt64->Fp):(xi2R_T f0).sat fun q=>q=some (xi2R_G f0):=(show some _=some _ from rfl)
def xi2R  : Fp2:=xi2R_G ofF
theorem xi2R_ok:CallOk Tryz.prog 165 (K0 (kRow Fp2).rs.res xi2R) :=
 P0 (En_ok (.cons ofP_ok .nil)) Tryz.func165 (bodied Tryz.func165 (by kernel_rfl) (by kernel_rfl)) 300  (kRow Fp2).rs xi2R (xi2R_run ofF) (xi2R_sat ofF)
def inv2R_G (f0:Fp2->Fp2->Fp2) (f1:Fp2->Fp2) (f2:Fp->Fp × Int) (a:Fp2):Fp2 × Int:=(match ((f2 (f0 a (f1 a)).c0).snd != 0) with | true=>((zeroFp2,(f2 (f0 a (f1 a)).c0).snd)) | false=>((f0 (f1 a) { c0:=(f2 (f0 a (f1 a)).c0).fst,c1:=zeroFp },0)))
def inv2R_T (f0:Fp2->Fp2->Fp2) (f1:Fp2->Fp2) (f2:Fp->Fp × Int) (a:Fp2):Tree (Option (Fp2 × Int)) :=
 (.br ((f2 (f0 a (f1 a)).c0).snd != 0)
  (.leaf (some ((zeroFp2,(f2 (f0 a (f1 a)).c0).snd))))
  (.leaf (some ((f0 (f1 a) { c0:=(f2 (f0 a (f1 a)).c0).fst,c1:=zeroFp },0)))))
theorem inv2R_run (f0:Fp2->Fp2->Fp2) (f1:Fp2->Fp2) (f2:Fp->Fp × Int) (a:Fp2):plainRun (En [(163,K2 (kRow Fp2).arg (kRow Fp2).arg (kRow Fp2).rs.res f0),(195,K1 (kRow Fp2).arg (kRow Fp2).rs.res f1),(114,Kinv f2)]) ((kRow Fp2).rs2 kInt) 300 Tryz.f162 [.one ((kRow Fp2).av a)]=inv2R_T f0 f1 f2 a:=by kernel_rfl
theorem inv2R_sat (f0:Fp2->Fp2->Fp2) (f1:Fp2->Fp2) (f2:Fp->Fp × Int) (a:Fp2):(inv2R_T f0 f1 f2 a).sat fun q=>q=some (inv2R_G f0 f1 f2 a):=⟨fun h0=>(show some _=some _ from congrArg some (by unfold inv2R_G;rw [h0])),fun h0=>(show some _=some _ from congrArg some (by unfold inv2R_G;rw [h0]))⟩
def inv2R (a:Fp2):Fp2 × Int:=inv2R_G mul2R conj2R invPF a
theorem inv2R_ok:CallOk Tryz.prog 162 (K1 (kRow Fp2).arg ((kRow Fp2).rs2 kInt).res inv2R) :=
 P1 (En_ok (.cons mul2R_ok (.cons conj2R_ok (.cons invP_ok .nil)))) Tryz.func162 (bodied Tryz.func162 (by kernel_rfl) (by kernel_rfl)) 300 (kRow Fp2) ((kRow Fp2).rs2 kInt) inv2R (inv2R_run mul2R conj2R invPF) (inv2R_sat mul2R conj2R invPF)
end
section
def with6a_G (f0:Fp2->Fp2->Fp2) (a:Fp6) (b:Fp6) (f:Unit):Fp6:=({ c0:=f0 a.c0 b.c0,c1:=f0 a.c1 b.c1,c2:=f0 a.c2 b.c2 })
def with6a_T (f0:Fp2->Fp2->Fp2) (a:Fp6) (b:Fp6) (f:Unit):Tree (Option (Fp6)) :=
 (.leaf (some ({ c0:=f0 a.c0 b.c0,c1:=f0 a.c1 b.c1,c2:=f0 a.c2 b.c2 })))
theorem with6a_run (f0:Fp2->Fp2->Fp2) (a:Fp6) (b:Fp6) (f:Unit):plainRun (En [(178,K2 (kRow Fp2).arg (kRow Fp2).arg (kRow Fp2).rs.res f0)]) (kRow Fp6).rs 300 Tryz.f197 [.one ((kRow Fp6).av a),.one ((kRow Fp6).av b),.one ((kFn 178).av f)]=with6a_T f0 a b f:=by kernel_rfl
theorem with6a_sat (f0:Fp2->Fp2->Fp2) (a:Fp6) (b:Fp6) (f:Unit):(with6a_T f0 a b f).sat fun q=>q=some (with6a_G f0 a b f):=(show some _=some _ from rfl)
def with6a (a:Fp6) (b:Fp6) (f:Unit):Fp6:=with6a_G addF2 a b f
theorem with6a_ok:CallOk Tryz.prog 197 (K3 (kRow Fp6).arg (kRow Fp6).arg (kFn 178).arg (kRow Fp6).rs.res with6a) :=
 P3 (En_ok (.cons addF2_ok .nil)) Tryz.func197 (bodied Tryz.func197 (by kernel_rfl) (by kernel_rfl)) 300 (kRow Fp6) (kRow Fp6) (kFn 178) (kRow Fp6).rs with6a (with6a_run addF2) (with6a_sat addF2)
def with6s_G (f0:Fp2->Fp2->Fp2) (a:Fp6) (b:Fp6) (f:Unit):Fp6:=({ c0:=f0 a.c0 b.c0,c1:=f0 a.c1 b.c1,c2:=f0 a.c2 b.c2 })
def with6s_T (f0:Fp2->Fp2->Fp2) (a:Fp6) (b:Fp6) (f:Unit):Tree (Option (Fp6)) :=
 (.leaf (some ({ c0:=f0 a.c0 b.c0,c1:=f0 a.c1 b.c1,c2:=f0 a.c2 b.c2 })))
theorem with6s_run (f0:Fp2->Fp2->Fp2) (a:Fp6) (b:Fp6) (f:Unit):plainRun (En [(179,K2 (kRow Fp2).arg (kRow Fp2).arg (kRow Fp2).rs.res f0)]) (kRow Fp6).rs 300 Tryz.f197 [.one ((kRow Fp6).av a),.one ((kRow Fp6).av b),.one ((kFn 179).av f)]=with6s_T f0 a b f:=by kernel_rfl
theorem with6s_sat (f0:Fp2->Fp2->Fp2) (a:Fp6) (b:Fp6) (f:Unit):(with6s_T f0 a b f).sat fun q=>q=some (with6s_G f0 a b f):=(show some _=some _ from rfl)
def with6s (a:Fp6) (b:Fp6) (f:Unit):Fp6:=with6s_G subF2 a b f
theorem with6s_ok:CallOk Tryz.prog 197 (K3 (kRow Fp6).arg (kRow Fp6).arg (kFn 179).arg (kRow Fp6).rs.res with6s) :=
 P3 (En_ok (.cons subF2_ok .nil)) Tryz.func197 (bodied Tryz.func197 (by kernel_rfl) (by kernel_rfl)) 300 (kRow Fp6) (kRow Fp6) (kFn 179) (kRow Fp6).rs with6s (with6s_run subF2) (with6s_sat subF2)
def addF6_G (f0:Fp6->Fp6->Unit->Fp6) (a:Fp6) (b:Fp6):Fp6:=(f0 a b ())
def addF6_T (f0:Fp6->Fp6->Unit->Fp6) (a:Fp6) (b:Fp6):Tree (Option (Fp6)) :=
 (.leaf (some (f0 a b ())))
theorem addF6_run (f0:Fp6->Fp6->Unit->Fp6) (a:Fp6) (b:Fp6):plainRun (En [(197,K3 (kRow Fp6).arg (kRow Fp6).arg (kFn 178).arg (kRow Fp6).rs.res f0)]) (kRow Fp6).rs 300 Tryz.f187 [.one ((kRow Fp6).av a),.one ((kRow Fp6).av b)]=addF6_T f0 a b:=by kernel_rfl
theorem addF6_sat (f0:Fp6->Fp6->Unit->Fp6) (a:Fp6) (b:Fp6):(addF6_T f0 a b).sat fun q=>q=some (addF6_G f0 a b):=(show some _=some _ from rfl)
def addF6 (a:Fp6) (b:Fp6):Fp6:=addF6_G with6a a b
theorem addF6_ok:CallOk Tryz.prog 187 (K2 (kRow Fp6).arg (kRow Fp6).arg (kRow Fp6).rs.res addF6) :=
 P2 (En_ok (.cons with6a_ok .nil)) Tryz.func187 (bodied Tryz.func187 (by kernel_rfl) (by kernel_rfl)) 300 (kRow Fp6) (kRow Fp6) (kRow Fp6).rs addF6 (addF6_run with6a) (addF6_sat with6a)
def subF6_G (f0:Fp6->Fp6->Unit->Fp6) (a:Fp6) (b:Fp6):Fp6:=(f0 a b ())
def subF6_T (f0:Fp6->Fp6->Unit->Fp6) (a:Fp6) (b:Fp6):Tree (Option (Fp6)) :=
 (.leaf (some (f0 a b ())))
theorem subF6_run (f0:Fp6->Fp6->Unit->Fp6) (a:Fp6) (b:Fp6):plainRun (En [(197,K3 (kRow Fp6).arg (kRow Fp6).arg (kFn 179).arg (kRow Fp6).rs.res f0)]) (kRow Fp6).rs 300 Tryz.f181 [.one ((kRow Fp6).av a),.one ((kRow Fp6).av b)]=subF6_T f0 a b:=by kernel_rfl
theorem subF6_sat (f0:Fp6->Fp6->Unit->Fp6) (a:Fp6) (b:Fp6):(subF6_T f0 a b).sat fun q=>q=some (subF6_G f0 a b):=(show some _=some _ from rfl)
def subF6 (a:Fp6) (b:Fp6):Fp6:=subF6_G with6s a b
theorem subF6_ok:CallOk Tryz.prog 181 (K2 (kRow Fp6).arg (kRow Fp6).arg (kRow Fp6).rs.res subF6) :=
 P2 (En_ok (.cons with6s_ok .nil)) Tryz.func181 (bodied Tryz.func181 (by kernel_rfl) (by kernel_rfl)) 300 (kRow Fp6) (kRow Fp6) (kRow Fp6).rs subF6 (subF6_run with6s) (subF6_sat with6s)
def negF6_G (f0:Fp6->Fp6->Fp6) (a:Fp6):Fp6:=(f0 zeroFp6 a)
def negF6_T (f0:Fp6->Fp6->Fp6) (a:Fp6):Tree (Option (Fp6)) :=
 (.leaf (some (f0 zeroFp6 a)))
theorem negF6_run (f0:Fp6->Fp6->Fp6) (a:Fp6):plainRun (En [(181,K2 (kRow Fp6).arg (kRow Fp6).arg (kRow Fp6).rs.res f0)]) (kRow Fp6).rs 300 Tryz.f185 [.one ((kRow Fp6).av a)]=negF6_T f0 a:=by kernel_rfl
theorem negF6_sat (f0:Fp6->Fp6->Fp6) (a:Fp6):(negF6_T f0 a).sat fun q=>q=some (negF6_G f0 a):=(show some _=some _ from rfl)
def negF6 (a:Fp6):Fp6:=negF6_G subF6 a
theorem negF6_ok:CallOk Tryz.prog 185 (K1 (kRow Fp6).arg (kRow Fp6).rs.res negF6) :=
 P1 (En_ok (.cons subF6_ok .nil)) Tryz.func185 (bodied Tryz.func185 (by kernel_rfl) (by kernel_rfl)) 300 (kRow Fp6) (kRow Fp6).rs negF6 (negF6_run subF6) (negF6_sat subF6)
def upF6_G (f0:Fp2->Fp2) (a:Fp6):Fp6:=({ c0:=f0 a.c2,c1:=a.c0,c2:=a.c1 })
def upF6_T (f0:Fp2->Fp2) (a:Fp6):Tree (Option (Fp6)) :=
 (.leaf (some ({ c0:=f0 a.c2,c1:=a.c0,c2:=a.c1 })))
theorem upF6_run (f0:Fp2->Fp2) (a:Fp6):plainRun (En [(198,K1 (kRow Fp2).arg (kRow Fp2).rs.res f0)]) (kRow Fp6).rs 300 Tryz.f183 [.one ((kRow Fp6).av a)]=upF6_T f0 a:=by kernel_rfl
theorem upF6_sat (f0:Fp2->Fp2) (a:Fp6):(upF6_T f0 a).sat fun q=>q=some (upF6_G f0 a):=(show some _=some _ from rfl)
def upF6 (a:Fp6):Fp6:=upF6_G upF2 a
theorem upF6_ok:CallOk Tryz.prog 183 (K1 (kRow Fp6).arg (kRow Fp6).rs.res upF6) :=
 P1 (En_ok (.cons upF2_ok .nil)) Tryz.func183 (bodied Tryz.func183 (by kernel_rfl) (by kernel_rfl)) 300 (kRow Fp6) (kRow Fp6).rs upF6 (upF6_run upF2) (upF6_sat upF2)
def wholeF6_G (f0:Fp2->Fp2) (a:Fp6):Fp6:=({ c0:=f0 a.c0,c1:=f0 a.c1,c2:=f0 a.c2 })
def wholeF6_T (f0:Fp2->Fp2) (a:Fp6):Tree (Option (Fp6)) :=
 (.leaf (some ({ c0:=f0 a.c0,c1:=f0 a.c1,c2:=f0 a.c2 })))
theorem wholeF6_run (f0:Fp2->Fp2) (a:Fp6):plainRun (En [(151,K1 (kRow Fp2).arg (kRow Fp2).rs.res f0)]) (kRow Fp6).rs 300 Tryz.f188 [.one ((kRow Fp6).av a)]=wholeF6_T f0 a:=by kernel_rfl
theorem wholeF6_sat (f0:Fp2->Fp2) (a:Fp6):(wholeF6_T f0 a).sat fun q=>q=some (wholeF6_G f0 a):=(show some _=some _ from rfl)
def wholeF6 (a:Fp6):Fp6:=wholeF6_G wholeF2 a
theorem wholeF6_ok:CallOk Tryz.prog 188 (K1 (kRow Fp6).arg (kRow Fp6).rs.res wholeF6) :=
 P1 (En_ok (.cons wholeF2_ok .nil)) Tryz.func188 (bodied Tryz.func188 (by kernel_rfl) (by kernel_rfl)) 300 (kRow Fp6) (kRow Fp6).rs wholeF6 (wholeF6_run wholeF2) (wholeF6_sat wholeF2)
def lowF6_G (f0:Fp2->Fp2) (a:Fp6):Fp6:=({ c0:=f0 a.c0,c1:=f0 a.c1,c2:=f0 a.c2 })
def lowF6_T (f0:Fp2->Fp2) (a:Fp6):Tree (Option (Fp6)) :=
 (.leaf (some ({ c0:=f0 a.c0,c1:=f0 a.c1,c2:=f0 a.c2 })))
theorem lowF6_run (f0:Fp2->Fp2) (a:Fp6):plainRun (En [(180,K1 (kRow Fp2).arg (kRow Fp2).rs.res f0)]) (kRow Fp6).rs 300 Tryz.f152 [.one ((kRow Fp6).av a)]=lowF6_T f0 a:=by kernel_rfl
theorem lowF6_sat (f0:Fp2->Fp2) (a:Fp6):(lowF6_T f0 a).sat fun q=>q=some (lowF6_G f0 a):=(show some _=some _ from rfl)
def lowF6 (a:Fp6):Fp6:=lowF6_G lowF2 a
theorem lowF6_ok:CallOk Tryz.prog 152 (K1 (kRow Fp6).arg (kRow Fp6).rs.res lowF6) :=
 P1 (En_ok (.cons lowF2_ok .nil)) Tryz.func152 (bodied Tryz.func152 (by kernel_rfl) (by kernel_rfl)) 300 (kRow Fp6) (kRow Fp6).rs lowF6 (lowF6_run lowF2) (lowF6_sat lowF2)
def cross01_G (f0:Fp2->Fp2->Fp2) (f1:Fp2->Fp2->Fp2) (f2:Fp2->Fp2->Fp2) (a:Fp6) (b:Fp6) (i:Unit) (j:Unit) (x:Fp2) (y:Fp2):Fp2:=(f2 (f0 (f1 a.c0 a.c1) (f1 b.c0 b.c1)) (f1 x y))
def cross01_T (f0:Fp2->Fp2->Fp2) (f1:Fp2->Fp2->Fp2) (f2:Fp2->Fp2->Fp2) (a:Fp6) (b:Fp6) (i:Unit) (j:Unit) (x:Fp2) (y:Fp2):Tree (Option (Fp2)) :=
 (.leaf (some (f2 (f0 (f1 a.c0 a.c1) (f1 b.c0 b.c1)) (f1 x y))))
theorem cross01_run (f0:Fp2->Fp2->Fp2) (f1:Fp2->Fp2->Fp2) (f2:Fp2->Fp2->Fp2) (a:Fp6) (b:Fp6) (i:Unit) (j:Unit) (x:Fp2) (y:Fp2):plainRun (En [(177,K2 (kRow Fp2).arg (kRow Fp2).arg (kRow Fp2).rs.res f0),(178,K2 (kRow Fp2).arg (kRow Fp2).arg (kRow Fp2).rs.res f1),(179,K2 (kRow Fp2).arg (kRow Fp2).arg (kRow Fp2).rs.res f2)]) (kRow Fp2).rs 300 Tryz.f200 [.one ((kRow Fp6).av a),.one ((kRow Fp6).av b),.one ((kLit 0).av i),.one ((kLit 1).av j),.one ((kRow Fp2).av x),.one ((kRow Fp2).av y)]=cross01_T f0 f1 f2 a b i j x y:=by kernel_rfl
theorem cross01_sat (f0:Fp2->Fp2->Fp2) (f1:Fp2->Fp2->Fp2) (f2:Fp2->Fp2->Fp2) (a:Fp6) (b:Fp6) (i:Unit) (j:Unit) (x:Fp2) (y:Fp2):(cross01_T f0 f1 f2 a b i j x y).sat fun q=>q=some (cross01_G f0 f1 f2 a b i j x y):=(show some _=some _ from rfl)
def cross01 (a:Fp6) (b:Fp6) (i:Unit) (j:Unit) (x:Fp2) (y:Fp2):Fp2:=cross01_G halfF2 addF2 subF2 a b i j x y
theorem cross01_ok:CallOk Tryz.prog 200 (KN (KdL.cons (kRow Fp6) (KdL.cons (kRow Fp6) (KdL.cons (kLit 0) (KdL.cons (kLit 1) (KdL.cons (kRow Fp2) (KdL.cons (kRow Fp2) KdL.nil)))))) (kRow Fp2).rs.res (fun x=>cross01 x.1 x.2.1 x.2.2.1 x.2.2.2.1 x.2.2.2.2.1 x.2.2.2.2.2.1)) :=
 PN (En_ok (.cons halfF2_ok (.cons addF2_ok (.cons subF2_ok .nil)))) Tryz.func200 (bodied Tryz.func200 (by kernel_rfl) (by kernel_rfl)) 300 (KdL.cons (kRow Fp6) (KdL.cons (kRow Fp6) (KdL.cons (kLit 0) (KdL.cons (kLit 1) (KdL.cons (kRow Fp2) (KdL.cons (kRow Fp2) KdL.nil)))))) (kRow Fp2).rs (fun x=>cross01 x.1 x.2.1 x.2.2.1 x.2.2.2.1 x.2.2.2.2.1 x.2.2.2.2.2.1) (T:=fun x=>cross01_T halfF2 addF2 subF2 x.1 x.2.1 x.2.2.1 x.2.2.2.1 x.2.2.2.2.1 x.2.2.2.2.2.1) (fun x=>cross01_run halfF2 addF2 subF2 x.1 x.2.1 x.2.2.1 x.2.2.2.1 x.2.2.2.2.1 x.2.2.2.2.2.1) (fun x=>cross01_sat halfF2 addF2 subF2 x.1 x.2.1 x.2.2.1 x.2.2.2.1 x.2.2.2.2.1 x.2.2.2.2.2.1)
def cross02_G (f0:Fp2->Fp2->Fp2) (f1:Fp2->Fp2->Fp2) (f2:Fp2->Fp2->Fp2) (a:Fp6) (b:Fp6) (i:Unit) (j:Unit) (x:Fp2) (y:Fp2):Fp2:=(f2 (f0 (f1 a.c0 a.c2) (f1 b.c0 b.c2)) (f1 x y))
def cross02_T (f0:Fp2->Fp2->Fp2) (f1:Fp2->Fp2->Fp2) (f2:Fp2->Fp2->Fp2) (a:Fp6) (b:Fp6) (i:Unit) (j:Unit) (x:Fp2) (y:Fp2):Tree (Option (Fp2)) :=
 (.leaf (some (f2 (f0 (f1 a.c0 a.c2) (f1 b.c0 b.c2)) (f1 x y))))
theorem cross02_run (f0:Fp2->Fp2->Fp2) (f1:Fp2->Fp2->Fp2) (f2:Fp2->Fp2->Fp2) (a:Fp6) (b:Fp6) (i:Unit) (j:Unit) (x:Fp2) (y:Fp2):plainRun (En [(177,K2 (kRow Fp2).arg (kRow Fp2).arg (kRow Fp2).rs.res f0),(178,K2 (kRow Fp2).arg (kRow Fp2).arg (kRow Fp2).rs.res f1),(179,K2 (kRow Fp2).arg (kRow Fp2).arg (kRow Fp2).rs.res f2)]) (kRow Fp2).rs 300 Tryz.f200 [.one ((kRow Fp6).av a),.one ((kRow Fp6).av b),.one ((kLit 0).av i),.one ((kLit 2).av j),.one ((kRow Fp2).av x),.one ((kRow Fp2).av y)]=cross02_T f0 f1 f2 a b i j x y:=by kernel_rfl
theorem cross02_sat (f0:Fp2->Fp2->Fp2) (f1:Fp2->Fp2->Fp2) (f2:Fp2->Fp2->Fp2) (a:Fp6) (b:Fp6) (i:Unit) (j:Unit) (x:Fp2) (y:Fp2):(cross02_T f0 f1 f2 a b i j x y).sat fun q=>q=some (cross02_G f0 f1 f2 a b i j x y):=(show some _=some _ from rfl)
def cross02 (a:Fp6) (b:Fp6) (i:Unit) (j:Unit) (x:Fp2) (y:Fp2):Fp2:=cross02_G halfF2 addF2 subF2 a b i j x y
theorem cross02_ok:CallOk Tryz.prog 200 (KN (KdL.cons (kRow Fp6) (KdL.cons (kRow Fp6) (KdL.cons (kLit 0) (KdL.cons (kLit 2) (KdL.cons (kRow Fp2) (KdL.cons (kRow Fp2) KdL.nil)))))) (kRow Fp2).rs.res (fun x=>cross02 x.1 x.2.1 x.2.2.1 x.2.2.2.1 x.2.2.2.2.1 x.2.2.2.2.2.1)) :=
 PN (En_ok (.cons halfF2_ok (.cons addF2_ok (.cons subF2_ok .nil)))) Tryz.func200 (bodied Tryz.func200 (by kernel_rfl) (by kernel_rfl)) 300 (KdL.cons (kRow Fp6) (KdL.cons (kRow Fp6) (KdL.cons (kLit 0) (KdL.cons (kLit 2) (KdL.cons (kRow Fp2) (KdL.cons (kRow Fp2) KdL.nil)))))) (kRow Fp2).rs (fun x=>cross02 x.1 x.2.1 x.2.2.1 x.2.2.2.1 x.2.2.2.2.1 x.2.2.2.2.2.1) (T:=fun x=>cross02_T halfF2 addF2 subF2 x.1 x.2.1 x.2.2.1 x.2.2.2.1 x.2.2.2.2.1 x.2.2.2.2.2.1) (fun x=>cross02_run halfF2 addF2 subF2 x.1 x.2.1 x.2.2.1 x.2.2.2.1 x.2.2.2.2.1 x.2.2.2.2.2.1) (fun x=>cross02_sat halfF2 addF2 subF2 x.1 x.2.1 x.2.2.1 x.2.2.2.1 x.2.2.2.2.1 x.2.2.2.2.2.1)
def cross12_G (f0:Fp2->Fp2->Fp2) (f1:Fp2->Fp2->Fp2) (f2:Fp2->Fp2->Fp2) (a:Fp6) (b:Fp6) (i:Unit) (j:Unit) (x:Fp2) (y:Fp2):Fp2:=(f2 (f0 (f1 a.c1 a.c2) (f1 b.c1 b.c2)) (f1 x y))
def cross12_T (f0:Fp2->Fp2->Fp2) (f1:Fp2->Fp2->Fp2) (f2:Fp2->Fp2->Fp2) (a:Fp6) (b:Fp6) (i:Unit) (j:Unit) (x:Fp2) (y:Fp2):Tree (Option (Fp2)) :=
 (.leaf (some (f2 (f0 (f1 a.c1 a.c2) (f1 b.c1 b.c2)) (f1 x y))))
theorem cross12_run (f0:Fp2->Fp2->Fp2) (f1:Fp2->Fp2->Fp2) (f2:Fp2->Fp2->Fp2) (a:Fp6) (b:Fp6) (i:Unit) (j:Unit) (x:Fp2) (y:Fp2):plainRun (En [(177,K2 (kRow Fp2).arg (kRow Fp2).arg (kRow Fp2).rs.res f0),(178,K2 (kRow Fp2).arg (kRow Fp2).arg (kRow Fp2).rs.res f1),(179,K2 (kRow Fp2).arg (kRow Fp2).arg (kRow Fp2).rs.res f2)]) (kRow Fp2).rs 300 Tryz.f200 [.one ((kRow Fp6).av a),.one ((kRow Fp6).av b),.one ((kLit 1).av i),.one ((kLit 2).av j),.one ((kRow Fp2).av x),.one ((kRow Fp2).av y)]=cross12_T f0 f1 f2 a b i j x y:=by kernel_rfl
theorem cross12_sat (f0:Fp2->Fp2->Fp2) (f1:Fp2->Fp2->Fp2) (f2:Fp2->Fp2->Fp2) (a:Fp6) (b:Fp6) (i:Unit) (j:Unit) (x:Fp2) (y:Fp2):(cross12_T f0 f1 f2 a b i j x y).sat fun q=>q=some (cross12_G f0 f1 f2 a b i j x y):=(show some _=some _ from rfl)
def cross12 (a:Fp6) (b:Fp6) (i:Unit) (j:Unit) (x:Fp2) (y:Fp2):Fp2:=cross12_G halfF2 addF2 subF2 a b i j x y
theorem cross12_ok:CallOk Tryz.prog 200 (KN (KdL.cons (kRow Fp6) (KdL.cons (kRow Fp6) (KdL.cons (kLit 1) (KdL.cons (kLit 2) (KdL.cons (kRow Fp2) (KdL.cons (kRow Fp2) KdL.nil)))))) (kRow Fp2).rs.res (fun x=>cross12 x.1 x.2.1 x.2.2.1 x.2.2.2.1 x.2.2.2.2.1 x.2.2.2.2.2.1)) :=
 PN (En_ok (.cons halfF2_ok (.cons addF2_ok (.cons subF2_ok .nil)))) Tryz.func200 (bodied Tryz.func200 (by kernel_rfl) (by kernel_rfl)) 300 (KdL.cons (kRow Fp6) (KdL.cons (kRow Fp6) (KdL.cons (kLit 1) (KdL.cons (kLit 2) (KdL.cons (kRow Fp2) (KdL.cons (kRow Fp2) KdL.nil)))))) (kRow Fp2).rs (fun x=>cross12 x.1 x.2.1 x.2.2.1 x.2.2.2.1 x.2.2.2.2.1 x.2.2.2.2.2.1) (T:=fun x=>cross12_T halfF2 addF2 subF2 x.1 x.2.1 x.2.2.1 x.2.2.2.1 x.2.2.2.2.1 x.2.2.2.2.2.1) (fun x=>cross12_run halfF2 addF2 subF2 x.1 x.2.1 x.2.2.1 x.2.2.2.1 x.2.2.2.2.1 x.2.2.2.2.2.1) (fun x=>cross12_sat halfF2 addF2 subF2 x.1 x.2.1 x.2.2.1 x.2.2.2.1 x.2.2.2.2.1 x.2.2.2.2.2.1)
end
section
def invF6_G (f0:Fp2->Fp2->Fp2) (f1:Fp2->Fp2->Fp2) (f2:Fp2->Fp2) (f3:Fp2->Fp2->Fp2) (f4:Fp2->Fp2 × Int) (a:Fp6):Fp6 × Int:=(match ((f4 (f3 (f1 a.c0 (f0 (f1 a.c0 a.c0) (f2 (f1 a.c1 a.c2)))) (f2 (f3 (f1 a.c2 (f0 (f2 (f1 a.c2 a.c2)) (f1 a.c0 a.c1))) (f1 a.c1 (f0 (f1 a.c1 a.c1) (f1 a.c0 a.c2))))))).snd != 0) with | true=>((zeroFp6,(f4 (f3 (f1 a.c0 (f0 (f1 a.c0 a.c0) (f2 (f1 a.c1 a.c2)))) (f2 (f3 (f1 a.c2 (f0 (f2 (f1 a.c2 a.c2)) (f1 a.c0 a.c1))) (f1 a.c1 (f0 (f1 a.c1 a.c1) (f1 a.c0 a.c2))))))).snd)) | false=>(({ c0:=f1 (f0 (f1 a.c0 a.c0) (f2 (f1 a.c1 a.c2))) (f4 (f3 (f1 a.c0 (f0 (f1 a.c0 a.c0) (f2 (f1 a.c1 a.c2)))) (f2 (f3 (f1 a.c2 (f0 (f2 (f1 a.c2 a.c2)) (f1 a.c0 a.c1))) (f1 a.c1 (f0 (f1 a.c1 a.c1) (f1 a.c0 a.c2))))))).fst,c1:=f1 (f0 (f2 (f1 a.c2 a.c2)) (f1 a.c0 a.c1)) (f4 (f3 (f1 a.c0 (f0 (f1 a.c0 a.c0) (f2 (f1 a.c1 a.c2)))) (f2 (f3 (f1 a.c2 (f0 (f2 (f1 a.c2 a.c2)) (f1 a.c0 a.c1))) (f1 a.c1 (f0 (f1 a.c1 a.c1) (f1 a.c0 a.c2))))))).fst,c2:=f1 (f0 (f1 a.c1 a.c1) (f1 a.c0 a.c2)) (f4 (f3 (f1 a.c0 (f0 (f1 a.c0 a.c0) (f2 (f1 a.c1 a.c2)))) (f2 (f3 (f1 a.c2 (f0 (f2 (f1 a.c2 a.c2)) (f1 a.c0 a.c1))) (f1 a.c1 (f0 (f1 a.c1 a.c1) (f1 a.c0 a.c2))))))).fst },0)))
def invF6_T (f0:Fp2->Fp2->Fp2) (f1:Fp2->Fp2->Fp2) (f2:Fp2->Fp2) (f3:Fp2->Fp2->Fp2) (f4:Fp2->Fp2 × Int) (a:Fp6):Tree (Option (Fp6 × Int)):=letI za':=f4 (f3 (f1 a.c0 (f0 (f1 a.c0 a.c0) (f2 (f1 a.c1 a.c2)))) (f2 (f3 (f1 a.c2 (f0 (f2 (f1 a.c2 a.c2)) (f1 a.c0 a.c1))) (f1 a.c1 (f0 (f1 a.c1 a.c1) (f1 a.c0 a.c2))))));
 (.br (za'.snd != 0) (.leaf (some ((zeroFp6,za'.snd)))) (.leaf (some (({ c0:=f1 (f0 (f1 a.c0 a.c0) (f2 (f1 a.c1 a.c2))) za'.fst,c1:=f1 (f0 (f2 (f1 a.c2 a.c2)) (f1 a.c0 a.c1)) za'.fst,c2:=f1 (f0 (f1 a.c1 a.c1) (f1 a.c0 a.c2)) za'.fst },0)))))
theorem invF6_run (f0:Fp2->Fp2->Fp2) (f1:Fp2->Fp2->Fp2) (f2:Fp2->Fp2) (f3:Fp2->Fp2->Fp2) (f4:Fp2->Fp2 × Int) (a:Fp6):plainRun (En [(179,K2 (kRow Fp2).arg (kRow Fp2).arg (kRow Fp2).rs.res f0),(147,K2 (kRow Fp2).arg (kRow Fp2).arg (kRow Fp2).rs.res f1),(198,K1 (kRow Fp2).arg (kRow Fp2).rs.res f2),(178,K2 (kRow Fp2).arg (kRow Fp2).arg (kRow Fp2).rs.res f3),(199,K1 (kRow Fp2).arg ((kRow Fp2).rs2 kInt).res f4)]) ((kRow Fp6).rs2 kInt) 300 Tryz.f184 [.one ((kRow Fp6).av a)]=invF6_T f0 f1 f2 f3 f4 a:=by kernel_rfl
theorem invF6_sat (f0:Fp2->Fp2->Fp2) (f1:Fp2->Fp2->Fp2) (f2:Fp2->Fp2) (f3:Fp2->Fp2->Fp2) (f4:Fp2->Fp2 × Int) (a:Fp6):(invF6_T f0 f1 f2 f3 f4 a).sat fun q=>q=some (invF6_G f0 f1 f2 f3 f4 a):=⟨fun h0=>(show some _=some _ from congrArg some (by unfold invF6_G;rw [h0])),fun h0=>(show some _=some _ from congrArg some (by unfold invF6_G;rw [h0]))⟩
def invF6 (a:Fp6):Fp6 × Int:=invF6_G subF2 mulF2 upF2 addF2 invF2 a
theorem invF6_ok:CallOk Tryz.prog 184 (K1 (kRow Fp6).arg ((kRow Fp6).rs2 kInt).res invF6) :=
 P1 (En_ok (.cons subF2_ok (.cons mulF2_ok (.cons upF2_ok (.cons addF2_ok (.cons invF2_ok .nil)))))) Tryz.func184 (bodied Tryz.func184 (by kernel_rfl) (by kernel_rfl)) 300 (kRow Fp6) ((kRow Fp6).rs2 kInt) invF6 (invF6_run subF2 mulF2 upF2 addF2 invF2) (invF6_sat subF2 mulF2 upF2 addF2 invF2)
def oneF12_G  : Fp12:=(oneFp12)
def oneF12_T  : Tree (Option (Fp12)) :=
 (.leaf (some (oneFp12)))
theorem oneF12_run  : plainRun (En []) (kRow Fp12).rs 300 Tryz.f110 []=oneF12_T  := by kernel_rfl
theorem oneF12_sat  : (oneF12_T ).sat fun q=>q=some (oneF12_G ):=(show some _=some _ from rfl)
def oneF12  : Fp12:=oneF12_G
theorem oneF12_ok:CallOk Tryz.prog 110 (K0 (kRow Fp12).rs.res oneF12) :=
 P0 (En_ok .nil) Tryz.func110 (bodied Tryz.func110 (by kernel_rfl) (by kernel_rfl)) 300  (kRow Fp12).rs oneF12 (oneF12_run ) (oneF12_sat )
def wholeF12_G (f0:Fp6->Fp6) (a:Fp12):Fp12:=({ c0:=f0 a.c0,c1:=f0 a.c1 })
def wholeF12_T (f0:Fp6->Fp6) (a:Fp12):Tree (Option (Fp12)) :=
 (.leaf (some ({ c0:=f0 a.c0,c1:=f0 a.c1 })))
theorem wholeF12_run (f0:Fp6->Fp6) (a:Fp12):plainRun (En [(188,K1 (kRow Fp6).arg (kRow Fp6).rs.res f0)]) (kRow Fp12).rs 300 Tryz.f156 [.one ((kRow Fp12).av a)]=wholeF12_T f0 a:=by kernel_rfl
theorem wholeF12_sat (f0:Fp6->Fp6) (a:Fp12):(wholeF12_T f0 a).sat fun q=>q=some (wholeF12_G f0 a):=(show some _=some _ from rfl)
def wholeF12 (a:Fp12):Fp12:=wholeF12_G wholeF6 a
theorem wholeF12_ok:CallOk Tryz.prog 156 (K1 (kRow Fp12).arg (kRow Fp12).rs.res wholeF12) :=
 P1 (En_ok (.cons wholeF6_ok .nil)) Tryz.func156 (bodied Tryz.func156 (by kernel_rfl) (by kernel_rfl)) 300 (kRow Fp12) (kRow Fp12).rs wholeF12 (wholeF12_run wholeF6) (wholeF12_sat wholeF6)
def lowF12_G (f0:Fp6->Fp6) (a:Fp12):Fp12:=({ c0:=f0 a.c0,c1:=f0 a.c1 })
def lowF12_T (f0:Fp6->Fp6) (a:Fp12):Tree (Option (Fp12)) :=
 (.leaf (some ({ c0:=f0 a.c0,c1:=f0 a.c1 })))
theorem lowF12_run (f0:Fp6->Fp6) (a:Fp12):plainRun (En [(152,K1 (kRow Fp6).arg (kRow Fp6).rs.res f0)]) (kRow Fp12).rs 300 Tryz.f107 [.one ((kRow Fp12).av a)]=lowF12_T f0 a:=by kernel_rfl
theorem lowF12_sat (f0:Fp6->Fp6) (a:Fp12):(lowF12_T f0 a).sat fun q=>q=some (lowF12_G f0 a):=(show some _=some _ from rfl)
def lowF12 (a:Fp12):Fp12:=lowF12_G lowF6 a
theorem lowF12_ok:CallOk Tryz.prog 107 (K1 (kRow Fp12).arg (kRow Fp12).rs.res lowF12) :=
 P1 (En_ok (.cons lowF6_ok .nil)) Tryz.func107 (bodied Tryz.func107 (by kernel_rfl) (by kernel_rfl)) 300 (kRow Fp12) (kRow Fp12).rs lowF12 (lowF12_run lowF6) (lowF12_sat lowF6)
def conjF12_G (f0:Fp6->Fp6) (a:Fp12):Fp12:=({ c0:=a.c0,c1:=f0 a.c1 })
def conjF12_T (f0:Fp6->Fp6) (a:Fp12):Tree (Option (Fp12)) :=
 (.leaf (some ({ c0:=a.c0,c1:=f0 a.c1 })))
theorem conjF12_run (f0:Fp6->Fp6) (a:Fp12):plainRun (En [(185,K1 (kRow Fp6).arg (kRow Fp6).rs.res f0)]) (kRow Fp12).rs 300 Tryz.f155 [.one ((kRow Fp12).av a)]=conjF12_T f0 a:=by kernel_rfl
theorem conjF12_sat (f0:Fp6->Fp6) (a:Fp12):(conjF12_T f0 a).sat fun q=>q=some (conjF12_G f0 a):=(show some _=some _ from rfl)
def conjF12 (a:Fp12):Fp12:=conjF12_G negF6 a
theorem conjF12_ok:CallOk Tryz.prog 155 (K1 (kRow Fp12).arg (kRow Fp12).rs.res conjF12) :=
 P1 (En_ok (.cons negF6_ok .nil)) Tryz.func155 (bodied Tryz.func155 (by kernel_rfl) (by kernel_rfl)) 300 (kRow Fp12) (kRow Fp12).rs conjF12 (conjF12_run negF6) (conjF12_sat negF6)
end
section
def Fp6.nth (a:Fp6):Nat->Fp2
 | 0=>a.c0
 | 1=>a.c1
 | _=>a.c2
def crossF (i j:Nat) (a b:Fp6) (x y:Fp2):Fp2:=subF2 (halfF2 (addF2 (a.nth i) (a.nth j)) (addF2 (b.nth i) (b.nth j))) (addF2 x y)
abbrev Kcross (F:Nat->Nat->Fp6->Fp6->Fp2->Fp2->Fp2):Contract:=KOr (KN (KdL.cons (kRow Fp6) (KdL.cons (kRow Fp6) (KdL.cons (kLit 0) (KdL.cons (kLit 1) (KdL.cons (kRow Fp2) (KdL.cons (kRow Fp2) KdL.nil)))))) (kRow Fp2).rs.res (fun x=>F 0 1 x.1 x.2.1 x.2.2.2.2.1 x.2.2.2.2.2.1)) (KOr (KN (KdL.cons (kRow Fp6) (KdL.cons (kRow Fp6) (KdL.cons (kLit 0) (KdL.cons (kLit 2) (KdL.cons (kRow Fp2) (KdL.cons (kRow Fp2) KdL.nil)))))) (kRow Fp2).rs.res (fun x=>F 0 2 x.1 x.2.1 x.2.2.2.2.1 x.2.2.2.2.2.1)) (KN (KdL.cons (kRow Fp6) (KdL.cons (kRow Fp6) (KdL.cons (kLit 1) (KdL.cons (kLit 2) (KdL.cons (kRow Fp2) (KdL.cons (kRow Fp2) KdL.nil)))))) (kRow Fp2).rs.res (fun x=>F 1 2 x.1 x.2.1 x.2.2.2.2.1 x.2.2.2.2.2.1)))
theorem cross_ok:CallOk Tryz.prog 200 (Kcross crossF) :=
 KOr_ok cross01_ok (KOr_ok cross02_ok cross12_ok (KN_still _ _ _)) (KN_still _ _ _)
def halfF6_G (f0:Fp2->Fp2->Fp2) (f1:Fp2->Fp2->Fp2) (f2:Fp2->Fp2) (f3:Nat->Nat->Fp6->Fp6->Fp2->Fp2->Fp2) (a:Fp6) (b:Fp6):Fp6:=({ c0:=f1 (f0 a.c0 b.c0) (f2 (f3 1 2 a b (f0 a.c1 b.c1) (f0 a.c2 b.c2))),c1:=f1 (f3 0 1 a b (f0 a.c0 b.c0) (f0 a.c1 b.c1)) (f2 (f0 a.c2 b.c2)),c2:=f1 (f3 0 2 a b (f0 a.c0 b.c0) (f0 a.c2 b.c2)) (f0 a.c1 b.c1) })
def halfF6_T (f0:Fp2->Fp2->Fp2) (f1:Fp2->Fp2->Fp2) (f2:Fp2->Fp2) (f3:Nat->Nat->Fp6->Fp6->Fp2->Fp2->Fp2) (a:Fp6) (b:Fp6):Tree (Option (Fp6)):=letI za':=f0 a.c0 b.c0;letI zb':=f0 a.c1 b.c1;letI zc':=f0 a.c2 b.c2;
 (.leaf (some ({ c0:=f1 za' (f2 (f3 1 2 a b zb' zc')),c1:=f1 (f3 0 1 a b za' zb') (f2 zc'),c2:=f1 (f3 0 2 a b za' zc') zb' })))
theorem halfF6_run (f0:Fp2->Fp2->Fp2) (f1:Fp2->Fp2->Fp2) (f2:Fp2->Fp2) (f3:Nat->Nat->Fp6->Fp6->Fp2->Fp2->Fp2) (a:Fp6) (b:Fp6):plainRun (En [(177,K2 (kRow Fp2).arg (kRow Fp2).arg (kRow Fp2).rs.res f0),(178,K2 (kRow Fp2).arg (kRow Fp2).arg (kRow Fp2).rs.res f1),(198,K1 (kRow Fp2).arg (kRow Fp2).rs.res f2),(200,Kcross f3)]) (kRow Fp6).rs 300 Tryz.f186 [.one ((kRow Fp6).av a),.one ((kRow Fp6).av b)]=halfF6_T f0 f1 f2 f3 a b:=by kernel_rfl
theorem halfF6_sat (f0:Fp2->Fp2->Fp2) (f1:Fp2->Fp2->Fp2) (f2:Fp2->Fp2) (f3:Nat->Nat->Fp6->Fp6->Fp2->Fp2->Fp2) (a:Fp6) (b:Fp6):(halfF6_T f0 f1 f2 f3 a b).sat fun q=>q=some (halfF6_G f0 f1 f2 f3 a b):=(show some _=some _ from rfl)
def halfF6 (a:Fp6) (b:Fp6):Fp6:=halfF6_G halfF2 addF2 upF2 crossF a b
theorem halfF6_ok:CallOk Tryz.prog 186 (K2 (kRow Fp6).arg (kRow Fp6).arg (kRow Fp6).rs.res halfF6) :=
 P2 (En_ok (.cons halfF2_ok (.cons addF2_ok (.cons upF2_ok (.cons cross_ok .nil))))) Tryz.func186 (bodied Tryz.func186 (by kernel_rfl) (by kernel_rfl)) 300 (kRow Fp6) (kRow Fp6) (kRow Fp6).rs halfF6 (halfF6_run halfF2 addF2 upF2 crossF) (halfF6_sat halfF2 addF2 upF2 crossF)
def mulF6_G (f0:Fp6->Fp6->Fp6) (f1:Fp6->Fp6) (a:Fp6) (b:Fp6):Fp6:=(f1 (f0 a b))
def mulF6_T (f0:Fp6->Fp6->Fp6) (f1:Fp6->Fp6) (a:Fp6) (b:Fp6):Tree (Option (Fp6)) :=
 (.leaf (some (f1 (f0 a b))))
theorem mulF6_run (f0:Fp6->Fp6->Fp6) (f1:Fp6->Fp6) (a:Fp6) (b:Fp6):plainRun (En [(186,K2 (kRow Fp6).arg (kRow Fp6).arg (kRow Fp6).rs.res f0),(188,K1 (kRow Fp6).arg (kRow Fp6).rs.res f1)]) (kRow Fp6).rs 300 Tryz.f182 [.one ((kRow Fp6).av a),.one ((kRow Fp6).av b)]=mulF6_T f0 f1 a b:=by kernel_rfl
theorem mulF6_sat (f0:Fp6->Fp6->Fp6) (f1:Fp6->Fp6) (a:Fp6) (b:Fp6):(mulF6_T f0 f1 a b).sat fun q=>q=some (mulF6_G f0 f1 a b):=(show some _=some _ from rfl)
def mulF6 (a:Fp6) (b:Fp6):Fp6:=mulF6_G halfF6 wholeF6 a b
theorem mulF6_ok:CallOk Tryz.prog 182 (K2 (kRow Fp6).arg (kRow Fp6).arg (kRow Fp6).rs.res mulF6) :=
 P2 (En_ok (.cons halfF6_ok (.cons wholeF6_ok .nil))) Tryz.func182 (bodied Tryz.func182 (by kernel_rfl) (by kernel_rfl)) 300 (kRow Fp6) (kRow Fp6) (kRow Fp6).rs mulF6 (mulF6_run halfF6 wholeF6) (mulF6_sat halfF6 wholeF6)
def halfF12_G (f0:Fp6->Fp6->Fp6) (f1:Fp6->Fp6->Fp6) (f2:Fp6->Fp6->Fp6) (f3:Fp6->Fp6) (a:Fp12) (b:Fp12):Fp12:=({ c0:=f1 (f0 a.c0 b.c0) (f3 (f0 a.c1 b.c1)),c1:=f2 (f0 (f1 a.c0 a.c1) (f1 b.c0 b.c1)) (f1 (f0 a.c0 b.c0) (f0 a.c1 b.c1)) })
def halfF12_T (f0:Fp6->Fp6->Fp6) (f1:Fp6->Fp6->Fp6) (f2:Fp6->Fp6->Fp6) (f3:Fp6->Fp6) (a:Fp12) (b:Fp12):Tree (Option (Fp12)) :=
 (.leaf (some ({ c0:=f1 (f0 a.c0 b.c0) (f3 (f0 a.c1 b.c1)),c1:=f2 (f0 (f1 a.c0 a.c1) (f1 b.c0 b.c1)) (f1 (f0 a.c0 b.c0) (f0 a.c1 b.c1)) })))
theorem halfF12_run (f0:Fp6->Fp6->Fp6) (f1:Fp6->Fp6->Fp6) (f2:Fp6->Fp6->Fp6) (f3:Fp6->Fp6) (a:Fp12) (b:Fp12):plainRun (En [(186,K2 (kRow Fp6).arg (kRow Fp6).arg (kRow Fp6).rs.res f0),(187,K2 (kRow Fp6).arg (kRow Fp6).arg (kRow Fp6).rs.res f1),(181,K2 (kRow Fp6).arg (kRow Fp6).arg (kRow Fp6).rs.res f2),(183,K1 (kRow Fp6).arg (kRow Fp6).rs.res f3)]) (kRow Fp12).rs 300 Tryz.f154 [.one ((kRow Fp12).av a),.one ((kRow Fp12).av b)]=halfF12_T f0 f1 f2 f3 a b:=by kernel_rfl
theorem halfF12_sat (f0:Fp6->Fp6->Fp6) (f1:Fp6->Fp6->Fp6) (f2:Fp6->Fp6->Fp6) (f3:Fp6->Fp6) (a:Fp12) (b:Fp12):(halfF12_T f0 f1 f2 f3 a b).sat fun q=>q=some (halfF12_G f0 f1 f2 f3 a b):=(show some _=some _ from rfl)
def halfF12 (a:Fp12) (b:Fp12):Fp12:=halfF12_G halfF6 addF6 subF6 upF6 a b
theorem halfF12_ok:CallOk Tryz.prog 154 (K2 (kRow Fp12).arg (kRow Fp12).arg (kRow Fp12).rs.res halfF12) :=
 P2 (En_ok (.cons halfF6_ok (.cons addF6_ok (.cons subF6_ok (.cons upF6_ok .nil))))) Tryz.func154 (bodied Tryz.func154 (by kernel_rfl) (by kernel_rfl)) 300 (kRow Fp12) (kRow Fp12) (kRow Fp12).rs halfF12 (halfF12_run halfF6 addF6 subF6 upF6) (halfF12_sat halfF6 addF6 subF6 upF6)
def invF12_G (f0:Fp6->Fp6->Fp6) (f1:Fp6->Fp6->Fp6) (f2:Fp6->Fp6) (f3:Fp6->Fp6 × Int) (f4:Fp6->Fp6) (a:Fp12):Fp12 × Int:=(match ((f3 (f0 (f1 a.c0 a.c0) (f2 (f1 a.c1 a.c1)))).snd != 0) with | true=>((zeroFp12,(f3 (f0 (f1 a.c0 a.c0) (f2 (f1 a.c1 a.c1)))).snd)) | false=>(({ c0:=f1 a.c0 (f3 (f0 (f1 a.c0 a.c0) (f2 (f1 a.c1 a.c1)))).fst,c1:=f4 (f1 a.c1 (f3 (f0 (f1 a.c0 a.c0) (f2 (f1 a.c1 a.c1)))).fst) },0)))
def invF12_T (f0:Fp6->Fp6->Fp6) (f1:Fp6->Fp6->Fp6) (f2:Fp6->Fp6) (f3:Fp6->Fp6 × Int) (f4:Fp6->Fp6) (a:Fp12):Tree (Option (Fp12 × Int)):=letI za':=f3 (f0 (f1 a.c0 a.c0) (f2 (f1 a.c1 a.c1)));
 (.br (za'.snd != 0) (.leaf (some ((zeroFp12,za'.snd)))) (.leaf (some (({ c0:=f1 a.c0 za'.fst,c1:=f4 (f1 a.c1 za'.fst) },0)))))
theorem invF12_run (f0:Fp6->Fp6->Fp6) (f1:Fp6->Fp6->Fp6) (f2:Fp6->Fp6) (f3:Fp6->Fp6 × Int) (f4:Fp6->Fp6) (a:Fp12):plainRun (En [(181,K2 (kRow Fp6).arg (kRow Fp6).arg (kRow Fp6).rs.res f0),(182,K2 (kRow Fp6).arg (kRow Fp6).arg (kRow Fp6).rs.res f1),(183,K1 (kRow Fp6).arg (kRow Fp6).rs.res f2),(184,K1 (kRow Fp6).arg ((kRow Fp6).rs2 kInt).res f3),(185,K1 (kRow Fp6).arg (kRow Fp6).rs.res f4)]) ((kRow Fp12).rs2 kInt) 300 Tryz.f153 [.one ((kRow Fp12).av a)]=invF12_T f0 f1 f2 f3 f4 a:=by kernel_rfl
theorem invF12_sat (f0:Fp6->Fp6->Fp6) (f1:Fp6->Fp6->Fp6) (f2:Fp6->Fp6) (f3:Fp6->Fp6 × Int) (f4:Fp6->Fp6) (a:Fp12):(invF12_T f0 f1 f2 f3 f4 a).sat fun q=>q=some (invF12_G f0 f1 f2 f3 f4 a):=⟨fun h0=>(show some _=some _ from congrArg some (by unfold invF12_G;rw [h0])),fun h0=>(show some _=some _ from congrArg some (by unfold invF12_G;rw [h0]))⟩
def invF12 (a:Fp12):Fp12 × Int:=invF12_G subF6 mulF6 upF6 invF6 negF6 a
theorem invF12_ok:CallOk Tryz.prog 153 (K1 (kRow Fp12).arg ((kRow Fp12).rs2 kInt).res invF12) :=
 P1 (En_ok (.cons subF6_ok (.cons mulF6_ok (.cons upF6_ok (.cons invF6_ok (.cons negF6_ok .nil)))))) Tryz.func153 (bodied Tryz.func153 (by kernel_rfl) (by kernel_rfl)) 300 (kRow Fp12) ((kRow Fp12).rs2 kInt) invF12 (invF12_run subF6 mulF6 upF6 invF6 negF6) (invF12_sat subF6 mulF6 upF6 invF6 negF6)
end
section
abbrev oF2:Out Fp2:=rF2.out
theorem bit5_run (e:List UInt64) (i:Int):letI za':=IntKind.i64.wrap (i.tdiv 64);endT (En []) oB 100 Tryz.f121 (flat (codeOf Tryz.f121)) (startSt Tryz.f121 [iL.av 0 e,vI i] [inHE eU64 e])=(.vc ((0<=IntKind.i64.wrap (i.tdiv 64)/\IntKind.i64.wrap (i.tdiv 64)<(↑e.length:Int))/\0+e.length*1<=(List.map EK.u64.cell e).length/\0<1) (.vc (0+za'.toNat*1<e.length) (.vc (0<=i.tmod 64) (.leaf (some ((shrU (e.getD (0+za'.toNat*1) 0) (i.tmod 64) &&& UInt64.ofNat 1==UInt64.ofNat 1,.t))))))):=by kernel_rfl
abbrev bitIn (e:List UInt64) (i:Nat):Prop:=i<64*e.length
abbrev Kbit (F:List UInt64->Nat->Bool):Contract:=K2c aL argNat bitIn kBool.rs.res F
theorem bit5_ok:CallOk Tryz.prog 121 (Kbit bitAt) :=
 G2c (E:=En []) Tryz.func121 (c:=codeOf Tryz.f121) (by kernel_rfl) (bodied Tryz.func121 (by kernel_rfl) (by kernel_rfl)) iL inpNat bitIn oB bitAt fun e i he _ hk=>by
  have he:e.length<1125899906842624:=he
  have hk:i<64*e.length:=hk
  have hi:i<9223372036854775808:=by omega
  have hq:i / 64<e.length:=by omega
  refine DoesL.ends (En_ok .nil) 100 (bit5_run e (i:Int)) ?_
  rw [natdiv_Z i hi,natmod_Z]
  refine ⟨vcIdx hq,fun _=>⟨vcGet hq,fun _=>⟨by omega,fun _=>reads_t ?_⟩⟩⟩
  rw [getZ]
  exact shr_bit _ _ (by omega)
def powG {α:Type} (mF:α->α->α) (a:α) (e:List UInt64):Nat->α->α
 | 0,x=>x
 | n+1,x=>powG mF a e n (match bitAt e n with | true=>mF (mF x x) a | false=>mF x x)
end
section
abbrev rF12:Rs Fp12:=(kRow Fp12).rs
abbrev vF12 (a:Fp12):AV := .one ((kRow Fp12).av a)
abbrev oF12:Out Fp12:=rF12.out
abbrev Ks2 (F:Fp12->Fp12->Fp12):Contract:=K2 (kRow Fp12).arg (kRow Fp12).arg rF12.res F
end
section
def rsSt (e:List UInt64) (x o:Fp12) (z:Int):St:=mkSt 34 [(1,inV 0 e),(2,ptrV 1),(4,ptrV 2),(5,ptrV 3),(6,vI z)] [inHE eU64 e,own 145 (Row.cs x),own 145 (zeros 72),own 145 (Row.cs o)]
def tRs (o:Fp12) (wF:Fp12->Fp12) (hF:Fp12->Fp12->Fp12):Table := [(110,K0 rF12.res o),(156,K1 (kRow Fp12).arg rF12.res wF),(154,Ks2 hF)]
theorem rs_front (T:Table) (a:Fp12) (e:List UInt64):stageT (En T) 100 ((flat (codeOf Tryz.f158)).take 1) (startSt Tryz.f158 [vF12 a,iL.av 0 e] [inHE eU64 e]) [1,2,4] [0,1,2] = .leaf (mkSt 34 [(1,inV 0 e),(2,ptrV 1),(4,ptrV 2)] [inHE eU64 e,own 145 (Row.cs a),own 145 (zeros 72)]):=by kernel_rfl
theorem rs_start (o:Fp12) (wF:Fp12->Fp12) (hF:Fp12->Fp12->Fp12) (a:Fp12) (e:List UInt64):stageT (En (tRs o wF hF)) 100 ((flat (scopeOf Tryz.f158)).take 3) (mkSt 34 [(1,inV 0 e),(2,ptrV 1),(4,ptrV 2)] [inHE eU64 e,own 145 (Row.cs a),own 145 (zeros 72)]) [1,2,4,5,6] [0,1,2,3] = .vc (0+e.length*1<=(eU64.body e).cells.length/\0<1) (.leaf (rsSt e a (wF o) (IntKind.i64.wrap (64*e.length)))):=by kernel_rfl
theorem rs_iter (o1:Fp12) (wF:Fp12->Fp12) (hF:Fp12->Fp12->Fp12) (x o:Fp12) (e:List UInt64) (z:Int):letI za':=IntKind.i64.wrap (z-1);iterT (En (tRs o1 wF hF)) oF12 100 Tryz.f158 ((flat (scopeOf Tryz.f158)).drop 3) (rsSt e x o z) [1,2,4,5,6] [0,1,2,3] = .br (decide (IntKind.i64.wrap (z-1)<0)) (.leaf (.inr (some (o,.t)))) (.vc ((0<=quoZ z/\quoZ z<e.length)/\0+e.length*1<=(eU64.body e).cells.length/\0<1) (.vc (0+(quoZ z).toNat*1<e.length) (.br (bitZ e z) (.leaf (.inl (.goto 0,rsSt e x (hF (hF o o) x) za'))) (.leaf (.inl (.goto 0,rsSt e x (hF o o) za')))))):=by kernel_rfl
def raisedF (a:Fp12) (e:List UInt64):Fp12:=powG halfF12 a e (64*e.length) (wholeF12 oneF12)
abbrev RsOk (a:Fp12) (e:List UInt64):Type := { q:Int × Fp12 // 0<=q.1/\q.1<=64*e.length/\powG halfF12 a e q.1.toNat q.2=raisedF a e }
def rsI (a:Fp12) (e:List UInt64) (q:RsOk a e):St:=rsSt e a q.1.2 q.1.1
theorem raised_ok:CallOk Tryz.prog 158 (K2 (kRow Fp12).arg aL rF12.res raisedF) :=
 G2 (E:=En (tRs oneF12 wholeF12 halfF12)) Tryz.func158 (c:=codeOf Tryz.f158) (by kernel_rfl) (bodied Tryz.func158 (by kernel_rfl) (by kernel_rfl)) (kRow Fp12).inp iL oF12 raisedF fun a e _ he=>by
  have hE:EnvOk (En (tRs oneF12 wholeF12 halfF12)):=En_ok (.cons oneF12_ok (.cons wholeF12_ok (.cons halfF12_ok .nil)))
  have he:e.length<1125899906842624:=he
  have hw:IntKind.i64.wrap (64*(e.length:Int))=64*(e.length:Int):=IntWalk.i64_in _ (by omega)
  refine DoesL.stageE hE 100 1 [1,2,4] [0,1,2] (rs_front _ a e) ?_
  refine DoesL.scopeFn (body:=scopeOf Tryz.f158) (rest:=restOf Tryz.f158) (tail := []) (l:=0) hE (by kernel_rfl) (by kernel_rfl) 100 3 (by kernel_rfl) [1,2,4,5,6] [0,1,2,3] (rsI a e) (fun q=>q.1.1.toNat)
   ⟨(64*(e.length:Int),wholeF12 oneF12),by simp only [];omega,by simp only [];omega,by rw [show ((64*(e.length:Int),wholeF12 oneF12):Int × Fp12).1.toNat=64*e.length by simp only [];omega];simp only [raisedF]⟩
   (rs_start oneF12 wholeF12 halfF12 a e) ⟨⟨by rw [cells_len];omega,by decide⟩,fun _=>by rw [hw];exact Tree.sat_leaf (by simp only [rsI])⟩ fun q => ?_
  obtain ⟨⟨z,o⟩,h0,h1,h2⟩:=q
  simp only [] at h0 h1 h2
  have hz:IntKind.i64.wrap (z-1)=z-1:=IntWalk.i64_in _ (by omega)
  refine DoesL.iter hE 100 [1,2,4,5,6] [0,1,2,3] (rs_iter oneF12 wholeF12 halfF12 a o e z) ?_
  rw [hz]
  refine ⟨fun h => ?_,fun h => ?_⟩
  ·simp only [decide_eq_true_eq] at h
   obtain rfl:z=0:=by omega
   exact ⟨.t,by rw [<- h2];rfl,trivial⟩
  ·simp only [decide_eq_false_iff_not] at h
   obtain ⟨n,rfl⟩ : ∃ n:Nat,z=(n:Int)+1:=⟨(z-1).toNat,by omega⟩
   rw [quoZ_nat n (by omega),bitZ_nat e n (by omega)]
   rw [show ((n:Int)+1).toNat=n+1 by omega] at h2
   simp only [powG] at h2
   refine ⟨⟨⟨by omega,by omega⟩,by rw [cells_len];omega,by decide⟩,fun _=>⟨by omega,fun _=>⟨fun h3 => ?_,fun h3 => ?_⟩⟩⟩
   all_goals
    have hn:((n:Int)+1-1).toNat=n:=by omega
    rw [h3] at h2
    simp only [] at h2
   ·refine ⟨rfl,⟨((n:Int)+1-1,halfF12 (halfF12 o o) a),?_,?_,?_⟩,?_,by simp only [rsI]⟩
    ·show 0<=(n:Int)+1-1;omega
    ·show (n:Int)+1-1<=64*e.length;omega
    ·simpa only [hn] using h2
    ·show ((n:Int)+1-1).toNat<((n:Int)+1).toNat;omega
   ·refine ⟨rfl,⟨((n:Int)+1-1,halfF12 o o),?_,?_,?_⟩,?_,by simp only [rsI]⟩
    ·show 0<=(n:Int)+1-1;omega
    ·show (n:Int)+1-1<=64*e.length;omega
    ·simpa only [hn] using h2
    ·show ((n:Int)+1-1).toNat<((n:Int)+1).toNat;omega
abbrev Kraised (F:Fp12->List UInt64->Fp12):Contract:=K2 (kRow Fp12).arg aL rF12.res F
end
section
def oneG1_G  : Pg1:=({ x := { l0:=UInt64.ofNat 18103045581585958587,l1:=UInt64.ofNat 7806400890582735599,l2:=UInt64.ofNat 11623291730934869080,l3:=UInt64.ofNat 14080658508445169925,l4:=UInt64.ofNat 2780237799254240271,l5:=UInt64.ofNat 1725392847304644500 },y := { l0:=UInt64.ofNat 912580534683953121,l1:=UInt64.ofNat 15005087156090211044,l2:=UInt64.ofNat 61670280795567085,l3:=UInt64.ofNat 18227722000993880822,l4:=UInt64.ofNat 11573741888802228964,l5:=UInt64.ofNat 627113611842199793 },inf:=false })
def oneG1_T  : Tree (Option (Pg1)) :=
 (.leaf (some ({ x := { l0:=UInt64.ofNat 18103045581585958587,l1:=UInt64.ofNat 7806400890582735599,l2:=UInt64.ofNat 11623291730934869080,l3:=UInt64.ofNat 14080658508445169925,l4:=UInt64.ofNat 2780237799254240271,l5:=UInt64.ofNat 1725392847304644500 },y := { l0:=UInt64.ofNat 912580534683953121,l1:=UInt64.ofNat 15005087156090211044,l2:=UInt64.ofNat 61670280795567085,l3:=UInt64.ofNat 18227722000993880822,l4:=UInt64.ofNat 11573741888802228964,l5:=UInt64.ofNat 627113611842199793 },inf:=false })))
theorem oneG1_run  : plainRun (En []) (kRow Pg1).rs 300 Tryz.f63 []=oneG1_T  := by kernel_rfl
theorem oneG1_sat  : (oneG1_T ).sat fun q=>q=some (oneG1_G ):=(show some _=some _ from rfl)
def oneG1  : Pg1:=oneG1_G
theorem oneG1_ok:CallOk Tryz.prog 63 (K0 (kRow Pg1).rs.res oneG1) :=
 P0 (En_ok .nil) Tryz.func63 (bodied Tryz.func63 (by kernel_rfl) (by kernel_rfl)) 300  (kRow Pg1).rs oneG1 (oneG1_run ) (oneG1_sat )
def rhsG1_G (f0:Fp->Fp->Fp) (f1:Fp->Fp->Fp) (x:Fp):Fp:=(f0 (f1 (f1 x x) x) { l0:=UInt64.ofNat 4,l1:=UInt64.ofNat 0,l2:=UInt64.ofNat 0,l3:=UInt64.ofNat 0,l4:=UInt64.ofNat 0,l5:=UInt64.ofNat 0 })
def rhsG1_T (f0:Fp->Fp->Fp) (f1:Fp->Fp->Fp) (x:Fp):Tree (Option (Fp)) :=
 (.leaf (some (f0 (f1 (f1 x x) x) { l0:=UInt64.ofNat 4,l1:=UInt64.ofNat 0,l2:=UInt64.ofNat 0,l3:=UInt64.ofNat 0,l4:=UInt64.ofNat 0,l5:=UInt64.ofNat 0 })))
theorem rhsG1_run (f0:Fp->Fp->Fp) (f1:Fp->Fp->Fp) (x:Fp):plainRun (En [(141,Kff f0),(139,Kff f1)]) (kRow Fp).rs 300 Tryz.f144 [.one ((kRow Fp).av x)]=rhsG1_T f0 f1 x:=by kernel_rfl
theorem rhsG1_sat (f0:Fp->Fp->Fp) (f1:Fp->Fp->Fp) (x:Fp):(rhsG1_T f0 f1 x).sat fun q=>q=some (rhsG1_G f0 f1 x):=(show some _=some _ from rfl)
def rhsG1 (x:Fp):Fp:=rhsG1_G addF mulF x
theorem rhsG1_ok:CallOk Tryz.prog 144 (K1 (kRow Fp).arg (kRow Fp).rs.res rhsG1) :=
 P1 (En_ok (.cons add_ok (.cons mul_ok .nil))) Tryz.func144 (bodied Tryz.func144 (by kernel_rfl) (by kernel_rfl)) 300 (kRow Fp) (kRow Fp).rs rhsG1 (rhsG1_run addF mulF) (rhsG1_sat addF mulF)
def onG1_G (f0:Fp->Bool) (f1:Fp->Fp->Fp) (f2:Fp->Fp) (p:Pg1):Bool:=(match (p.inf) with | true=>((pg1Eq (p) (infG1))) | false=>(match (f0 p.x) with | true=>(match (f0 p.y) with | true=>((fpEq (f1 p.y p.y) (f2 p.x))) | false=>((false))) | false=>((false))))
def onG1_T (f0:Fp->Bool) (f1:Fp->Fp->Fp) (f2:Fp->Fp) (p:Pg1):Tree (Option (Bool)) :=
 (.br (p.inf) (.leaf (some ((pg1Eq (p) (infG1))))) (.br (f0 p.x) (.br (f0 p.y) (.leaf (some ((fpEq (f1 p.y p.y) (f2 p.x))))) (.leaf (some ((false))))) (.leaf (some ((false))))))
theorem onG1_run (f0:Fp->Bool) (f1:Fp->Fp->Fp) (f2:Fp->Fp) (p:Pg1):plainRun (En [(143,Kfb f0),(139,Kff f1),(144,K1 (kRow Fp).arg (kRow Fp).rs.res f2)]) kBool.rs 300 Tryz.f97 [.one ((kRow Pg1).av p)]=onG1_T f0 f1 f2 p:=by kernel_rfl
theorem onG1_sat (f0:Fp->Bool) (f1:Fp->Fp->Fp) (f2:Fp->Fp) (p:Pg1):(onG1_T f0 f1 f2 p).sat fun q=>q=some (onG1_G f0 f1 f2 p):=⟨fun h0=>(show some _=some _ from congrArg some (by unfold onG1_G;rw [h0])),fun h0=>⟨fun h1=>⟨fun h2=>(show some _=some _ from congrArg some (by unfold onG1_G;rw [h0,h1,h2])),fun h2=>(show some _=some _ from congrArg some (by unfold onG1_G;rw [h0,h1,h2]))⟩,fun h1=>(show some _=some _ from congrArg some (by unfold onG1_G;rw [h0,h1]))⟩⟩
def onG1 (p:Pg1):Bool:=onG1_G mayF mulF rhsG1 p
theorem onG1_ok:CallOk Tryz.prog 97 (K1 (kRow Pg1).arg kBool.rs.res onG1) :=
 P1 (En_ok (.cons may_ok (.cons mul_ok (.cons rhsG1_ok .nil)))) Tryz.func97 (bodied Tryz.func97 (by kernel_rfl) (by kernel_rfl)) 300 (kRow Pg1) kBool.rs onG1 (onG1_run mayF mulF rhsG1) (onG1_sat mayF mulF rhsG1)
def liftG1_G (f0:Fp->Fp) (p:Pg1):Sp1:=(match (p.inf) with | true=>(zeroSp) | false=>({ x:=f0 p.x,y:=f0 p.y,z:=f0 oneFp }))
def liftG1_T (f0:Fp->Fp) (p:Pg1):Tree (Option (Sp1)) :=
 (.br (p.inf)
  (.leaf (some (zeroSp)))
  (.leaf (some ({ x:=f0 p.x,y:=f0 p.y,z:=f0 oneFp }))))
theorem liftG1_run (f0:Fp->Fp) (p:Pg1):plainRun (En [(136,Kf f0)]) (kRow Sp1).rs 300 Tryz.f89 [.one ((kRow Pg1).av p)]=liftG1_T f0 p:=by kernel_rfl
theorem liftG1_sat (f0:Fp->Fp) (p:Pg1):(liftG1_T f0 p).sat fun q=>q=some (liftG1_G f0 p):=⟨fun h0=>(show some _=some _ from congrArg some (by unfold liftG1_G;rw [h0])),fun h0=>(show some _=some _ from congrArg some (by unfold liftG1_G;rw [h0]))⟩
def liftG1 (p:Pg1):Sp1:=liftG1_G wholeF p
theorem liftG1_ok:CallOk Tryz.prog 89 (K1 (kRow Pg1).arg (kRow Sp1).rs.res liftG1) :=
 P1 (En_ok (.cons whole_ok .nil)) Tryz.func89 (bodied Tryz.func89 (by kernel_rfl) (by kernel_rfl)) 300 (kRow Pg1) (kRow Sp1).rs liftG1 (liftG1_run wholeF) (liftG1_sat wholeF)
def zeroG1_G (a:Fp):Bool:=((fpEq (a) (zeroFp)))
def zeroG1_T (a:Fp):Tree (Option (Bool)) :=
 (.leaf (some ((fpEq (a) (zeroFp)))))
theorem zeroG1_run (a:Fp):plainRun (En []) kBool.rs 300 Tryz.f98 [.one ((kRow Fp).av a)]=zeroG1_T a:=by kernel_rfl
theorem zeroG1_sat (a:Fp):(zeroG1_T a).sat fun q=>q=some (zeroG1_G a):=(show some _=some _ from rfl)
def zeroG1 (a:Fp):Bool:=zeroG1_G  a
theorem zeroG1_ok:CallOk Tryz.prog 98 (K1 (kRow Fp).arg kBool.rs.res zeroG1) :=
 P1 (En_ok .nil) Tryz.func98 (bodied Tryz.func98 (by kernel_rfl) (by kernel_rfl)) 300 (kRow Fp) kBool.rs zeroG1 (zeroG1_run ) (zeroG1_sat )
def laysG1_G (f0:Fp->Fp × Int) (f1:Fp->Fp) (f2:Fp->Fp->Fp) (s:Sp1):Pg1:=(match ((f0 (f1 s.z)).snd != 0) with | true=>(infG1) | false=>({ x:=f2 (f1 s.x) (f2 (f0 (f1 s.z)).fst (f0 (f1 s.z)).fst),y:=f2 (f1 s.y) (f2 (f2 (f0 (f1 s.z)).fst (f0 (f1 s.z)).fst) (f0 (f1 s.z)).fst),inf:=false }))
def laysG1_T (f0:Fp->Fp × Int) (f1:Fp->Fp) (f2:Fp->Fp->Fp) (s:Sp1):Tree (Option (Pg1)):=letI za':=f2 (f0 (f1 s.z)).fst (f0 (f1 s.z)).fst;
 (.br ((f0 (f1 s.z)).snd != 0) (.leaf (some (infG1))) (.leaf (some ({ x:=f2 (f1 s.x) za',y:=f2 (f1 s.y) (f2 za' (f0 (f1 s.z)).fst),inf:=false }))))
theorem laysG1_run (f0:Fp->Fp × Int) (f1:Fp->Fp) (f2:Fp->Fp->Fp) (s:Sp1):plainRun (En [(137,Kinv f0),(138,Kf f1),(139,Kff f2)]) (kRow Pg1).rs 300 Tryz.f90 [.one ((kRow Sp1).av s)]=laysG1_T f0 f1 f2 s:=by kernel_rfl
theorem laysG1_sat (f0:Fp->Fp × Int) (f1:Fp->Fp) (f2:Fp->Fp->Fp) (s:Sp1):(laysG1_T f0 f1 f2 s).sat fun q=>q=some (laysG1_G f0 f1 f2 s):=⟨fun h0=>(show some _=some _ from congrArg some (by unfold laysG1_G;rw [h0])),fun h0=>(show some _=some _ from congrArg some (by unfold laysG1_G;rw [h0]))⟩
def laysG1 (s:Sp1):Pg1:=laysG1_G invF lowF mulF s
theorem laysG1_ok:CallOk Tryz.prog 90 (K1 (kRow Sp1).arg (kRow Pg1).rs.res laysG1) :=
 P1 (En_ok (.cons inv_ok (.cons low_ok (.cons mul_ok .nil)))) Tryz.func90 (bodied Tryz.func90 (by kernel_rfl) (by kernel_rfl)) 300 (kRow Sp1) (kRow Pg1).rs laysG1 (laysG1_run invF lowF mulF) (laysG1_sat invF lowF mulF)
def twiceG1_G (f0:Fp->Fp->Fp) (f1:Fp->Fp->Fp) (f2:Fp->Fp->Fp) (s:Sp1):Sp1:=({ x:=f2 (f0 (f1 (f1 (f0 s.x s.x) (f0 s.x s.x)) (f0 s.x s.x)) (f1 (f1 (f0 s.x s.x) (f0 s.x s.x)) (f0 s.x s.x))) (f1 (f1 (f1 (f0 s.x (f0 s.y s.y)) (f0 s.x (f0 s.y s.y))) (f1 (f0 s.x (f0 s.y s.y)) (f0 s.x (f0 s.y s.y)))) (f1 (f1 (f0 s.x (f0 s.y s.y)) (f0 s.x (f0 s.y s.y))) (f1 (f0 s.x (f0 s.y s.y)) (f0 s.x (f0 s.y s.y))))),y:=f2 (f0 (f1 (f1 (f0 s.x s.x) (f0 s.x s.x)) (f0 s.x s.x)) (f2 (f1 (f1 (f0 s.x (f0 s.y s.y)) (f0 s.x (f0 s.y s.y))) (f1 (f0 s.x (f0 s.y s.y)) (f0 s.x (f0 s.y s.y)))) (f2 (f0 (f1 (f1 (f0 s.x s.x) (f0 s.x s.x)) (f0 s.x s.x)) (f1 (f1 (f0 s.x s.x) (f0 s.x s.x)) (f0 s.x s.x))) (f1 (f1 (f1 (f0 s.x (f0 s.y s.y)) (f0 s.x (f0 s.y s.y))) (f1 (f0 s.x (f0 s.y s.y)) (f0 s.x (f0 s.y s.y)))) (f1 (f1 (f0 s.x (f0 s.y s.y)) (f0 s.x (f0 s.y s.y))) (f1 (f0 s.x (f0 s.y s.y)) (f0 s.x (f0 s.y s.y)))))))) (f1 (f1 (f1 (f0 (f0 s.y s.y) (f0 s.y s.y)) (f0 (f0 s.y s.y) (f0 s.y s.y))) (f1 (f0 (f0 s.y s.y) (f0 s.y s.y)) (f0 (f0 s.y s.y) (f0 s.y s.y)))) (f1 (f1 (f0 (f0 s.y s.y) (f0 s.y s.y)) (f0 (f0 s.y s.y) (f0 s.y s.y))) (f1 (f0 (f0 s.y s.y) (f0 s.y s.y)) (f0 (f0 s.y s.y) (f0 s.y s.y))))),z:=f1 (f0 s.y s.z) (f0 s.y s.z) })
def twiceG1_T (f0:Fp->Fp->Fp) (f1:Fp->Fp->Fp) (f2:Fp->Fp->Fp) (s:Sp1):Tree (Option (Sp1)):=letI za':=f1 (f0 s.x (f0 s.y s.y)) (f0 s.x (f0 s.y s.y));letI zb':=f0 (f0 s.y s.y) (f0 s.y s.y);letI zc':=f1 (f1 (f0 s.x s.x) (f0 s.x s.x)) (f0 s.x s.x);letI zd':=f1 (f1 za' za') (f1 za' za');letI ze':=f1 (f1 zb' zb') (f1 zb' zb');
 (.leaf (some ({ x:=f2 (f0 zc' zc') zd',y:=f2 (f0 zc' (f2 (f1 za' za') (f2 (f0 zc' zc') zd'))) (f1 ze' ze'),z:=f1 (f0 s.y s.z) (f0 s.y s.z) })))
theorem twiceG1_run (f0:Fp->Fp->Fp) (f1:Fp->Fp->Fp) (f2:Fp->Fp->Fp) (s:Sp1):plainRun (En [(140,Kff f0),(141,Kff f1),(142,Kff f2)]) (kRow Sp1).rs 300 Tryz.f91 [.one ((kRow Sp1).av s)]=twiceG1_T f0 f1 f2 s:=by kernel_rfl
theorem twiceG1_sat (f0:Fp->Fp->Fp) (f1:Fp->Fp->Fp) (f2:Fp->Fp->Fp) (s:Sp1):(twiceG1_T f0 f1 f2 s).sat fun q=>q=some (twiceG1_G f0 f1 f2 s):=(show some _=some _ from rfl)
def twiceG1 (s:Sp1):Sp1:=twiceG1_G halfF addF subF s
theorem twiceG1_ok:CallOk Tryz.prog 91 (K1 (kRow Sp1).arg (kRow Sp1).rs.res twiceG1) :=
 P1 (En_ok (.cons half_ok (.cons add_ok (.cons sub_ok .nil)))) Tryz.func91 (bodied Tryz.func91 (by kernel_rfl) (by kernel_rfl)) 300 (kRow Sp1) (kRow Sp1).rs twiceG1 (twiceG1_run halfF addF subF) (twiceG1_sat halfF addF subF)
def plusG1_G (f0:Fp->Bool) (f1:Fp->Fp->Fp) (f2:Fp->Fp->Fp) (f3:Sp1->Sp1) (f4:Fp->Fp->Fp) (s:Sp1) (t:Sp1):Sp1:=(match (f0 s.z) with | true=>(t) | false=>(match (f0 t.z) with | true=>(s) | false=>(match (f0 (f2 (f1 t.x (f1 s.z s.z)) (f1 s.x (f1 t.z t.z)))) with | true=>(match (f0 (f2 (f1 t.y (f1 (f1 s.z s.z) s.z)) (f1 s.y (f1 (f1 t.z t.z) t.z)))) with | true=>(f3 s) | false=>(zeroSp)) | false=>({ x:=f2 (f2 (f1 (f2 (f1 t.y (f1 (f1 s.z s.z) s.z)) (f1 s.y (f1 (f1 t.z t.z) t.z))) (f2 (f1 t.y (f1 (f1 s.z s.z) s.z)) (f1 s.y (f1 (f1 t.z t.z) t.z)))) (f1 (f1 (f2 (f1 t.x (f1 s.z s.z)) (f1 s.x (f1 t.z t.z))) (f2 (f1 t.x (f1 s.z s.z)) (f1 s.x (f1 t.z t.z)))) (f2 (f1 t.x (f1 s.z s.z)) (f1 s.x (f1 t.z t.z))))) (f4 (f1 (f1 s.x (f1 t.z t.z)) (f1 (f2 (f1 t.x (f1 s.z s.z)) (f1 s.x (f1 t.z t.z))) (f2 (f1 t.x (f1 s.z s.z)) (f1 s.x (f1 t.z t.z))))) (f1 (f1 s.x (f1 t.z t.z)) (f1 (f2 (f1 t.x (f1 s.z s.z)) (f1 s.x (f1 t.z t.z))) (f2 (f1 t.x (f1 s.z s.z)) (f1 s.x (f1 t.z t.z)))))),y:=f2 (f1 (f2 (f1 t.y (f1 (f1 s.z s.z) s.z)) (f1 s.y (f1 (f1 t.z t.z) t.z))) (f2 (f1 (f1 s.x (f1 t.z t.z)) (f1 (f2 (f1 t.x (f1 s.z s.z)) (f1 s.x (f1 t.z t.z))) (f2 (f1 t.x (f1 s.z s.z)) (f1 s.x (f1 t.z t.z))))) (f2 (f2 (f1 (f2 (f1 t.y (f1 (f1 s.z s.z) s.z)) (f1 s.y (f1 (f1 t.z t.z) t.z))) (f2 (f1 t.y (f1 (f1 s.z s.z) s.z)) (f1 s.y (f1 (f1 t.z t.z) t.z)))) (f1 (f1 (f2 (f1 t.x (f1 s.z s.z)) (f1 s.x (f1 t.z t.z))) (f2 (f1 t.x (f1 s.z s.z)) (f1 s.x (f1 t.z t.z)))) (f2 (f1 t.x (f1 s.z s.z)) (f1 s.x (f1 t.z t.z))))) (f4 (f1 (f1 s.x (f1 t.z t.z)) (f1 (f2 (f1 t.x (f1 s.z s.z)) (f1 s.x (f1 t.z t.z))) (f2 (f1 t.x (f1 s.z s.z)) (f1 s.x (f1 t.z t.z))))) (f1 (f1 s.x (f1 t.z t.z)) (f1 (f2 (f1 t.x (f1 s.z s.z)) (f1 s.x (f1 t.z t.z))) (f2 (f1 t.x (f1 s.z s.z)) (f1 s.x (f1 t.z t.z))))))))) (f1 (f1 s.y (f1 (f1 t.z t.z) t.z)) (f1 (f1 (f2 (f1 t.x (f1 s.z s.z)) (f1 s.x (f1 t.z t.z))) (f2 (f1 t.x (f1 s.z s.z)) (f1 s.x (f1 t.z t.z)))) (f2 (f1 t.x (f1 s.z s.z)) (f1 s.x (f1 t.z t.z))))),z:=f1 (f1 s.z t.z) (f2 (f1 t.x (f1 s.z s.z)) (f1 s.x (f1 t.z t.z))) }))))
def plusG1_T (f0:Fp->Bool) (f1:Fp->Fp->Fp) (f2:Fp->Fp->Fp) (f3:Sp1->Sp1) (f4:Fp->Fp->Fp) (s:Sp1) (t:Sp1):Tree (Option (Sp1)):=letI za':=f2 (f1 t.x (f1 s.z s.z)) (f1 s.x (f1 t.z t.z));letI zb':=f2 (f1 t.y (f1 (f1 s.z s.z) s.z)) (f1 s.y (f1 (f1 t.z t.z) t.z));letI zc':=f1 (f1 s.x (f1 t.z t.z)) (f1 za' za');letI zd':=f2 (f1 zb' zb') (f1 (f1 za' za') za');letI ze':=f1 (f1 s.y (f1 (f1 t.z t.z) t.z)) (f1 (f1 za' za') za');letI zf':=f1 zb' (f2 zc' (f2 zd' (f4 zc' zc')));
 (.br (f0 s.z) (.leaf (some (t))) (.br (f0 t.z) (.leaf (some (s))) (.br (f0 za') (.br (f0 zb') (.leaf (some (f3 s))) (.br (f0 za') (.leaf (some (zeroSp))) (.leaf (some ({ x:=f2 zd' (f4 zc' zc'),y:=f2 zf' ze',z:=f1 (f1 s.z t.z) za' }))))) (.br (f0 za') (.leaf (some (zeroSp))) (.leaf (some ({ x:=f2 zd' (f4 zc' zc'),y:=f2 zf' ze',z:=f1 (f1 s.z t.z) za' })))))))
theorem plusG1_run (f0:Fp->Bool) (f1:Fp->Fp->Fp) (f2:Fp->Fp->Fp) (f3:Sp1->Sp1) (f4:Fp->Fp->Fp) (s:Sp1) (t:Sp1):plainRun (En [(98,K1 (kRow Fp).arg kBool.rs.res f0),(140,Kff f1),(142,Kff f2),(91,K1 (kRow Sp1).arg (kRow Sp1).rs.res f3),(141,Kff f4)]) (kRow Sp1).rs 300 Tryz.f92 [.one ((kRow Sp1).av s),.one ((kRow Sp1).av t)]=plusG1_T f0 f1 f2 f3 f4 s t:=by kernel_rfl
theorem plusG1_sat (f0:Fp->Bool) (f1:Fp->Fp->Fp) (f2:Fp->Fp->Fp) (f3:Sp1->Sp1) (f4:Fp->Fp->Fp) (s:Sp1) (t:Sp1):(plusG1_T f0 f1 f2 f3 f4 s t).sat fun q=>q=some (plusG1_G f0 f1 f2 f3 f4 s t):=⟨fun h0=>(show some _=some _ from congrArg some (by unfold plusG1_G;rw [h0])),fun h0=>⟨fun h1=>(show some _=some _ from congrArg some (by unfold plusG1_G;rw [h0,h1])),fun h1=>⟨fun h2=>⟨fun h3=>(show some _=some _ from congrArg some (by unfold plusG1_G;rw [h0,h1,h2,h3])),fun h3=>⟨fun _=>(show some _=some _ from congrArg some (by unfold plusG1_G;rw [h0,h1,h2,h3])),fun h4=>absurd (h2.symm.trans h4) (by decide)⟩⟩,fun h2=>⟨fun h3=>absurd (h2.symm.trans h3) (by decide),fun _=>(show some _=some _ from congrArg some (by unfold plusG1_G;rw [h0,h1,h2]))⟩⟩⟩⟩
def plusG1 (s:Sp1) (t:Sp1):Sp1:=plusG1_G zeroG1 halfF subF twiceG1 addF s t
theorem plusG1_ok:CallOk Tryz.prog 92 (K2 (kRow Sp1).arg (kRow Sp1).arg (kRow Sp1).rs.res plusG1) :=
 P2 (En_ok (.cons zeroG1_ok (.cons half_ok (.cons sub_ok (.cons twiceG1_ok (.cons add_ok .nil)))))) Tryz.func92 (bodied Tryz.func92 (by kernel_rfl) (by kernel_rfl)) 300 (kRow Sp1) (kRow Sp1) (kRow Sp1).rs plusG1 (plusG1_run zeroG1 halfF subF twiceG1 addF) (plusG1_sat zeroG1 halfF subF twiceG1 addF)
def negG1_G (f0:Fp->Fp) (p:Pg1):Pg1:=(match (p.inf) with | true=>(p) | false=>({ x:=p.x,y:=f0 p.y,inf:=false }))
def negG1_T (f0:Fp->Fp) (p:Pg1):Tree (Option (Pg1)) :=
 (.br (p.inf)
  (.leaf (some (p)))
  (.leaf (some ({ x:=p.x,y:=f0 p.y,inf:=false }))))
theorem negG1_run (f0:Fp->Fp) (p:Pg1):plainRun (En [(111,Kf f0)]) (kRow Pg1).rs 300 Tryz.f68 [.one ((kRow Pg1).av p)]=negG1_T f0 p:=by kernel_rfl
theorem negG1_sat (f0:Fp->Fp) (p:Pg1):(negG1_T f0 p).sat fun q=>q=some (negG1_G f0 p):=⟨fun h0=>(show some _=some _ from congrArg some (by unfold negG1_G;rw [h0])),fun h0=>(show some _=some _ from congrArg some (by unfold negG1_G;rw [h0]))⟩
def negG1 (p:Pg1):Pg1:=negG1_G negF p
theorem negG1_ok:CallOk Tryz.prog 68 (K1 (kRow Pg1).arg (kRow Pg1).rs.res negG1) :=
 P1 (En_ok (.cons neg_ok .nil)) Tryz.func68 (bodied Tryz.func68 (by kernel_rfl) (by kernel_rfl)) 300 (kRow Pg1) (kRow Pg1).rs negG1 (negG1_run negF) (negG1_sat negF)
end
section
def pw2St (e:List UInt64) (x o:Fp2) (z:Int):St:=mkSt 39 [(1,inV 0 e),(4,ptrV 1),(5,ptrV 2),(6,ptrV 3),(7,vI z)] [inHE eU64 e,own 40 (zeros 12),own 40 (Row.cs x),own 40 (Row.cs o)]
def tPw2 (wF:Fp2->Fp2) (hF:Fp2->Fp2->Fp2) (lF:Fp2->Fp2):Table := [(151,Kp1 wF),(177,Kp2 hF),(180,Kp1 lF)]
theorem pw2_front (T:Table) (a:Fp2) (e:List UInt64):stageT (En T) 100 ((flat (codeOf Tryz.f189)).take 1) (startSt Tryz.f189 [vF2 a,iL.av 0 e] [inHE eU64 e]) [1,2,4] [0,1,2] = .leaf (mkSt 39 [(1,inV 0 e),(2,ptrV 1),(4,ptrV 2)] [inHE eU64 e,own 40 (Row.cs a),own 40 (zeros 12)]):=by kernel_rfl
theorem pw2_start (hF:Fp2->Fp2->Fp2) (wF lF:Fp2->Fp2) (a:Fp2) (e:List UInt64):stageT (En (tPw2 wF hF lF)) 100 ((flat (scopeOf Tryz.f189)).take 3) (mkSt 39 [(1,inV 0 e),(2,ptrV 1),(4,ptrV 2)] [inHE eU64 e,own 40 (Row.cs a),own 40 (zeros 12)]) [1,4,5,6,7] [0,2,3,4] = .vc (0+e.length*1<=(eU64.body e).cells.length/\0<1) (.leaf (pw2St e (wF a) (wF oneFp2) (IntKind.i64.wrap (64*e.length)))):=by kernel_rfl
theorem pw2_iter (hF:Fp2->Fp2->Fp2) (wF lF:Fp2->Fp2) (x o:Fp2) (e:List UInt64) (z:Int):letI za':=IntKind.i64.wrap (z-1);iterT (En (tPw2 wF hF lF)) oF2 100 Tryz.f189 ((flat (scopeOf Tryz.f189)).drop 3) (pw2St e x o z) [1,4,5,6,7] [0,1,2,3] = .br (decide (IntKind.i64.wrap (z-1)<0)) (.leaf (.inr (some (lF o,.t)))) (.vc ((0<=quoZ z/\quoZ z<e.length)/\0+e.length*1<=(eU64.body e).cells.length/\0<1) (.vc (0+(quoZ z).toNat*1<e.length) (.br (bitZ e z) (.leaf (.inl (.goto 0,pw2St e x (hF (hF o o) x) za'))) (.leaf (.inl (.goto 0,pw2St e x (hF o o) za')))))):=by kernel_rfl
def pw2At (x:Fp2) (e:List UInt64):Nat->Fp2->Fp2
 | 0,o=>lowF2 o
 | n+1,o=>pw2At x e n (match bitAt e n with | true=>halfF2 (halfF2 o o) x | false=>halfF2 o o)
def powF2 (a:Fp2) (e:List UInt64):Fp2:=pw2At (wholeF2 a) e (64*e.length) (wholeF2 oneFp2)
abbrev Pw2Ok (a:Fp2) (e:List UInt64):Type := { q:Int × Fp2 // 0<=q.1/\q.1<=64*e.length/\pw2At (wholeF2 a) e q.1.toNat q.2=powF2 a e }
def pw2I (a:Fp2) (e:List UInt64) (q:Pw2Ok a e):St:=pw2St e (wholeF2 a) q.1.2 q.1.1
theorem pw2_ok:CallOk Tryz.prog 189 (K2 (kRow Fp2).arg aL rF2.res powF2) :=
 G2 (E:=En (tPw2 wholeF2 halfF2 lowF2)) Tryz.func189 (c:=codeOf Tryz.f189) (by kernel_rfl) (bodied Tryz.func189 (by kernel_rfl) (by kernel_rfl)) (kRow Fp2).inp iL oF2 powF2 fun a e _ he=>by
  have hE:EnvOk (En (tPw2 wholeF2 halfF2 lowF2)):=En_ok (.cons wholeF2_ok (.cons halfF2_ok (.cons lowF2_ok .nil)))
  have he:e.length<1125899906842624:=he
  have hw:IntKind.i64.wrap (64*(e.length:Int))=64*(e.length:Int):=IntWalk.i64_in _ (by omega)
  refine DoesL.stageE hE 100 1 [1,2,4] [0,1,2] (pw2_front _ a e) ?_
  refine DoesL.scopeFn (body:=scopeOf Tryz.f189) (rest:=restOf Tryz.f189) (tail := []) (l:=0) hE (by kernel_rfl) (by kernel_rfl) 100 3 (by kernel_rfl) [1,4,5,6,7] [0,2,3,4] (pw2I a e) (fun q=>q.1.1.toNat)
   ⟨(64*(e.length:Int),wholeF2 oneFp2),by simp only [];omega,by simp only [];omega,by rw [show ((64*(e.length:Int),wholeF2 oneFp2):Int × Fp2).1.toNat=64*e.length by simp only [];omega];simp only [powF2]⟩
   (pw2_start halfF2 wholeF2 lowF2 a e) ⟨⟨by rw [cells_len];omega,by decide⟩,fun _=>by rw [hw];exact Tree.sat_leaf (by simp only [pw2I])⟩ fun q => ?_
  obtain ⟨⟨z,o⟩,h0,h1,h2⟩:=q
  simp only [] at h0 h1 h2
  have hz:IntKind.i64.wrap (z-1)=z-1:=IntWalk.i64_in _ (by omega)
  refine DoesL.iter hE 100 [1,4,5,6,7] [0,1,2,3] (pw2_iter halfF2 wholeF2 lowF2 (wholeF2 a) o e z) ?_
  rw [hz]
  refine ⟨fun h => ?_,fun h => ?_⟩
  ·simp only [decide_eq_true_eq] at h
   obtain rfl:z=0:=by omega
   exact ⟨.t,by rw [<- h2];rfl,trivial⟩
  ·simp only [decide_eq_false_iff_not] at h
   obtain ⟨n,rfl⟩ : ∃ n:Nat,z=(n:Int)+1:=⟨(z-1).toNat,by omega⟩
   rw [quoZ_nat n (by omega),bitZ_nat e n (by omega)]
   rw [show ((n:Int)+1).toNat=n+1 by omega] at h2
   simp only [pw2At] at h2
   refine ⟨⟨⟨by omega,by omega⟩,by rw [cells_len];omega,by decide⟩,fun _=>⟨by omega,fun _=>⟨fun h3 => ?_,fun h3 => ?_⟩⟩⟩
   all_goals
    have hn:((n:Int)+1-1).toNat=n:=by omega
    rw [h3] at h2
    simp only [] at h2
   ·refine ⟨rfl,⟨((n:Int)+1-1,halfF2 (halfF2 o o) (wholeF2 a)),?_,?_,?_⟩,?_,by simp only [pw2I]⟩
    ·show 0<=(n:Int)+1-1;omega
    ·show (n:Int)+1-1<=64*e.length;omega
    ·simpa only [hn] using h2
    ·show ((n:Int)+1-1).toNat<((n:Int)+1).toNat;omega
   ·refine ⟨rfl,⟨((n:Int)+1-1,halfF2 o o),?_,?_,?_⟩,?_,by simp only [pw2I]⟩
    ·show 0<=(n:Int)+1-1;omega
    ·show (n:Int)+1-1<=64*e.length;omega
    ·simpa only [hn] using h2
    ·show ((n:Int)+1-1).toNat<((n:Int)+1).toNat;omega
end
section
def oneG2_G  : Pg2:=({ x := { c0 := { l0:=UInt64.ofNat 15312334153293348280,l1:=UInt64.ofNat 841050694974028783,l2:=UInt64.ofNat 12993178926126977399,l3:=UInt64.ofNat 14331714969349929730,l4:=UInt64.ofNat 2740446039084699729,l5:=UInt64.ofNat 165123225776229009 },c1 := { l0:=UInt64.ofNat 16549740192668593022,l1:=UInt64.ofNat 3696594454104530263,l2:=UInt64.ofNat 13103893525273989193,l3:=UInt64.ofNat 6443473286224459290,l4:=UInt64.ofNat 9055845637167730533,l5:=UInt64.ofNat 1432192374203850592 } },y := { c0 := { l0:=UInt64.ofNat 16254428414758889473,l1:=UInt64.ofNat 10536956157198377609,l2:=UInt64.ofNat 7873024875724591404,l3:=UInt64.ofNat 12537348094477325223,l4:=UInt64.ofNat 10144865889576432922,l5:=UInt64.ofNat 929383263523139089 },c1 := { l0:=UInt64.ofNat 12297368366147926462,l1:=UInt64.ofNat 4555124010822409633,l2:=UInt64.ofNat 2771000935339432363,l3:=UInt64.ofNat 14645187562128761775,l4:=UInt64.ofNat 3651525051980876697,l5:=UInt64.ofNat 434250606344352972 } },inf:=false })
def oneG2_T  : Tree (Option (Pg2)) :=
 (.leaf (some ({ x := { c0 := { l0:=UInt64.ofNat 15312334153293348280,l1:=UInt64.ofNat 841050694974028783,l2:=UInt64.ofNat 12993178926126977399,l3:=UInt64.ofNat 14331714969349929730,l4:=UInt64.ofNat 2740446039084699729,l5:=UInt64.ofNat 165123225776229009 },c1 := { l0:=UInt64.ofNat 16549740192668593022,l1:=UInt64.ofNat 3696594454104530263,l2:=UInt64.ofNat 13103893525273989193,l3:=UInt64.ofNat 6443473286224459290,l4:=UInt64.ofNat 9055845637167730533,l5:=UInt64.ofNat 1432192374203850592 } },y := { c0 := { l0:=UInt64.ofNat 16254428414758889473,l1:=UInt64.ofNat 10536956157198377609,l2:=UInt64.ofNat 7873024875724591404,l3:=UInt64.ofNat 12537348094477325223,l4:=UInt64.ofNat 10144865889576432922,l5:=UInt64.ofNat 929383263523139089 },c1 := { l0:=UInt64.ofNat 12297368366147926462,l1:=UInt64.ofNat 4555124010822409633,l2:=UInt64.ofNat 2771000935339432363,l3:=UInt64.ofNat 14645187562128761775,l4:=UInt64.ofNat 3651525051980876697,l5:=UInt64.ofNat 434250606344352972 } },inf:=false })))
theorem oneG2_run  : plainRun (En []) (kRow Pg2).rs 300 Tryz.f67 []=oneG2_T  := by kernel_rfl
theorem oneG2_sat  : (oneG2_T ).sat fun q=>q=some (oneG2_G ):=(show some _=some _ from rfl)
def oneG2  : Pg2:=oneG2_G
theorem oneG2_ok:CallOk Tryz.prog 67 (K0 (kRow Pg2).rs.res oneG2) :=
 P0 (En_ok .nil) Tryz.func67 (bodied Tryz.func67 (by kernel_rfl) (by kernel_rfl)) 300  (kRow Pg2).rs oneG2 (oneG2_run ) (oneG2_sat )
def rhsG2_G (f0:Fp2->Fp2->Fp2) (f1:Fp2->Fp2->Fp2) (x:Fp2):Fp2:=(f0 (f1 (f1 x x) x) { c0 := { l0:=UInt64.ofNat 4,l1:=UInt64.ofNat 0,l2:=UInt64.ofNat 0,l3:=UInt64.ofNat 0,l4:=UInt64.ofNat 0,l5:=UInt64.ofNat 0 },c1 := { l0:=UInt64.ofNat 4,l1:=UInt64.ofNat 0,l2:=UInt64.ofNat 0,l3:=UInt64.ofNat 0,l4:=UInt64.ofNat 0,l5:=UInt64.ofNat 0 } })
def rhsG2_T (f0:Fp2->Fp2->Fp2) (f1:Fp2->Fp2->Fp2) (x:Fp2):Tree (Option (Fp2)):=letI za':Fp := { l0:=UInt64.ofNat 4,l1:=UInt64.ofNat 0,l2:=UInt64.ofNat 0,l3:=UInt64.ofNat 0,l4:=UInt64.ofNat 0,l5:=UInt64.ofNat 0 };
 (.leaf (some (f0 (f1 (f1 x x) x) { c0:=za',c1:=za' })))
theorem rhsG2_run (f0:Fp2->Fp2->Fp2) (f1:Fp2->Fp2->Fp2) (x:Fp2):plainRun (En [(178,K2 (kRow Fp2).arg (kRow Fp2).arg (kRow Fp2).rs.res f0),(147,K2 (kRow Fp2).arg (kRow Fp2).arg (kRow Fp2).rs.res f1)]) (kRow Fp2).rs 300 Tryz.f148 [.one ((kRow Fp2).av x)]=rhsG2_T f0 f1 x:=by kernel_rfl
theorem rhsG2_sat (f0:Fp2->Fp2->Fp2) (f1:Fp2->Fp2->Fp2) (x:Fp2):(rhsG2_T f0 f1 x).sat fun q=>q=some (rhsG2_G f0 f1 x):=(show some _=some _ from rfl)
def rhsG2 (x:Fp2):Fp2:=rhsG2_G addF2 mulF2 x
theorem rhsG2_ok:CallOk Tryz.prog 148 (K1 (kRow Fp2).arg (kRow Fp2).rs.res rhsG2) :=
 P1 (En_ok (.cons addF2_ok (.cons mulF2_ok .nil))) Tryz.func148 (bodied Tryz.func148 (by kernel_rfl) (by kernel_rfl)) 300 (kRow Fp2) (kRow Fp2).rs rhsG2 (rhsG2_run addF2 mulF2) (rhsG2_sat addF2 mulF2)
def onG2_G (f0:Fp2->Bool) (f1:Fp2->Fp2->Fp2) (f2:Fp2->Fp2) (p:Pg2):Bool:=(match (p.inf) with | true=>((pg2Eq (p) (infG2))) | false=>(match (f0 p.x) with | true=>(match (f0 p.y) with | true=>((fp2Eq (f1 p.y p.y) (f2 p.x))) | false=>((false))) | false=>((false))))
def onG2_T (f0:Fp2->Bool) (f1:Fp2->Fp2->Fp2) (f2:Fp2->Fp2) (p:Pg2):Tree (Option (Bool)) :=
 (.br (p.inf) (.leaf (some ((pg2Eq (p) (infG2))))) (.br (f0 p.x) (.br (f0 p.y) (.leaf (some ((fp2Eq (f1 p.y p.y) (f2 p.x))))) (.leaf (some ((false))))) (.leaf (some ((false))))))
theorem onG2_run (f0:Fp2->Bool) (f1:Fp2->Fp2->Fp2) (f2:Fp2->Fp2) (p:Pg2):plainRun (En [(146,K1 (kRow Fp2).arg kBool.rs.res f0),(147,K2 (kRow Fp2).arg (kRow Fp2).arg (kRow Fp2).rs.res f1),(148,K1 (kRow Fp2).arg (kRow Fp2).rs.res f2)]) kBool.rs 300 Tryz.f101 [.one ((kRow Pg2).av p)]=onG2_T f0 f1 f2 p:=by kernel_rfl
theorem onG2_sat (f0:Fp2->Bool) (f1:Fp2->Fp2->Fp2) (f2:Fp2->Fp2) (p:Pg2):(onG2_T f0 f1 f2 p).sat fun q=>q=some (onG2_G f0 f1 f2 p):=⟨fun h0=>(show some _=some _ from congrArg some (by unfold onG2_G;rw [h0])),fun h0=>⟨fun h1=>⟨fun h2=>(show some _=some _ from congrArg some (by unfold onG2_G;rw [h0,h1,h2])),fun h2=>(show some _=some _ from congrArg some (by unfold onG2_G;rw [h0,h1,h2]))⟩,fun h1=>(show some _=some _ from congrArg some (by unfold onG2_G;rw [h0,h1]))⟩⟩
def onG2 (p:Pg2):Bool:=onG2_G mayF2 mulF2 rhsG2 p
theorem onG2_ok:CallOk Tryz.prog 101 (K1 (kRow Pg2).arg kBool.rs.res onG2) :=
 P1 (En_ok (.cons mayF2_ok (.cons mulF2_ok (.cons rhsG2_ok .nil)))) Tryz.func101 (bodied Tryz.func101 (by kernel_rfl) (by kernel_rfl)) 300 (kRow Pg2) kBool.rs onG2 (onG2_run mayF2 mulF2 rhsG2) (onG2_sat mayF2 mulF2 rhsG2)
def liftG2_G (f0:Fp2->Fp2) (p:Pg2):Fp6:=(match (p.inf) with | true=>(zeroFp6) | false=>({ c0:=f0 p.x,c1:=f0 p.y,c2:=f0 oneFp2 }))
def liftG2_T (f0:Fp2->Fp2) (p:Pg2):Tree (Option (Fp6)) :=
 (.br (p.inf)
  (.leaf (some (zeroFp6)))
  (.leaf (some ({ c0:=f0 p.x,c1:=f0 p.y,c2:=f0 oneFp2 }))))
theorem liftG2_run (f0:Fp2->Fp2) (p:Pg2):plainRun (En [(151,K1 (kRow Fp2).arg (kRow Fp2).rs.res f0)]) (kRow Fp6).rs 300 Tryz.f104 [.one ((kRow Pg2).av p)]=liftG2_T f0 p:=by kernel_rfl
theorem liftG2_sat (f0:Fp2->Fp2) (p:Pg2):(liftG2_T f0 p).sat fun q=>q=some (liftG2_G f0 p):=⟨fun h0=>(show some _=some _ from congrArg some (by unfold liftG2_G;rw [h0])),fun h0=>(show some _=some _ from congrArg some (by unfold liftG2_G;rw [h0]))⟩
def liftG2 (p:Pg2):Fp6:=liftG2_G wholeF2 p
theorem liftG2_ok:CallOk Tryz.prog 104 (K1 (kRow Pg2).arg (kRow Fp6).rs.res liftG2) :=
 P1 (En_ok (.cons wholeF2_ok .nil)) Tryz.func104 (bodied Tryz.func104 (by kernel_rfl) (by kernel_rfl)) 300 (kRow Pg2) (kRow Fp6).rs liftG2 (liftG2_run wholeF2) (liftG2_sat wholeF2)
def zeroG2_G (a:Fp2):Bool:=((fp2Eq (a) (zeroFp2)))
def zeroG2_T (a:Fp2):Tree (Option (Bool)) :=
 (.leaf (some ((fp2Eq (a) (zeroFp2)))))
theorem zeroG2_run (a:Fp2):plainRun (En []) kBool.rs 300 Tryz.f102 [.one ((kRow Fp2).av a)]=zeroG2_T a:=by kernel_rfl
theorem zeroG2_sat (a:Fp2):(zeroG2_T a).sat fun q=>q=some (zeroG2_G a):=(show some _=some _ from rfl)
def zeroG2 (a:Fp2):Bool:=zeroG2_G  a
theorem zeroG2_ok:CallOk Tryz.prog 102 (K1 (kRow Fp2).arg kBool.rs.res zeroG2) :=
 P1 (En_ok .nil) Tryz.func102 (bodied Tryz.func102 (by kernel_rfl) (by kernel_rfl)) 300 (kRow Fp2) kBool.rs zeroG2 (zeroG2_run ) (zeroG2_sat )
def twiceG2_G (f0:Fp2->Fp2->Fp2) (f1:Fp2->Fp2->Fp2) (f2:Fp2->Fp2->Fp2) (s:Fp6):Fp6:=({ c0:=f2 (f0 (f1 (f1 (f0 s.c0 s.c0) (f0 s.c0 s.c0)) (f0 s.c0 s.c0)) (f1 (f1 (f0 s.c0 s.c0) (f0 s.c0 s.c0)) (f0 s.c0 s.c0))) (f1 (f1 (f1 (f0 s.c0 (f0 s.c1 s.c1)) (f0 s.c0 (f0 s.c1 s.c1))) (f1 (f0 s.c0 (f0 s.c1 s.c1)) (f0 s.c0 (f0 s.c1 s.c1)))) (f1 (f1 (f0 s.c0 (f0 s.c1 s.c1)) (f0 s.c0 (f0 s.c1 s.c1))) (f1 (f0 s.c0 (f0 s.c1 s.c1)) (f0 s.c0 (f0 s.c1 s.c1))))),c1:=f2 (f0 (f1 (f1 (f0 s.c0 s.c0) (f0 s.c0 s.c0)) (f0 s.c0 s.c0)) (f2 (f1 (f1 (f0 s.c0 (f0 s.c1 s.c1)) (f0 s.c0 (f0 s.c1 s.c1))) (f1 (f0 s.c0 (f0 s.c1 s.c1)) (f0 s.c0 (f0 s.c1 s.c1)))) (f2 (f0 (f1 (f1 (f0 s.c0 s.c0) (f0 s.c0 s.c0)) (f0 s.c0 s.c0)) (f1 (f1 (f0 s.c0 s.c0) (f0 s.c0 s.c0)) (f0 s.c0 s.c0))) (f1 (f1 (f1 (f0 s.c0 (f0 s.c1 s.c1)) (f0 s.c0 (f0 s.c1 s.c1))) (f1 (f0 s.c0 (f0 s.c1 s.c1)) (f0 s.c0 (f0 s.c1 s.c1)))) (f1 (f1 (f0 s.c0 (f0 s.c1 s.c1)) (f0 s.c0 (f0 s.c1 s.c1))) (f1 (f0 s.c0 (f0 s.c1 s.c1)) (f0 s.c0 (f0 s.c1 s.c1)))))))) (f1 (f1 (f1 (f0 (f0 s.c1 s.c1) (f0 s.c1 s.c1)) (f0 (f0 s.c1 s.c1) (f0 s.c1 s.c1))) (f1 (f0 (f0 s.c1 s.c1) (f0 s.c1 s.c1)) (f0 (f0 s.c1 s.c1) (f0 s.c1 s.c1)))) (f1 (f1 (f0 (f0 s.c1 s.c1) (f0 s.c1 s.c1)) (f0 (f0 s.c1 s.c1) (f0 s.c1 s.c1))) (f1 (f0 (f0 s.c1 s.c1) (f0 s.c1 s.c1)) (f0 (f0 s.c1 s.c1) (f0 s.c1 s.c1))))),c2:=f1 (f0 s.c1 s.c2) (f0 s.c1 s.c2) })
def twiceG2_T (f0:Fp2->Fp2->Fp2) (f1:Fp2->Fp2->Fp2) (f2:Fp2->Fp2->Fp2) (s:Fp6):Tree (Option (Fp6)):=letI za':=f1 (f0 s.c0 (f0 s.c1 s.c1)) (f0 s.c0 (f0 s.c1 s.c1));letI zb':=f0 (f0 s.c1 s.c1) (f0 s.c1 s.c1);letI zc':=f1 (f1 (f0 s.c0 s.c0) (f0 s.c0 s.c0)) (f0 s.c0 s.c0);letI zd':=f1 (f1 za' za') (f1 za' za');letI ze':=f1 (f1 zb' zb') (f1 zb' zb');
 (.leaf (some ({ c0:=f2 (f0 zc' zc') zd',c1:=f2 (f0 zc' (f2 (f1 za' za') (f2 (f0 zc' zc') zd'))) (f1 ze' ze'),c2:=f1 (f0 s.c1 s.c2) (f0 s.c1 s.c2) })))
theorem twiceG2_run (f0:Fp2->Fp2->Fp2) (f1:Fp2->Fp2->Fp2) (f2:Fp2->Fp2->Fp2) (s:Fp6):plainRun (En [(177,K2 (kRow Fp2).arg (kRow Fp2).arg (kRow Fp2).rs.res f0),(178,K2 (kRow Fp2).arg (kRow Fp2).arg (kRow Fp2).rs.res f1),(179,K2 (kRow Fp2).arg (kRow Fp2).arg (kRow Fp2).rs.res f2)]) (kRow Fp6).rs 300 Tryz.f149 [.one ((kRow Fp6).av s)]=twiceG2_T f0 f1 f2 s:=by kernel_rfl
theorem twiceG2_sat (f0:Fp2->Fp2->Fp2) (f1:Fp2->Fp2->Fp2) (f2:Fp2->Fp2->Fp2) (s:Fp6):(twiceG2_T f0 f1 f2 s).sat fun q=>q=some (twiceG2_G f0 f1 f2 s):=(show some _=some _ from rfl)
def twiceG2 (s:Fp6):Fp6:=twiceG2_G halfF2 addF2 subF2 s
theorem twiceG2_ok:CallOk Tryz.prog 149 (K1 (kRow Fp6).arg (kRow Fp6).rs.res twiceG2) :=
 P1 (En_ok (.cons halfF2_ok (.cons addF2_ok (.cons subF2_ok .nil)))) Tryz.func149 (bodied Tryz.func149 (by kernel_rfl) (by kernel_rfl)) 300 (kRow Fp6) (kRow Fp6).rs twiceG2 (twiceG2_run halfF2 addF2 subF2) (twiceG2_sat halfF2 addF2 subF2)
def plusG2_G (f0:Fp2->Bool) (f1:Fp2->Fp2->Fp2) (f2:Fp2->Fp2->Fp2) (f3:Fp6->Fp6) (f4:Fp2->Fp2->Fp2) (s:Fp6) (t:Fp6):Fp6:=(match (f0 s.c2) with | true=>(t) | false=>(match (f0 t.c2) with | true=>(s) | false=>(match (f0 (f2 (f1 t.c0 (f1 s.c2 s.c2)) (f1 s.c0 (f1 t.c2 t.c2)))) with | true=>(match (f0 (f2 (f1 t.c1 (f1 (f1 s.c2 s.c2) s.c2)) (f1 s.c1 (f1 (f1 t.c2 t.c2) t.c2)))) with | true=>(f3 s) | false=>(zeroFp6)) | false=>({ c0:=f2 (f2 (f1 (f2 (f1 t.c1 (f1 (f1 s.c2 s.c2) s.c2)) (f1 s.c1 (f1 (f1 t.c2 t.c2) t.c2))) (f2 (f1 t.c1 (f1 (f1 s.c2 s.c2) s.c2)) (f1 s.c1 (f1 (f1 t.c2 t.c2) t.c2)))) (f1 (f1 (f2 (f1 t.c0 (f1 s.c2 s.c2)) (f1 s.c0 (f1 t.c2 t.c2))) (f2 (f1 t.c0 (f1 s.c2 s.c2)) (f1 s.c0 (f1 t.c2 t.c2)))) (f2 (f1 t.c0 (f1 s.c2 s.c2)) (f1 s.c0 (f1 t.c2 t.c2))))) (f4 (f1 (f1 s.c0 (f1 t.c2 t.c2)) (f1 (f2 (f1 t.c0 (f1 s.c2 s.c2)) (f1 s.c0 (f1 t.c2 t.c2))) (f2 (f1 t.c0 (f1 s.c2 s.c2)) (f1 s.c0 (f1 t.c2 t.c2))))) (f1 (f1 s.c0 (f1 t.c2 t.c2)) (f1 (f2 (f1 t.c0 (f1 s.c2 s.c2)) (f1 s.c0 (f1 t.c2 t.c2))) (f2 (f1 t.c0 (f1 s.c2 s.c2)) (f1 s.c0 (f1 t.c2 t.c2)))))),c1:=f2 (f1 (f2 (f1 t.c1 (f1 (f1 s.c2 s.c2) s.c2)) (f1 s.c1 (f1 (f1 t.c2 t.c2) t.c2))) (f2 (f1 (f1 s.c0 (f1 t.c2 t.c2)) (f1 (f2 (f1 t.c0 (f1 s.c2 s.c2)) (f1 s.c0 (f1 t.c2 t.c2))) (f2 (f1 t.c0 (f1 s.c2 s.c2)) (f1 s.c0 (f1 t.c2 t.c2))))) (f2 (f2 (f1 (f2 (f1 t.c1 (f1 (f1 s.c2 s.c2) s.c2)) (f1 s.c1 (f1 (f1 t.c2 t.c2) t.c2))) (f2 (f1 t.c1 (f1 (f1 s.c2 s.c2) s.c2)) (f1 s.c1 (f1 (f1 t.c2 t.c2) t.c2)))) (f1 (f1 (f2 (f1 t.c0 (f1 s.c2 s.c2)) (f1 s.c0 (f1 t.c2 t.c2))) (f2 (f1 t.c0 (f1 s.c2 s.c2)) (f1 s.c0 (f1 t.c2 t.c2)))) (f2 (f1 t.c0 (f1 s.c2 s.c2)) (f1 s.c0 (f1 t.c2 t.c2))))) (f4 (f1 (f1 s.c0 (f1 t.c2 t.c2)) (f1 (f2 (f1 t.c0 (f1 s.c2 s.c2)) (f1 s.c0 (f1 t.c2 t.c2))) (f2 (f1 t.c0 (f1 s.c2 s.c2)) (f1 s.c0 (f1 t.c2 t.c2))))) (f1 (f1 s.c0 (f1 t.c2 t.c2)) (f1 (f2 (f1 t.c0 (f1 s.c2 s.c2)) (f1 s.c0 (f1 t.c2 t.c2))) (f2 (f1 t.c0 (f1 s.c2 s.c2)) (f1 s.c0 (f1 t.c2 t.c2))))))))) (f1 (f1 s.c1 (f1 (f1 t.c2 t.c2) t.c2)) (f1 (f1 (f2 (f1 t.c0 (f1 s.c2 s.c2)) (f1 s.c0 (f1 t.c2 t.c2))) (f2 (f1 t.c0 (f1 s.c2 s.c2)) (f1 s.c0 (f1 t.c2 t.c2)))) (f2 (f1 t.c0 (f1 s.c2 s.c2)) (f1 s.c0 (f1 t.c2 t.c2))))),c2:=f1 (f1 s.c2 t.c2) (f2 (f1 t.c0 (f1 s.c2 s.c2)) (f1 s.c0 (f1 t.c2 t.c2))) }))))
def plusG2_T (f0:Fp2->Bool) (f1:Fp2->Fp2->Fp2) (f2:Fp2->Fp2->Fp2) (f3:Fp6->Fp6) (f4:Fp2->Fp2->Fp2) (s:Fp6) (t:Fp6):Tree (Option (Fp6)):=letI za':=f2 (f1 t.c0 (f1 s.c2 s.c2)) (f1 s.c0 (f1 t.c2 t.c2));letI zb':=f2 (f1 t.c1 (f1 (f1 s.c2 s.c2) s.c2)) (f1 s.c1 (f1 (f1 t.c2 t.c2) t.c2));letI zc':=f1 (f1 s.c0 (f1 t.c2 t.c2)) (f1 za' za');letI zd':=f2 (f1 zb' zb') (f1 (f1 za' za') za');letI ze':=f1 (f1 s.c1 (f1 (f1 t.c2 t.c2) t.c2)) (f1 (f1 za' za') za');letI zf':=f1 zb' (f2 zc' (f2 zd' (f4 zc' zc')));
 (.br (f0 s.c2) (.leaf (some (t))) (.br (f0 t.c2) (.leaf (some (s))) (.br (f0 za') (.br (f0 zb') (.leaf (some (f3 s))) (.br (f0 za') (.leaf (some (zeroFp6))) (.leaf (some ({ c0:=f2 zd' (f4 zc' zc'),c1:=f2 zf' ze',c2:=f1 (f1 s.c2 t.c2) za' }))))) (.br (f0 za') (.leaf (some (zeroFp6))) (.leaf (some ({ c0:=f2 zd' (f4 zc' zc'),c1:=f2 zf' ze',c2:=f1 (f1 s.c2 t.c2) za' })))))))
theorem plusG2_run (f0:Fp2->Bool) (f1:Fp2->Fp2->Fp2) (f2:Fp2->Fp2->Fp2) (f3:Fp6->Fp6) (f4:Fp2->Fp2->Fp2) (s:Fp6) (t:Fp6):plainRun (En [(102,K1 (kRow Fp2).arg kBool.rs.res f0),(177,K2 (kRow Fp2).arg (kRow Fp2).arg (kRow Fp2).rs.res f1),(179,K2 (kRow Fp2).arg (kRow Fp2).arg (kRow Fp2).rs.res f2),(149,K1 (kRow Fp6).arg (kRow Fp6).rs.res f3),(178,K2 (kRow Fp2).arg (kRow Fp2).arg (kRow Fp2).rs.res f4)]) (kRow Fp6).rs 300 Tryz.f150 [.one ((kRow Fp6).av s),.one ((kRow Fp6).av t)]=plusG2_T f0 f1 f2 f3 f4 s t:=by kernel_rfl
theorem plusG2_sat (f0:Fp2->Bool) (f1:Fp2->Fp2->Fp2) (f2:Fp2->Fp2->Fp2) (f3:Fp6->Fp6) (f4:Fp2->Fp2->Fp2) (s:Fp6) (t:Fp6):(plusG2_T f0 f1 f2 f3 f4 s t).sat fun q=>q=some (plusG2_G f0 f1 f2 f3 f4 s t):=⟨fun h0=>(show some _=some _ from congrArg some (by unfold plusG2_G;rw [h0])),fun h0=>⟨fun h1=>(show some _=some _ from congrArg some (by unfold plusG2_G;rw [h0,h1])),fun h1=>⟨fun h2=>⟨fun h3=>(show some _=some _ from congrArg some (by unfold plusG2_G;rw [h0,h1,h2,h3])),fun h3=>⟨fun _=>(show some _=some _ from congrArg some (by unfold plusG2_G;rw [h0,h1,h2,h3])),fun h4=>absurd (h2.symm.trans h4) (by decide)⟩⟩,fun h2=>⟨fun h3=>absurd (h2.symm.trans h3) (by decide),fun _=>(show some _=some _ from congrArg some (by unfold plusG2_G;rw [h0,h1,h2]))⟩⟩⟩⟩
def plusG2 (s:Fp6) (t:Fp6):Fp6:=plusG2_G zeroG2 halfF2 subF2 twiceG2 addF2 s t
theorem plusG2_ok:CallOk Tryz.prog 150 (K2 (kRow Fp6).arg (kRow Fp6).arg (kRow Fp6).rs.res plusG2) :=
 P2 (En_ok (.cons zeroG2_ok (.cons halfF2_ok (.cons subF2_ok (.cons twiceG2_ok (.cons addF2_ok .nil)))))) Tryz.func150 (bodied Tryz.func150 (by kernel_rfl) (by kernel_rfl)) 300 (kRow Fp6) (kRow Fp6) (kRow Fp6).rs plusG2 (plusG2_run zeroG2 halfF2 subF2 twiceG2 addF2) (plusG2_sat zeroG2 halfF2 subF2 twiceG2 addF2)
end
section
def gen1R_G  : Pg1:=({ x := { l0:=UInt64.ofNat 18103045581585958587,l1:=UInt64.ofNat 7806400890582735599,l2:=UInt64.ofNat 11623291730934869080,l3:=UInt64.ofNat 14080658508445169925,l4:=UInt64.ofNat 2780237799254240271,l5:=UInt64.ofNat 1725392847304644500 },y := { l0:=UInt64.ofNat 912580534683953121,l1:=UInt64.ofNat 15005087156090211044,l2:=UInt64.ofNat 61670280795567085,l3:=UInt64.ofNat 18227722000993880822,l4:=UInt64.ofNat 11573741888802228964,l5:=UInt64.ofNat 627113611842199793 },inf:=false })
def gen1R_T  : Tree (Option (Pg1)) :=
 (.leaf (some ({ x := { l0:=UInt64.ofNat 18103045581585958587,l1:=UInt64.ofNat 7806400890582735599,l2:=UInt64.ofNat 11623291730934869080,l3:=UInt64.ofNat 14080658508445169925,l4:=UInt64.ofNat 2780237799254240271,l5:=UInt64.ofNat 1725392847304644500 },y := { l0:=UInt64.ofNat 912580534683953121,l1:=UInt64.ofNat 15005087156090211044,l2:=UInt64.ofNat 61670280795567085,l3:=UInt64.ofNat 18227722000993880822,l4:=UInt64.ofNat 11573741888802228964,l5:=UInt64.ofNat 627113611842199793 },inf:=false })))
theorem gen1R_run  : plainRun (En []) (kRow Pg1).rs 300 Tryz.f39 []=gen1R_T  := by kernel_rfl
theorem gen1R_sat  : (gen1R_T ).sat fun q=>q=some (gen1R_G ):=(show some _=some _ from rfl)
def gen1R  : Pg1:=gen1R_G
theorem gen1R_ok:CallOk Tryz.prog 39 (K0 (kRow Pg1).rs.res gen1R) :=
 P0 (En_ok .nil) Tryz.func39 (bodied Tryz.func39 (by kernel_rfl) (by kernel_rfl)) 300  (kRow Pg1).rs gen1R (gen1R_run ) (gen1R_sat )
def gen2R_G  : Pg2:=({ x := { c0 := { l0:=UInt64.ofNat 15312334153293348280,l1:=UInt64.ofNat 841050694974028783,l2:=UInt64.ofNat 12993178926126977399,l3:=UInt64.ofNat 14331714969349929730,l4:=UInt64.ofNat 2740446039084699729,l5:=UInt64.ofNat 165123225776229009 },c1 := { l0:=UInt64.ofNat 16549740192668593022,l1:=UInt64.ofNat 3696594454104530263,l2:=UInt64.ofNat 13103893525273989193,l3:=UInt64.ofNat 6443473286224459290,l4:=UInt64.ofNat 9055845637167730533,l5:=UInt64.ofNat 1432192374203850592 } },y := { c0 := { l0:=UInt64.ofNat 16254428414758889473,l1:=UInt64.ofNat 10536956157198377609,l2:=UInt64.ofNat 7873024875724591404,l3:=UInt64.ofNat 12537348094477325223,l4:=UInt64.ofNat 10144865889576432922,l5:=UInt64.ofNat 929383263523139089 },c1 := { l0:=UInt64.ofNat 12297368366147926462,l1:=UInt64.ofNat 4555124010822409633,l2:=UInt64.ofNat 2771000935339432363,l3:=UInt64.ofNat 14645187562128761775,l4:=UInt64.ofNat 3651525051980876697,l5:=UInt64.ofNat 434250606344352972 } },inf:=false })
def gen2R_T  : Tree (Option (Pg2)) :=
 (.leaf (some ({ x := { c0 := { l0:=UInt64.ofNat 15312334153293348280,l1:=UInt64.ofNat 841050694974028783,l2:=UInt64.ofNat 12993178926126977399,l3:=UInt64.ofNat 14331714969349929730,l4:=UInt64.ofNat 2740446039084699729,l5:=UInt64.ofNat 165123225776229009 },c1 := { l0:=UInt64.ofNat 16549740192668593022,l1:=UInt64.ofNat 3696594454104530263,l2:=UInt64.ofNat 13103893525273989193,l3:=UInt64.ofNat 6443473286224459290,l4:=UInt64.ofNat 9055845637167730533,l5:=UInt64.ofNat 1432192374203850592 } },y := { c0 := { l0:=UInt64.ofNat 16254428414758889473,l1:=UInt64.ofNat 10536956157198377609,l2:=UInt64.ofNat 7873024875724591404,l3:=UInt64.ofNat 12537348094477325223,l4:=UInt64.ofNat 10144865889576432922,l5:=UInt64.ofNat 929383263523139089 },c1 := { l0:=UInt64.ofNat 12297368366147926462,l1:=UInt64.ofNat 4555124010822409633,l2:=UInt64.ofNat 2771000935339432363,l3:=UInt64.ofNat 14645187562128761775,l4:=UInt64.ofNat 3651525051980876697,l5:=UInt64.ofNat 434250606344352972 } },inf:=false })))
theorem gen2R_run  : plainRun (En []) (kRow Pg2).rs 300 Tryz.f70 []=gen2R_T  := by kernel_rfl
theorem gen2R_sat  : (gen2R_T ).sat fun q=>q=some (gen2R_G ):=(show some _=some _ from rfl)
def gen2R  : Pg2:=gen2R_G
theorem gen2R_ok:CallOk Tryz.prog 70 (K0 (kRow Pg2).rs.res gen2R) :=
 P0 (En_ok .nil) Tryz.func70 (bodied Tryz.func70 (by kernel_rfl) (by kernel_rfl)) 300  (kRow Pg2).rs gen2R (gen2R_run ) (gen2R_sat )
def mulS_G (f0:Fp->Fp->Fp) (f1:Fp2->Fp2->Fp2) (a:Fp2) (b:Fp2) (small:Bool):Fp2:=(match (small) with | true=>({ c0:=f0 a.c0 b.c0,c1:=zeroFp }) | false=>(f1 a b))
def mulS_T (f0:Fp->Fp->Fp) (f1:Fp2->Fp2->Fp2) (a:Fp2) (b:Fp2) (small:Bool):Tree (Option (Fp2)) :=
 (.br (small)
  (.leaf (some ({ c0:=f0 a.c0 b.c0,c1:=zeroFp })))
  (.leaf (some (f1 a b))))
theorem mulS_run (f0:Fp->Fp->Fp) (f1:Fp2->Fp2->Fp2) (a:Fp2) (b:Fp2) (small:Bool):plainRun (En [(79,Kff f0),(163,K2 (kRow Fp2).arg (kRow Fp2).arg (kRow Fp2).rs.res f1)]) (kRow Fp2).rs 300 Tryz.f115 [.one ((kRow Fp2).av a),.one ((kRow Fp2).av b),.one (kBool.av small)]=mulS_T f0 f1 a b small:=by kernel_rfl
theorem mulS_sat (f0:Fp->Fp->Fp) (f1:Fp2->Fp2->Fp2) (a:Fp2) (b:Fp2) (small:Bool):(mulS_T f0 f1 a b small).sat fun q=>q=some (mulS_G f0 f1 a b small):=⟨fun h0=>(show some _=some _ from congrArg some (by unfold mulS_G;rw [h0])),fun h0=>(show some _=some _ from congrArg some (by unfold mulS_G;rw [h0]))⟩
def mulS (a:Fp2) (b:Fp2) (small:Bool):Fp2:=mulS_G mulPF mul2R a b small
theorem mulS_ok:CallOk Tryz.prog 115 (K3 (kRow Fp2).arg (kRow Fp2).arg kBool.arg (kRow Fp2).rs.res mulS) :=
 P3 (En_ok (.cons mulP_ok (.cons mul2R_ok .nil))) Tryz.func115 (bodied Tryz.func115 (by kernel_rfl) (by kernel_rfl)) 300 (kRow Fp2) (kRow Fp2) kBool (kRow Fp2).rs mulS (mulS_run mulPF mul2R) (mulS_sat mulPF mul2R)
def b3R_G (f0:Fp2->Fp2->Fp2) (f1:Fp2->Fp2->Fp2) (f2:Fp2) (a:Fp2) (small:Bool):Fp2:=(match (small) with | true=>(f0 (f0 (f0 (f0 a a) (f0 a a)) (f0 (f0 a a) (f0 a a))) (f0 (f0 a a) (f0 a a))) | false=>(f1 (f0 (f0 (f0 (f0 a a) (f0 a a)) (f0 (f0 a a) (f0 a a))) (f0 (f0 a a) (f0 a a))) f2))
def b3R_T (f0:Fp2->Fp2->Fp2) (f1:Fp2->Fp2->Fp2) (f2:Fp2) (a:Fp2) (small:Bool):Tree (Option (Fp2)):=letI za':=f0 (f0 a a) (f0 a a);letI zb':=f0 (f0 za' za') za';
 (.br (small) (.leaf (some zb')) (.leaf (some (f1 zb' f2))))
theorem b3R_run (f0:Fp2->Fp2->Fp2) (f1:Fp2->Fp2->Fp2) (f2:Fp2) (a:Fp2) (small:Bool):plainRun (En [(117,K2 (kRow Fp2).arg (kRow Fp2).arg (kRow Fp2).rs.res f0),(163,K2 (kRow Fp2).arg (kRow Fp2).arg (kRow Fp2).rs.res f1),(165,K0 (kRow Fp2).rs.res f2)]) (kRow Fp2).rs 300 Tryz.f118 [.one ((kRow Fp2).av a),.one (kBool.av small)]=b3R_T f0 f1 f2 a small:=by kernel_rfl
theorem b3R_sat (f0:Fp2->Fp2->Fp2) (f1:Fp2->Fp2->Fp2) (f2:Fp2) (a:Fp2) (small:Bool):(b3R_T f0 f1 f2 a small).sat fun q=>q=some (b3R_G f0 f1 f2 a small):=⟨fun h0=>(show some _=some _ from congrArg some (by unfold b3R_G;rw [h0])),fun h0=>(show some _=some _ from congrArg some (by unfold b3R_G;rw [h0]))⟩
def b3R (a:Fp2) (small:Bool):Fp2:=b3R_G add2R mul2R xi2R a small
theorem b3R_ok:CallOk Tryz.prog 118 (K2 (kRow Fp2).arg kBool.arg (kRow Fp2).rs.res b3R) :=
 P2 (En_ok (.cons add2R_ok (.cons mul2R_ok (.cons xi2R_ok .nil)))) Tryz.func118 (bodied Tryz.func118 (by kernel_rfl) (by kernel_rfl)) 300 (kRow Fp2) kBool (kRow Fp2).rs b3R (b3R_run add2R mul2R xi2R) (b3R_sat add2R mul2R xi2R)
def addS5_G (f0:Fp2->Fp2->Bool->Fp2) (f1:Fp2->Fp2->Fp2) (f2:Fp2->Fp2->Fp2) (f3:Fp2->Bool->Fp2) (s:Fp6) (t:Fp6) (small:Bool):Fp6:=({ c0:=f2 (f0 (f2 (f2 (f0 (f1 s.c0 s.c1) (f1 t.c0 t.c1) small) (f0 s.c0 t.c0 small)) (f0 s.c1 t.c1 small)) (f2 (f0 s.c1 t.c1 small) (f3 (f0 s.c2 t.c2 small) small)) small) (f0 (f2 (f2 (f0 (f1 s.c1 s.c2) (f1 t.c1 t.c2) small) (f0 s.c1 t.c1 small)) (f0 s.c2 t.c2 small)) (f3 (f2 (f2 (f0 (f1 s.c0 s.c2) (f1 t.c0 t.c2) small) (f0 s.c0 t.c0 small)) (f0 s.c2 t.c2 small)) small) small),c1:=f1 (f0 (f2 (f0 s.c1 t.c1 small) (f3 (f0 s.c2 t.c2 small) small)) (f1 (f0 s.c1 t.c1 small) (f3 (f0 s.c2 t.c2 small) small)) small) (f0 (f3 (f2 (f2 (f0 (f1 s.c0 s.c2) (f1 t.c0 t.c2) small) (f0 s.c0 t.c0 small)) (f0 s.c2 t.c2 small)) small) (f1 (f1 (f0 s.c0 t.c0 small) (f0 s.c0 t.c0 small)) (f0 s.c0 t.c0 small)) small),c2:=f1 (f0 (f1 (f0 s.c1 t.c1 small) (f3 (f0 s.c2 t.c2 small) small)) (f2 (f2 (f0 (f1 s.c1 s.c2) (f1 t.c1 t.c2) small) (f0 s.c1 t.c1 small)) (f0 s.c2 t.c2 small)) small) (f0 (f1 (f1 (f0 s.c0 t.c0 small) (f0 s.c0 t.c0 small)) (f0 s.c0 t.c0 small)) (f2 (f2 (f0 (f1 s.c0 s.c1) (f1 t.c0 t.c1) small) (f0 s.c0 t.c0 small)) (f0 s.c1 t.c1 small)) small) })
def addS5_T (f0:Fp2->Fp2->Bool->Fp2) (f1:Fp2->Fp2->Fp2) (f2:Fp2->Fp2->Fp2) (f3:Fp2->Bool->Fp2) (s:Fp6) (t:Fp6) (small:Bool):Tree (Option (Fp6)):=letI za':=f0 s.c0 t.c0 small;letI zb':=f0 s.c1 t.c1 small;letI zc':=f0 s.c2 t.c2 small;letI zd':=f3 (f2 (f2 (f0 (f1 s.c0 s.c2) (f1 t.c0 t.c2) small) za') zc') small;letI ze':=f2 (f2 (f0 (f1 s.c0 s.c1) (f1 t.c0 t.c1) small) za') zb';letI zf':=f2 (f2 (f0 (f1 s.c1 s.c2) (f1 t.c1 t.c2) small) zb') zc';letI zg':=f3 zc' small;letI zh':=f1 (f1 za' za') za';
 (.leaf (some ({ c0:=f2 (f0 ze' (f2 zb' zg') small) (f0 zf' zd' small),c1:=f1 (f0 (f2 zb' zg') (f1 zb' zg') small) (f0 zd' zh' small),c2:=f1 (f0 (f1 zb' zg') zf' small) (f0 zh' ze' small) })))
theorem addS5_run (f0:Fp2->Fp2->Bool->Fp2) (f1:Fp2->Fp2->Fp2) (f2:Fp2->Fp2->Fp2) (f3:Fp2->Bool->Fp2) (s:Fp6) (t:Fp6) (small:Bool):plainRun (En [(115,K3 (kRow Fp2).arg (kRow Fp2).arg kBool.arg (kRow Fp2).rs.res f0),(117,K2 (kRow Fp2).arg (kRow Fp2).arg (kRow Fp2).rs.res f1),(116,K2 (kRow Fp2).arg (kRow Fp2).arg (kRow Fp2).rs.res f2),(118,K2 (kRow Fp2).arg kBool.arg (kRow Fp2).rs.res f3)]) (kRow Fp6).rs 300 Tryz.f73 [.one ((kRow Fp6).av s),.one ((kRow Fp6).av t),.one (kBool.av small)]=addS5_T f0 f1 f2 f3 s t small:=by kernel_rfl
theorem addS5_sat (f0:Fp2->Fp2->Bool->Fp2) (f1:Fp2->Fp2->Fp2) (f2:Fp2->Fp2->Fp2) (f3:Fp2->Bool->Fp2) (s:Fp6) (t:Fp6) (small:Bool):(addS5_T f0 f1 f2 f3 s t small).sat fun q=>q=some (addS5_G f0 f1 f2 f3 s t small):=(show some _=some _ from rfl)
def addS5 (s:Fp6) (t:Fp6) (small:Bool):Fp6:=addS5_G mulS add2R sub2R b3R s t small
theorem addS5_ok:CallOk Tryz.prog 73 (K3 (kRow Fp6).arg (kRow Fp6).arg kBool.arg (kRow Fp6).rs.res addS5) :=
 P3 (En_ok (.cons mulS_ok (.cons add2R_ok (.cons sub2R_ok (.cons b3R_ok .nil))))) Tryz.func73 (bodied Tryz.func73 (by kernel_rfl) (by kernel_rfl)) 300 (kRow Fp6) (kRow Fp6) kBool (kRow Fp6).rs addS5 (addS5_run mulS add2R sub2R b3R) (addS5_sat mulS add2R sub2R b3R)
def none5_G (f0:Fp2):Fp6:=({ c0:=zeroFp2,c1:=f0,c2:=zeroFp2 })
def none5_T (f0:Fp2):Tree (Option (Fp6)) :=
 (.leaf (some ({ c0:=zeroFp2,c1:=f0,c2:=zeroFp2 })))
theorem none5_run (f0:Fp2):plainRun (En [(120,K0 (kRow Fp2).rs.res f0)]) (kRow Fp6).rs 300 Tryz.f119 []=none5_T f0:=by kernel_rfl
theorem none5_sat (f0:Fp2):(none5_T f0).sat fun q=>q=some (none5_G f0):=(show some _=some _ from rfl)
def none5  : Fp6:=none5_G one2R
theorem none5_ok:CallOk Tryz.prog 119 (K0 (kRow Fp6).rs.res none5) :=
 P0 (En_ok (.cons one2R_ok .nil)) Tryz.func119 (bodied Tryz.func119 (by kernel_rfl) (by kernel_rfl)) 300  (kRow Fp6).rs none5 (none5_run one2R) (none5_sat one2R)
def of1R_G (f0:Fp6) (f1:Fp2) (a:Pg1):Fp6:=(match (a.inf) with | true=>(f0) | false=>({ c0 := { c0:=a.x,c1:=zeroFp },c1 := { c0:=a.y,c1:=zeroFp },c2:=f1 }))
def of1R_T (f0:Fp6) (f1:Fp2) (a:Pg1):Tree (Option (Fp6)) :=
 (.br (a.inf)
  (.leaf (some (f0)))
  (.leaf (some ({ c0 := { c0:=a.x,c1:=zeroFp },c1 := { c0:=a.y,c1:=zeroFp },c2:=f1 }))))
theorem of1R_run (f0:Fp6) (f1:Fp2) (a:Pg1):plainRun (En [(119,K0 (kRow Fp6).rs.res f0),(120,K0 (kRow Fp2).rs.res f1)]) (kRow Fp6).rs 300 Tryz.f74 [.one ((kRow Pg1).av a)]=of1R_T f0 f1 a:=by kernel_rfl
theorem of1R_sat (f0:Fp6) (f1:Fp2) (a:Pg1):(of1R_T f0 f1 a).sat fun q=>q=some (of1R_G f0 f1 a):=⟨fun h0=>(show some _=some _ from congrArg some (by unfold of1R_G;rw [h0])),fun h0=>(show some _=some _ from congrArg some (by unfold of1R_G;rw [h0]))⟩
def of1R (a:Pg1):Fp6:=of1R_G none5 one2R a
theorem of1R_ok:CallOk Tryz.prog 74 (K1 (kRow Pg1).arg (kRow Fp6).rs.res of1R) :=
 P1 (En_ok (.cons none5_ok (.cons one2R_ok .nil))) Tryz.func74 (bodied Tryz.func74 (by kernel_rfl) (by kernel_rfl)) 300 (kRow Pg1) (kRow Fp6).rs of1R (of1R_run none5 one2R) (of1R_sat none5 one2R)
def of2R_G (f0:Fp6) (f1:Fp2) (a:Pg2):Fp6:=(match (a.inf) with | true=>(f0) | false=>({ c0:=a.x,c1:=a.y,c2:=f1 }))
def of2R_T (f0:Fp6) (f1:Fp2) (a:Pg2):Tree (Option (Fp6)) :=
 (.br (a.inf)
  (.leaf (some (f0)))
  (.leaf (some ({ c0:=a.x,c1:=a.y,c2:=f1 }))))
theorem of2R_run (f0:Fp6) (f1:Fp2) (a:Pg2):plainRun (En [(119,K0 (kRow Fp6).rs.res f0),(120,K0 (kRow Fp2).rs.res f1)]) (kRow Fp6).rs 300 Tryz.f113 [.one ((kRow Pg2).av a)]=of2R_T f0 f1 a:=by kernel_rfl
theorem of2R_sat (f0:Fp6) (f1:Fp2) (a:Pg2):(of2R_T f0 f1 a).sat fun q=>q=some (of2R_G f0 f1 a):=⟨fun h0=>(show some _=some _ from congrArg some (by unfold of2R_G;rw [h0])),fun h0=>(show some _=some _ from congrArg some (by unfold of2R_G;rw [h0]))⟩
def of2R (a:Pg2):Fp6:=of2R_G none5 one2R a
theorem of2R_ok:CallOk Tryz.prog 113 (K1 (kRow Pg2).arg (kRow Fp6).rs.res of2R) :=
 P1 (En_ok (.cons none5_ok (.cons one2R_ok .nil))) Tryz.func113 (bodied Tryz.func113 (by kernel_rfl) (by kernel_rfl)) 300 (kRow Pg2) (kRow Fp6).rs of2R (of2R_run none5 one2R) (of2R_sat none5 one2R)
def to1R_G (f0:Fp->Fp × Int) (f1:Fp->Fp->Fp) (s:Fp6):Pg1:=(match ((f0 s.c2.c0).snd != 0) with | true=>(infG1) | false=>({ x:=f1 s.c0.c0 (f0 s.c2.c0).fst,y:=f1 s.c1.c0 (f0 s.c2.c0).fst,inf:=false }))
def to1R_T (f0:Fp->Fp × Int) (f1:Fp->Fp->Fp) (s:Fp6):Tree (Option (Pg1)) :=
 (.br ((f0 s.c2.c0).snd != 0)
  (.leaf (some (infG1)))
  (.leaf (some ({ x:=f1 s.c0.c0 (f0 s.c2.c0).fst,y:=f1 s.c1.c0 (f0 s.c2.c0).fst,inf:=false }))))
theorem to1R_run (f0:Fp->Fp × Int) (f1:Fp->Fp->Fp) (s:Fp6):plainRun (En [(114,Kinv f0),(79,Kff f1)]) (kRow Pg1).rs 300 Tryz.f72 [.one ((kRow Fp6).av s)]=to1R_T f0 f1 s:=by kernel_rfl
theorem to1R_sat (f0:Fp->Fp × Int) (f1:Fp->Fp->Fp) (s:Fp6):(to1R_T f0 f1 s).sat fun q=>q=some (to1R_G f0 f1 s):=⟨fun h0=>(show some _=some _ from congrArg some (by unfold to1R_G;rw [h0])),fun h0=>(show some _=some _ from congrArg some (by unfold to1R_G;rw [h0]))⟩
def to1R (s:Fp6):Pg1:=to1R_G invPF mulPF s
theorem to1R_ok:CallOk Tryz.prog 72 (K1 (kRow Fp6).arg (kRow Pg1).rs.res to1R) :=
 P1 (En_ok (.cons invP_ok (.cons mulP_ok .nil))) Tryz.func72 (bodied Tryz.func72 (by kernel_rfl) (by kernel_rfl)) 300 (kRow Fp6) (kRow Pg1).rs to1R (to1R_run invPF mulPF) (to1R_sat invPF mulPF)
def to2R_G (f0:Fp2->Fp2 × Int) (f1:Fp2->Fp2->Fp2) (s:Fp6):Pg2:=(match ((f0 s.c2).snd != 0) with | true=>(infG2) | false=>({ x:=f1 s.c0 (f0 s.c2).fst,y:=f1 s.c1 (f0 s.c2).fst,inf:=false }))
def to2R_T (f0:Fp2->Fp2 × Int) (f1:Fp2->Fp2->Fp2) (s:Fp6):Tree (Option (Pg2)) :=
 (.br ((f0 s.c2).snd != 0)
  (.leaf (some (infG2)))
  (.leaf (some ({ x:=f1 s.c0 (f0 s.c2).fst,y:=f1 s.c1 (f0 s.c2).fst,inf:=false }))))
theorem to2R_run (f0:Fp2->Fp2 × Int) (f1:Fp2->Fp2->Fp2) (s:Fp6):plainRun (En [(162,K1 (kRow Fp2).arg ((kRow Fp2).rs2 kInt).res f0),(163,K2 (kRow Fp2).arg (kRow Fp2).arg (kRow Fp2).rs.res f1)]) (kRow Pg2).rs 300 Tryz.f112 [.one ((kRow Fp6).av s)]=to2R_T f0 f1 s:=by kernel_rfl
theorem to2R_sat (f0:Fp2->Fp2 × Int) (f1:Fp2->Fp2->Fp2) (s:Fp6):(to2R_T f0 f1 s).sat fun q=>q=some (to2R_G f0 f1 s):=⟨fun h0=>(show some _=some _ from congrArg some (by unfold to2R_G;rw [h0])),fun h0=>(show some _=some _ from congrArg some (by unfold to2R_G;rw [h0]))⟩
def to2R (s:Fp6):Pg2:=to2R_G inv2R mul2R s
theorem to2R_ok:CallOk Tryz.prog 112 (K1 (kRow Fp6).arg (kRow Pg2).rs.res to2R) :=
 P1 (En_ok (.cons inv2R_ok (.cons mul2R_ok .nil))) Tryz.func112 (bodied Tryz.func112 (by kernel_rfl) (by kernel_rfl)) 300 (kRow Fp6) (kRow Pg2).rs to2R (to2R_run inv2R mul2R) (to2R_sat inv2R mul2R)
end
end Go.Proofs.YtgpafcehehaiiaaGreat
