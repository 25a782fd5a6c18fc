/- Texts of the proof, joined. -/
import Derived.Test.YtcbplfkeeaecgaaGreatRows
import Derived.IntWalk
import Derived.Test.YtcbplfkeeaecgaaGreatZE4
set_option linter.unusedSectionVars false
set_option linter.unusedSimpArgs false
set_option linter.unusedVariables false
namespace Go.Proofs.YtcbplfkeeaecgaaGreat
open Go.RowKit
theorem bodied {f : Nat} {fn : Func} (h : Tryz.prog.funcs[f]? = some fn) (h1 : fn.body.isSome = true) (h2 : (fn.name == "runtime.NumGoroutine") = false) : Bodied Tryz.prog f := ⟨fn, h, h1, h2⟩
theorem follows_mixed:Tryz.prog.follows .mixedOrders=true:=by kernel_rfl
theorem add64_ok:CallOk Tryz.prog 70 (K3x addS addC):=Kadd_ok Tryz.func70 (by kernel_rfl) (by kernel_rfl) (by kernel_rfl) (by kernel_rfl)
theorem sub64_ok:CallOk Tryz.prog 132 (K3x subS subB):=Ksub_ok Tryz.func132 (by kernel_rfl) (by kernel_rfl) (by kernel_rfl) (by kernel_rfl)
noncomputable def T0:Table := [(70,K3x addS addC),(132,K3x subS subB)]
theorem T0_ok:TableOk Tryz.prog T0 := .cons add64_ok (.cons sub64_ok .nil)
def pLimbs:Fp:=⟨0xb9feffffffffaaab,0x1eabfffeb153ffff,0x6730d2a0f6b0f624,0x64774b84f38512bf,0x4b1ba7b6434bacd7,0x1a0111ea397fe69a⟩
noncomputable def E0:Env:=mkEnv Tryz.prog T0 []
theorem E0_ok:EnvOk E0:=mkEnv_ok follows_mixed T0_ok
theorem modulus_ok:CallOk Tryz.prog 148 (K0 (kRow Fp).rs.res pLimbs):=P0 E0_ok Tryz.func148 (bodied Tryz.func148 (by kernel_rfl) (by kernel_rfl)) 100 (kRow Fp).rs pLimbs (T := .leaf (some pLimbs)) (by kernel_rfl) rfl
noncomputable def T1:Table:=(148,K0 (kRow Fp).rs.res pLimbs) :: T0
theorem T1_ok:TableOk Tryz.prog T1 := .cons modulus_ok T0_ok
noncomputable def E1:Env:=mkEnv Tryz.prog T1 []
theorem E1_ok:EnvOk E1:=mkEnv_ok follows_mixed T1_ok
def lessT (a:Fp):Fp × Bool :=
 let c0:=subB a.l0 pLimbs.l0 false
 let c1:=subB a.l1 pLimbs.l1 c0
 let c2:=subB a.l2 pLimbs.l2 c1
 let c3:=subB a.l3 pLimbs.l3 c2
 let c4:=subB a.l4 pLimbs.l4 c3
 (⟨subS a.l0 pLimbs.l0 false,subS a.l1 pLimbs.l1 c0,subS a.l2 pLimbs.l2 c1,subS a.l3 pLimbs.l3 c2,subS a.l4 pLimbs.l4 c3,subS a.l5 pLimbs.l5 c4⟩,subB a.l5 pLimbs.l5 c4)
def lessF (a:Fp) (over:UInt64):Fp:=match decide (over<b2u (lessT a).2) with | true=>a | false=>(lessT a).1
theorem less_ok:CallOk Tryz.prog 151 (K2 (kRow Fp).arg kU64.arg (kRow Fp).rs.res lessF) :=
 P2 E1_ok Tryz.func151 (bodied Tryz.func151 (by kernel_rfl) (by kernel_rfl)) 100 (kRow Fp) kU64 (kRow Fp).rs lessF
  (T:=fun a o => .br (decide (o<b2u (lessT a).2)) (.leaf (some a)) (.leaf (some (lessT a).1))) (by intro a o;kernel_rfl)
  (by intro a o;exact ⟨fun h=>congrArg some (by unfold lessF;rw [h]),fun h=>congrArg some (by unfold lessF;rw [h])⟩)
end Go.Proofs.YtcbplfkeeaecgaaGreat
namespace Go.Proofs.YtcbplfkeeaecgaaGreat
open Go.RowKit
def mulHi (x y:UInt64):UInt64 :=
 let t:=shrU x 32*(y &&& 4294967295)+shrU ((x &&& 4294967295)*(y &&& 4294967295)) 32
 shrU x 32*shrU y 32+shrU t 32+shrU ((t &&& 4294967295)+(x &&& 4294967295)*shrU y 32) 32
theorem mul64_ok:CallOk Tryz.prog 69 (K2 kU64.arg kU64.arg (kU64.rs2 kU64).res fun x y=>(mulHi x y,x*y)) :=
 P2 E0_ok Tryz.func69 (bodied Tryz.func69 (by kernel_rfl) (by kernel_rfl)) 100 kU64 kU64 (kU64.rs2 kU64) (fun x y=>(mulHi x y,x*y))
  (T:=fun x y => .leaf (some (mulHi x y,x*y))) (by intro x y;kernel_rfl) (fun _ _=>rfl)
theorem shrU32_nat (x:UInt64):(shrU x 32).toNat=x.toNat / 4294967296:=by
 have:=x.toNat_lt
 unfold shrU
 rw [show (min (Int.toNat 32) 64)=32 from rfl,UInt64.toNat_ofNat']
 omega
theorem and32_nat (x:UInt64):(x &&& 4294967295).toNat=x.toNat % 4294967296:=by
 rw [UInt64.toNat_and]
 exact Nat.and_two_pow_sub_one_eq_mod x.toNat 32
theorem mulHi_nat (x y:UInt64):(mulHi x y).toNat=x.toNat*y.toNat / 18446744073709551616:=by
 have hx:=x.toNat_lt
 have hy:=y.toNat_lt
 have h1:x.toNat=4294967296*(x.toNat / 4294967296)+x.toNat % 4294967296:=by omega
 have h2:y.toNat=4294967296*(y.toNat / 4294967296)+y.toNat % 4294967296:=by omega
 have b0:x.toNat % 4294967296<=4294967295:=by omega
 have b1:x.toNat / 4294967296<=4294967295:=by omega
 have c0:y.toNat % 4294967296<=4294967295:=by omega
 have c1:y.toNat / 4294967296<=4294967295:=by omega
 unfold mulHi
 simp only [UInt64.toNat_add,UInt64.toNat_mul,shrU32_nat,and32_nat]
 generalize hx0:x.toNat % 4294967296=x0 at *
 generalize hx1:x.toNat / 4294967296=x1 at *
 generalize hy0:y.toNat % 4294967296=y0 at *
 generalize hy1:y.toNat / 4294967296=y1 at *
 have p00:x0*y0<=4294967295*4294967295:=Nat.mul_le_mul b0 c0
 have p01:x0*y1<=4294967295*4294967295:=Nat.mul_le_mul b0 c1
 have p10:x1*y0<=4294967295*4294967295:=Nat.mul_le_mul b1 c0
 have p11:x1*y1<=4294967295*4294967295:=Nat.mul_le_mul b1 c1
 have e:x.toNat*y.toNat=18446744073709551616*(x1*y1)+4294967296*(x1*y0)+4294967296*(x0*y1)+x0*y0:=by
  rw [h1,h2]
  simp only [Nat.mul_add,Nat.add_mul]
  have q1:4294967296*x1*(4294967296*y1)=18446744073709551616*(x1*y1):=by
   rw [Nat.mul_mul_mul_comm]
  have q2:4294967296*x1*y0=4294967296*(x1*y0):=Nat.mul_assoc _ _ _
  have q3:x0*(4294967296*y1)=4294967296*(x0*y1):=by rw [Nat.mul_left_comm]
  omega
 rw [e]
 generalize x0*y0=p at *
 generalize x0*y1=q at *
 generalize x1*y0=r at *
 generalize x1*y1=s at *
 omega
def macL (x y t c:UInt64):UInt64:=addS (addS (x*y) t false) c false
def macH (x y t c:UInt64):UInt64:=mulHi x y+b2u (addC (x*y) t false)+b2u (addC (addS (x*y) t false) c false)
theorem mac_nat (x y t c:UInt64):(macH x y t c).toNat*18446744073709551616+(macL x y t c).toNat=x.toNat*y.toNat+t.toNat+c.toNat:=by
 have hx:=x.toNat_lt
 have hy:=y.toNat_lt
 have ht:=t.toNat_lt
 have hc:=c.toNat_lt
 have hp:x.toNat*y.toNat<=18446744073709551615*18446744073709551615:=Nat.mul_le_mul (by omega) (by omega)
 unfold macH macL
 simp only [UInt64.toNat_add,b2u_nat,addS_nat,addC_nat,mulHi_nat,UInt64.toNat_mul,Bool.toNat_false]
 generalize x.toNat*y.toNat=p at *
 omega
end Go.Proofs.YtcbplfkeeaecgaaGreat
namespace Go.Proofs.YtcbplfkeeaecgaaGreat
open Go.RowKit
noncomputable def T2:Table:=(151,K2 (kRow Fp).arg kU64.arg (kRow Fp).rs.res lessF) :: (69,K2 kU64.arg kU64.arg (kU64.rs2 kU64).res fun x y=>(mulHi x y,x*y)) :: T1
theorem T2_ok:TableOk Tryz.prog T2 := .cons less_ok (.cons mul64_ok T1_ok)
noncomputable def E2:Env:=mkEnv Tryz.prog T2 []
theorem E2_ok:EnvOk E2:=mkEnv_ok follows_mixed T2_ok
structure L7 where
 t0:UInt64
 t1:UInt64
 t2:UInt64
 t3:UInt64
 t4:UInt64
 t5:UInt64
 t6:UInt64
def pInv:UInt64:=0x89f3fffcfffcfffd
def roundB (t0 t1 t2 t3 t4 t5 top:UInt64) (more:Bool):L7 :=
 let x:=t0*pInv
 let d0:=mulHi x pLimbs.l0+b2u (addC (x*pLimbs.l0) t0 false)
 let d1:=macH x pLimbs.l1 t1 d0
 let d2:=macH x pLimbs.l2 t2 d1
 let d3:=macH x pLimbs.l3 t3 d2
 let d4:=macH x pLimbs.l4 t4 d3
 let d5:=macH x pLimbs.l5 t5 d4
 ⟨macL x pLimbs.l1 t1 d0,macL x pLimbs.l2 t2 d1,macL x pLimbs.l3 t3 d2,macL x pLimbs.l4 t4 d3,macL x pLimbs.l5 t5 d4,addS top d5 false,b2u more+b2u (addC top d5 false)⟩
def roundF (a:Fp) (b:UInt64) (t:L7):L7 :=
 let c0:=macH a.l0 b t.t0 0
 let c1:=macH a.l1 b t.t1 c0
 let c2:=macH a.l2 b t.t2 c1
 let c3:=macH a.l3 b t.t3 c2
 let c4:=macH a.l4 b t.t4 c3
 let c5:=macH a.l5 b t.t5 c4
 roundB (macL a.l0 b t.t0 0) (macL a.l1 b t.t1 c0) (macL a.l2 b t.t2 c1) (macL a.l3 b t.t3 c2) (macL a.l4 b t.t4 c3) (macL a.l5 b t.t5 c4) (addS t.t6 c5 false) (addC t.t6 c5 false)
def half1 (a b:Fp):L7:=roundF a b.l0 ⟨0,0,0,0,0,0,0⟩
def half2 (a b:Fp):L7:=roundF a b.l1 (half1 a b)
def half3 (a b:Fp):L7:=roundF a b.l2 (half2 a b)
def half4 (a b:Fp):L7:=roundF a b.l3 (half3 a b)
def half5 (a b:Fp):L7:=roundF a b.l4 (half4 a b)
def halfT (a b:Fp):L7:=roundF a b.l5 (half5 a b)
def L7.low (t:L7):Fp:=⟨t.t0,t.t1,t.t2,t.t3,t.t4,t.t5⟩
def halfF (a b:Fp):Fp:=lessF (halfT a b).low (halfT a b).t6
def ptrV (n:Nat):AV := .one (.c (.ptr n 0))
def litV (n:Nat):AV := .one (.c (.lit .i64 n))
def own (ty:TypeId) (cs:List Cell):HE := .live ⟨true,ty,0,.row cs,false⟩
def L7.cs (t:L7):List Cell := [.u64 t.t0,.u64 t.t1,.u64 t.t2,.u64 t.t3,.u64 t.t4,.u64 t.t5,.u64 t.t6]
def zeros (n:Nat):List Cell:=List.replicate n (.lit .u64 0)
def hSt (a b:Fp) (k:Nat) (t:List Cell):St :=
 mkSt 139 [(2,ptrV 0),(3,ptrV 1),(4,ptrV 2),(5,ptrV 3),(6,ptrV 4),(18,litV k)] [own 29 (Row.cs a),own 29 (Row.cs b),own 29 (zeros 6),own 29 (Row.cs pLimbs),own 176 t]
def hCut:X->Option (List Nat × List Nat):=same [2,3,4,5,6,18] [0,1,2,3,4]
noncomputable def hCode:List Code:=flat (codeOf Tryz.f152)
noncomputable def hBody:Code:=loopAt Tryz.f152 0
set_option maxRecDepth 100000
theorem half_start (a b:Fp):stageT E2 100 (hCode.take 4) (startSt Tryz.f152 [.one ((kRow Fp).av a),.one ((kRow Fp).av b)] []) [2,3,4,5,6,18] [0,1,2,3,4] = .leaf (hSt a b 0 (zeros 7)):=by kernel_rfl
theorem half_round0 (a b:Fp):roundT E2 100 hBody (hSt a b 0 (zeros 7)) hCut = .leaf (.normal,hSt a b 1 (roundF a b.l0 ⟨0,0,0,0,0,0,0⟩).cs):=by kernel_rfl
theorem half_round1 (a b:Fp) (t:L7):roundT E2 100 hBody (hSt a b 1 t.cs) hCut = .leaf (.normal,hSt a b 2 (roundF a b.l1 t).cs):=by kernel_rfl
theorem half_round2 (a b:Fp) (t:L7):roundT E2 100 hBody (hSt a b 2 t.cs) hCut = .leaf (.normal,hSt a b 3 (roundF a b.l2 t).cs):=by kernel_rfl
theorem half_round3 (a b:Fp) (t:L7):roundT E2 100 hBody (hSt a b 3 t.cs) hCut = .leaf (.normal,hSt a b 4 (roundF a b.l3 t).cs):=by kernel_rfl
theorem half_round4 (a b:Fp) (t:L7):roundT E2 100 hBody (hSt a b 4 t.cs) hCut = .leaf (.normal,hSt a b 5 (roundF a b.l4 t).cs):=by kernel_rfl
theorem half_round5 (a b:Fp) (t:L7):roundT E2 100 hBody (hSt a b 5 t.cs) hCut = .leaf (.normal,hSt a b 6 (roundF a b.l5 t).cs):=by kernel_rfl
theorem half_out (a b:Fp) (t:L7):roundT E2 100 hBody (hSt a b 6 t.cs) hCut = .leaf (.exit 0,hSt a b 6 t.cs):=by kernel_rfl
theorem half_fin (a b:Fp) (t:L7):finT E2 (kRow Fp).rs 100 Tryz.f152 (hCode.drop 5) (hSt a b 6 t.cs) = .leaf (some (lessF t.low t.t6)):=by kernel_rfl
theorem half_split:hCode.drop 4 = .block 0 (.loop hBody) :: hCode.drop 5:=by kernel_rfl
def hInv (a b:Fp) (k:Fin 7):St :=
 match k with
 | 0=>hSt a b 0 (zeros 7)
 | 1=>hSt a b 1 (half1 a b).cs
 | 2=>hSt a b 2 (half2 a b).cs
 | 3=>hSt a b 3 (half3 a b).cs
 | 4=>hSt a b 4 (half4 a b).cs
 | 5=>hSt a b 5 (half5 a b).cs
 | 6=>hSt a b 6 (halfT a b).cs
theorem half_ok:CallOk Tryz.prog 152 (K2 (kRow Fp).arg (kRow Fp).arg (kRow Fp).rs.res halfF):=by
 refine Q2 (E:=E2) Tryz.func152 (c:=codeOf Tryz.f152) (by kernel_rfl) (bodied Tryz.func152 (by kernel_rfl) (by kernel_rfl)) (kRow Fp) (kRow Fp) (kRow Fp).rs halfF fun a b => ?_
 refine DoesL.stageTo E2_ok 100 4 [2,3,4,5,6,18] [0,1,2,3,4] (half_start a b) ?_
 refine DoesL.blockLoop half_split (hInv a b) (fun k=>6-k.1) 0 fun k => ?_
 match k with
 | 0=>exact Does.round E2_ok 100 hCut (half_round0 a b) ⟨1,by decide,by simp only [hInv,half1]⟩
 | 1=>exact Does.round E2_ok 100 hCut (half_round1 a b _) ⟨2,by decide,by simp only [hInv,half2]⟩
 | 2=>exact Does.round E2_ok 100 hCut (half_round2 a b _) ⟨3,by decide,by simp only [hInv,half3]⟩
 | 3=>exact Does.round E2_ok 100 hCut (half_round3 a b _) ⟨4,by decide,by simp only [hInv,half4]⟩
 | 4=>exact Does.round E2_ok 100 hCut (half_round4 a b _) ⟨5,by decide,by simp only [hInv,half5]⟩
 | 5=>exact Does.round E2_ok 100 hCut (half_round5 a b _) ⟨6,by decide,by simp only [hInv,halfT]⟩
 | 6=>exact Does.round E2_ok 100 hCut (half_out a b _) ⟨rfl,DoesL.fin E2_ok 100 (half_fin a b _) (Tree.sat_leaf (by simp only [halfF]))⟩
end Go.Proofs.YtcbplfkeeaecgaaGreat
namespace Go.Proofs.YtcbplfkeeaecgaaGreat
open Go.RowKit
abbrev Kc (x:Fp):Contract:=K0 (kRow Fp).rs.res x
abbrev Kf (F:Fp->Fp):Contract:=K1 (kRow Fp).arg (kRow Fp).rs.res F
abbrev Kff (F:Fp->Fp->Fp):Contract:=K2 (kRow Fp).arg (kRow Fp).arg (kRow Fp).rs.res F
noncomputable abbrev En (T:Table):Env:=mkEnv Tryz.prog T []
theorem En_ok {T:Table} (h:TableOk Tryz.prog T):EnvOk (En T):=mkEnv_ok follows_mixed h
abbrev vF (a:Fp):AV := .one ((kRow Fp).av a)
abbrev vU (a:UInt64):AV := .one (kU64.av a)
abbrev rF:Rs Fp:=(kRow Fp).rs
def sqLimbs:Fp:=⟨0xf4df1f341c341746,0x0a76e6a609d104f1,0x8de5476c4c95b6d5,0x67eb88a9939d83c0,0x9a793e85b519952d,0x11988fe592cae3aa⟩
theorem square_ok:CallOk Tryz.prog 164 (Kc sqLimbs):=P0 E0_ok Tryz.func164 (bodied Tryz.func164 (by kernel_rfl) (by kernel_rfl)) 100 rF sqLimbs (T := .leaf (some sqLimbs)) (by kernel_rfl) rfl
def wholeF (a:Fp):Fp:=halfF a sqLimbs
def oneFp:Fp:=⟨1,0,0,0,0,0⟩
def zeroFp:Fp:=⟨0,0,0,0,0,0⟩
def lowF (a:Fp):Fp:=halfF a oneFp
theorem whole_run (hF:Fp->Fp->Fp) (q a:Fp):plainRun (En [(152,Kff hF),(164,Kc q)]) rF 100 Tryz.f112 [vF a] = .leaf (some (hF a q)):=by kernel_rfl
theorem low_run (hF:Fp->Fp->Fp) (a:Fp):plainRun (En [(152,Kff hF)]) rF 100 Tryz.f109 [vF a] = .leaf (some (hF a oneFp)):=by kernel_rfl
theorem whole_ok:CallOk Tryz.prog 112 (Kf wholeF):=P1 (En_ok (.cons half_ok (.cons square_ok .nil))) Tryz.func112 (bodied Tryz.func112 (by kernel_rfl) (by kernel_rfl)) 100 (kRow Fp) rF wholeF (whole_run halfF sqLimbs) (fun _=>Tree.sat_leaf (by simp only [wholeF]))
theorem low_ok:CallOk Tryz.prog 109 (Kf lowF):=P1 (En_ok (.cons half_ok .nil)) Tryz.func109 (bodied Tryz.func109 (by kernel_rfl) (by kernel_rfl)) 100 (kRow Fp) rF lowF (low_run halfF) (fun _=>Tree.sat_leaf (by simp only [lowF]))
def addT (a b:Fp):Fp × Bool :=
 let c0:=addC a.l0 b.l0 false
 let c1:=addC a.l1 b.l1 c0
 let c2:=addC a.l2 b.l2 c1
 let c3:=addC a.l3 b.l3 c2
 let c4:=addC a.l4 b.l4 c3
 (⟨addS a.l0 b.l0 false,addS a.l1 b.l1 c0,addS a.l2 b.l2 c1,addS a.l3 b.l3 c2,addS a.l4 b.l4 c3,addS a.l5 b.l5 c4⟩,addC a.l5 b.l5 c4)
def addF (a b:Fp):Fp:=lessF (addT a b).1 (b2u (addT a b).2)
theorem add_run (lF:Fp->UInt64->Fp) (a b:Fp):plainRun (En [(70,K3x addS addC),(151,K2 (kRow Fp).arg kU64.arg rF.res lF)]) rF 100 Tryz.f90 [vF a,vF b] = .leaf (some (lF (addT a b).1 (b2u (addT a b).2))):=by kernel_rfl
theorem add_ok:CallOk Tryz.prog 90 (Kff addF):=P2 (En_ok (.cons add64_ok (.cons less_ok .nil))) Tryz.func90 (bodied Tryz.func90 (by kernel_rfl) (by kernel_rfl)) 100 (kRow Fp) (kRow Fp) rF addF (add_run lessF) (fun _ _=>Tree.sat_leaf (by simp only [addF]))
def subT (a b:Fp):Fp × Bool :=
 let c0:=subB a.l0 b.l0 false
 let c1:=subB a.l1 b.l1 c0
 let c2:=subB a.l2 b.l2 c1
 let c3:=subB a.l3 b.l3 c2
 let c4:=subB a.l4 b.l4 c3
 (⟨subS a.l0 b.l0 false,subS a.l1 b.l1 c0,subS a.l2 b.l2 c1,subS a.l3 b.l3 c2,subS a.l4 b.l4 c3,subS a.l5 b.l5 c4⟩,subB a.l5 b.l5 c4)
def subF (a b:Fp):Fp:=match decide (b2u (subT a b).2=0) with | true=>(subT a b).1 | false=>(addT (subT a b).1 pLimbs).1
theorem sub_run (a b:Fp):plainRun E1 rF 100 Tryz.f131 [vF a,vF b] = .br (decide (b2u (subT a b).2=0)) (.leaf (some (subT a b).1)) (.leaf (some (addT (subT a b).1 pLimbs).1)):=by kernel_rfl
theorem sub_ok:CallOk Tryz.prog 131 (Kff subF):=P2 E1_ok Tryz.func131 (bodied Tryz.func131 (by kernel_rfl) (by kernel_rfl)) 100 (kRow Fp) (kRow Fp) rF subF sub_run
 (by intro a b;exact ⟨fun h=>congrArg some (by unfold subF;rw [h]),fun h=>congrArg some (by unfold subF;rw [h])⟩)
def negF (a:Fp):Fp:=subF zeroFp a
def mulF (a b:Fp):Fp:=wholeF (halfF a b)
def ofF (n:UInt64):Fp:=⟨n,0,0,0,0,0⟩
theorem neg_run (sF:Fp->Fp->Fp) (a:Fp):plainRun (En [(131,Kff sF)]) rF 100 Tryz.f68 [vF a] = .leaf (some (sF zeroFp a)):=by kernel_rfl
theorem neg_ok:CallOk Tryz.prog 68 (Kf negF):=P1 (En_ok (.cons sub_ok .nil)) Tryz.func68 (bodied Tryz.func68 (by kernel_rfl) (by kernel_rfl)) 100 (kRow Fp) rF negF (neg_run subF) (fun _=>Tree.sat_leaf (by simp only [negF]))
theorem mul_run (hF:Fp->Fp->Fp) (wF:Fp->Fp) (a b:Fp):plainRun (En [(152,Kff hF),(112,Kf wF)]) rF 100 Tryz.f91 [vF a,vF b] = .leaf (some (wF (hF a b))):=by kernel_rfl
theorem mul_ok:CallOk Tryz.prog 91 (Kff mulF):=P2 (En_ok (.cons half_ok (.cons whole_ok .nil))) Tryz.func91 (bodied Tryz.func91 (by kernel_rfl) (by kernel_rfl)) 100 (kRow Fp) (kRow Fp) rF mulF (mul_run halfF wholeF) (fun _ _=>Tree.sat_leaf (by simp only [mulF]))
theorem of_run (n:UInt64):plainRun (En []) rF 100 Tryz.f92 [vU n] = .leaf (some (ofF n)):=by kernel_rfl
theorem of_ok:CallOk Tryz.prog 92 (K1 kU64.arg rF.res ofF):=P1 (En_ok .nil) Tryz.func92 (bodied Tryz.func92 (by kernel_rfl) (by kernel_rfl)) 100 kU64 rF ofF of_run (fun _=>Tree.sat_leaf rfl)
end Go.Proofs.YtcbplfkeeaecgaaGreat
namespace Go.Proofs.YtcbplfkeeaecgaaGreat
open Go.RowKit
def argNat:Arg Nat where
 rd:=fun _ v=>match v with
  | .one (.c (.lit .i64 n))=>match decide (0<=n) with
   | true=>some (n.toNat,.t,[])
   | false=>none
  | .one (.c (.int .i64 n))=>some (n.toNat,.p (0<=n),[])
  | _=>none
 is:=fun _ v x=>v = .int .i64 (x:Int)
 ok:=fun {w0 β h w v x p rs} e hp _ _=>by
  split at e
  ·split at e
   ·rename_i hd
    cases e
    simp only [decide_eq_true_eq] at hd
    simp only [gv,g1,gc]
    congr 1
    omega
   ·cases e
  ·cases e
   have:(0:Int)<=_:=hp
   simp only [gv,g1,gc]
   congr 1
   omega
  ·cases e
 near:=fun e _=>e
def inpNat:Inp Nat where
 arg:=argNat
 av:=fun _ x => .one (.c (.int .i64 (x:Int)))
 hes:=fun _ => []
 fact:=fun _=>True
 known:=fun _=>trivial
 intro:=fun {w0 β heap w v x} hr _ hv=>⟨β,by rw [List.append_nil];exact hr,hv.symm,okc_none rfl,fun _ _=>rfl⟩
abbrev oU:Out UInt64:=kU64.rs.out
abbrev iL:Inp (List UInt64):=inpSl eU64
abbrev aL:Arg (List UInt64):=argSl eU64
def atF (xs:List UInt64) (i:Nat):UInt64:=xs.getD i 0
theorem at_run (xs:List UInt64) (i:Nat):letI za':=0+xs.length*1<=(eU64.body xs).cells.length/\0<1;endT (En []) oU 100 Tryz.f185 (flat (codeOf Tryz.f185)) (startSt Tryz.f185 [iL.av 0 xs,inpNat.av 1 i] [inHE eU64 xs]) = .vc za' (.br (decide ((i:Int)<(xs.length:Int))) (.vc ((0<=(i:Int)/\(i:Int)<(xs.length:Int))/\za') (.vc (0+(i:Int).toNat*1<xs.length) (.leaf (some (xs.getD (0+(i:Int).toNat*1) 0,.t))))) (.leaf (some (0,.t)))):=by kernel_rfl
theorem at_ok:CallOk Tryz.prog 185 (K2 aL argNat kU64.rs.res atF) :=
 G2 (E:=En []) Tryz.func185 (c:=codeOf Tryz.f185) (by kernel_rfl) (bodied Tryz.func185 (by kernel_rfl) (by kernel_rfl)) iL inpNat oU atF fun xs i _ _=>by
  refine DoesL.ends (En_ok .nil) 100 (at_run xs i) ⟨⟨by rw [eU64.cells_len];omega,by decide⟩,fun _=>⟨fun h => ?_,fun h => ?_⟩⟩
  ·simp only [decide_eq_true_eq] at h
   refine ⟨⟨⟨by omega,h⟩,by rw [eU64.cells_len];omega,by decide⟩,fun _=>⟨by omega,fun _=>⟨.t,?_,trivial⟩⟩⟩
   simp [atF]
  ·simp only [decide_eq_false_iff_not] at h
   refine ⟨.t,?_,trivial⟩
   have:xs.length<=i:=by omega
   simp [atF,List.getElem?_eq_none this]
def scopeAt:Code->Option Code
 | .scope a=>some a
 | .seq a b=>match scopeAt a with | some c=>some c | none=>scopeAt b
 | .block _ a=>scopeAt a
 | _=>none
def scopeOf (fn:Func):Code:=match scopeAt (codeOf fn) with | some c=>c | none => .skip
def restOf (fn:Func):Code:=match findLabel (scopeOf fn) 0 with | some c=>c | none => .skip
abbrev vI (z:Int):AV := .one (.c (.int .i64 z))
abbrev oI:Out Int:=kInt.rs.out
abbrev okL (xs:List UInt64):Prop:=0+xs.length<=xs.length/\xs.length<topLen/\RC.fits (.of 0) 0 xs.length 1 1
def cmpSt (xs ys:List UInt64) (z:Int):St:=mkSt 31 [(0,inV 0 xs),(1,inV 1 ys),(5,vI z)] [inHE eU64 xs,inHE eU64 ys]
def maxI (xs ys:List UInt64):Int:=if (ys.length:Int) > xs.length then ys.length else xs.length
theorem cmp_front (T:Table) (xs ys:List UInt64):stageT (En T) 100 ((flat (codeOf Tryz.f160)).take 1) (startSt Tryz.f160 [iL.av 0 xs,iL.av 1 ys] [inHE eU64 xs,inHE eU64 ys]) [0,1] [0,1] =
  .leaf (mkSt 31 [(0,inV 0 xs),(1,inV 1 ys)] [inHE eU64 xs,inHE eU64 ys]):=by kernel_rfl
theorem cmp_start (T:Table) (xs ys:List UInt64):stageT (En T) 100 ((flat (scopeOf Tryz.f160)).take 2) (mkSt 31 [(0,inV 0 xs),(1,inV 1 ys)] [inHE eU64 xs,inHE eU64 ys]) [0,1,5] [0,1] = .vc (0+xs.length*1<=(eU64.body xs).cells.length/\0<1) (.vc (0+ys.length*1<=(eU64.body ys).cells.length/\0<1) (.leaf (cmpSt xs ys (maxI xs ys)))):=by kernel_rfl
theorem cmp_iter (aF:List UInt64->Nat->UInt64) (xs ys:List UInt64) (z:Int):letI za':=IntKind.i64.wrap (z-1);letI zb':=(xs.drop 0).take xs.length;letI zc':=(ys.drop 0).take ys.length;iterT (En [(185,K2 aL argNat kU64.rs.res aF)]) oI 100 Tryz.f160 ((flat (scopeOf Tryz.f160)).drop 2) (cmpSt xs ys z) [0,1,5] [0,1] = .br (decide (IntKind.i64.wrap (z-1)<0)) (.leaf (.inr (some (0,.t)))) (.vc (okL xs/\0<=IntKind.i64.wrap (z-1)) (.vc (okL ys/\0<=IntKind.i64.wrap (z-1)) (.br (decide (aF zb' za'.toNat<aF zc' za'.toNat)) (.leaf (.inr (some (-1,.t)))) (.br (decide (aF zb' za'.toNat > aF zc' za'.toNat)) (.leaf (.inr (some (1,.t)))) (.leaf (.inl (.goto 0,cmpSt xs ys za'))))))):=by kernel_rfl
def cmpAt (xs ys:List UInt64):Nat->Int
 | 0=>0
 | n+1=>if atF xs n<atF ys n then -1 else if atF xs n > atF ys n then 1 else cmpAt xs ys n
def cmpF (xs ys:List UInt64):Int:=cmpAt xs ys (maxI xs ys).toNat
theorem cells_len (xs:List UInt64):(eU64.body xs).cells.length=xs.length:=eU64.cells_len xs
theorem okL_of {xs:List UInt64} (h:xs.length<topLen):okL xs:=⟨by omega,h,by simp [RC.fits]⟩
abbrev CmpOk (xs ys:List UInt64):Type := { z:Int // 0<=z/\z<topLen/\cmpAt xs ys z.toNat=cmpF xs ys }
def cmpI (xs ys:List UInt64) (z:CmpOk xs ys):St:=cmpSt xs ys z.1
theorem cmp_ok:CallOk Tryz.prog 160 (K2 aL aL kInt.rs.res cmpF) :=
 G2 (E:=En [(185,K2 aL argNat kU64.rs.res atF)]) Tryz.func160 (c:=codeOf Tryz.f160) (by kernel_rfl) (bodied Tryz.func160 (by kernel_rfl) (by kernel_rfl)) iL iL oI cmpF fun xs ys hx hy=>by
  have hE:EnvOk (En [(185,K2 aL argNat kU64.rs.res atF)]):=En_ok (.cons at_ok .nil)
  have hx:xs.length<1125899906842624:=hx
  have hy:ys.length<1125899906842624:=hy
  have hm:0<=maxI xs ys/\maxI xs ys<topLen:=by unfold maxI topLen;split <;> omega
  refine DoesL.stageE hE 100 1 [0,1] [0,1] (cmp_front _ xs ys) ?_
  refine DoesL.scopeFn (body:=scopeOf Tryz.f160) (rest:=restOf Tryz.f160) (tail := []) (l:=0) hE (by kernel_rfl) (by kernel_rfl) 100 2 (by kernel_rfl) [0,1,5] [0,1] (cmpI xs ys) (fun z=>z.1.toNat)
   ⟨maxI xs ys,hm.1,hm.2,rfl⟩ (cmp_start _ xs ys) ⟨⟨by rw [cells_len];omega,by decide⟩,fun _=>⟨⟨by rw [cells_len];omega,by decide⟩,fun _=>rfl⟩⟩ fun z => ?_
  ·obtain ⟨z,h0,h1,h2⟩:=z
   have h1:z<1125899906842624:=h1
   have hw:IntKind.i64.wrap (z-1)=z-1:=IntWalk.i64_in _ (by omega)
   refine DoesL.iter hE 100 [0,1,5] [0,1] (cmp_iter atF xs ys z) ?_
   rw [hw]
   simp only [List.drop_zero,List.take_length]
   refine ⟨fun h => ?_,fun h=>⟨⟨okL_of hx,?_⟩,fun _=>⟨⟨okL_of hy,?_⟩,fun _=>⟨fun h3 => ?_,fun h3=>⟨fun h4 => ?_,fun h4 => ?_⟩⟩⟩⟩⟩
   ·simp only [decide_eq_true_eq] at h
    obtain rfl:z=0:=by omega
    exact ⟨.t,by rw [<- h2];rfl,trivial⟩
   all_goals simp only [decide_eq_false_iff_not] at h
   ·omega
   ·omega
   all_goals
    obtain ⟨n,rfl⟩ : ∃ n:Nat,z=(n:Int)+1:=⟨(z-1).toNat,by omega⟩
    rw [show ((n:Int)+1).toNat=n+1 by omega] at h2
    rw [show ((n:Int)+1-1).toNat=n by omega] at h3
    simp only [cmpAt] at h2
   ·simp only [decide_eq_true_eq] at h3
    rw [if_pos h3] at h2
    exact ⟨.t,by rw [<- h2],trivial⟩
   ·rw [show ((n:Int)+1-1).toNat=n by omega] at h4
    simp only [decide_eq_false_iff_not] at h3
    simp only [decide_eq_true_eq] at h4
    rw [if_neg h3,if_pos h4] at h2
    exact ⟨.t,by rw [<- h2],trivial⟩
   ·rw [show ((n:Int)+1-1).toNat=n by omega] at h4
    simp only [decide_eq_false_iff_not] at h3 h4
    rw [if_neg h3,if_neg h4] at h2
    exact ⟨rfl,⟨(n:Int)+1-1,by omega,by unfold topLen;omega,by rw [show ((n:Int)+1-1).toNat=n by omega];exact h2⟩,by simp only [];omega,rfl⟩
end Go.Proofs.YtcbplfkeeaecgaaGreat
namespace Go.Proofs.YtcbplfkeeaecgaaGreat
open Go.RowKit
def Fp.list (a:Fp):List UInt64 := [a.l0,a.l1,a.l2,a.l3,a.l4,a.l5]
def halvedF (a:Fp):Fp:=⟨shrU a.l0 1 ||| shlU a.l1 63,shrU a.l1 1 ||| shlU a.l2 63,shrU a.l2 1 ||| shlU a.l3 63,shrU a.l3 1 ||| shlU a.l4 63,shrU a.l4 1 ||| shlU a.l5 63,shrU a.l5 1⟩
abbrev Kcmp (cF:List UInt64->List UInt64->Int):Contract:=K2 aL aL kInt.rs.res cF
def mayF (a:Fp):Bool:=decide (cmpF a.list pLimbs.list<0)
theorem may_run (cF:List UInt64->List UInt64->Int) (m a:Fp):plainRun (En [(160,Kcmp cF),(148,Kc m)]) kBool.rs 100 Tryz.f147 [vF a] = .leaf (some (decide (cF a.list m.list<0))):=by kernel_rfl
theorem may_ok:CallOk Tryz.prog 147 (K1 (kRow Fp).arg kBool.rs.res mayF):=P1 (En_ok (.cons cmp_ok (.cons modulus_ok .nil))) Tryz.func147 (bodied Tryz.func147 (by kernel_rfl) (by kernel_rfl)) 100 (kRow Fp) kBool.rs mayF (may_run cmpF pLimbs) (fun _=>Tree.sat_leaf (by simp only [mayF]))
def greatF (a:Fp):Bool:=decide (cmpF a.list (halvedF pLimbs).list > 0)
abbrev oF:Out Fp:=rF.out
def powSt (e:List UInt64) (x o:Fp) (z:Int):St:=mkSt 38 [(1,inV 0 e),(4,ptrV 1),(5,ptrV 2),(6,ptrV 3),(7,vI z)] [inHE eU64 e,own 29 (zeros 6),own 29 (Row.cs x),own 29 (Row.cs o)]
def tPow (wF:Fp->Fp) (hF:Fp->Fp->Fp) (lF:Fp->Fp):Table := [(112,Kf wF),(152,Kff hF),(109,Kf lF)]
theorem pow_front (T:Table) (a:Fp) (e:List UInt64):stageT (En T) 100 ((flat (codeOf Tryz.f150)).take 1) (startSt Tryz.f150 [vF a,iL.av 0 e] [inHE eU64 e]) [1,2,4] [0,1,2] = .leaf (mkSt 38 [(1,inV 0 e),(2,ptrV 1),(4,ptrV 2)] [inHE eU64 e,own 29 (Row.cs a),own 29 (zeros 6)]):=by kernel_rfl
theorem pow_start (hF:Fp->Fp->Fp) (wF lF:Fp->Fp) (a:Fp) (e:List UInt64):stageT (En (tPow wF hF lF)) 100 ((flat (scopeOf Tryz.f150)).take 3) (mkSt 38 [(1,inV 0 e),(2,ptrV 1),(4,ptrV 2)] [inHE eU64 e,own 29 (Row.cs a),own 29 (zeros 6)]) [1,4,5,6,7] [0,2,3,4] = .vc (0+e.length*1<=(eU64.body e).cells.length/\0<1) (.leaf (powSt e (wF a) (wF oneFp) (IntKind.i64.wrap (64*e.length)))):=by kernel_rfl
def quoZ (z:Int):Int:=IntKind.i64.wrap ((IntKind.i64.wrap (z-1)).tdiv 64)
def remZ (z:Int):UInt64:=UInt64.ofNat (((IntKind.i64.wrap (z-1)).tmod 64) % 18446744073709551616).toNat
def bitZ (e:List UInt64) (z:Int):Bool:=shrU (e.getD (0+(quoZ z).toNat*1) 0) ((remZ z).toNat:Int) &&& 1==1
theorem pow_iter (hF:Fp->Fp->Fp) (wF lF:Fp->Fp) (x o:Fp) (e:List UInt64) (z:Int):letI za':=IntKind.i64.wrap (z-1);iterT (En (tPow wF hF lF)) oF 100 Tryz.f150 ((flat (scopeOf Tryz.f150)).drop 3) (powSt e x o z) [1,4,5,6,7] [0,1,2,3] = .br (decide (IntKind.i64.wrap (z-1)<0)) (.leaf (.inr (some (lF o,.t)))) (.vc ((0<=quoZ z/\quoZ z<e.length)/\0+e.length*1<=(eU64.body e).cells.length/\0<1) (.vc (0+(quoZ z).toNat*1<e.length) (.br (bitZ e z) (.leaf (.inl (.goto 0,powSt e x (hF (hF o o) x) za'))) (.leaf (.inl (.goto 0,powSt e x (hF o o) za')))))):=by kernel_rfl
def bitAt (e:List UInt64) (i:Nat):Bool:=(e.getD (i / 64) 0).toNat.testBit (i % 64)
theorem shr_bit (x:UInt64) (k:Nat) (hk:k<64):(shrU x (k:Int) &&& 1==1)=x.toNat.testBit k:=by
 have h1:(shrU x (k:Int)).toNat=x.toNat / 2 ^ k:=by
  have:=x.toNat_lt
  unfold shrU
  rw [Int.toNat_natCast,Nat.min_eq_left (by omega),UInt64.toNat_ofNat']
  exact Nat.mod_eq_of_lt (Nat.lt_of_le_of_lt (Nat.div_le_self _ _) this)
 have h2:(shrU x (k:Int) &&& 1).toNat=x.toNat / 2 ^ k % 2:=by
  rw [UInt64.toNat_and,h1]
  exact Nat.and_one_is_mod _
 rw [Nat.testBit_eq_decide_div_mod_eq]
 rw [<- h2]
 have h3:(shrU x (k:Int) &&& 1==1)=decide ((shrU x (k:Int) &&& 1)=1):=rfl
 rw [h3]
 have:((shrU x (k:Int) &&& 1)=1) <-> (shrU x (k:Int) &&& 1).toNat=1:=⟨fun h=>by rw [h];rfl,fun h=>UInt64.toNat.inj (by rw [h];rfl)⟩
 exact decide_eq_decide.2 this
theorem quoZ_nat (n:Nat) (h:n<576460752303423488):quoZ ((n:Int)+1)=((n / 64:Nat):Int):=by
 unfold quoZ
 rw [show (n:Int)+1-1=n by omega,IntWalk.i64_in (n:Int) (by omega),show ((n:Int)).tdiv 64=((n / 64:Nat):Int) by rw [Int.tdiv_eq_ediv_of_nonneg (by omega)];omega,IntWalk.i64_in _ (by omega)]
theorem bitZ_nat (e:List UInt64) (n:Nat) (h:n<576460752303423488):bitZ e ((n:Int)+1)=bitAt e n:=by
 unfold bitZ bitAt
 rw [quoZ_nat n h]
 have h1:(remZ ((n:Int)+1)).toNat=n % 64:=by
  unfold remZ
  rw [show (n:Int)+1-1=n by omega,IntWalk.i64_in (n:Int) (by omega),show ((n:Int)).tmod 64=((n % 64:Nat):Int) by rw [Int.tmod_eq_emod_of_nonneg (by omega)];omega]
  rw [show (((n % 64:Nat):Int) % 18446744073709551616).toNat=n % 64 by omega,UInt64.toNat_ofNat']
  omega
 rw [h1,shr_bit _ _ (by omega)]
 simp only [Nat.zero_add,Nat.mul_one,Int.toNat_natCast]
def powAt (x:Fp) (e:List UInt64):Nat->Fp->Fp
 | 0,o=>lowF o
 | n+1,o=>powAt x e n (match bitAt e n with | true=>halfF (halfF o o) x | false=>halfF o o)
def powF (a:Fp) (e:List UInt64):Fp:=powAt (wholeF a) e (64*e.length) (wholeF oneFp)
abbrev PowOk (a:Fp) (e:List UInt64):Type := { q:Int × Fp // 0<=q.1/\q.1<=64*e.length/\powAt (wholeF a) e q.1.toNat q.2=powF a e }
def powI (a:Fp) (e:List UInt64) (q:PowOk a e):St:=powSt e (wholeF a) q.1.2 q.1.1
theorem pow_ok:CallOk Tryz.prog 150 (K2 (kRow Fp).arg aL rF.res powF) :=
 G2 (E:=En (tPow wholeF halfF lowF)) Tryz.func150 (c:=codeOf Tryz.f150) (by kernel_rfl) (bodied Tryz.func150 (by kernel_rfl) (by kernel_rfl)) (kRow Fp).inp iL oF powF fun a e _ he=>by
  have hE:EnvOk (En (tPow wholeF halfF lowF)):=En_ok (.cons whole_ok (.cons half_ok (.cons low_ok .nil)))
  have he:e.length<1125899906842624:=he
  have hw:IntKind.i64.wrap (64*(e.length:Int))=64*(e.length:Int):=IntWalk.i64_in _ (by omega)
  refine DoesL.stageE hE 100 1 [1,2,4] [0,1,2] (pow_front _ a e) ?_
  refine DoesL.scopeFn (body:=scopeOf Tryz.f150) (rest:=restOf Tryz.f150) (tail := []) (l:=0) hE (by kernel_rfl) (by kernel_rfl) 100 3 (by kernel_rfl) [1,4,5,6,7] [0,2,3,4] (powI a e) (fun q=>q.1.1.toNat)
   ⟨(64*(e.length:Int),wholeF oneFp),by simp only [];omega,by simp only [];omega,by rw [show ((64*(e.length:Int),wholeF oneFp):Int × Fp).1.toNat=64*e.length by simp only [];omega];simp only [powF]⟩
   (pow_start halfF wholeF lowF a e) ⟨⟨by rw [cells_len];omega,by decide⟩,fun _=>by rw [hw];exact Tree.sat_leaf (by simp only [powI])⟩ fun q => ?_
  obtain ⟨⟨z,o⟩,h0,h1,h2⟩:=q
  simp only [] at h0 h1 h2
  have hz:IntKind.i64.wrap (z-1)=z-1:=IntWalk.i64_in _ (by omega)
  refine DoesL.iter hE 100 [1,4,5,6,7] [0,1,2,3] (pow_iter halfF wholeF lowF (wholeF a) o e z) ?_
  rw [hz]
  refine ⟨fun h => ?_,fun h => ?_⟩
  ·simp only [decide_eq_true_eq] at h
   obtain rfl:z=0:=by omega
   exact ⟨.t,by rw [<- h2];rfl,trivial⟩
  ·simp only [decide_eq_false_iff_not] at h
   obtain ⟨n,rfl⟩ : ∃ n:Nat,z=(n:Int)+1:=⟨(z-1).toNat,by omega⟩
   rw [quoZ_nat n (by omega),bitZ_nat e n (by omega)]
   rw [show ((n:Int)+1).toNat=n+1 by omega] at h2
   simp only [powAt] at h2
   refine ⟨⟨⟨by omega,by omega⟩,by rw [cells_len];omega,by decide⟩,fun _=>⟨by omega,fun _=>⟨fun h3 => ?_,fun h3 => ?_⟩⟩⟩
   all_goals
    have hn:((n:Int)+1-1).toNat=n:=by omega
    rw [h3] at h2
    simp only [] at h2
   ·refine ⟨rfl,⟨((n:Int)+1-1,halfF (halfF o o) (wholeF a)),?_,?_,?_⟩,?_,by simp only [powI]⟩
    ·show 0<=(n:Int)+1-1;omega
    ·show (n:Int)+1-1<=64*e.length;omega
    ·simpa only [hn] using h2
    ·show ((n:Int)+1-1).toNat<((n:Int)+1).toNat;omega
   ·refine ⟨rfl,⟨((n:Int)+1-1,halfF o o),?_,?_,?_⟩,?_,by simp only [powI]⟩
    ·show 0<=(n:Int)+1-1;omega
    ·show (n:Int)+1-1<=64*e.length;omega
    ·simpa only [hn] using h2
    ·show ((n:Int)+1-1).toNat<((n:Int)+1).toNat;omega
end Go.Proofs.YtcbplfkeeaecgaaGreat
namespace Go.Proofs.YtcbplfkeeaecgaaGreat
open Go.RowKit
abbrev rFI:Rs (Fp × Int):=(kRow Fp).rs2 kInt
abbrev Kpow (pF:Fp->List UInt64->Fp):Contract:=K2 (kRow Fp).arg aL rF.res pF
def fpEq (a b:Fp):Bool:=a.l0==b.l0 && (a.l1==b.l1 && (a.l2==b.l2 && (a.l3==b.l3 && (a.l4==b.l4 && (a.l5==b.l5 && true)))))
theorem fpEq_iff (a b:Fp):fpEq a b=true <-> a=b:=by
 cases a;cases b
 simp [fpEq]
def invF (a:Fp):Fp × Int:=match fpEq a zeroFp with | true=>(a,7) | false=>(powF a [pLimbs.l0-2,pLimbs.l1,pLimbs.l2,pLimbs.l3,pLimbs.l4,pLimbs.l5],0)
theorem inv_run (pF:Fp->List UInt64->Fp) (m a:Fp):plainRun (En [(148,Kc m),(150,Kpow pF)]) rFI 100 Tryz.f108 [vF a] =
  .br (fpEq a zeroFp) (.leaf (some (a,7))) (.leaf (some (pF a [m.l0-2,m.l1,m.l2,m.l3,m.l4,m.l5],0))):=by kernel_rfl
theorem inv_ok:CallOk Tryz.prog 108 (K1 (kRow Fp).arg rFI.res invF):=P1 (En_ok (.cons modulus_ok (.cons pow_ok .nil))) Tryz.func108 (bodied Tryz.func108 (by kernel_rfl) (by kernel_rfl)) 100 (kRow Fp) rFI invF (inv_run powF pLimbs)
 (fun a=>⟨fun h=>congrArg some (by simp only [invF,h]),fun h=>congrArg some (by simp only [invF,h])⟩)
end Go.Proofs.YtcbplfkeeaecgaaGreat
namespace Go.Proofs.YtcbplfkeeaecgaaGreat
open Go.RowKit
noncomputable abbrev Ens (T:Table) (ns:List Nat):Env:=mkEnv Tryz.prog T ns
theorem Ens_ok {T:Table} {ns:List Nat} (h:TableOk Tryz.prog T):EnvOk (Ens T ns):=mkEnv_ok follows_mixed h
abbrev oS (ty:TypeId):Out Fp:=outSlR Fp ty 6 (fun _=>rfl)
abbrev rS (ty:TypeId):Res Fp:=resSlR Fp ty 6 (fun _=>rfl)
abbrev oB:Out Bool:=kBool.rs.out
def belowF (a m:Fp):Bool :=
 match a.l5 != m.l5 with
 | true=>decide (a.l5<m.l5)
 | false=>match a.l4 != m.l4 with
  | true=>decide (a.l4<m.l4)
  | false=>match a.l3 != m.l3 with
   | true=>decide (a.l3<m.l3)
   | false=>match a.l2 != m.l2 with
    | true=>decide (a.l2<m.l2)
    | false=>match a.l1 != m.l1 with
     | true=>decide (a.l1<m.l1)
     | false=>match a.l0 != m.l0 with
      | true=>decide (a.l0<m.l0)
      | false=>false
def lfB (b:Bool):Tree (Option (Bool × Pr)) := .leaf (some (b,.t))
end Go.Proofs.YtcbplfkeeaecgaaGreat
namespace Go.Proofs.YtcbplfkeeaecgaaGreat
open Go.RowKit
abbrev Kfb (F:Fp->Bool):Contract:=K1 (kRow Fp).arg kBool.rs.res F
abbrev Kinv (iF:Fp->Fp × Int):Contract:=K1 (kRow Fp).arg rFI.res iF
end Go.Proofs.YtcbplfkeeaecgaaGreat
namespace Go.Proofs.YtcbplfkeeaecgaaGreat
open Go.RowKit
abbrev oL:Out (List UInt64):=outSl eU64 22
end Go.Proofs.YtcbplfkeeaecgaaGreat
namespace Go.Proofs.YtcbplfkeeaecgaaGreat
open Go.RowKit
def cutN (xs:List UInt64):Nat->Nat
 | 0=>0
 | n+1=>if atF xs n=0 then cutN xs n else n+1
def cutF (xs:List UInt64):List UInt64:=xs.take (cutN xs xs.length)
end Go.Proofs.YtcbplfkeeaecgaaGreat
namespace Go.Proofs.YtcbplfkeeaecgaaGreat
open Go.RowKit
theorem whole (xs:List UInt64):List.take xs.length (List.drop 0 xs)=xs:=by rw [List.drop_zero,List.take_length]
def cmpR (xs ys:List UInt64):Int :=
 if (cutF xs).length ≠ (cutF ys).length then (if (cutF xs).length<(cutF ys).length then -1 else 1) else cmpAt (cutF xs) (cutF ys) (cutF xs).length
end Go.Proofs.YtcbplfkeeaecgaaGreat
namespace Go.Proofs.YtcbplfkeeaecgaaGreat
open Go.RowKit
def subAt (xs ys:List UInt64):Nat->List UInt64 × Bool
 | 0=>([],false)
 | k+1=>((subAt xs ys k).1 ++ [subS (atF xs k) (atF ys k) (subAt xs ys k).2],subB (atF xs k) (atF ys k) (subAt xs ys k).2)
def rlessF (xs ys:List UInt64):List UInt64 × Int:=if cmpR xs ys<0 then ([],1) else (cutF (subAt xs ys (max xs.length ys.length)).1,0)
end Go.Proofs.YtcbplfkeeaecgaaGreat
namespace Go.Proofs.YtcbplfkeeaecgaaGreat
open Go.RowKit
end Go.Proofs.YtcbplfkeeaecgaaGreat
namespace Go.Proofs.YtcbplfkeeaecgaaGreat
open Go.RowKit
def plusF (a b m:Fp):Fp:=match b2u (addT a b).2==1 with
 | true=>(subT (addT a b).1 m).1
 | false=>match !(belowF (addT a b).1 m) with
  | true=>(subT (addT a b).1 m).1
  | false=>(addT a b).1
def minusF (a b m:Fp):Fp:=match b2u (subT a b).2==1 with
 | true=>(addT (subT a b).1 m).1
 | false=>(subT a b).1
def addPF (a b:Fp):Fp:=plusF a b pLimbs
def subPF (a b:Fp):Fp:=minusF a b pLimbs
def negPF (a:Fp):Fp:=subPF zeroFp a
end Go.Proofs.YtcbplfkeeaecgaaGreat
namespace Go.Proofs.YtcbplfkeeaecgaaGreat
open Go.RowKit
def rmL (x y t c:UInt64):UInt64:=addS (addS t (x*y) false) c false
def rmH (x y t c:UInt64):UInt64:=mulHi x y+b2u (addC t (x*y) false)+b2u (addC (addS t (x*y) false) c false)
theorem addS_comm (x y:UInt64) (c:Bool):addS x y c=addS y x c:=UInt64.toNat.inj (by rw [addS_nat,addS_nat,Nat.add_comm x.toNat])
theorem addC_comm (x y:UInt64) (c:Bool):addC x y c=addC y x c:=by
 have h1:=addC_nat x y c
 have h2:=addC_nat y x c
 rw [Nat.add_comm x.toNat,<- h2] at h1
 cases h3:addC x y c <;> cases h4:addC y x c <;> simp [h3,h4] at h1 <;> rfl
theorem rmL_eq (x y t c:UInt64):rmL x y t c=macL x y t c:=by unfold rmL macL;rw [addS_comm t]
theorem rmH_eq (x y t c:UInt64):rmH x y t c=macH x y t c:=by unfold rmH macH;rw [addS_comm t,addC_comm t]
def montB (m:Fp) (inv:UInt64) (t0 t1 t2 t3 t4 t5 top:UInt64) (more:Bool):L7 :=
 let x:=t0*inv
 let d0:=mulHi x m.l0+b2u (addC t0 (x*m.l0) false)
 let d1:=rmH x m.l1 t1 d0
 let d2:=rmH x m.l2 t2 d1
 let d3:=rmH x m.l3 t3 d2
 let d4:=rmH x m.l4 t4 d3
 let d5:=rmH x m.l5 t5 d4
 ⟨rmL x m.l1 t1 d0,rmL x m.l2 t2 d1,rmL x m.l3 t3 d2,rmL x m.l4 t4 d3,rmL x m.l5 t5 d4,addS top d5 false,b2u more+b2u (addC top d5 false)⟩
def montR (m:Fp) (inv:UInt64) (ai:UInt64) (b:Fp) (t:L7):L7 :=
 let c0:=rmH ai b.l0 t.t0 0
 let c1:=rmH ai b.l1 t.t1 c0
 let c2:=rmH ai b.l2 t.t2 c1
 let c3:=rmH ai b.l3 t.t3 c2
 let c4:=rmH ai b.l4 t.t4 c3
 let c5:=rmH ai b.l5 t.t5 c4
 montB m inv (rmL ai b.l0 t.t0 0) (rmL ai b.l1 t.t1 c0) (rmL ai b.l2 t.t2 c1) (rmL ai b.l3 t.t3 c2) (rmL ai b.l4 t.t4 c3) (rmL ai b.l5 t.t5 c4) (addS t.t6 c5 false) (addC t.t6 c5 false)
def newt (m x:UInt64):UInt64:=x*(2-m*x)
def montInv (m:UInt64):UInt64:=0-newt m (newt m (newt m (newt m (newt m (newt m m)))))
set_option maxRecDepth 100000
def montE7 (m:Fp) (t:L7):Fp:=match t.t6 != 0 with
 | true=>(subT t.low m).1
 | false=>match !(belowF t.low m) with
  | true=>(subT t.low m).1
  | false=>t.low
def mont1 (a b m:Fp):L7:=montR m (montInv m.l0) a.l0 b ⟨0,0,0,0,0,0,0⟩
def mont2 (a b m:Fp):L7:=montR m (montInv m.l0) a.l1 b (mont1 a b m)
def mont3 (a b m:Fp):L7:=montR m (montInv m.l0) a.l2 b (mont2 a b m)
def mont4 (a b m:Fp):L7:=montR m (montInv m.l0) a.l3 b (mont3 a b m)
def mont5 (a b m:Fp):L7:=montR m (montInv m.l0) a.l4 b (mont4 a b m)
def mont6 (a b m:Fp):L7:=montR m (montInv m.l0) a.l5 b (mont5 a b m)
def montF (a b m:Fp):Fp:=montE7 m (mont6 a b m)
def mulPF (a b:Fp):Fp:=montF (montF a b pLimbs) sqLimbs pLimbs
end Go.Proofs.YtcbplfkeeaecgaaGreat
namespace Go.Proofs.YtcbplfkeeaecgaaGreat
open Go.RowKit
def powPAt (a:Fp) (e:List UInt64):Nat->Fp->Fp
 | 0,x=>x
 | n+1,x=>powPAt a e n (match bitAt e n with | true=>mulPF (mulPF x x) a | false=>mulPF x x)
def powPF (a:Fp) (e:List UInt64):Fp:=powPAt a e (64*e.length) (ofF 1)
def pm2:List UInt64:=(rlessF pLimbs.list [2]).1
def invPF (a:Fp):Fp × Int:=match fpEq a zeroFp with | true=>(a,7) | false=>(powPF a pm2,0)
end Go.Proofs.YtcbplfkeeaecgaaGreat
namespace Go.Proofs.YtcbplfkeeaecgaaGreat
open Go.RowKit
section
def rLimbs:Fr:=⟨0xffffffff00000001,0x53bda402fffe5bfe,0x3339d80809a1d805,0x73eda753299d7d48⟩
def sq4Limbs:Fr:=⟨0xc999e990f3f29c6d,0x2b6cedcb87925c23,0x05d314967254398f,0x0748d9d99f59ff11⟩
def zeroFr:Fr:=⟨0,0,0,0⟩
def oneFr:Fr:=⟨1,0,0,0⟩
abbrev r4:Rs Fr:=(kRow Fr).rs
abbrev v4 (a:Fr):AV := .one ((kRow Fr).av a)
abbrev Kr1 (F:Fr->Fr):Contract:=K1 (kRow Fr).arg r4.res F
abbrev Kr2 (F:Fr->Fr->Fr):Contract:=K2 (kRow Fr).arg (kRow Fr).arg r4.res F
abbrev Krb (F:Fr->Bool):Contract:=K1 (kRow Fr).arg kBool.rs.res F
def Fr.list (a:Fr):List UInt64 := [a.l0,a.l1,a.l2,a.l3]
def frEq (a b:Fr):Bool:=a.l0==b.l0 && (a.l1==b.l1 && (a.l2==b.l2 && (a.l3==b.l3 && true)))
theorem frEq_iff (a b:Fr):frEq a b=true <-> a=b:=by
 cases a;cases b
 simp [frEq]
abbrev oS4 (ty:TypeId):Out Fr:=outSlR Fr ty 4 (fun _=>rfl)
abbrev iS4:Inp Fr:=inpSlR Fr 4 (fun _=>rfl)
abbrev aS4:Arg Fr:=argSlR Fr
abbrev rS4 (ty:TypeId):Res Fr:=resSlR Fr ty 4 (fun _=>rfl)
theorem refR_run:endT (En []) (oS4 22) 100 Tryz.f25 (flat (codeOf Tryz.f25)) (startSt Tryz.f25 [] []) = .leaf (some (rLimbs,.t)):=by kernel_rfl
theorem refR_ok:CallOk Tryz.prog 25 (K0 (rS4 22) rLimbs) :=
 G0 (E:=En []) Tryz.func25 (c:=codeOf Tryz.f25) (by kernel_rfl) (bodied Tryz.func25 (by kernel_rfl) (by kernel_rfl)) (oS4 22) rLimbs (DoesL.ends (En_ok .nil) 100 refR_run ⟨.t,rfl,trivial⟩)
theorem modulus4_ok:CallOk Tryz.prog 114 (K0 r4.res rLimbs):=P0 E0_ok Tryz.func114 (bodied Tryz.func114 (by kernel_rfl) (by kernel_rfl)) 100 r4 rLimbs (T := .leaf (some rLimbs)) (by kernel_rfl) rfl
theorem R4_run (m:Fr):endT (En [(114,K0 r4.res m)]) (oS4 24) 100 Tryz.f118 (flat (codeOf Tryz.f118)) (startSt Tryz.f118 [] []) = .leaf (some (m,.t)):=by kernel_rfl
theorem R4_ok:CallOk Tryz.prog 118 (K0 (rS4 24) rLimbs) :=
 G0 (E:=En [(114,K0 r4.res rLimbs)]) Tryz.func118 (c:=codeOf Tryz.f118) (by kernel_rfl) (bodied Tryz.func118 (by kernel_rfl) (by kernel_rfl)) (oS4 24) rLimbs (DoesL.ends (En_ok (.cons modulus4_ok .nil)) 100 (R4_run rLimbs) ⟨.t,rfl,trivial⟩)
def below4F (a m:Fr):Bool :=
 match a.l3 != m.l3 with
 | true=>decide (a.l3<m.l3)
 | false=>match a.l2 != m.l2 with
  | true=>decide (a.l2<m.l2)
  | false=>match a.l1 != m.l1 with
   | true=>decide (a.l1<m.l1)
   | false=>match a.l0 != m.l0 with
    | true=>decide (a.l0<m.l0)
    | false=>false
def below4T (a m:Fr):Tree (Option (Bool × Pr)) :=
 .br (a.l3 != m.l3) (lfB (decide (a.l3<m.l3))) (.br (a.l2 != m.l2) (lfB (decide (a.l2<m.l2))) (.br (a.l1 != m.l1) (lfB (decide (a.l1<m.l1))) (.br (a.l0 != m.l0) (lfB (decide (a.l0<m.l0))) (lfB false))))
theorem below4_run (a m:Fr):endT (En []) oB 100 Tryz.f24 (flat (codeOf Tryz.f24)) (startSt Tryz.f24 [iS4.av 0 a,iS4.av 1 m] (iS4.hes a++iS4.hes m))=below4T a m:=by kernel_rfl
theorem below4T_sat (a m:Fr):(below4T a m).sat fun q => ∃ p,q=some (below4F a m,p)/\p.holds:=by
 unfold below4F
 refine ⟨fun h => ?_,fun h => ?_⟩ <;> rw [h]
 ·exact ⟨.t,rfl,trivial⟩
 refine ⟨fun h => ?_,fun h => ?_⟩ <;> rw [h]
 ·exact ⟨.t,rfl,trivial⟩
 refine ⟨fun h => ?_,fun h => ?_⟩ <;> rw [h]
 ·exact ⟨.t,rfl,trivial⟩
 refine ⟨fun h => ?_,fun h => ?_⟩ <;> rw [h]
 ·exact ⟨.t,rfl,trivial⟩
 ·exact ⟨.t,rfl,trivial⟩
theorem below4_ok:CallOk Tryz.prog 24 (K2 aS4 aS4 oB.res below4F) :=
 G2 (E:=En []) Tryz.func24 (c:=codeOf Tryz.f24) (by kernel_rfl) (bodied Tryz.func24 (by kernel_rfl) (by kernel_rfl)) iS4 iS4 oB below4F fun a m _ _=>DoesL.ends (En_ok .nil) 100 (below4_run a m) (below4T_sat a m)
def mayRF (a:Fr):Bool:=below4F a rLimbs
theorem mayR_run (bF:Fr->Fr->Bool) (m a:Fr):plainRun (Ens [(24,K2 aS4 aS4 oB.res bF),(25,K0 (rS4 22) m)] [25]) kBool.rs 100 Tryz.f8 [v4 a] = .leaf (some (bF a m)):=by kernel_rfl
theorem mayR_ok:CallOk Tryz.prog 8 (Krb mayRF):=P1 (Ens_ok (.cons below4_ok (.cons refR_ok .nil))) Tryz.func8 (bodied Tryz.func8 (by kernel_rfl) (by kernel_rfl)) 100 (kRow Fr) kBool.rs mayRF (mayR_run below4F rLimbs) (fun _=>Tree.sat_leaf (by simp only [mayRF]))
def sub4T (a b:Fr):Fr × Bool :=
 let c0:=subB a.l0 b.l0 false
 let c1:=subB a.l1 b.l1 c0
 let c2:=subB a.l2 b.l2 c1
 (⟨subS a.l0 b.l0 false,subS a.l1 b.l1 c0,subS a.l2 b.l2 c1,subS a.l3 b.l3 c2⟩,subB a.l3 b.l3 c2)
def four (a:Fr):List UInt64 := [a.l0,a.l1,a.l2,a.l3]
structure L5 where
 t0:UInt64
 t1:UInt64
 t2:UInt64
 t3:UInt64
 t4:UInt64
def L5.low (t:L5):Fr:=⟨t.t0,t.t1,t.t2,t.t3⟩
def L5.cs (t:L5):List Cell := [.u64 t.t0,.u64 t.t1,.u64 t.t2,.u64 t.t3,.u64 t.t4]
def mont4B (m:Fr) (inv:UInt64) (t0 t1 t2 t3 top:UInt64) (more:Bool):L5 :=
 let x:=t0*inv
 let d0:=mulHi x m.l0+b2u (addC t0 (x*m.l0) false)
 let d1:=rmH x m.l1 t1 d0
 let d2:=rmH x m.l2 t2 d1
 let d3:=rmH x m.l3 t3 d2
 ⟨rmL x m.l1 t1 d0,rmL x m.l2 t2 d1,rmL x m.l3 t3 d2,addS top d3 false,b2u more+b2u (addC top d3 false)⟩
def mont4R (m:Fr) (inv:UInt64) (ai:UInt64) (b:Fr) (t:L5):L5 :=
 let c0:=rmH ai b.l0 t.t0 0
 let c1:=rmH ai b.l1 t.t1 c0
 let c2:=rmH ai b.l2 t.t2 c1
 let c3:=rmH ai b.l3 t.t3 c2
 mont4B m inv (rmL ai b.l0 t.t0 0) (rmL ai b.l1 t.t1 c0) (rmL ai b.l2 t.t2 c1) (rmL ai b.l3 t.t3 c2) (addS t.t4 c3 false) (addC t.t4 c3 false)
set_option maxRecDepth 100000
def mont4X (m:Fr) (t:L5):Fr:=match t.t4 != 0 with
 | true=>(sub4T t.low m).1
 | false=>match !(below4F t.low m) with
  | true=>(sub4T t.low m).1
  | false=>t.low
def mont4_1 (a b m:Fr):L5:=mont4R m (montInv m.l0) a.l0 b ⟨0,0,0,0,0⟩
def mont4_2 (a b m:Fr):L5:=mont4R m (montInv m.l0) a.l1 b (mont4_1 a b m)
def mont4_3 (a b m:Fr):L5:=mont4R m (montInv m.l0) a.l2 b (mont4_2 a b m)
def mont4_4 (a b m:Fr):L5:=mont4R m (montInv m.l0) a.l3 b (mont4_3 a b m)
def mont4F (a b m:Fr):Fr:=mont4X m (mont4_4 a b m)
def mulRF (a b:Fr):Fr:=mont4F (mont4F a b rLimbs) sq4Limbs rLimbs
end
section
def zeroFp2:Fp2:=⟨zeroFp,zeroFp⟩
def oneFp2:Fp2:=⟨oneFp,zeroFp⟩
def xiFp2:Fp2:=⟨oneFp,oneFp⟩
abbrev rF2:Rs Fp2:=(kRow Fp2).rs
abbrev vF2 (a:Fp2):AV := .one ((kRow Fp2).av a)
abbrev Kp1 (F:Fp2->Fp2):Contract:=K1 (kRow Fp2).arg rF2.res F
abbrev Kp2 (F:Fp2->Fp2->Fp2):Contract:=K2 (kRow Fp2).arg (kRow Fp2).arg rF2.res F
def fp2Eq (a b:Fp2):Bool:=fpEq a.c0 b.c0 && (fpEq a.c1 b.c1 && true)
theorem fp2Eq_iff (a b:Fp2):fp2Eq a b=true <-> a=b:=by
 unfold fp2Eq
 rw [Bool.and_true,Bool.and_eq_true,fpEq_iff,fpEq_iff]
 cases a;cases b
 simp
def zeroFp6:Fp6:=⟨zeroFp2,zeroFp2,zeroFp2⟩
def oneFp6:Fp6:=⟨oneFp2,zeroFp2,zeroFp2⟩
structure Fp12 where
 c0:Fp6
 c1:Fp6
def Fp12.rd (xs:List Cell):Option Fp12:=match (Row.rd (xs.take 36):Option Fp6),(Row.rd (xs.drop 36):Option Fp6) with
 | some a,some b=>some ⟨a,b⟩
 | _,_=>none
instance : Row Fp12 where
 rd:=Fp12.rd
 cs:=fun x=>Row.cs x.c0++Row.cs x.c1
 rd_ok:=fun {xs x} h β=>by
  unfold Fp12.rd at h
  split at h
  ·rename_i a b h1 h2
   cases h
   exact two_rows 36 h1 h2 β
  ·cases h
 cs_ok:=fun x β=>by rw [List.map_append,List.map_append,Row.cs_ok x.c0,Row.cs_ok x.c1]
 cs_id:=fun x c hc=>by
  rcases List.mem_append.1 hc with h | h
  ·exact Row.cs_id _ c h
  ·exact Row.cs_id _ c h
def zeroFp12:Fp12:=⟨zeroFp6,zeroFp6⟩
def oneFp12:Fp12:=⟨oneFp6,zeroFp6⟩
def fp6Eq (a b:Fp6):Bool:=fp2Eq a.c0 b.c0 && (fp2Eq a.c1 b.c1 && (fp2Eq a.c2 b.c2 && true))
theorem fp6Eq_iff (a b:Fp6):fp6Eq a b=true <-> a=b:=by
 unfold fp6Eq
 rw [Bool.and_true,Bool.and_eq_true,Bool.and_eq_true,fp2Eq_iff,fp2Eq_iff,fp2Eq_iff]
 cases a;cases b
 simp
def fp12Eq (a b:Fp12):Bool:=fp6Eq a.c0 b.c0 && (fp6Eq a.c1 b.c1 && true)
theorem fp12Eq_iff (a b:Fp12):fp12Eq a b=true <-> a=b:=by
 unfold fp12Eq
 rw [Bool.and_true,Bool.and_eq_true,fp6Eq_iff,fp6Eq_iff]
 cases a;cases b
 simp
end
section
def infG1:Pg1:=⟨zeroFp,zeroFp,true⟩
def pg1Eq (a b:Pg1):Bool:=fpEq a.x b.x && (fpEq a.y b.y && ((a.inf==b.inf) && true))
theorem pg1Eq_iff (a b:Pg1):pg1Eq a b=true <-> a=b:=by
 unfold pg1Eq
 rw [Bool.and_true,Bool.and_eq_true,Bool.and_eq_true,fpEq_iff,fpEq_iff,beq_iff_eq]
 cases a;cases b
 simp
def infG2:Pg2:=⟨zeroFp2,zeroFp2,true⟩
def pg2Eq (a b:Pg2):Bool:=fp2Eq a.x b.x && (fp2Eq a.y b.y && ((a.inf==b.inf) && true))
theorem pg2Eq_iff (a b:Pg2):pg2Eq a b=true <-> a=b:=by
 unfold pg2Eq
 rw [Bool.and_true,Bool.and_eq_true,Bool.and_eq_true,fp2Eq_iff,fp2Eq_iff,beq_iff_eq]
 cases a;cases b
 simp
def zeroSp:Sp1:=⟨zeroFp,zeroFp,zeroFp⟩
abbrev kg1:Kd Pg1:=kRow Pg1
abbrev kg2:Kd Pg2:=kRow Pg2
end
section
def mayF2_G (f0:Fp->Bool) (a:Fp2):Bool:=(match (f0 a.c0) with | true=>((f0 a.c1)) | false=>((false)))
def mayF2_T (f0:Fp->Bool) (a:Fp2):Tree (Option (Bool)) :=
 (.br (f0 a.c0)
  (.leaf (some ((f0 a.c1))))
  (.leaf (some ((false)))))
theorem mayF2_run (f0:Fp->Bool) (a:Fp2):plainRun (En [(147,Kfb f0)]) kBool.rs 300 Tryz.f166 [.one ((kRow Fp2).av a)]=mayF2_T f0 a:=by kernel_rfl
theorem mayF2_sat (f0:Fp->Bool) (a:Fp2):(mayF2_T f0 a).sat fun q=>q=some (mayF2_G f0 a):=⟨fun h0=>(show some _=some _ from congrArg some (by unfold mayF2_G;rw [h0])),fun h0=>(show some _=some _ from congrArg some (by unfold mayF2_G;rw [h0]))⟩
def mayF2 (a:Fp2):Bool:=mayF2_G mayF a
theorem mayF2_ok:CallOk Tryz.prog 166 (K1 (kRow Fp2).arg kBool.rs.res mayF2) :=
 P1 (En_ok (.cons may_ok .nil)) Tryz.func166 (bodied Tryz.func166 (by kernel_rfl) (by kernel_rfl)) 300 (kRow Fp2) kBool.rs mayF2 (mayF2_run mayF) (mayF2_sat mayF)
def addF2_G (f0:Fp->Fp->Fp) (a:Fp2) (b:Fp2):Fp2:=({ c0:=f0 a.c0 b.c0,c1:=f0 a.c1 b.c1 })
def addF2_T (f0:Fp->Fp->Fp) (a:Fp2) (b:Fp2):Tree (Option (Fp2)) :=
 (.leaf (some ({ c0:=f0 a.c0 b.c0,c1:=f0 a.c1 b.c1 })))
theorem addF2_run (f0:Fp->Fp->Fp) (a:Fp2) (b:Fp2):plainRun (En [(90,Kff f0)]) (kRow Fp2).rs 300 Tryz.f94 [.one ((kRow Fp2).av a),.one ((kRow Fp2).av b)]=addF2_T f0 a b:=by kernel_rfl
theorem addF2_sat (f0:Fp->Fp->Fp) (a:Fp2) (b:Fp2):(addF2_T f0 a b).sat fun q=>q=some (addF2_G f0 a b):=(show some _=some _ from rfl)
def addF2 (a:Fp2) (b:Fp2):Fp2:=addF2_G addF a b
theorem addF2_ok:CallOk Tryz.prog 94 (K2 (kRow Fp2).arg (kRow Fp2).arg (kRow Fp2).rs.res addF2) :=
 P2 (En_ok (.cons add_ok .nil)) Tryz.func94 (bodied Tryz.func94 (by kernel_rfl) (by kernel_rfl)) 300 (kRow Fp2) (kRow Fp2) (kRow Fp2).rs addF2 (addF2_run addF) (addF2_sat addF)
def subF2_G (f0:Fp->Fp->Fp) (a:Fp2) (b:Fp2):Fp2:=({ c0:=f0 a.c0 b.c0,c1:=f0 a.c1 b.c1 })
def subF2_T (f0:Fp->Fp->Fp) (a:Fp2) (b:Fp2):Tree (Option (Fp2)) :=
 (.leaf (some ({ c0:=f0 a.c0 b.c0,c1:=f0 a.c1 b.c1 })))
theorem subF2_run (f0:Fp->Fp->Fp) (a:Fp2) (b:Fp2):plainRun (En [(131,Kff f0)]) (kRow Fp2).rs 300 Tryz.f163 [.one ((kRow Fp2).av a),.one ((kRow Fp2).av b)]=subF2_T f0 a b:=by kernel_rfl
theorem subF2_sat (f0:Fp->Fp->Fp) (a:Fp2) (b:Fp2):(subF2_T f0 a b).sat fun q=>q=some (subF2_G f0 a b):=(show some _=some _ from rfl)
def subF2 (a:Fp2) (b:Fp2):Fp2:=subF2_G subF a b
theorem subF2_ok:CallOk Tryz.prog 163 (K2 (kRow Fp2).arg (kRow Fp2).arg (kRow Fp2).rs.res subF2) :=
 P2 (En_ok (.cons sub_ok .nil)) Tryz.func163 (bodied Tryz.func163 (by kernel_rfl) (by kernel_rfl)) 300 (kRow Fp2) (kRow Fp2) (kRow Fp2).rs subF2 (subF2_run subF) (subF2_sat subF)
def negF2_G (f0:Fp->Fp) (a:Fp2):Fp2:=({ c0:=f0 a.c0,c1:=f0 a.c1 })
def negF2_T (f0:Fp->Fp) (a:Fp2):Tree (Option (Fp2)) :=
 (.leaf (some ({ c0:=f0 a.c0,c1:=f0 a.c1 })))
theorem negF2_run (f0:Fp->Fp) (a:Fp2):plainRun (En [(68,Kf f0)]) (kRow Fp2).rs 300 Tryz.f156 [.one ((kRow Fp2).av a)]=negF2_T f0 a:=by kernel_rfl
theorem negF2_sat (f0:Fp->Fp) (a:Fp2):(negF2_T f0 a).sat fun q=>q=some (negF2_G f0 a):=(show some _=some _ from rfl)
def negF2 (a:Fp2):Fp2:=negF2_G negF a
theorem negF2_ok:CallOk Tryz.prog 156 (K1 (kRow Fp2).arg (kRow Fp2).rs.res negF2) :=
 P1 (En_ok (.cons neg_ok .nil)) Tryz.func156 (bodied Tryz.func156 (by kernel_rfl) (by kernel_rfl)) 300 (kRow Fp2) (kRow Fp2).rs negF2 (negF2_run negF) (negF2_sat negF)
def halfF2_G (f0:Fp->Fp->Fp) (f1:Fp->Fp->Fp) (f2:Fp->Fp->Fp) (a:Fp2) (b:Fp2):Fp2:=({ c0:=f2 (f0 a.c0 b.c0) (f0 a.c1 b.c1),c1:=f2 (f0 (f1 a.c0 a.c1) (f1 b.c0 b.c1)) (f1 (f0 a.c0 b.c0) (f0 a.c1 b.c1)) })
def halfF2_T (f0:Fp->Fp->Fp) (f1:Fp->Fp->Fp) (f2:Fp->Fp->Fp) (a:Fp2) (b:Fp2):Tree (Option (Fp2)) :=
 (.leaf (some ({ c0:=f2 (f0 a.c0 b.c0) (f0 a.c1 b.c1),c1:=f2 (f0 (f1 a.c0 a.c1) (f1 b.c0 b.c1)) (f1 (f0 a.c0 b.c0) (f0 a.c1 b.c1)) })))
theorem halfF2_run (f0:Fp->Fp->Fp) (f1:Fp->Fp->Fp) (f2:Fp->Fp->Fp) (a:Fp2) (b:Fp2):plainRun (En [(152,Kff f0),(90,Kff f1),(131,Kff f2)]) (kRow Fp2).rs 300 Tryz.f157 [.one ((kRow Fp2).av a),.one ((kRow Fp2).av b)]=halfF2_T f0 f1 f2 a b:=by kernel_rfl
theorem halfF2_sat (f0:Fp->Fp->Fp) (f1:Fp->Fp->Fp) (f2:Fp->Fp->Fp) (a:Fp2) (b:Fp2):(halfF2_T f0 f1 f2 a b).sat fun q=>q=some (halfF2_G f0 f1 f2 a b):=(show some _=some _ from rfl)
def halfF2 (a:Fp2) (b:Fp2):Fp2:=halfF2_G halfF addF subF a b
theorem halfF2_ok:CallOk Tryz.prog 157 (K2 (kRow Fp2).arg (kRow Fp2).arg (kRow Fp2).rs.res halfF2) :=
 P2 (En_ok (.cons half_ok (.cons add_ok (.cons sub_ok .nil)))) Tryz.func157 (bodied Tryz.func157 (by kernel_rfl) (by kernel_rfl)) 300 (kRow Fp2) (kRow Fp2) (kRow Fp2).rs halfF2 (halfF2_run halfF addF subF) (halfF2_sat halfF addF subF)
def wholeF2_G (f0:Fp->Fp) (a:Fp2):Fp2:=({ c0:=f0 a.c0,c1:=f0 a.c1 })
def wholeF2_T (f0:Fp->Fp) (a:Fp2):Tree (Option (Fp2)) :=
 (.leaf (some ({ c0:=f0 a.c0,c1:=f0 a.c1 })))
theorem wholeF2_run (f0:Fp->Fp) (a:Fp2):plainRun (En [(112,Kf f0)]) (kRow Fp2).rs 300 Tryz.f107 [.one ((kRow Fp2).av a)]=wholeF2_T f0 a:=by kernel_rfl
theorem wholeF2_sat (f0:Fp->Fp) (a:Fp2):(wholeF2_T f0 a).sat fun q=>q=some (wholeF2_G f0 a):=(show some _=some _ from rfl)
def wholeF2 (a:Fp2):Fp2:=wholeF2_G wholeF a
theorem wholeF2_ok:CallOk Tryz.prog 107 (K1 (kRow Fp2).arg (kRow Fp2).rs.res wholeF2) :=
 P1 (En_ok (.cons whole_ok .nil)) Tryz.func107 (bodied Tryz.func107 (by kernel_rfl) (by kernel_rfl)) 300 (kRow Fp2) (kRow Fp2).rs wholeF2 (wholeF2_run wholeF) (wholeF2_sat wholeF)
def lowF2_G (f0:Fp->Fp) (a:Fp2):Fp2:=({ c0:=f0 a.c0,c1:=f0 a.c1 })
def lowF2_T (f0:Fp->Fp) (a:Fp2):Tree (Option (Fp2)) :=
 (.leaf (some ({ c0:=f0 a.c0,c1:=f0 a.c1 })))
theorem lowF2_run (f0:Fp->Fp) (a:Fp2):plainRun (En [(109,Kf f0)]) (kRow Fp2).rs 300 Tryz.f104 [.one ((kRow Fp2).av a)]=lowF2_T f0 a:=by kernel_rfl
theorem lowF2_sat (f0:Fp->Fp) (a:Fp2):(lowF2_T f0 a).sat fun q=>q=some (lowF2_G f0 a):=(show some _=some _ from rfl)
def lowF2 (a:Fp2):Fp2:=lowF2_G lowF a
theorem lowF2_ok:CallOk Tryz.prog 104 (K1 (kRow Fp2).arg (kRow Fp2).rs.res lowF2) :=
 P1 (En_ok (.cons low_ok .nil)) Tryz.func104 (bodied Tryz.func104 (by kernel_rfl) (by kernel_rfl)) 300 (kRow Fp2) (kRow Fp2).rs lowF2 (lowF2_run lowF) (lowF2_sat lowF)
def mulF2_G (f0:Fp2->Fp2->Fp2) (f1:Fp2->Fp2) (a:Fp2) (b:Fp2):Fp2:=(f1 (f0 a b))
def mulF2_T (f0:Fp2->Fp2->Fp2) (f1:Fp2->Fp2) (a:Fp2) (b:Fp2):Tree (Option (Fp2)) :=
 (.leaf (some (f1 (f0 a b))))
theorem mulF2_run (f0:Fp2->Fp2->Fp2) (f1:Fp2->Fp2) (a:Fp2) (b:Fp2):plainRun (En [(157,K2 (kRow Fp2).arg (kRow Fp2).arg (kRow Fp2).rs.res f0),(107,K1 (kRow Fp2).arg (kRow Fp2).rs.res f1)]) (kRow Fp2).rs 300 Tryz.f95 [.one ((kRow Fp2).av a),.one ((kRow Fp2).av b)]=mulF2_T f0 f1 a b:=by kernel_rfl
theorem mulF2_sat (f0:Fp2->Fp2->Fp2) (f1:Fp2->Fp2) (a:Fp2) (b:Fp2):(mulF2_T f0 f1 a b).sat fun q=>q=some (mulF2_G f0 f1 a b):=(show some _=some _ from rfl)
def mulF2 (a:Fp2) (b:Fp2):Fp2:=mulF2_G halfF2 wholeF2 a b
theorem mulF2_ok:CallOk Tryz.prog 95 (K2 (kRow Fp2).arg (kRow Fp2).arg (kRow Fp2).rs.res mulF2) :=
 P2 (En_ok (.cons halfF2_ok (.cons wholeF2_ok .nil))) Tryz.func95 (bodied Tryz.func95 (by kernel_rfl) (by kernel_rfl)) 300 (kRow Fp2) (kRow Fp2) (kRow Fp2).rs mulF2 (mulF2_run halfF2 wholeF2) (mulF2_sat halfF2 wholeF2)
def conjF2_G (f0:Fp->Fp) (a:Fp2):Fp2:=({ c0:=a.c0,c1:=f0 a.c1 })
def conjF2_T (f0:Fp->Fp) (a:Fp2):Tree (Option (Fp2)) :=
 (.leaf (some ({ c0:=a.c0,c1:=f0 a.c1 })))
theorem conjF2_run (f0:Fp->Fp) (a:Fp2):plainRun (En [(68,Kf f0)]) (kRow Fp2).rs 300 Tryz.f162 [.one ((kRow Fp2).av a)]=conjF2_T f0 a:=by kernel_rfl
theorem conjF2_sat (f0:Fp->Fp) (a:Fp2):(conjF2_T f0 a).sat fun q=>q=some (conjF2_G f0 a):=(show some _=some _ from rfl)
def conjF2 (a:Fp2):Fp2:=conjF2_G negF a
theorem conjF2_ok:CallOk Tryz.prog 162 (K1 (kRow Fp2).arg (kRow Fp2).rs.res conjF2) :=
 P1 (En_ok (.cons neg_ok .nil)) Tryz.func162 (bodied Tryz.func162 (by kernel_rfl) (by kernel_rfl)) 300 (kRow Fp2) (kRow Fp2).rs conjF2 (conjF2_run negF) (conjF2_sat negF)
def upF2_G (f0:Fp->Fp->Fp) (f1:Fp->Fp->Fp) (a:Fp2):Fp2:=({ c0:=f1 a.c0 a.c1,c1:=f0 a.c0 a.c1 })
def upF2_T (f0:Fp->Fp->Fp) (f1:Fp->Fp->Fp) (a:Fp2):Tree (Option (Fp2)) :=
 (.leaf (some ({ c0:=f1 a.c0 a.c1,c1:=f0 a.c0 a.c1 })))
theorem upF2_run (f0:Fp->Fp->Fp) (f1:Fp->Fp->Fp) (a:Fp2):plainRun (En [(90,Kff f0),(131,Kff f1)]) (kRow Fp2).rs 300 Tryz.f187 [.one ((kRow Fp2).av a)]=upF2_T f0 f1 a:=by kernel_rfl
theorem upF2_sat (f0:Fp->Fp->Fp) (f1:Fp->Fp->Fp) (a:Fp2):(upF2_T f0 f1 a).sat fun q=>q=some (upF2_G f0 f1 a):=(show some _=some _ from rfl)
def upF2 (a:Fp2):Fp2:=upF2_G addF subF a
theorem upF2_ok:CallOk Tryz.prog 187 (K1 (kRow Fp2).arg (kRow Fp2).rs.res upF2) :=
 P1 (En_ok (.cons add_ok (.cons sub_ok .nil))) Tryz.func187 (bodied Tryz.func187 (by kernel_rfl) (by kernel_rfl)) 300 (kRow Fp2) (kRow Fp2).rs upF2 (upF2_run addF subF) (upF2_sat addF subF)
def normF2_G (f0:Fp->Fp->Fp) (f1:Fp->Fp->Fp) (a:Fp2):Fp:=(f0 (f1 a.c0 a.c0) (f1 a.c1 a.c1))
def normF2_T (f0:Fp->Fp->Fp) (f1:Fp->Fp->Fp) (a:Fp2):Tree (Option (Fp)) :=
 (.leaf (some (f0 (f1 a.c0 a.c0) (f1 a.c1 a.c1))))
theorem normF2_run (f0:Fp->Fp->Fp) (f1:Fp->Fp->Fp) (a:Fp2):plainRun (En [(90,Kff f0),(91,Kff f1)]) (kRow Fp).rs 300 Tryz.f154 [.one ((kRow Fp2).av a)]=normF2_T f0 f1 a:=by kernel_rfl
theorem normF2_sat (f0:Fp->Fp->Fp) (f1:Fp->Fp->Fp) (a:Fp2):(normF2_T f0 f1 a).sat fun q=>q=some (normF2_G f0 f1 a):=(show some _=some _ from rfl)
def normF2 (a:Fp2):Fp:=normF2_G addF mulF a
theorem normF2_ok:CallOk Tryz.prog 154 (K1 (kRow Fp2).arg (kRow Fp).rs.res normF2) :=
 P1 (En_ok (.cons add_ok (.cons mul_ok .nil))) Tryz.func154 (bodied Tryz.func154 (by kernel_rfl) (by kernel_rfl)) 300 (kRow Fp2) (kRow Fp).rs normF2 (normF2_run addF mulF) (normF2_sat addF mulF)
def scaledF2_G (f0:Fp->Fp->Fp) (a:Fp2) (k:Fp):Fp2:=({ c0:=f0 a.c0 k,c1:=f0 a.c1 k })
def scaledF2_T (f0:Fp->Fp->Fp) (a:Fp2) (k:Fp):Tree (Option (Fp2)) :=
 (.leaf (some ({ c0:=f0 a.c0 k,c1:=f0 a.c1 k })))
theorem scaledF2_run (f0:Fp->Fp->Fp) (a:Fp2) (k:Fp):plainRun (En [(91,Kff f0)]) (kRow Fp2).rs 300 Tryz.f161 [.one ((kRow Fp2).av a),.one ((kRow Fp).av k)]=scaledF2_T f0 a k:=by kernel_rfl
theorem scaledF2_sat (f0:Fp->Fp->Fp) (a:Fp2) (k:Fp):(scaledF2_T f0 a k).sat fun q=>q=some (scaledF2_G f0 a k):=(show some _=some _ from rfl)
def scaledF2 (a:Fp2) (k:Fp):Fp2:=scaledF2_G mulF a k
theorem scaledF2_ok:CallOk Tryz.prog 161 (K2 (kRow Fp2).arg (kRow Fp).arg (kRow Fp2).rs.res scaledF2) :=
 P2 (En_ok (.cons mul_ok .nil)) Tryz.func161 (bodied Tryz.func161 (by kernel_rfl) (by kernel_rfl)) 300 (kRow Fp2) (kRow Fp) (kRow Fp2).rs scaledF2 (scaledF2_run mulF) (scaledF2_sat mulF)
def invF2_G (f0:Fp->Fp × Int) (f1:Fp2->Fp) (f2:Fp2->Fp->Fp2) (f3:Fp2->Fp2) (a:Fp2):Fp2 × Int:=(match ((f0 (f1 a)).snd != 0) with | true=>((zeroFp2,(f0 (f1 a)).snd)) | false=>((f2 (f3 a) (f0 (f1 a)).fst,0)))
def invF2_T (f0:Fp->Fp × Int) (f1:Fp2->Fp) (f2:Fp2->Fp->Fp2) (f3:Fp2->Fp2) (a:Fp2):Tree (Option (Fp2 × Int)) :=
 (.br ((f0 (f1 a)).snd != 0)
  (.leaf (some ((zeroFp2,(f0 (f1 a)).snd))))
  (.leaf (some ((f2 (f3 a) (f0 (f1 a)).fst,0)))))
theorem invF2_run (f0:Fp->Fp × Int) (f1:Fp2->Fp) (f2:Fp2->Fp->Fp2) (f3:Fp2->Fp2) (a:Fp2):plainRun (En [(108,Kinv f0),(154,K1 (kRow Fp2).arg (kRow Fp).rs.res f1),(161,K2 (kRow Fp2).arg (kRow Fp).arg (kRow Fp2).rs.res f2),(162,K1 (kRow Fp2).arg (kRow Fp2).rs.res f3)]) ((kRow Fp2).rs2 kInt) 300 Tryz.f103 [.one ((kRow Fp2).av a)]=invF2_T f0 f1 f2 f3 a:=by kernel_rfl
theorem invF2_sat (f0:Fp->Fp × Int) (f1:Fp2->Fp) (f2:Fp2->Fp->Fp2) (f3:Fp2->Fp2) (a:Fp2):(invF2_T f0 f1 f2 f3 a).sat fun q=>q=some (invF2_G f0 f1 f2 f3 a):=⟨fun h0=>(show some _=some _ from congrArg some (by unfold invF2_G;rw [h0])),fun h0=>(show some _=some _ from congrArg some (by unfold invF2_G;rw [h0]))⟩
def invF2 (a:Fp2):Fp2 × Int:=invF2_G invF normF2 scaledF2 conjF2 a
theorem invF2_ok:CallOk Tryz.prog 103 (K1 (kRow Fp2).arg ((kRow Fp2).rs2 kInt).res invF2) :=
 P1 (En_ok (.cons inv_ok (.cons normF2_ok (.cons scaledF2_ok (.cons conjF2_ok .nil))))) Tryz.func103 (bodied Tryz.func103 (by kernel_rfl) (by kernel_rfl)) 300 (kRow Fp2) ((kRow Fp2).rs2 kInt) invF2 (invF2_run invF normF2 scaledF2 conjF2) (invF2_sat invF normF2 scaledF2 conjF2)
end
section
def add2R_G (f0:Fp->Fp->Fp) (a:Fp2) (b:Fp2):Fp2:=({ c0:=f0 a.c0 b.c0,c1:=f0 a.c1 b.c1 })
def add2R (a:Fp2) (b:Fp2):Fp2:=add2R_G addPF a b
def sub2R_G (f0:Fp->Fp->Fp) (a:Fp2) (b:Fp2):Fp2:=({ c0:=f0 a.c0 b.c0,c1:=f0 a.c1 b.c1 })
def sub2R (a:Fp2) (b:Fp2):Fp2:=sub2R_G subPF a b
def mul2R_G (f0:Fp->Fp->Fp) (f1:Fp->Fp->Fp) (f2:Fp->Fp->Fp) (a:Fp2) (b:Fp2):Fp2:=({ c0:=f0 (f1 a.c0 b.c0) (f1 a.c1 b.c1),c1:=f2 (f1 a.c0 b.c1) (f1 a.c1 b.c0) })
def mul2R (a:Fp2) (b:Fp2):Fp2:=mul2R_G subPF mulPF addPF a b
def conj2R_G (f0:Fp->Fp) (a:Fp2):Fp2:=({ c0:=a.c0,c1:=f0 a.c1 })
def conj2R (a:Fp2):Fp2:=conj2R_G negPF a
def one2R_G (f0:UInt64->Fp):Fp2:=({ c0:=f0 (1:UInt64),c1:=zeroFp })
def one2R  : Fp2:=one2R_G ofF
def xi2R_G (f0:UInt64->Fp):Fp2:=({ c0:=f0 (1:UInt64),c1:=f0 (1:UInt64) })
def xi2R  : Fp2:=xi2R_G ofF
def inv2R_G (f0:Fp2->Fp2->Fp2) (f1:Fp2->Fp2) (f2:Fp->Fp × Int) (a:Fp2):Fp2 × Int:=(match ((f2 (f0 a (f1 a)).c0).snd != 0) with | true=>((zeroFp2,(f2 (f0 a (f1 a)).c0).snd)) | false=>((f0 (f1 a) { c0:=(f2 (f0 a (f1 a)).c0).fst,c1:=zeroFp },0)))
def inv2R (a:Fp2):Fp2 × Int:=inv2R_G mul2R conj2R invPF a
end
section
def with6a_G (f0:Fp2->Fp2->Fp2) (a:Fp6) (b:Fp6) (f:Unit):Fp6:=({ c0:=f0 a.c0 b.c0,c1:=f0 a.c1 b.c1,c2:=f0 a.c2 b.c2 })
def with6a_T (f0:Fp2->Fp2->Fp2) (a:Fp6) (b:Fp6) (f:Unit):Tree (Option (Fp6)) :=
 (.leaf (some ({ c0:=f0 a.c0 b.c0,c1:=f0 a.c1 b.c1,c2:=f0 a.c2 b.c2 })))
theorem with6a_run (f0:Fp2->Fp2->Fp2) (a:Fp6) (b:Fp6) (f:Unit):plainRun (En [(94,K2 (kRow Fp2).arg (kRow Fp2).arg (kRow Fp2).rs.res f0)]) (kRow Fp6).rs 300 Tryz.f186 [.one ((kRow Fp6).av a),.one ((kRow Fp6).av b),.one ((kFn 94).av f)]=with6a_T f0 a b f:=by kernel_rfl
theorem with6a_sat (f0:Fp2->Fp2->Fp2) (a:Fp6) (b:Fp6) (f:Unit):(with6a_T f0 a b f).sat fun q=>q=some (with6a_G f0 a b f):=(show some _=some _ from rfl)
def with6a (a:Fp6) (b:Fp6) (f:Unit):Fp6:=with6a_G addF2 a b f
theorem with6a_ok:CallOk Tryz.prog 186 (K3 (kRow Fp6).arg (kRow Fp6).arg (kFn 94).arg (kRow Fp6).rs.res with6a) :=
 P3 (En_ok (.cons addF2_ok .nil)) Tryz.func186 (bodied Tryz.func186 (by kernel_rfl) (by kernel_rfl)) 300 (kRow Fp6) (kRow Fp6) (kFn 94) (kRow Fp6).rs with6a (with6a_run addF2) (with6a_sat addF2)
def with6s_G (f0:Fp2->Fp2->Fp2) (a:Fp6) (b:Fp6) (f:Unit):Fp6:=({ c0:=f0 a.c0 b.c0,c1:=f0 a.c1 b.c1,c2:=f0 a.c2 b.c2 })
def with6s_T (f0:Fp2->Fp2->Fp2) (a:Fp6) (b:Fp6) (f:Unit):Tree (Option (Fp6)) :=
 (.leaf (some ({ c0:=f0 a.c0 b.c0,c1:=f0 a.c1 b.c1,c2:=f0 a.c2 b.c2 })))
theorem with6s_run (f0:Fp2->Fp2->Fp2) (a:Fp6) (b:Fp6) (f:Unit):plainRun (En [(163,K2 (kRow Fp2).arg (kRow Fp2).arg (kRow Fp2).rs.res f0)]) (kRow Fp6).rs 300 Tryz.f186 [.one ((kRow Fp6).av a),.one ((kRow Fp6).av b),.one ((kFn 163).av f)]=with6s_T f0 a b f:=by kernel_rfl
theorem with6s_sat (f0:Fp2->Fp2->Fp2) (a:Fp6) (b:Fp6) (f:Unit):(with6s_T f0 a b f).sat fun q=>q=some (with6s_G f0 a b f):=(show some _=some _ from rfl)
def with6s (a:Fp6) (b:Fp6) (f:Unit):Fp6:=with6s_G subF2 a b f
theorem with6s_ok:CallOk Tryz.prog 186 (K3 (kRow Fp6).arg (kRow Fp6).arg (kFn 163).arg (kRow Fp6).rs.res with6s) :=
 P3 (En_ok (.cons subF2_ok .nil)) Tryz.func186 (bodied Tryz.func186 (by kernel_rfl) (by kernel_rfl)) 300 (kRow Fp6) (kRow Fp6) (kFn 163) (kRow Fp6).rs with6s (with6s_run subF2) (with6s_sat subF2)
def addF6_G (f0:Fp6->Fp6->Unit->Fp6) (a:Fp6) (b:Fp6):Fp6:=(f0 a b ())
def addF6_T (f0:Fp6->Fp6->Unit->Fp6) (a:Fp6) (b:Fp6):Tree (Option (Fp6)) :=
 (.leaf (some (f0 a b ())))
theorem addF6_run (f0:Fp6->Fp6->Unit->Fp6) (a:Fp6) (b:Fp6):plainRun (En [(186,K3 (kRow Fp6).arg (kRow Fp6).arg (kFn 94).arg (kRow Fp6).rs.res f0)]) (kRow Fp6).rs 300 Tryz.f174 [.one ((kRow Fp6).av a),.one ((kRow Fp6).av b)]=addF6_T f0 a b:=by kernel_rfl
theorem addF6_sat (f0:Fp6->Fp6->Unit->Fp6) (a:Fp6) (b:Fp6):(addF6_T f0 a b).sat fun q=>q=some (addF6_G f0 a b):=(show some _=some _ from rfl)
def addF6 (a:Fp6) (b:Fp6):Fp6:=addF6_G with6a a b
theorem addF6_ok:CallOk Tryz.prog 174 (K2 (kRow Fp6).arg (kRow Fp6).arg (kRow Fp6).rs.res addF6) :=
 P2 (En_ok (.cons with6a_ok .nil)) Tryz.func174 (bodied Tryz.func174 (by kernel_rfl) (by kernel_rfl)) 300 (kRow Fp6) (kRow Fp6) (kRow Fp6).rs addF6 (addF6_run with6a) (addF6_sat with6a)
def subF6_G (f0:Fp6->Fp6->Unit->Fp6) (a:Fp6) (b:Fp6):Fp6:=(f0 a b ())
def subF6_T (f0:Fp6->Fp6->Unit->Fp6) (a:Fp6) (b:Fp6):Tree (Option (Fp6)) :=
 (.leaf (some (f0 a b ())))
theorem subF6_run (f0:Fp6->Fp6->Unit->Fp6) (a:Fp6) (b:Fp6):plainRun (En [(186,K3 (kRow Fp6).arg (kRow Fp6).arg (kFn 163).arg (kRow Fp6).rs.res f0)]) (kRow Fp6).rs 300 Tryz.f168 [.one ((kRow Fp6).av a),.one ((kRow Fp6).av b)]=subF6_T f0 a b:=by kernel_rfl
theorem subF6_sat (f0:Fp6->Fp6->Unit->Fp6) (a:Fp6) (b:Fp6):(subF6_T f0 a b).sat fun q=>q=some (subF6_G f0 a b):=(show some _=some _ from rfl)
def subF6 (a:Fp6) (b:Fp6):Fp6:=subF6_G with6s a b
theorem subF6_ok:CallOk Tryz.prog 168 (K2 (kRow Fp6).arg (kRow Fp6).arg (kRow Fp6).rs.res subF6) :=
 P2 (En_ok (.cons with6s_ok .nil)) Tryz.func168 (bodied Tryz.func168 (by kernel_rfl) (by kernel_rfl)) 300 (kRow Fp6) (kRow Fp6) (kRow Fp6).rs subF6 (subF6_run with6s) (subF6_sat with6s)
def negF6_G (f0:Fp6->Fp6->Fp6) (a:Fp6):Fp6:=(f0 zeroFp6 a)
def negF6_T (f0:Fp6->Fp6->Fp6) (a:Fp6):Tree (Option (Fp6)) :=
 (.leaf (some (f0 zeroFp6 a)))
theorem negF6_run (f0:Fp6->Fp6->Fp6) (a:Fp6):plainRun (En [(168,K2 (kRow Fp6).arg (kRow Fp6).arg (kRow Fp6).rs.res f0)]) (kRow Fp6).rs 300 Tryz.f172 [.one ((kRow Fp6).av a)]=negF6_T f0 a:=by kernel_rfl
theorem negF6_sat (f0:Fp6->Fp6->Fp6) (a:Fp6):(negF6_T f0 a).sat fun q=>q=some (negF6_G f0 a):=(show some _=some _ from rfl)
def negF6 (a:Fp6):Fp6:=negF6_G subF6 a
theorem negF6_ok:CallOk Tryz.prog 172 (K1 (kRow Fp6).arg (kRow Fp6).rs.res negF6) :=
 P1 (En_ok (.cons subF6_ok .nil)) Tryz.func172 (bodied Tryz.func172 (by kernel_rfl) (by kernel_rfl)) 300 (kRow Fp6) (kRow Fp6).rs negF6 (negF6_run subF6) (negF6_sat subF6)
def upF6_G (f0:Fp2->Fp2) (a:Fp6):Fp6:=({ c0:=f0 a.c2,c1:=a.c0,c2:=a.c1 })
def upF6_T (f0:Fp2->Fp2) (a:Fp6):Tree (Option (Fp6)) :=
 (.leaf (some ({ c0:=f0 a.c2,c1:=a.c0,c2:=a.c1 })))
theorem upF6_run (f0:Fp2->Fp2) (a:Fp6):plainRun (En [(187,K1 (kRow Fp2).arg (kRow Fp2).rs.res f0)]) (kRow Fp6).rs 300 Tryz.f170 [.one ((kRow Fp6).av a)]=upF6_T f0 a:=by kernel_rfl
theorem upF6_sat (f0:Fp2->Fp2) (a:Fp6):(upF6_T f0 a).sat fun q=>q=some (upF6_G f0 a):=(show some _=some _ from rfl)
def upF6 (a:Fp6):Fp6:=upF6_G upF2 a
theorem upF6_ok:CallOk Tryz.prog 170 (K1 (kRow Fp6).arg (kRow Fp6).rs.res upF6) :=
 P1 (En_ok (.cons upF2_ok .nil)) Tryz.func170 (bodied Tryz.func170 (by kernel_rfl) (by kernel_rfl)) 300 (kRow Fp6) (kRow Fp6).rs upF6 (upF6_run upF2) (upF6_sat upF2)
def wholeF6_G (f0:Fp2->Fp2) (a:Fp6):Fp6:=({ c0:=f0 a.c0,c1:=f0 a.c1,c2:=f0 a.c2 })
def wholeF6_T (f0:Fp2->Fp2) (a:Fp6):Tree (Option (Fp6)) :=
 (.leaf (some ({ c0:=f0 a.c0,c1:=f0 a.c1,c2:=f0 a.c2 })))
theorem wholeF6_run (f0:Fp2->Fp2) (a:Fp6):plainRun (En [(107,K1 (kRow Fp2).arg (kRow Fp2).rs.res f0)]) (kRow Fp6).rs 300 Tryz.f175 [.one ((kRow Fp6).av a)]=wholeF6_T f0 a:=by kernel_rfl
theorem wholeF6_sat (f0:Fp2->Fp2) (a:Fp6):(wholeF6_T f0 a).sat fun q=>q=some (wholeF6_G f0 a):=(show some _=some _ from rfl)
def wholeF6 (a:Fp6):Fp6:=wholeF6_G wholeF2 a
theorem wholeF6_ok:CallOk Tryz.prog 175 (K1 (kRow Fp6).arg (kRow Fp6).rs.res wholeF6) :=
 P1 (En_ok (.cons wholeF2_ok .nil)) Tryz.func175 (bodied Tryz.func175 (by kernel_rfl) (by kernel_rfl)) 300 (kRow Fp6) (kRow Fp6).rs wholeF6 (wholeF6_run wholeF2) (wholeF6_sat wholeF2)
def lowF6_G (f0:Fp2->Fp2) (a:Fp6):Fp6:=({ c0:=f0 a.c0,c1:=f0 a.c1,c2:=f0 a.c2 })
def lowF6_T (f0:Fp2->Fp2) (a:Fp6):Tree (Option (Fp6)) :=
 (.leaf (some ({ c0:=f0 a.c0,c1:=f0 a.c1,c2:=f0 a.c2 })))
theorem lowF6_run (f0:Fp2->Fp2) (a:Fp6):plainRun (En [(104,K1 (kRow Fp2).arg (kRow Fp2).rs.res f0)]) (kRow Fp6).rs 300 Tryz.f121 [.one ((kRow Fp6).av a)]=lowF6_T f0 a:=by kernel_rfl
theorem lowF6_sat (f0:Fp2->Fp2) (a:Fp6):(lowF6_T f0 a).sat fun q=>q=some (lowF6_G f0 a):=(show some _=some _ from rfl)
def lowF6 (a:Fp6):Fp6:=lowF6_G lowF2 a
theorem lowF6_ok:CallOk Tryz.prog 121 (K1 (kRow Fp6).arg (kRow Fp6).rs.res lowF6) :=
 P1 (En_ok (.cons lowF2_ok .nil)) Tryz.func121 (bodied Tryz.func121 (by kernel_rfl) (by kernel_rfl)) 300 (kRow Fp6) (kRow Fp6).rs lowF6 (lowF6_run lowF2) (lowF6_sat lowF2)
def cross01_G (f0:Fp2->Fp2->Fp2) (f1:Fp2->Fp2->Fp2) (f2:Fp2->Fp2->Fp2) (a:Fp6) (b:Fp6) (i:Unit) (j:Unit) (x:Fp2) (y:Fp2):Fp2:=(f2 (f0 (f1 a.c0 a.c1) (f1 b.c0 b.c1)) (f1 x y))
def cross01_T (f0:Fp2->Fp2->Fp2) (f1:Fp2->Fp2->Fp2) (f2:Fp2->Fp2->Fp2) (a:Fp6) (b:Fp6) (i:Unit) (j:Unit) (x:Fp2) (y:Fp2):Tree (Option (Fp2)) :=
 (.leaf (some (f2 (f0 (f1 a.c0 a.c1) (f1 b.c0 b.c1)) (f1 x y))))
theorem cross01_run (f0:Fp2->Fp2->Fp2) (f1:Fp2->Fp2->Fp2) (f2:Fp2->Fp2->Fp2) (a:Fp6) (b:Fp6) (i:Unit) (j:Unit) (x:Fp2) (y:Fp2):plainRun (En [(157,K2 (kRow Fp2).arg (kRow Fp2).arg (kRow Fp2).rs.res f0),(94,K2 (kRow Fp2).arg (kRow Fp2).arg (kRow Fp2).rs.res f1),(163,K2 (kRow Fp2).arg (kRow Fp2).arg (kRow Fp2).rs.res f2)]) (kRow Fp2).rs 300 Tryz.f188 [.one ((kRow Fp6).av a),.one ((kRow Fp6).av b),.one ((kLit 0).av i),.one ((kLit 1).av j),.one ((kRow Fp2).av x),.one ((kRow Fp2).av y)]=cross01_T f0 f1 f2 a b i j x y:=by kernel_rfl
theorem cross01_sat (f0:Fp2->Fp2->Fp2) (f1:Fp2->Fp2->Fp2) (f2:Fp2->Fp2->Fp2) (a:Fp6) (b:Fp6) (i:Unit) (j:Unit) (x:Fp2) (y:Fp2):(cross01_T f0 f1 f2 a b i j x y).sat fun q=>q=some (cross01_G f0 f1 f2 a b i j x y):=(show some _=some _ from rfl)
def cross01 (a:Fp6) (b:Fp6) (i:Unit) (j:Unit) (x:Fp2) (y:Fp2):Fp2:=cross01_G halfF2 addF2 subF2 a b i j x y
theorem cross01_ok:CallOk Tryz.prog 188 (KN (KdL.cons (kRow Fp6) (KdL.cons (kRow Fp6) (KdL.cons (kLit 0) (KdL.cons (kLit 1) (KdL.cons (kRow Fp2) (KdL.cons (kRow Fp2) KdL.nil)))))) (kRow Fp2).rs.res (fun x=>cross01 x.1 x.2.1 x.2.2.1 x.2.2.2.1 x.2.2.2.2.1 x.2.2.2.2.2.1)) :=
 PN (En_ok (.cons halfF2_ok (.cons addF2_ok (.cons subF2_ok .nil)))) Tryz.func188 (bodied Tryz.func188 (by kernel_rfl) (by kernel_rfl)) 300 (KdL.cons (kRow Fp6) (KdL.cons (kRow Fp6) (KdL.cons (kLit 0) (KdL.cons (kLit 1) (KdL.cons (kRow Fp2) (KdL.cons (kRow Fp2) KdL.nil)))))) (kRow Fp2).rs (fun x=>cross01 x.1 x.2.1 x.2.2.1 x.2.2.2.1 x.2.2.2.2.1 x.2.2.2.2.2.1) (T:=fun x=>cross01_T halfF2 addF2 subF2 x.1 x.2.1 x.2.2.1 x.2.2.2.1 x.2.2.2.2.1 x.2.2.2.2.2.1) (fun x=>cross01_run halfF2 addF2 subF2 x.1 x.2.1 x.2.2.1 x.2.2.2.1 x.2.2.2.2.1 x.2.2.2.2.2.1) (fun x=>cross01_sat halfF2 addF2 subF2 x.1 x.2.1 x.2.2.1 x.2.2.2.1 x.2.2.2.2.1 x.2.2.2.2.2.1)
def cross02_G (f0:Fp2->Fp2->Fp2) (f1:Fp2->Fp2->Fp2) (f2:Fp2->Fp2->Fp2) (a:Fp6) (b:Fp6) (i:Unit) (j:Unit) (x:Fp2) (y:Fp2):Fp2:=(f2 (f0 (f1 a.c0 a.c2) (f1 b.c0 b.c2)) (f1 x y))
def cross02_T (f0:Fp2->Fp2->Fp2) (f1:Fp2->Fp2->Fp2) (f2:Fp2->Fp2->Fp2) (a:Fp6) (b:Fp6) (i:Unit) (j:Unit) (x:Fp2) (y:Fp2):Tree (Option (Fp2)) :=
 (.leaf (some (f2 (f0 (f1 a.c0 a.c2) (f1 b.c0 b.c2)) (f1 x y))))
theorem cross02_run (f0:Fp2->Fp2->Fp2) (f1:Fp2->Fp2->Fp2) (f2:Fp2->Fp2->Fp2) (a:Fp6) (b:Fp6) (i:Unit) (j:Unit) (x:Fp2) (y:Fp2):plainRun (En [(157,K2 (kRow Fp2).arg (kRow Fp2).arg (kRow Fp2).rs.res f0),(94,K2 (kRow Fp2).arg (kRow Fp2).arg (kRow Fp2).rs.res f1),(163,K2 (kRow Fp2).arg (kRow Fp2).arg (kRow Fp2).rs.res f2)]) (kRow Fp2).rs 300 Tryz.f188 [.one ((kRow Fp6).av a),.one ((kRow Fp6).av b),.one ((kLit 0).av i),.one ((kLit 2).av j),.one ((kRow Fp2).av x),.one ((kRow Fp2).av y)]=cross02_T f0 f1 f2 a b i j x y:=by kernel_rfl
theorem cross02_sat (f0:Fp2->Fp2->Fp2) (f1:Fp2->Fp2->Fp2) (f2:Fp2->Fp2->Fp2) (a:Fp6) (b:Fp6) (i:Unit) (j:Unit) (x:Fp2) (y:Fp2):(cross02_T f0 f1 f2 a b i j x y).sat fun q=>q=some (cross02_G f0 f1 f2 a b i j x y):=(show some _=some _ from rfl)
def cross02 (a:Fp6) (b:Fp6) (i:Unit) (j:Unit) (x:Fp2) (y:Fp2):Fp2:=cross02_G halfF2 addF2 subF2 a b i j x y
theorem cross02_ok:CallOk Tryz.prog 188 (KN (KdL.cons (kRow Fp6) (KdL.cons (kRow Fp6) (KdL.cons (kLit 0) (KdL.cons (kLit 2) (KdL.cons (kRow Fp2) (KdL.cons (kRow Fp2) KdL.nil)))))) (kRow Fp2).rs.res (fun x=>cross02 x.1 x.2.1 x.2.2.1 x.2.2.2.1 x.2.2.2.2.1 x.2.2.2.2.2.1)) :=
 PN (En_ok (.cons halfF2_ok (.cons addF2_ok (.cons subF2_ok .nil)))) Tryz.func188 (bodied Tryz.func188 (by kernel_rfl) (by kernel_rfl)) 300 (KdL.cons (kRow Fp6) (KdL.cons (kRow Fp6) (KdL.cons (kLit 0) (KdL.cons (kLit 2) (KdL.cons (kRow Fp2) (KdL.cons (kRow Fp2) KdL.nil)))))) (kRow Fp2).rs (fun x=>cross02 x.1 x.2.1 x.2.2.1 x.2.2.2.1 x.2.2.2.2.1 x.2.2.2.2.2.1) (T:=fun x=>cross02_T halfF2 addF2 subF2 x.1 x.2.1 x.2.2.1 x.2.2.2.1 x.2.2.2.2.1 x.2.2.2.2.2.1) (fun x=>cross02_run halfF2 addF2 subF2 x.1 x.2.1 x.2.2.1 x.2.2.2.1 x.2.2.2.2.1 x.2.2.2.2.2.1) (fun x=>cross02_sat halfF2 addF2 subF2 x.1 x.2.1 x.2.2.1 x.2.2.2.1 x.2.2.2.2.1 x.2.2.2.2.2.1)
def cross12_G (f0:Fp2->Fp2->Fp2) (f1:Fp2->Fp2->Fp2) (f2:Fp2->Fp2->Fp2) (a:Fp6) (b:Fp6) (i:Unit) (j:Unit) (x:Fp2) (y:Fp2):Fp2:=(f2 (f0 (f1 a.c1 a.c2) (f1 b.c1 b.c2)) (f1 x y))
def cross12_T (f0:Fp2->Fp2->Fp2) (f1:Fp2->Fp2->Fp2) (f2:Fp2->Fp2->Fp2) (a:Fp6) (b:Fp6) (i:Unit) (j:Unit) (x:Fp2) (y:Fp2):Tree (Option (Fp2)) :=
 (.leaf (some (f2 (f0 (f1 a.c1 a.c2) (f1 b.c1 b.c2)) (f1 x y))))
theorem cross12_run (f0:Fp2->Fp2->Fp2) (f1:Fp2->Fp2->Fp2) (f2:Fp2->Fp2->Fp2) (a:Fp6) (b:Fp6) (i:Unit) (j:Unit) (x:Fp2) (y:Fp2):plainRun (En [(157,K2 (kRow Fp2).arg (kRow Fp2).arg (kRow Fp2).rs.res f0),(94,K2 (kRow Fp2).arg (kRow Fp2).arg (kRow Fp2).rs.res f1),(163,K2 (kRow Fp2).arg (kRow Fp2).arg (kRow Fp2).rs.res f2)]) (kRow Fp2).rs 300 Tryz.f188 [.one ((kRow Fp6).av a),.one ((kRow Fp6).av b),.one ((kLit 1).av i),.one ((kLit 2).av j),.one ((kRow Fp2).av x),.one ((kRow Fp2).av y)]=cross12_T f0 f1 f2 a b i j x y:=by kernel_rfl
theorem cross12_sat (f0:Fp2->Fp2->Fp2) (f1:Fp2->Fp2->Fp2) (f2:Fp2->Fp2->Fp2) (a:Fp6) (b:Fp6) (i:Unit) (j:Unit) (x:Fp2) (y:Fp2):(cross12_T f0 f1 f2 a b i j x y).sat fun q=>q=some (cross12_G f0 f1 f2 a b i j x y):=(show some _=some _ from rfl)
def cross12 (a:Fp6) (b:Fp6) (i:Unit) (j:Unit) (x:Fp2) (y:Fp2):Fp2:=cross12_G halfF2 addF2 subF2 a b i j x y
theorem cross12_ok:CallOk Tryz.prog 188 (KN (KdL.cons (kRow Fp6) (KdL.cons (kRow Fp6) (KdL.cons (kLit 1) (KdL.cons (kLit 2) (KdL.cons (kRow Fp2) (KdL.cons (kRow Fp2) KdL.nil)))))) (kRow Fp2).rs.res (fun x=>cross12 x.1 x.2.1 x.2.2.1 x.2.2.2.1 x.2.2.2.2.1 x.2.2.2.2.2.1)) :=
 PN (En_ok (.cons halfF2_ok (.cons addF2_ok (.cons subF2_ok .nil)))) Tryz.func188 (bodied Tryz.func188 (by kernel_rfl) (by kernel_rfl)) 300 (KdL.cons (kRow Fp6) (KdL.cons (kRow Fp6) (KdL.cons (kLit 1) (KdL.cons (kLit 2) (KdL.cons (kRow Fp2) (KdL.cons (kRow Fp2) KdL.nil)))))) (kRow Fp2).rs (fun x=>cross12 x.1 x.2.1 x.2.2.1 x.2.2.2.1 x.2.2.2.2.1 x.2.2.2.2.2.1) (T:=fun x=>cross12_T halfF2 addF2 subF2 x.1 x.2.1 x.2.2.1 x.2.2.2.1 x.2.2.2.2.1 x.2.2.2.2.2.1) (fun x=>cross12_run halfF2 addF2 subF2 x.1 x.2.1 x.2.2.1 x.2.2.2.1 x.2.2.2.2.1 x.2.2.2.2.2.1) (fun x=>cross12_sat halfF2 addF2 subF2 x.1 x.2.1 x.2.2.1 x.2.2.2.1 x.2.2.2.2.1 x.2.2.2.2.2.1)
end
section
def invF6_G (f0:Fp2->Fp2->Fp2) (f1:Fp2->Fp2->Fp2) (f2:Fp2->Fp2) (f3:Fp2->Fp2->Fp2) (f4:Fp2->Fp2 × Int) (a:Fp6):Fp6 × Int:=(match ((f4 (f3 (f1 a.c0 (f0 (f1 a.c0 a.c0) (f2 (f1 a.c1 a.c2)))) (f2 (f3 (f1 a.c2 (f0 (f2 (f1 a.c2 a.c2)) (f1 a.c0 a.c1))) (f1 a.c1 (f0 (f1 a.c1 a.c1) (f1 a.c0 a.c2))))))).snd != 0) with | true=>((zeroFp6,(f4 (f3 (f1 a.c0 (f0 (f1 a.c0 a.c0) (f2 (f1 a.c1 a.c2)))) (f2 (f3 (f1 a.c2 (f0 (f2 (f1 a.c2 a.c2)) (f1 a.c0 a.c1))) (f1 a.c1 (f0 (f1 a.c1 a.c1) (f1 a.c0 a.c2))))))).snd)) | false=>(({ c0:=f1 (f0 (f1 a.c0 a.c0) (f2 (f1 a.c1 a.c2))) (f4 (f3 (f1 a.c0 (f0 (f1 a.c0 a.c0) (f2 (f1 a.c1 a.c2)))) (f2 (f3 (f1 a.c2 (f0 (f2 (f1 a.c2 a.c2)) (f1 a.c0 a.c1))) (f1 a.c1 (f0 (f1 a.c1 a.c1) (f1 a.c0 a.c2))))))).fst,c1:=f1 (f0 (f2 (f1 a.c2 a.c2)) (f1 a.c0 a.c1)) (f4 (f3 (f1 a.c0 (f0 (f1 a.c0 a.c0) (f2 (f1 a.c1 a.c2)))) (f2 (f3 (f1 a.c2 (f0 (f2 (f1 a.c2 a.c2)) (f1 a.c0 a.c1))) (f1 a.c1 (f0 (f1 a.c1 a.c1) (f1 a.c0 a.c2))))))).fst,c2:=f1 (f0 (f1 a.c1 a.c1) (f1 a.c0 a.c2)) (f4 (f3 (f1 a.c0 (f0 (f1 a.c0 a.c0) (f2 (f1 a.c1 a.c2)))) (f2 (f3 (f1 a.c2 (f0 (f2 (f1 a.c2 a.c2)) (f1 a.c0 a.c1))) (f1 a.c1 (f0 (f1 a.c1 a.c1) (f1 a.c0 a.c2))))))).fst },0)))
def invF6_T (f0:Fp2->Fp2->Fp2) (f1:Fp2->Fp2->Fp2) (f2:Fp2->Fp2) (f3:Fp2->Fp2->Fp2) (f4:Fp2->Fp2 × Int) (a:Fp6):Tree (Option (Fp6 × Int)):=letI za':=f4 (f3 (f1 a.c0 (f0 (f1 a.c0 a.c0) (f2 (f1 a.c1 a.c2)))) (f2 (f3 (f1 a.c2 (f0 (f2 (f1 a.c2 a.c2)) (f1 a.c0 a.c1))) (f1 a.c1 (f0 (f1 a.c1 a.c1) (f1 a.c0 a.c2))))));
 (.br (za'.snd != 0) (.leaf (some ((zeroFp6,za'.snd)))) (.leaf (some (({ c0:=f1 (f0 (f1 a.c0 a.c0) (f2 (f1 a.c1 a.c2))) za'.fst,c1:=f1 (f0 (f2 (f1 a.c2 a.c2)) (f1 a.c0 a.c1)) za'.fst,c2:=f1 (f0 (f1 a.c1 a.c1) (f1 a.c0 a.c2)) za'.fst },0)))))
theorem invF6_run (f0:Fp2->Fp2->Fp2) (f1:Fp2->Fp2->Fp2) (f2:Fp2->Fp2) (f3:Fp2->Fp2->Fp2) (f4:Fp2->Fp2 × Int) (a:Fp6):plainRun (En [(163,K2 (kRow Fp2).arg (kRow Fp2).arg (kRow Fp2).rs.res f0),(95,K2 (kRow Fp2).arg (kRow Fp2).arg (kRow Fp2).rs.res f1),(187,K1 (kRow Fp2).arg (kRow Fp2).rs.res f2),(94,K2 (kRow Fp2).arg (kRow Fp2).arg (kRow Fp2).rs.res f3),(103,K1 (kRow Fp2).arg ((kRow Fp2).rs2 kInt).res f4)]) ((kRow Fp6).rs2 kInt) 300 Tryz.f171 [.one ((kRow Fp6).av a)]=invF6_T f0 f1 f2 f3 f4 a:=by kernel_rfl
theorem invF6_sat (f0:Fp2->Fp2->Fp2) (f1:Fp2->Fp2->Fp2) (f2:Fp2->Fp2) (f3:Fp2->Fp2->Fp2) (f4:Fp2->Fp2 × Int) (a:Fp6):(invF6_T f0 f1 f2 f3 f4 a).sat fun q=>q=some (invF6_G f0 f1 f2 f3 f4 a):=⟨fun h0=>(show some _=some _ from congrArg some (by unfold invF6_G;rw [h0])),fun h0=>(show some _=some _ from congrArg some (by unfold invF6_G;rw [h0]))⟩
def invF6 (a:Fp6):Fp6 × Int:=invF6_G subF2 mulF2 upF2 addF2 invF2 a
theorem invF6_ok:CallOk Tryz.prog 171 (K1 (kRow Fp6).arg ((kRow Fp6).rs2 kInt).res invF6) :=
 P1 (En_ok (.cons subF2_ok (.cons mulF2_ok (.cons upF2_ok (.cons addF2_ok (.cons invF2_ok .nil)))))) Tryz.func171 (bodied Tryz.func171 (by kernel_rfl) (by kernel_rfl)) 300 (kRow Fp6) ((kRow Fp6).rs2 kInt) invF6 (invF6_run subF2 mulF2 upF2 addF2 invF2) (invF6_sat subF2 mulF2 upF2 addF2 invF2)
def oneF12_G  : Fp12:=(oneFp12)
def oneF12_T  : Tree (Option (Fp12)) :=
 (.leaf (some (oneFp12)))
theorem oneF12_run  : plainRun (En []) (kRow Fp12).rs 300 Tryz.f67 []=oneF12_T  := by kernel_rfl
theorem oneF12_sat  : (oneF12_T ).sat fun q=>q=some (oneF12_G ):=(show some _=some _ from rfl)
def oneF12  : Fp12:=oneF12_G
theorem oneF12_ok:CallOk Tryz.prog 67 (K0 (kRow Fp12).rs.res oneF12) :=
 P0 (En_ok .nil) Tryz.func67 (bodied Tryz.func67 (by kernel_rfl) (by kernel_rfl)) 300  (kRow Fp12).rs oneF12 (oneF12_run ) (oneF12_sat )
def wholeF12_G (f0:Fp6->Fp6) (a:Fp12):Fp12:=({ c0:=f0 a.c0,c1:=f0 a.c1 })
def wholeF12_T (f0:Fp6->Fp6) (a:Fp12):Tree (Option (Fp12)) :=
 (.leaf (some ({ c0:=f0 a.c0,c1:=f0 a.c1 })))
theorem wholeF12_run (f0:Fp6->Fp6) (a:Fp12):plainRun (En [(175,K1 (kRow Fp6).arg (kRow Fp6).rs.res f0)]) (kRow Fp12).rs 300 Tryz.f125 [.one ((kRow Fp12).av a)]=wholeF12_T f0 a:=by kernel_rfl
theorem wholeF12_sat (f0:Fp6->Fp6) (a:Fp12):(wholeF12_T f0 a).sat fun q=>q=some (wholeF12_G f0 a):=(show some _=some _ from rfl)
def wholeF12 (a:Fp12):Fp12:=wholeF12_G wholeF6 a
theorem wholeF12_ok:CallOk Tryz.prog 125 (K1 (kRow Fp12).arg (kRow Fp12).rs.res wholeF12) :=
 P1 (En_ok (.cons wholeF6_ok .nil)) Tryz.func125 (bodied Tryz.func125 (by kernel_rfl) (by kernel_rfl)) 300 (kRow Fp12) (kRow Fp12).rs wholeF12 (wholeF12_run wholeF6) (wholeF12_sat wholeF6)
def lowF12_G (f0:Fp6->Fp6) (a:Fp12):Fp12:=({ c0:=f0 a.c0,c1:=f0 a.c1 })
def lowF12_T (f0:Fp6->Fp6) (a:Fp12):Tree (Option (Fp12)) :=
 (.leaf (some ({ c0:=f0 a.c0,c1:=f0 a.c1 })))
theorem lowF12_run (f0:Fp6->Fp6) (a:Fp12):plainRun (En [(121,K1 (kRow Fp6).arg (kRow Fp6).rs.res f0)]) (kRow Fp12).rs 300 Tryz.f64 [.one ((kRow Fp12).av a)]=lowF12_T f0 a:=by kernel_rfl
theorem lowF12_sat (f0:Fp6->Fp6) (a:Fp12):(lowF12_T f0 a).sat fun q=>q=some (lowF12_G f0 a):=(show some _=some _ from rfl)
def lowF12 (a:Fp12):Fp12:=lowF12_G lowF6 a
theorem lowF12_ok:CallOk Tryz.prog 64 (K1 (kRow Fp12).arg (kRow Fp12).rs.res lowF12) :=
 P1 (En_ok (.cons lowF6_ok .nil)) Tryz.func64 (bodied Tryz.func64 (by kernel_rfl) (by kernel_rfl)) 300 (kRow Fp12) (kRow Fp12).rs lowF12 (lowF12_run lowF6) (lowF12_sat lowF6)
def conjF12_G (f0:Fp6->Fp6) (a:Fp12):Fp12:=({ c0:=a.c0,c1:=f0 a.c1 })
def conjF12_T (f0:Fp6->Fp6) (a:Fp12):Tree (Option (Fp12)) :=
 (.leaf (some ({ c0:=a.c0,c1:=f0 a.c1 })))
theorem conjF12_run (f0:Fp6->Fp6) (a:Fp12):plainRun (En [(172,K1 (kRow Fp6).arg (kRow Fp6).rs.res f0)]) (kRow Fp12).rs 300 Tryz.f124 [.one ((kRow Fp12).av a)]=conjF12_T f0 a:=by kernel_rfl
theorem conjF12_sat (f0:Fp6->Fp6) (a:Fp12):(conjF12_T f0 a).sat fun q=>q=some (conjF12_G f0 a):=(show some _=some _ from rfl)
def conjF12 (a:Fp12):Fp12:=conjF12_G negF6 a
theorem conjF12_ok:CallOk Tryz.prog 124 (K1 (kRow Fp12).arg (kRow Fp12).rs.res conjF12) :=
 P1 (En_ok (.cons negF6_ok .nil)) Tryz.func124 (bodied Tryz.func124 (by kernel_rfl) (by kernel_rfl)) 300 (kRow Fp12) (kRow Fp12).rs conjF12 (conjF12_run negF6) (conjF12_sat negF6)
end
section
def Fp6.nth (a:Fp6):Nat->Fp2
 | 0=>a.c0
 | 1=>a.c1
 | _=>a.c2
def crossF (i j:Nat) (a b:Fp6) (x y:Fp2):Fp2:=subF2 (halfF2 (addF2 (a.nth i) (a.nth j)) (addF2 (b.nth i) (b.nth j))) (addF2 x y)
abbrev Kcross (F:Nat->Nat->Fp6->Fp6->Fp2->Fp2->Fp2):Contract:=KOr (KN (KdL.cons (kRow Fp6) (KdL.cons (kRow Fp6) (KdL.cons (kLit 0) (KdL.cons (kLit 1) (KdL.cons (kRow Fp2) (KdL.cons (kRow Fp2) KdL.nil)))))) (kRow Fp2).rs.res (fun x=>F 0 1 x.1 x.2.1 x.2.2.2.2.1 x.2.2.2.2.2.1)) (KOr (KN (KdL.cons (kRow Fp6) (KdL.cons (kRow Fp6) (KdL.cons (kLit 0) (KdL.cons (kLit 2) (KdL.cons (kRow Fp2) (KdL.cons (kRow Fp2) KdL.nil)))))) (kRow Fp2).rs.res (fun x=>F 0 2 x.1 x.2.1 x.2.2.2.2.1 x.2.2.2.2.2.1)) (KN (KdL.cons (kRow Fp6) (KdL.cons (kRow Fp6) (KdL.cons (kLit 1) (KdL.cons (kLit 2) (KdL.cons (kRow Fp2) (KdL.cons (kRow Fp2) KdL.nil)))))) (kRow Fp2).rs.res (fun x=>F 1 2 x.1 x.2.1 x.2.2.2.2.1 x.2.2.2.2.2.1)))
theorem cross_ok:CallOk Tryz.prog 188 (Kcross crossF) :=
 KOr_ok cross01_ok (KOr_ok cross02_ok cross12_ok (KN_still _ _ _)) (KN_still _ _ _)
def halfF6_G (f0:Fp2->Fp2->Fp2) (f1:Fp2->Fp2->Fp2) (f2:Fp2->Fp2) (f3:Nat->Nat->Fp6->Fp6->Fp2->Fp2->Fp2) (a:Fp6) (b:Fp6):Fp6:=({ c0:=f1 (f0 a.c0 b.c0) (f2 (f3 1 2 a b (f0 a.c1 b.c1) (f0 a.c2 b.c2))),c1:=f1 (f3 0 1 a b (f0 a.c0 b.c0) (f0 a.c1 b.c1)) (f2 (f0 a.c2 b.c2)),c2:=f1 (f3 0 2 a b (f0 a.c0 b.c0) (f0 a.c2 b.c2)) (f0 a.c1 b.c1) })
def halfF6_T (f0:Fp2->Fp2->Fp2) (f1:Fp2->Fp2->Fp2) (f2:Fp2->Fp2) (f3:Nat->Nat->Fp6->Fp6->Fp2->Fp2->Fp2) (a:Fp6) (b:Fp6):Tree (Option (Fp6)):=letI za':=f0 a.c0 b.c0;letI zb':=f0 a.c1 b.c1;letI zc':=f0 a.c2 b.c2;
 (.leaf (some ({ c0:=f1 za' (f2 (f3 1 2 a b zb' zc')),c1:=f1 (f3 0 1 a b za' zb') (f2 zc'),c2:=f1 (f3 0 2 a b za' zc') zb' })))
theorem halfF6_run (f0:Fp2->Fp2->Fp2) (f1:Fp2->Fp2->Fp2) (f2:Fp2->Fp2) (f3:Nat->Nat->Fp6->Fp6->Fp2->Fp2->Fp2) (a:Fp6) (b:Fp6):plainRun (En [(157,K2 (kRow Fp2).arg (kRow Fp2).arg (kRow Fp2).rs.res f0),(94,K2 (kRow Fp2).arg (kRow Fp2).arg (kRow Fp2).rs.res f1),(187,K1 (kRow Fp2).arg (kRow Fp2).rs.res f2),(188,Kcross f3)]) (kRow Fp6).rs 300 Tryz.f173 [.one ((kRow Fp6).av a),.one ((kRow Fp6).av b)]=halfF6_T f0 f1 f2 f3 a b:=by kernel_rfl
theorem halfF6_sat (f0:Fp2->Fp2->Fp2) (f1:Fp2->Fp2->Fp2) (f2:Fp2->Fp2) (f3:Nat->Nat->Fp6->Fp6->Fp2->Fp2->Fp2) (a:Fp6) (b:Fp6):(halfF6_T f0 f1 f2 f3 a b).sat fun q=>q=some (halfF6_G f0 f1 f2 f3 a b):=(show some _=some _ from rfl)
def halfF6 (a:Fp6) (b:Fp6):Fp6:=halfF6_G halfF2 addF2 upF2 crossF a b
theorem halfF6_ok:CallOk Tryz.prog 173 (K2 (kRow Fp6).arg (kRow Fp6).arg (kRow Fp6).rs.res halfF6) :=
 P2 (En_ok (.cons halfF2_ok (.cons addF2_ok (.cons upF2_ok (.cons cross_ok .nil))))) Tryz.func173 (bodied Tryz.func173 (by kernel_rfl) (by kernel_rfl)) 300 (kRow Fp6) (kRow Fp6) (kRow Fp6).rs halfF6 (halfF6_run halfF2 addF2 upF2 crossF) (halfF6_sat halfF2 addF2 upF2 crossF)
def mulF6_G (f0:Fp6->Fp6->Fp6) (f1:Fp6->Fp6) (a:Fp6) (b:Fp6):Fp6:=(f1 (f0 a b))
def mulF6_T (f0:Fp6->Fp6->Fp6) (f1:Fp6->Fp6) (a:Fp6) (b:Fp6):Tree (Option (Fp6)) :=
 (.leaf (some (f1 (f0 a b))))
theorem mulF6_run (f0:Fp6->Fp6->Fp6) (f1:Fp6->Fp6) (a:Fp6) (b:Fp6):plainRun (En [(173,K2 (kRow Fp6).arg (kRow Fp6).arg (kRow Fp6).rs.res f0),(175,K1 (kRow Fp6).arg (kRow Fp6).rs.res f1)]) (kRow Fp6).rs 300 Tryz.f169 [.one ((kRow Fp6).av a),.one ((kRow Fp6).av b)]=mulF6_T f0 f1 a b:=by kernel_rfl
theorem mulF6_sat (f0:Fp6->Fp6->Fp6) (f1:Fp6->Fp6) (a:Fp6) (b:Fp6):(mulF6_T f0 f1 a b).sat fun q=>q=some (mulF6_G f0 f1 a b):=(show some _=some _ from rfl)
def mulF6 (a:Fp6) (b:Fp6):Fp6:=mulF6_G halfF6 wholeF6 a b
theorem mulF6_ok:CallOk Tryz.prog 169 (K2 (kRow Fp6).arg (kRow Fp6).arg (kRow Fp6).rs.res mulF6) :=
 P2 (En_ok (.cons halfF6_ok (.cons wholeF6_ok .nil))) Tryz.func169 (bodied Tryz.func169 (by kernel_rfl) (by kernel_rfl)) 300 (kRow Fp6) (kRow Fp6) (kRow Fp6).rs mulF6 (mulF6_run halfF6 wholeF6) (mulF6_sat halfF6 wholeF6)
def halfF12_G (f0:Fp6->Fp6->Fp6) (f1:Fp6->Fp6->Fp6) (f2:Fp6->Fp6->Fp6) (f3:Fp6->Fp6) (a:Fp12) (b:Fp12):Fp12:=({ c0:=f1 (f0 a.c0 b.c0) (f3 (f0 a.c1 b.c1)),c1:=f2 (f0 (f1 a.c0 a.c1) (f1 b.c0 b.c1)) (f1 (f0 a.c0 b.c0) (f0 a.c1 b.c1)) })
def halfF12_T (f0:Fp6->Fp6->Fp6) (f1:Fp6->Fp6->Fp6) (f2:Fp6->Fp6->Fp6) (f3:Fp6->Fp6) (a:Fp12) (b:Fp12):Tree (Option (Fp12)) :=
 (.leaf (some ({ c0:=f1 (f0 a.c0 b.c0) (f3 (f0 a.c1 b.c1)),c1:=f2 (f0 (f1 a.c0 a.c1) (f1 b.c0 b.c1)) (f1 (f0 a.c0 b.c0) (f0 a.c1 b.c1)) })))
theorem halfF12_run (f0:Fp6->Fp6->Fp6) (f1:Fp6->Fp6->Fp6) (f2:Fp6->Fp6->Fp6) (f3:Fp6->Fp6) (a:Fp12) (b:Fp12):plainRun (En [(173,K2 (kRow Fp6).arg (kRow Fp6).arg (kRow Fp6).rs.res f0),(174,K2 (kRow Fp6).arg (kRow Fp6).arg (kRow Fp6).rs.res f1),(168,K2 (kRow Fp6).arg (kRow Fp6).arg (kRow Fp6).rs.res f2),(170,K1 (kRow Fp6).arg (kRow Fp6).rs.res f3)]) (kRow Fp12).rs 300 Tryz.f123 [.one ((kRow Fp12).av a),.one ((kRow Fp12).av b)]=halfF12_T f0 f1 f2 f3 a b:=by kernel_rfl
theorem halfF12_sat (f0:Fp6->Fp6->Fp6) (f1:Fp6->Fp6->Fp6) (f2:Fp6->Fp6->Fp6) (f3:Fp6->Fp6) (a:Fp12) (b:Fp12):(halfF12_T f0 f1 f2 f3 a b).sat fun q=>q=some (halfF12_G f0 f1 f2 f3 a b):=(show some _=some _ from rfl)
def halfF12 (a:Fp12) (b:Fp12):Fp12:=halfF12_G halfF6 addF6 subF6 upF6 a b
theorem halfF12_ok:CallOk Tryz.prog 123 (K2 (kRow Fp12).arg (kRow Fp12).arg (kRow Fp12).rs.res halfF12) :=
 P2 (En_ok (.cons halfF6_ok (.cons addF6_ok (.cons subF6_ok (.cons upF6_ok .nil))))) Tryz.func123 (bodied Tryz.func123 (by kernel_rfl) (by kernel_rfl)) 300 (kRow Fp12) (kRow Fp12) (kRow Fp12).rs halfF12 (halfF12_run halfF6 addF6 subF6 upF6) (halfF12_sat halfF6 addF6 subF6 upF6)
def invF12_G (f0:Fp6->Fp6->Fp6) (f1:Fp6->Fp6->Fp6) (f2:Fp6->Fp6) (f3:Fp6->Fp6 × Int) (f4:Fp6->Fp6) (a:Fp12):Fp12 × Int:=(match ((f3 (f0 (f1 a.c0 a.c0) (f2 (f1 a.c1 a.c1)))).snd != 0) with | true=>((zeroFp12,(f3 (f0 (f1 a.c0 a.c0) (f2 (f1 a.c1 a.c1)))).snd)) | false=>(({ c0:=f1 a.c0 (f3 (f0 (f1 a.c0 a.c0) (f2 (f1 a.c1 a.c1)))).fst,c1:=f4 (f1 a.c1 (f3 (f0 (f1 a.c0 a.c0) (f2 (f1 a.c1 a.c1)))).fst) },0)))
def invF12_T (f0:Fp6->Fp6->Fp6) (f1:Fp6->Fp6->Fp6) (f2:Fp6->Fp6) (f3:Fp6->Fp6 × Int) (f4:Fp6->Fp6) (a:Fp12):Tree (Option (Fp12 × Int)):=letI za':=f3 (f0 (f1 a.c0 a.c0) (f2 (f1 a.c1 a.c1)));
 (.br (za'.snd != 0) (.leaf (some ((zeroFp12,za'.snd)))) (.leaf (some (({ c0:=f1 a.c0 za'.fst,c1:=f4 (f1 a.c1 za'.fst) },0)))))
theorem invF12_run (f0:Fp6->Fp6->Fp6) (f1:Fp6->Fp6->Fp6) (f2:Fp6->Fp6) (f3:Fp6->Fp6 × Int) (f4:Fp6->Fp6) (a:Fp12):plainRun (En [(168,K2 (kRow Fp6).arg (kRow Fp6).arg (kRow Fp6).rs.res f0),(169,K2 (kRow Fp6).arg (kRow Fp6).arg (kRow Fp6).rs.res f1),(170,K1 (kRow Fp6).arg (kRow Fp6).rs.res f2),(171,K1 (kRow Fp6).arg ((kRow Fp6).rs2 kInt).res f3),(172,K1 (kRow Fp6).arg (kRow Fp6).rs.res f4)]) ((kRow Fp12).rs2 kInt) 300 Tryz.f122 [.one ((kRow Fp12).av a)]=invF12_T f0 f1 f2 f3 f4 a:=by kernel_rfl
theorem invF12_sat (f0:Fp6->Fp6->Fp6) (f1:Fp6->Fp6->Fp6) (f2:Fp6->Fp6) (f3:Fp6->Fp6 × Int) (f4:Fp6->Fp6) (a:Fp12):(invF12_T f0 f1 f2 f3 f4 a).sat fun q=>q=some (invF12_G f0 f1 f2 f3 f4 a):=⟨fun h0=>(show some _=some _ from congrArg some (by unfold invF12_G;rw [h0])),fun h0=>(show some _=some _ from congrArg some (by unfold invF12_G;rw [h0]))⟩
def invF12 (a:Fp12):Fp12 × Int:=invF12_G subF6 mulF6 upF6 invF6 negF6 a
theorem invF12_ok:CallOk Tryz.prog 122 (K1 (kRow Fp12).arg ((kRow Fp12).rs2 kInt).res invF12) :=
 P1 (En_ok (.cons subF6_ok (.cons mulF6_ok (.cons upF6_ok (.cons invF6_ok (.cons negF6_ok .nil)))))) Tryz.func122 (bodied Tryz.func122 (by kernel_rfl) (by kernel_rfl)) 300 (kRow Fp12) ((kRow Fp12).rs2 kInt) invF12 (invF12_run subF6 mulF6 upF6 invF6 negF6) (invF12_sat subF6 mulF6 upF6 invF6 negF6)
end
section
abbrev oF2:Out Fp2:=rF2.out
def powG {α:Type} (mF:α->α->α) (a:α) (e:List UInt64):Nat->α->α
 | 0,x=>x
 | n+1,x=>powG mF a e n (match bitAt e n with | true=>mF (mF x x) a | false=>mF x x)
end
section
abbrev rF12:Rs Fp12:=(kRow Fp12).rs
abbrev vF12 (a:Fp12):AV := .one ((kRow Fp12).av a)
abbrev oF12:Out Fp12:=rF12.out
abbrev Ks2 (F:Fp12->Fp12->Fp12):Contract:=K2 (kRow Fp12).arg (kRow Fp12).arg rF12.res F
end
section
def rsSt (e:List UInt64) (x o:Fp12) (z:Int):St:=mkSt 34 [(1,inV 0 e),(2,ptrV 1),(4,ptrV 2),(5,ptrV 3),(6,vI z)] [inHE eU64 e,own 108 (Row.cs x),own 108 (zeros 72),own 108 (Row.cs o)]
def tRs (o:Fp12) (wF:Fp12->Fp12) (hF:Fp12->Fp12->Fp12):Table := [(67,K0 rF12.res o),(125,K1 (kRow Fp12).arg rF12.res wF),(123,Ks2 hF)]
theorem rs_front (T:Table) (a:Fp12) (e:List UInt64):stageT (En T) 100 ((flat (codeOf Tryz.f127)).take 1) (startSt Tryz.f127 [vF12 a,iL.av 0 e] [inHE eU64 e]) [1,2,4] [0,1,2] = .leaf (mkSt 34 [(1,inV 0 e),(2,ptrV 1),(4,ptrV 2)] [inHE eU64 e,own 108 (Row.cs a),own 108 (zeros 72)]):=by kernel_rfl
theorem rs_start (o:Fp12) (wF:Fp12->Fp12) (hF:Fp12->Fp12->Fp12) (a:Fp12) (e:List UInt64):stageT (En (tRs o wF hF)) 100 ((flat (scopeOf Tryz.f127)).take 3) (mkSt 34 [(1,inV 0 e),(2,ptrV 1),(4,ptrV 2)] [inHE eU64 e,own 108 (Row.cs a),own 108 (zeros 72)]) [1,2,4,5,6] [0,1,2,3] = .vc (0+e.length*1<=(eU64.body e).cells.length/\0<1) (.leaf (rsSt e a (wF o) (IntKind.i64.wrap (64*e.length)))):=by kernel_rfl
theorem rs_iter (o1:Fp12) (wF:Fp12->Fp12) (hF:Fp12->Fp12->Fp12) (x o:Fp12) (e:List UInt64) (z:Int):letI za':=IntKind.i64.wrap (z-1);iterT (En (tRs o1 wF hF)) oF12 100 Tryz.f127 ((flat (scopeOf Tryz.f127)).drop 3) (rsSt e x o z) [1,2,4,5,6] [0,1,2,3] = .br (decide (IntKind.i64.wrap (z-1)<0)) (.leaf (.inr (some (o,.t)))) (.vc ((0<=quoZ z/\quoZ z<e.length)/\0+e.length*1<=(eU64.body e).cells.length/\0<1) (.vc (0+(quoZ z).toNat*1<e.length) (.br (bitZ e z) (.leaf (.inl (.goto 0,rsSt e x (hF (hF o o) x) za'))) (.leaf (.inl (.goto 0,rsSt e x (hF o o) za')))))):=by kernel_rfl
def raisedF (a:Fp12) (e:List UInt64):Fp12:=powG halfF12 a e (64*e.length) (wholeF12 oneF12)
abbrev RsOk (a:Fp12) (e:List UInt64):Type := { q:Int × Fp12 // 0<=q.1/\q.1<=64*e.length/\powG halfF12 a e q.1.toNat q.2=raisedF a e }
def rsI (a:Fp12) (e:List UInt64) (q:RsOk a e):St:=rsSt e a q.1.2 q.1.1
theorem raised_ok:CallOk Tryz.prog 127 (K2 (kRow Fp12).arg aL rF12.res raisedF) :=
 G2 (E:=En (tRs oneF12 wholeF12 halfF12)) Tryz.func127 (c:=codeOf Tryz.f127) (by kernel_rfl) (bodied Tryz.func127 (by kernel_rfl) (by kernel_rfl)) (kRow Fp12).inp iL oF12 raisedF fun a e _ he=>by
  have hE:EnvOk (En (tRs oneF12 wholeF12 halfF12)):=En_ok (.cons oneF12_ok (.cons wholeF12_ok (.cons halfF12_ok .nil)))
  have he:e.length<1125899906842624:=he
  have hw:IntKind.i64.wrap (64*(e.length:Int))=64*(e.length:Int):=IntWalk.i64_in _ (by omega)
  refine DoesL.stageE hE 100 1 [1,2,4] [0,1,2] (rs_front _ a e) ?_
  refine DoesL.scopeFn (body:=scopeOf Tryz.f127) (rest:=restOf Tryz.f127) (tail := []) (l:=0) hE (by kernel_rfl) (by kernel_rfl) 100 3 (by kernel_rfl) [1,2,4,5,6] [0,1,2,3] (rsI a e) (fun q=>q.1.1.toNat)
   ⟨(64*(e.length:Int),wholeF12 oneF12),by simp only [];omega,by simp only [];omega,by rw [show ((64*(e.length:Int),wholeF12 oneF12):Int × Fp12).1.toNat=64*e.length by simp only [];omega];simp only [raisedF]⟩
   (rs_start oneF12 wholeF12 halfF12 a e) ⟨⟨by rw [cells_len];omega,by decide⟩,fun _=>by rw [hw];exact Tree.sat_leaf (by simp only [rsI])⟩ fun q => ?_
  obtain ⟨⟨z,o⟩,h0,h1,h2⟩:=q
  simp only [] at h0 h1 h2
  have hz:IntKind.i64.wrap (z-1)=z-1:=IntWalk.i64_in _ (by omega)
  refine DoesL.iter hE 100 [1,2,4,5,6] [0,1,2,3] (rs_iter oneF12 wholeF12 halfF12 a o e z) ?_
  rw [hz]
  refine ⟨fun h => ?_,fun h => ?_⟩
  ·simp only [decide_eq_true_eq] at h
   obtain rfl:z=0:=by omega
   exact ⟨.t,by rw [<- h2];rfl,trivial⟩
  ·simp only [decide_eq_false_iff_not] at h
   obtain ⟨n,rfl⟩ : ∃ n:Nat,z=(n:Int)+1:=⟨(z-1).toNat,by omega⟩
   rw [quoZ_nat n (by omega),bitZ_nat e n (by omega)]
   rw [show ((n:Int)+1).toNat=n+1 by omega] at h2
   simp only [powG] at h2
   refine ⟨⟨⟨by omega,by omega⟩,by rw [cells_len];omega,by decide⟩,fun _=>⟨by omega,fun _=>⟨fun h3 => ?_,fun h3 => ?_⟩⟩⟩
   all_goals
    have hn:((n:Int)+1-1).toNat=n:=by omega
    rw [h3] at h2
    simp only [] at h2
   ·refine ⟨rfl,⟨((n:Int)+1-1,halfF12 (halfF12 o o) a),?_,?_,?_⟩,?_,by simp only [rsI]⟩
    ·show 0<=(n:Int)+1-1;omega
    ·show (n:Int)+1-1<=64*e.length;omega
    ·simpa only [hn] using h2
    ·show ((n:Int)+1-1).toNat<((n:Int)+1).toNat;omega
   ·refine ⟨rfl,⟨((n:Int)+1-1,halfF12 o o),?_,?_,?_⟩,?_,by simp only [rsI]⟩
    ·show 0<=(n:Int)+1-1;omega
    ·show (n:Int)+1-1<=64*e.length;omega
    ·simpa only [hn] using h2
    ·show ((n:Int)+1-1).toNat<((n:Int)+1).toNat;omega
abbrev Kraised (F:Fp12->List UInt64->Fp12):Contract:=K2 (kRow Fp12).arg aL rF12.res F
end
section
def oneG1_G  : Pg1:=({ x := { l0:=UInt64.ofNat 18103045581585958587,l1:=UInt64.ofNat 7806400890582735599,l2:=UInt64.ofNat 11623291730934869080,l3:=UInt64.ofNat 14080658508445169925,l4:=UInt64.ofNat 2780237799254240271,l5:=UInt64.ofNat 1725392847304644500 },y := { l0:=UInt64.ofNat 912580534683953121,l1:=UInt64.ofNat 15005087156090211044,l2:=UInt64.ofNat 61670280795567085,l3:=UInt64.ofNat 18227722000993880822,l4:=UInt64.ofNat 11573741888802228964,l5:=UInt64.ofNat 627113611842199793 },inf:=false })
def oneG1_T  : Tree (Option (Pg1)) :=
 (.leaf (some ({ x := { l0:=UInt64.ofNat 18103045581585958587,l1:=UInt64.ofNat 7806400890582735599,l2:=UInt64.ofNat 11623291730934869080,l3:=UInt64.ofNat 14080658508445169925,l4:=UInt64.ofNat 2780237799254240271,l5:=UInt64.ofNat 1725392847304644500 },y := { l0:=UInt64.ofNat 912580534683953121,l1:=UInt64.ofNat 15005087156090211044,l2:=UInt64.ofNat 61670280795567085,l3:=UInt64.ofNat 18227722000993880822,l4:=UInt64.ofNat 11573741888802228964,l5:=UInt64.ofNat 627113611842199793 },inf:=false })))
theorem oneG1_run  : plainRun (En []) (kRow Pg1).rs 300 Tryz.f30 []=oneG1_T  := by kernel_rfl
theorem oneG1_sat  : (oneG1_T ).sat fun q=>q=some (oneG1_G ):=(show some _=some _ from rfl)
def oneG1  : Pg1:=oneG1_G
theorem oneG1_ok:CallOk Tryz.prog 30 (K0 (kRow Pg1).rs.res oneG1) :=
 P0 (En_ok .nil) Tryz.func30 (bodied Tryz.func30 (by kernel_rfl) (by kernel_rfl)) 300  (kRow Pg1).rs oneG1 (oneG1_run ) (oneG1_sat )
def rhsG1_G (f0:Fp->Fp->Fp) (f1:Fp->Fp->Fp) (x:Fp):Fp:=(f0 (f1 (f1 x x) x) { l0:=UInt64.ofNat 4,l1:=UInt64.ofNat 0,l2:=UInt64.ofNat 0,l3:=UInt64.ofNat 0,l4:=UInt64.ofNat 0,l5:=UInt64.ofNat 0 })
def rhsG1_T (f0:Fp->Fp->Fp) (f1:Fp->Fp->Fp) (x:Fp):Tree (Option (Fp)) :=
 (.leaf (some (f0 (f1 (f1 x x) x) { l0:=UInt64.ofNat 4,l1:=UInt64.ofNat 0,l2:=UInt64.ofNat 0,l3:=UInt64.ofNat 0,l4:=UInt64.ofNat 0,l5:=UInt64.ofNat 0 })))
theorem rhsG1_run (f0:Fp->Fp->Fp) (f1:Fp->Fp->Fp) (x:Fp):plainRun (En [(90,Kff f0),(91,Kff f1)]) (kRow Fp).rs 300 Tryz.f165 [.one ((kRow Fp).av x)]=rhsG1_T f0 f1 x:=by kernel_rfl
theorem rhsG1_sat (f0:Fp->Fp->Fp) (f1:Fp->Fp->Fp) (x:Fp):(rhsG1_T f0 f1 x).sat fun q=>q=some (rhsG1_G f0 f1 x):=(show some _=some _ from rfl)
def rhsG1 (x:Fp):Fp:=rhsG1_G addF mulF x
theorem rhsG1_ok:CallOk Tryz.prog 165 (K1 (kRow Fp).arg (kRow Fp).rs.res rhsG1) :=
 P1 (En_ok (.cons add_ok (.cons mul_ok .nil))) Tryz.func165 (bodied Tryz.func165 (by kernel_rfl) (by kernel_rfl)) 300 (kRow Fp) (kRow Fp).rs rhsG1 (rhsG1_run addF mulF) (rhsG1_sat addF mulF)
def onG1_G (f0:Fp->Bool) (f1:Fp->Fp->Fp) (f2:Fp->Fp) (p:Pg1):Bool:=(match (p.inf) with | true=>((pg1Eq (p) (infG1))) | false=>(match (f0 p.x) with | true=>(match (f0 p.y) with | true=>((fpEq (f1 p.y p.y) (f2 p.x))) | false=>((false))) | false=>((false))))
def onG1_T (f0:Fp->Bool) (f1:Fp->Fp->Fp) (f2:Fp->Fp) (p:Pg1):Tree (Option (Bool)) :=
 (.br (p.inf) (.leaf (some ((pg1Eq (p) (infG1))))) (.br (f0 p.x) (.br (f0 p.y) (.leaf (some ((fpEq (f1 p.y p.y) (f2 p.x))))) (.leaf (some ((false))))) (.leaf (some ((false))))))
theorem onG1_run (f0:Fp->Bool) (f1:Fp->Fp->Fp) (f2:Fp->Fp) (p:Pg1):plainRun (En [(147,Kfb f0),(91,Kff f1),(165,K1 (kRow Fp).arg (kRow Fp).rs.res f2)]) kBool.rs 300 Tryz.f116 [.one ((kRow Pg1).av p)]=onG1_T f0 f1 f2 p:=by kernel_rfl
theorem onG1_sat (f0:Fp->Bool) (f1:Fp->Fp->Fp) (f2:Fp->Fp) (p:Pg1):(onG1_T f0 f1 f2 p).sat fun q=>q=some (onG1_G f0 f1 f2 p):=⟨fun h0=>(show some _=some _ from congrArg some (by unfold onG1_G;rw [h0])),fun h0=>⟨fun h1=>⟨fun h2=>(show some _=some _ from congrArg some (by unfold onG1_G;rw [h0,h1,h2])),fun h2=>(show some _=some _ from congrArg some (by unfold onG1_G;rw [h0,h1,h2]))⟩,fun h1=>(show some _=some _ from congrArg some (by unfold onG1_G;rw [h0,h1]))⟩⟩
def onG1 (p:Pg1):Bool:=onG1_G mayF mulF rhsG1 p
theorem onG1_ok:CallOk Tryz.prog 116 (K1 (kRow Pg1).arg kBool.rs.res onG1) :=
 P1 (En_ok (.cons may_ok (.cons mul_ok (.cons rhsG1_ok .nil)))) Tryz.func116 (bodied Tryz.func116 (by kernel_rfl) (by kernel_rfl)) 300 (kRow Pg1) kBool.rs onG1 (onG1_run mayF mulF rhsG1) (onG1_sat mayF mulF rhsG1)
def liftG1_G (f0:Fp->Fp) (p:Pg1):Sp1:=(match (p.inf) with | true=>(zeroSp) | false=>({ x:=f0 p.x,y:=f0 p.y,z:=f0 oneFp }))
def liftG1_T (f0:Fp->Fp) (p:Pg1):Tree (Option (Sp1)) :=
 (.br (p.inf)
  (.leaf (some (zeroSp)))
  (.leaf (some ({ x:=f0 p.x,y:=f0 p.y,z:=f0 oneFp }))))
theorem liftG1_run (f0:Fp->Fp) (p:Pg1):plainRun (En [(112,Kf f0)]) (kRow Sp1).rs 300 Tryz.f58 [.one ((kRow Pg1).av p)]=liftG1_T f0 p:=by kernel_rfl
theorem liftG1_sat (f0:Fp->Fp) (p:Pg1):(liftG1_T f0 p).sat fun q=>q=some (liftG1_G f0 p):=⟨fun h0=>(show some _=some _ from congrArg some (by unfold liftG1_G;rw [h0])),fun h0=>(show some _=some _ from congrArg some (by unfold liftG1_G;rw [h0]))⟩
def liftG1 (p:Pg1):Sp1:=liftG1_G wholeF p
theorem liftG1_ok:CallOk Tryz.prog 58 (K1 (kRow Pg1).arg (kRow Sp1).rs.res liftG1) :=
 P1 (En_ok (.cons whole_ok .nil)) Tryz.func58 (bodied Tryz.func58 (by kernel_rfl) (by kernel_rfl)) 300 (kRow Pg1) (kRow Sp1).rs liftG1 (liftG1_run wholeF) (liftG1_sat wholeF)
def zeroG1_G (a:Fp):Bool:=((fpEq (a) (zeroFp)))
def zeroG1_T (a:Fp):Tree (Option (Bool)) :=
 (.leaf (some ((fpEq (a) (zeroFp)))))
theorem zeroG1_run (a:Fp):plainRun (En []) kBool.rs 300 Tryz.f117 [.one ((kRow Fp).av a)]=zeroG1_T a:=by kernel_rfl
theorem zeroG1_sat (a:Fp):(zeroG1_T a).sat fun q=>q=some (zeroG1_G a):=(show some _=some _ from rfl)
def zeroG1 (a:Fp):Bool:=zeroG1_G  a
theorem zeroG1_ok:CallOk Tryz.prog 117 (K1 (kRow Fp).arg kBool.rs.res zeroG1) :=
 P1 (En_ok .nil) Tryz.func117 (bodied Tryz.func117 (by kernel_rfl) (by kernel_rfl)) 300 (kRow Fp) kBool.rs zeroG1 (zeroG1_run ) (zeroG1_sat )
def laysG1_G (f0:Fp->Fp × Int) (f1:Fp->Fp) (f2:Fp->Fp->Fp) (s:Sp1):Pg1:=(match ((f0 (f1 s.z)).snd != 0) with | true=>(infG1) | false=>({ x:=f2 (f1 s.x) (f2 (f0 (f1 s.z)).fst (f0 (f1 s.z)).fst),y:=f2 (f1 s.y) (f2 (f2 (f0 (f1 s.z)).fst (f0 (f1 s.z)).fst) (f0 (f1 s.z)).fst),inf:=false }))
def laysG1_T (f0:Fp->Fp × Int) (f1:Fp->Fp) (f2:Fp->Fp->Fp) (s:Sp1):Tree (Option (Pg1)):=letI za':=f2 (f0 (f1 s.z)).fst (f0 (f1 s.z)).fst;
 (.br ((f0 (f1 s.z)).snd != 0) (.leaf (some (infG1))) (.leaf (some ({ x:=f2 (f1 s.x) za',y:=f2 (f1 s.y) (f2 za' (f0 (f1 s.z)).fst),inf:=false }))))
theorem laysG1_run (f0:Fp->Fp × Int) (f1:Fp->Fp) (f2:Fp->Fp->Fp) (s:Sp1):plainRun (En [(108,Kinv f0),(109,Kf f1),(91,Kff f2)]) (kRow Pg1).rs 300 Tryz.f56 [.one ((kRow Sp1).av s)]=laysG1_T f0 f1 f2 s:=by kernel_rfl
theorem laysG1_sat (f0:Fp->Fp × Int) (f1:Fp->Fp) (f2:Fp->Fp->Fp) (s:Sp1):(laysG1_T f0 f1 f2 s).sat fun q=>q=some (laysG1_G f0 f1 f2 s):=⟨fun h0=>(show some _=some _ from congrArg some (by unfold laysG1_G;rw [h0])),fun h0=>(show some _=some _ from congrArg some (by unfold laysG1_G;rw [h0]))⟩
def laysG1 (s:Sp1):Pg1:=laysG1_G invF lowF mulF s
theorem laysG1_ok:CallOk Tryz.prog 56 (K1 (kRow Sp1).arg (kRow Pg1).rs.res laysG1) :=
 P1 (En_ok (.cons inv_ok (.cons low_ok (.cons mul_ok .nil)))) Tryz.func56 (bodied Tryz.func56 (by kernel_rfl) (by kernel_rfl)) 300 (kRow Sp1) (kRow Pg1).rs laysG1 (laysG1_run invF lowF mulF) (laysG1_sat invF lowF mulF)
def twiceG1_G (f0:Fp->Fp->Fp) (f1:Fp->Fp->Fp) (f2:Fp->Fp->Fp) (s:Sp1):Sp1:=({ x:=f2 (f0 (f1 (f1 (f0 s.x s.x) (f0 s.x s.x)) (f0 s.x s.x)) (f1 (f1 (f0 s.x s.x) (f0 s.x s.x)) (f0 s.x s.x))) (f1 (f1 (f1 (f0 s.x (f0 s.y s.y)) (f0 s.x (f0 s.y s.y))) (f1 (f0 s.x (f0 s.y s.y)) (f0 s.x (f0 s.y s.y)))) (f1 (f1 (f0 s.x (f0 s.y s.y)) (f0 s.x (f0 s.y s.y))) (f1 (f0 s.x (f0 s.y s.y)) (f0 s.x (f0 s.y s.y))))),y:=f2 (f0 (f1 (f1 (f0 s.x s.x) (f0 s.x s.x)) (f0 s.x s.x)) (f2 (f1 (f1 (f0 s.x (f0 s.y s.y)) (f0 s.x (f0 s.y s.y))) (f1 (f0 s.x (f0 s.y s.y)) (f0 s.x (f0 s.y s.y)))) (f2 (f0 (f1 (f1 (f0 s.x s.x) (f0 s.x s.x)) (f0 s.x s.x)) (f1 (f1 (f0 s.x s.x) (f0 s.x s.x)) (f0 s.x s.x))) (f1 (f1 (f1 (f0 s.x (f0 s.y s.y)) (f0 s.x (f0 s.y s.y))) (f1 (f0 s.x (f0 s.y s.y)) (f0 s.x (f0 s.y s.y)))) (f1 (f1 (f0 s.x (f0 s.y s.y)) (f0 s.x (f0 s.y s.y))) (f1 (f0 s.x (f0 s.y s.y)) (f0 s.x (f0 s.y s.y)))))))) (f1 (f1 (f1 (f0 (f0 s.y s.y) (f0 s.y s.y)) (f0 (f0 s.y s.y) (f0 s.y s.y))) (f1 (f0 (f0 s.y s.y) (f0 s.y s.y)) (f0 (f0 s.y s.y) (f0 s.y s.y)))) (f1 (f1 (f0 (f0 s.y s.y) (f0 s.y s.y)) (f0 (f0 s.y s.y) (f0 s.y s.y))) (f1 (f0 (f0 s.y s.y) (f0 s.y s.y)) (f0 (f0 s.y s.y) (f0 s.y s.y))))),z:=f1 (f0 s.y s.z) (f0 s.y s.z) })
def twiceG1_T (f0:Fp->Fp->Fp) (f1:Fp->Fp->Fp) (f2:Fp->Fp->Fp) (s:Sp1):Tree (Option (Sp1)):=letI za':=f1 (f0 s.x (f0 s.y s.y)) (f0 s.x (f0 s.y s.y));letI zb':=f0 (f0 s.y s.y) (f0 s.y s.y);letI zc':=f1 (f1 (f0 s.x s.x) (f0 s.x s.x)) (f0 s.x s.x);letI zd':=f1 (f1 za' za') (f1 za' za');letI ze':=f1 (f1 zb' zb') (f1 zb' zb');
 (.leaf (some ({ x:=f2 (f0 zc' zc') zd',y:=f2 (f0 zc' (f2 (f1 za' za') (f2 (f0 zc' zc') zd'))) (f1 ze' ze'),z:=f1 (f0 s.y s.z) (f0 s.y s.z) })))
theorem twiceG1_run (f0:Fp->Fp->Fp) (f1:Fp->Fp->Fp) (f2:Fp->Fp->Fp) (s:Sp1):plainRun (En [(152,Kff f0),(90,Kff f1),(131,Kff f2)]) (kRow Sp1).rs 300 Tryz.f110 [.one ((kRow Sp1).av s)]=twiceG1_T f0 f1 f2 s:=by kernel_rfl
theorem twiceG1_sat (f0:Fp->Fp->Fp) (f1:Fp->Fp->Fp) (f2:Fp->Fp->Fp) (s:Sp1):(twiceG1_T f0 f1 f2 s).sat fun q=>q=some (twiceG1_G f0 f1 f2 s):=(show some _=some _ from rfl)
def twiceG1 (s:Sp1):Sp1:=twiceG1_G halfF addF subF s
theorem twiceG1_ok:CallOk Tryz.prog 110 (K1 (kRow Sp1).arg (kRow Sp1).rs.res twiceG1) :=
 P1 (En_ok (.cons half_ok (.cons add_ok (.cons sub_ok .nil)))) Tryz.func110 (bodied Tryz.func110 (by kernel_rfl) (by kernel_rfl)) 300 (kRow Sp1) (kRow Sp1).rs twiceG1 (twiceG1_run halfF addF subF) (twiceG1_sat halfF addF subF)
def plusG1_G (f0:Fp->Bool) (f1:Fp->Fp->Fp) (f2:Fp->Fp->Fp) (f3:Sp1->Sp1) (f4:Fp->Fp->Fp) (s:Sp1) (t:Sp1):Sp1:=(match (f0 s.z) with | true=>(t) | false=>(match (f0 t.z) with | true=>(s) | false=>(match (f0 (f2 (f1 t.x (f1 s.z s.z)) (f1 s.x (f1 t.z t.z)))) with | true=>(match (f0 (f2 (f1 t.y (f1 (f1 s.z s.z) s.z)) (f1 s.y (f1 (f1 t.z t.z) t.z)))) with | true=>(f3 s) | false=>(zeroSp)) | false=>({ x:=f2 (f2 (f1 (f2 (f1 t.y (f1 (f1 s.z s.z) s.z)) (f1 s.y (f1 (f1 t.z t.z) t.z))) (f2 (f1 t.y (f1 (f1 s.z s.z) s.z)) (f1 s.y (f1 (f1 t.z t.z) t.z)))) (f1 (f1 (f2 (f1 t.x (f1 s.z s.z)) (f1 s.x (f1 t.z t.z))) (f2 (f1 t.x (f1 s.z s.z)) (f1 s.x (f1 t.z t.z)))) (f2 (f1 t.x (f1 s.z s.z)) (f1 s.x (f1 t.z t.z))))) (f4 (f1 (f1 s.x (f1 t.z t.z)) (f1 (f2 (f1 t.x (f1 s.z s.z)) (f1 s.x (f1 t.z t.z))) (f2 (f1 t.x (f1 s.z s.z)) (f1 s.x (f1 t.z t.z))))) (f1 (f1 s.x (f1 t.z t.z)) (f1 (f2 (f1 t.x (f1 s.z s.z)) (f1 s.x (f1 t.z t.z))) (f2 (f1 t.x (f1 s.z s.z)) (f1 s.x (f1 t.z t.z)))))),y:=f2 (f1 (f2 (f1 t.y (f1 (f1 s.z s.z) s.z)) (f1 s.y (f1 (f1 t.z t.z) t.z))) (f2 (f1 (f1 s.x (f1 t.z t.z)) (f1 (f2 (f1 t.x (f1 s.z s.z)) (f1 s.x (f1 t.z t.z))) (f2 (f1 t.x (f1 s.z s.z)) (f1 s.x (f1 t.z t.z))))) (f2 (f2 (f1 (f2 (f1 t.y (f1 (f1 s.z s.z) s.z)) (f1 s.y (f1 (f1 t.z t.z) t.z))) (f2 (f1 t.y (f1 (f1 s.z s.z) s.z)) (f1 s.y (f1 (f1 t.z t.z) t.z)))) (f1 (f1 (f2 (f1 t.x (f1 s.z s.z)) (f1 s.x (f1 t.z t.z))) (f2 (f1 t.x (f1 s.z s.z)) (f1 s.x (f1 t.z t.z)))) (f2 (f1 t.x (f1 s.z s.z)) (f1 s.x (f1 t.z t.z))))) (f4 (f1 (f1 s.x (f1 t.z t.z)) (f1 (f2 (f1 t.x (f1 s.z s.z)) (f1 s.x (f1 t.z t.z))) (f2 (f1 t.x (f1 s.z s.z)) (f1 s.x (f1 t.z t.z))))) (f1 (f1 s.x (f1 t.z t.z)) (f1 (f2 (f1 t.x (f1 s.z s.z)) (f1 s.x (f1 t.z t.z))) (f2 (f1 t.x (f1 s.z s.z)) (f1 s.x (f1 t.z t.z))))))))) (f1 (f1 s.y (f1 (f1 t.z t.z) t.z)) (f1 (f1 (f2 (f1 t.x (f1 s.z s.z)) (f1 s.x (f1 t.z t.z))) (f2 (f1 t.x (f1 s.z s.z)) (f1 s.x (f1 t.z t.z)))) (f2 (f1 t.x (f1 s.z s.z)) (f1 s.x (f1 t.z t.z))))),z:=f1 (f1 s.z t.z) (f2 (f1 t.x (f1 s.z s.z)) (f1 s.x (f1 t.z t.z))) }))))
def plusG1_T (f0:Fp->Bool) (f1:Fp->Fp->Fp) (f2:Fp->Fp->Fp) (f3:Sp1->Sp1) (f4:Fp->Fp->Fp) (s:Sp1) (t:Sp1):Tree (Option (Sp1)):=letI za':=f2 (f1 t.x (f1 s.z s.z)) (f1 s.x (f1 t.z t.z));letI zb':=f2 (f1 t.y (f1 (f1 s.z s.z) s.z)) (f1 s.y (f1 (f1 t.z t.z) t.z));letI zc':=f1 (f1 s.x (f1 t.z t.z)) (f1 za' za');letI zd':=f2 (f1 zb' zb') (f1 (f1 za' za') za');letI ze':=f1 (f1 s.y (f1 (f1 t.z t.z) t.z)) (f1 (f1 za' za') za');letI zf':=f1 zb' (f2 zc' (f2 zd' (f4 zc' zc')));
 (.br (f0 s.z) (.leaf (some (t))) (.br (f0 t.z) (.leaf (some (s))) (.br (f0 za') (.br (f0 zb') (.leaf (some (f3 s))) (.br (f0 za') (.leaf (some (zeroSp))) (.leaf (some ({ x:=f2 zd' (f4 zc' zc'),y:=f2 zf' ze',z:=f1 (f1 s.z t.z) za' }))))) (.br (f0 za') (.leaf (some (zeroSp))) (.leaf (some ({ x:=f2 zd' (f4 zc' zc'),y:=f2 zf' ze',z:=f1 (f1 s.z t.z) za' })))))))
theorem plusG1_run (f0:Fp->Bool) (f1:Fp->Fp->Fp) (f2:Fp->Fp->Fp) (f3:Sp1->Sp1) (f4:Fp->Fp->Fp) (s:Sp1) (t:Sp1):plainRun (En [(117,K1 (kRow Fp).arg kBool.rs.res f0),(152,Kff f1),(131,Kff f2),(110,K1 (kRow Sp1).arg (kRow Sp1).rs.res f3),(90,Kff f4)]) (kRow Sp1).rs 300 Tryz.f111 [.one ((kRow Sp1).av s),.one ((kRow Sp1).av t)]=plusG1_T f0 f1 f2 f3 f4 s t:=by kernel_rfl
theorem plusG1_sat (f0:Fp->Bool) (f1:Fp->Fp->Fp) (f2:Fp->Fp->Fp) (f3:Sp1->Sp1) (f4:Fp->Fp->Fp) (s:Sp1) (t:Sp1):(plusG1_T f0 f1 f2 f3 f4 s t).sat fun q=>q=some (plusG1_G f0 f1 f2 f3 f4 s t):=⟨fun h0=>(show some _=some _ from congrArg some (by unfold plusG1_G;rw [h0])),fun h0=>⟨fun h1=>(show some _=some _ from congrArg some (by unfold plusG1_G;rw [h0,h1])),fun h1=>⟨fun h2=>⟨fun h3=>(show some _=some _ from congrArg some (by unfold plusG1_G;rw [h0,h1,h2,h3])),fun h3=>⟨fun _=>(show some _=some _ from congrArg some (by unfold plusG1_G;rw [h0,h1,h2,h3])),fun h4=>absurd (h2.symm.trans h4) (by decide)⟩⟩,fun h2=>⟨fun h3=>absurd (h2.symm.trans h3) (by decide),fun _=>(show some _=some _ from congrArg some (by unfold plusG1_G;rw [h0,h1,h2]))⟩⟩⟩⟩
def plusG1 (s:Sp1) (t:Sp1):Sp1:=plusG1_G zeroG1 halfF subF twiceG1 addF s t
theorem plusG1_ok:CallOk Tryz.prog 111 (K2 (kRow Sp1).arg (kRow Sp1).arg (kRow Sp1).rs.res plusG1) :=
 P2 (En_ok (.cons zeroG1_ok (.cons half_ok (.cons sub_ok (.cons twiceG1_ok (.cons add_ok .nil)))))) Tryz.func111 (bodied Tryz.func111 (by kernel_rfl) (by kernel_rfl)) 300 (kRow Sp1) (kRow Sp1) (kRow Sp1).rs plusG1 (plusG1_run zeroG1 halfF subF twiceG1 addF) (plusG1_sat zeroG1 halfF subF twiceG1 addF)
def negG1_G (f0:Fp->Fp) (p:Pg1):Pg1:=(match (p.inf) with | true=>(p) | false=>({ x:=p.x,y:=f0 p.y,inf:=false }))
def negG1_T (f0:Fp->Fp) (p:Pg1):Tree (Option (Pg1)) :=
 (.br (p.inf)
  (.leaf (some (p)))
  (.leaf (some ({ x:=p.x,y:=f0 p.y,inf:=false }))))
theorem negG1_run (f0:Fp->Fp) (p:Pg1):plainRun (En [(68,Kf f0)]) (kRow Pg1).rs 300 Tryz.f35 [.one ((kRow Pg1).av p)]=negG1_T f0 p:=by kernel_rfl
theorem negG1_sat (f0:Fp->Fp) (p:Pg1):(negG1_T f0 p).sat fun q=>q=some (negG1_G f0 p):=⟨fun h0=>(show some _=some _ from congrArg some (by unfold negG1_G;rw [h0])),fun h0=>(show some _=some _ from congrArg some (by unfold negG1_G;rw [h0]))⟩
def negG1 (p:Pg1):Pg1:=negG1_G negF p
theorem negG1_ok:CallOk Tryz.prog 35 (K1 (kRow Pg1).arg (kRow Pg1).rs.res negG1) :=
 P1 (En_ok (.cons neg_ok .nil)) Tryz.func35 (bodied Tryz.func35 (by kernel_rfl) (by kernel_rfl)) 300 (kRow Pg1) (kRow Pg1).rs negG1 (negG1_run negF) (negG1_sat negF)
def eqG1_G (a:Pg1) (b:Pg1):Bool:=((pg1Eq (a) (b)))
def eqG1_T (a:Pg1) (b:Pg1):Tree (Option (Bool)) :=
 (.leaf (some ((pg1Eq (a) (b)))))
theorem eqG1_run (a:Pg1) (b:Pg1):plainRun (En []) kBool.rs 300 Tryz.f33 [.one ((kRow Pg1).av a),.one ((kRow Pg1).av b)]=eqG1_T a b:=by kernel_rfl
theorem eqG1_sat (a:Pg1) (b:Pg1):(eqG1_T a b).sat fun q=>q=some (eqG1_G a b):=(show some _=some _ from rfl)
def eqG1 (a:Pg1) (b:Pg1):Bool:=eqG1_G  a b
theorem eqG1_ok:CallOk Tryz.prog 33 (K2 (kRow Pg1).arg (kRow Pg1).arg kBool.rs.res eqG1) :=
 P2 (En_ok .nil) Tryz.func33 (bodied Tryz.func33 (by kernel_rfl) (by kernel_rfl)) 300 (kRow Pg1) (kRow Pg1) kBool.rs eqG1 (eqG1_run ) (eqG1_sat )
end
section
def pw2St (e:List UInt64) (x o:Fp2) (z:Int):St:=mkSt 39 [(1,inV 0 e),(4,ptrV 1),(5,ptrV 2),(6,ptrV 3),(7,vI z)] [inHE eU64 e,own 31 (zeros 12),own 31 (Row.cs x),own 31 (Row.cs o)]
def tPw2 (wF:Fp2->Fp2) (hF:Fp2->Fp2->Fp2) (lF:Fp2->Fp2):Table := [(107,Kp1 wF),(157,Kp2 hF),(104,Kp1 lF)]
theorem pw2_front (T:Table) (a:Fp2) (e:List UInt64):stageT (En T) 100 ((flat (codeOf Tryz.f176)).take 1) (startSt Tryz.f176 [vF2 a,iL.av 0 e] [inHE eU64 e]) [1,2,4] [0,1,2] = .leaf (mkSt 39 [(1,inV 0 e),(2,ptrV 1),(4,ptrV 2)] [inHE eU64 e,own 31 (Row.cs a),own 31 (zeros 12)]):=by kernel_rfl
theorem pw2_start (hF:Fp2->Fp2->Fp2) (wF lF:Fp2->Fp2) (a:Fp2) (e:List UInt64):stageT (En (tPw2 wF hF lF)) 100 ((flat (scopeOf Tryz.f176)).take 3) (mkSt 39 [(1,inV 0 e),(2,ptrV 1),(4,ptrV 2)] [inHE eU64 e,own 31 (Row.cs a),own 31 (zeros 12)]) [1,4,5,6,7] [0,2,3,4] = .vc (0+e.length*1<=(eU64.body e).cells.length/\0<1) (.leaf (pw2St e (wF a) (wF oneFp2) (IntKind.i64.wrap (64*e.length)))):=by kernel_rfl
theorem pw2_iter (hF:Fp2->Fp2->Fp2) (wF lF:Fp2->Fp2) (x o:Fp2) (e:List UInt64) (z:Int):letI za':=IntKind.i64.wrap (z-1);iterT (En (tPw2 wF hF lF)) oF2 100 Tryz.f176 ((flat (scopeOf Tryz.f176)).drop 3) (pw2St e x o z) [1,4,5,6,7] [0,1,2,3] = .br (decide (IntKind.i64.wrap (z-1)<0)) (.leaf (.inr (some (lF o,.t)))) (.vc ((0<=quoZ z/\quoZ z<e.length)/\0+e.length*1<=(eU64.body e).cells.length/\0<1) (.vc (0+(quoZ z).toNat*1<e.length) (.br (bitZ e z) (.leaf (.inl (.goto 0,pw2St e x (hF (hF o o) x) za'))) (.leaf (.inl (.goto 0,pw2St e x (hF o o) za')))))):=by kernel_rfl
def pw2At (x:Fp2) (e:List UInt64):Nat->Fp2->Fp2
 | 0,o=>lowF2 o
 | n+1,o=>pw2At x e n (match bitAt e n with | true=>halfF2 (halfF2 o o) x | false=>halfF2 o o)
def powF2 (a:Fp2) (e:List UInt64):Fp2:=pw2At (wholeF2 a) e (64*e.length) (wholeF2 oneFp2)
abbrev Pw2Ok (a:Fp2) (e:List UInt64):Type := { q:Int × Fp2 // 0<=q.1/\q.1<=64*e.length/\pw2At (wholeF2 a) e q.1.toNat q.2=powF2 a e }
def pw2I (a:Fp2) (e:List UInt64) (q:Pw2Ok a e):St:=pw2St e (wholeF2 a) q.1.2 q.1.1
theorem pw2_ok:CallOk Tryz.prog 176 (K2 (kRow Fp2).arg aL rF2.res powF2) :=
 G2 (E:=En (tPw2 wholeF2 halfF2 lowF2)) Tryz.func176 (c:=codeOf Tryz.f176) (by kernel_rfl) (bodied Tryz.func176 (by kernel_rfl) (by kernel_rfl)) (kRow Fp2).inp iL oF2 powF2 fun a e _ he=>by
  have hE:EnvOk (En (tPw2 wholeF2 halfF2 lowF2)):=En_ok (.cons wholeF2_ok (.cons halfF2_ok (.cons lowF2_ok .nil)))
  have he:e.length<1125899906842624:=he
  have hw:IntKind.i64.wrap (64*(e.length:Int))=64*(e.length:Int):=IntWalk.i64_in _ (by omega)
  refine DoesL.stageE hE 100 1 [1,2,4] [0,1,2] (pw2_front _ a e) ?_
  refine DoesL.scopeFn (body:=scopeOf Tryz.f176) (rest:=restOf Tryz.f176) (tail := []) (l:=0) hE (by kernel_rfl) (by kernel_rfl) 100 3 (by kernel_rfl) [1,4,5,6,7] [0,2,3,4] (pw2I a e) (fun q=>q.1.1.toNat)
   ⟨(64*(e.length:Int),wholeF2 oneFp2),by simp only [];omega,by simp only [];omega,by rw [show ((64*(e.length:Int),wholeF2 oneFp2):Int × Fp2).1.toNat=64*e.length by simp only [];omega];simp only [powF2]⟩
   (pw2_start halfF2 wholeF2 lowF2 a e) ⟨⟨by rw [cells_len];omega,by decide⟩,fun _=>by rw [hw];exact Tree.sat_leaf (by simp only [pw2I])⟩ fun q => ?_
  obtain ⟨⟨z,o⟩,h0,h1,h2⟩:=q
  simp only [] at h0 h1 h2
  have hz:IntKind.i64.wrap (z-1)=z-1:=IntWalk.i64_in _ (by omega)
  refine DoesL.iter hE 100 [1,4,5,6,7] [0,1,2,3] (pw2_iter halfF2 wholeF2 lowF2 (wholeF2 a) o e z) ?_
  rw [hz]
  refine ⟨fun h => ?_,fun h => ?_⟩
  ·simp only [decide_eq_true_eq] at h
   obtain rfl:z=0:=by omega
   exact ⟨.t,by rw [<- h2];rfl,trivial⟩
  ·simp only [decide_eq_false_iff_not] at h
   obtain ⟨n,rfl⟩ : ∃ n:Nat,z=(n:Int)+1:=⟨(z-1).toNat,by omega⟩
   rw [quoZ_nat n (by omega),bitZ_nat e n (by omega)]
   rw [show ((n:Int)+1).toNat=n+1 by omega] at h2
   simp only [pw2At] at h2
   refine ⟨⟨⟨by omega,by omega⟩,by rw [cells_len];omega,by decide⟩,fun _=>⟨by omega,fun _=>⟨fun h3 => ?_,fun h3 => ?_⟩⟩⟩
   all_goals
    have hn:((n:Int)+1-1).toNat=n:=by omega
    rw [h3] at h2
    simp only [] at h2
   ·refine ⟨rfl,⟨((n:Int)+1-1,halfF2 (halfF2 o o) (wholeF2 a)),?_,?_,?_⟩,?_,by simp only [pw2I]⟩
    ·show 0<=(n:Int)+1-1;omega
    ·show (n:Int)+1-1<=64*e.length;omega
    ·simpa only [hn] using h2
    ·show ((n:Int)+1-1).toNat<((n:Int)+1).toNat;omega
   ·refine ⟨rfl,⟨((n:Int)+1-1,halfF2 o o),?_,?_,?_⟩,?_,by simp only [pw2I]⟩
    ·show 0<=(n:Int)+1-1;omega
    ·show (n:Int)+1-1<=64*e.length;omega
    ·simpa only [hn] using h2
    ·show ((n:Int)+1-1).toNat<((n:Int)+1).toNat;omega
end
section
def oneG2_G  : Pg2:=({ x := { c0 := { l0:=UInt64.ofNat 15312334153293348280,l1:=UInt64.ofNat 841050694974028783,l2:=UInt64.ofNat 12993178926126977399,l3:=UInt64.ofNat 14331714969349929730,l4:=UInt64.ofNat 2740446039084699729,l5:=UInt64.ofNat 165123225776229009 },c1 := { l0:=UInt64.ofNat 16549740192668593022,l1:=UInt64.ofNat 3696594454104530263,l2:=UInt64.ofNat 13103893525273989193,l3:=UInt64.ofNat 6443473286224459290,l4:=UInt64.ofNat 9055845637167730533,l5:=UInt64.ofNat 1432192374203850592 } },y := { c0 := { l0:=UInt64.ofNat 16254428414758889473,l1:=UInt64.ofNat 10536956157198377609,l2:=UInt64.ofNat 7873024875724591404,l3:=UInt64.ofNat 12537348094477325223,l4:=UInt64.ofNat 10144865889576432922,l5:=UInt64.ofNat 929383263523139089 },c1 := { l0:=UInt64.ofNat 12297368366147926462,l1:=UInt64.ofNat 4555124010822409633,l2:=UInt64.ofNat 2771000935339432363,l3:=UInt64.ofNat 14645187562128761775,l4:=UInt64.ofNat 3651525051980876697,l5:=UInt64.ofNat 434250606344352972 } },inf:=false })
def oneG2_T  : Tree (Option (Pg2)) :=
 (.leaf (some ({ x := { c0 := { l0:=UInt64.ofNat 15312334153293348280,l1:=UInt64.ofNat 841050694974028783,l2:=UInt64.ofNat 12993178926126977399,l3:=UInt64.ofNat 14331714969349929730,l4:=UInt64.ofNat 2740446039084699729,l5:=UInt64.ofNat 165123225776229009 },c1 := { l0:=UInt64.ofNat 16549740192668593022,l1:=UInt64.ofNat 3696594454104530263,l2:=UInt64.ofNat 13103893525273989193,l3:=UInt64.ofNat 6443473286224459290,l4:=UInt64.ofNat 9055845637167730533,l5:=UInt64.ofNat 1432192374203850592 } },y := { c0 := { l0:=UInt64.ofNat 16254428414758889473,l1:=UInt64.ofNat 10536956157198377609,l2:=UInt64.ofNat 7873024875724591404,l3:=UInt64.ofNat 12537348094477325223,l4:=UInt64.ofNat 10144865889576432922,l5:=UInt64.ofNat 929383263523139089 },c1 := { l0:=UInt64.ofNat 12297368366147926462,l1:=UInt64.ofNat 4555124010822409633,l2:=UInt64.ofNat 2771000935339432363,l3:=UInt64.ofNat 14645187562128761775,l4:=UInt64.ofNat 3651525051980876697,l5:=UInt64.ofNat 434250606344352972 } },inf:=false })))
theorem oneG2_run  : plainRun (En []) (kRow Pg2).rs 300 Tryz.f27 []=oneG2_T  := by kernel_rfl
theorem oneG2_sat  : (oneG2_T ).sat fun q=>q=some (oneG2_G ):=(show some _=some _ from rfl)
def oneG2  : Pg2:=oneG2_G
theorem oneG2_ok:CallOk Tryz.prog 27 (K0 (kRow Pg2).rs.res oneG2) :=
 P0 (En_ok .nil) Tryz.func27 (bodied Tryz.func27 (by kernel_rfl) (by kernel_rfl)) 300  (kRow Pg2).rs oneG2 (oneG2_run ) (oneG2_sat )
def rhsG2_G (f0:Fp2->Fp2->Fp2) (f1:Fp2->Fp2->Fp2) (x:Fp2):Fp2:=(f0 (f1 (f1 x x) x) { c0 := { l0:=UInt64.ofNat 4,l1:=UInt64.ofNat 0,l2:=UInt64.ofNat 0,l3:=UInt64.ofNat 0,l4:=UInt64.ofNat 0,l5:=UInt64.ofNat 0 },c1 := { l0:=UInt64.ofNat 4,l1:=UInt64.ofNat 0,l2:=UInt64.ofNat 0,l3:=UInt64.ofNat 0,l4:=UInt64.ofNat 0,l5:=UInt64.ofNat 0 } })
def rhsG2_T (f0:Fp2->Fp2->Fp2) (f1:Fp2->Fp2->Fp2) (x:Fp2):Tree (Option (Fp2)):=letI za':Fp := { l0:=UInt64.ofNat 4,l1:=UInt64.ofNat 0,l2:=UInt64.ofNat 0,l3:=UInt64.ofNat 0,l4:=UInt64.ofNat 0,l5:=UInt64.ofNat 0 };
 (.leaf (some (f0 (f1 (f1 x x) x) { c0:=za',c1:=za' })))
theorem rhsG2_run (f0:Fp2->Fp2->Fp2) (f1:Fp2->Fp2->Fp2) (x:Fp2):plainRun (En [(94,K2 (kRow Fp2).arg (kRow Fp2).arg (kRow Fp2).rs.res f0),(95,K2 (kRow Fp2).arg (kRow Fp2).arg (kRow Fp2).rs.res f1)]) (kRow Fp2).rs 300 Tryz.f167 [.one ((kRow Fp2).av x)]=rhsG2_T f0 f1 x:=by kernel_rfl
theorem rhsG2_sat (f0:Fp2->Fp2->Fp2) (f1:Fp2->Fp2->Fp2) (x:Fp2):(rhsG2_T f0 f1 x).sat fun q=>q=some (rhsG2_G f0 f1 x):=(show some _=some _ from rfl)
def rhsG2 (x:Fp2):Fp2:=rhsG2_G addF2 mulF2 x
theorem rhsG2_ok:CallOk Tryz.prog 167 (K1 (kRow Fp2).arg (kRow Fp2).rs.res rhsG2) :=
 P1 (En_ok (.cons addF2_ok (.cons mulF2_ok .nil))) Tryz.func167 (bodied Tryz.func167 (by kernel_rfl) (by kernel_rfl)) 300 (kRow Fp2) (kRow Fp2).rs rhsG2 (rhsG2_run addF2 mulF2) (rhsG2_sat addF2 mulF2)
def onG2_G (f0:Fp2->Bool) (f1:Fp2->Fp2->Fp2) (f2:Fp2->Fp2) (p:Pg2):Bool:=(match (p.inf) with | true=>((pg2Eq (p) (infG2))) | false=>(match (f0 p.x) with | true=>(match (f0 p.y) with | true=>((fp2Eq (f1 p.y p.y) (f2 p.x))) | false=>((false))) | false=>((false))))
def onG2_T (f0:Fp2->Bool) (f1:Fp2->Fp2->Fp2) (f2:Fp2->Fp2) (p:Pg2):Tree (Option (Bool)) :=
 (.br (p.inf) (.leaf (some ((pg2Eq (p) (infG2))))) (.br (f0 p.x) (.br (f0 p.y) (.leaf (some ((fp2Eq (f1 p.y p.y) (f2 p.x))))) (.leaf (some ((false))))) (.leaf (some ((false))))))
theorem onG2_run (f0:Fp2->Bool) (f1:Fp2->Fp2->Fp2) (f2:Fp2->Fp2) (p:Pg2):plainRun (En [(166,K1 (kRow Fp2).arg kBool.rs.res f0),(95,K2 (kRow Fp2).arg (kRow Fp2).arg (kRow Fp2).rs.res f1),(167,K1 (kRow Fp2).arg (kRow Fp2).rs.res f2)]) kBool.rs 300 Tryz.f119 [.one ((kRow Pg2).av p)]=onG2_T f0 f1 f2 p:=by kernel_rfl
theorem onG2_sat (f0:Fp2->Bool) (f1:Fp2->Fp2->Fp2) (f2:Fp2->Fp2) (p:Pg2):(onG2_T f0 f1 f2 p).sat fun q=>q=some (onG2_G f0 f1 f2 p):=⟨fun h0=>(show some _=some _ from congrArg some (by unfold onG2_G;rw [h0])),fun h0=>⟨fun h1=>⟨fun h2=>(show some _=some _ from congrArg some (by unfold onG2_G;rw [h0,h1,h2])),fun h2=>(show some _=some _ from congrArg some (by unfold onG2_G;rw [h0,h1,h2]))⟩,fun h1=>(show some _=some _ from congrArg some (by unfold onG2_G;rw [h0,h1]))⟩⟩
def onG2 (p:Pg2):Bool:=onG2_G mayF2 mulF2 rhsG2 p
theorem onG2_ok:CallOk Tryz.prog 119 (K1 (kRow Pg2).arg kBool.rs.res onG2) :=
 P1 (En_ok (.cons mayF2_ok (.cons mulF2_ok (.cons rhsG2_ok .nil)))) Tryz.func119 (bodied Tryz.func119 (by kernel_rfl) (by kernel_rfl)) 300 (kRow Pg2) kBool.rs onG2 (onG2_run mayF2 mulF2 rhsG2) (onG2_sat mayF2 mulF2 rhsG2)
def liftG2_G (f0:Fp2->Fp2) (p:Pg2):Fp6:=(match (p.inf) with | true=>(zeroFp6) | false=>({ c0:=f0 p.x,c1:=f0 p.y,c2:=f0 oneFp2 }))
def liftG2_T (f0:Fp2->Fp2) (p:Pg2):Tree (Option (Fp6)) :=
 (.br (p.inf)
  (.leaf (some (zeroFp6)))
  (.leaf (some ({ c0:=f0 p.x,c1:=f0 p.y,c2:=f0 oneFp2 }))))
theorem liftG2_run (f0:Fp2->Fp2) (p:Pg2):plainRun (En [(107,K1 (kRow Fp2).arg (kRow Fp2).rs.res f0)]) (kRow Fp6).rs 300 Tryz.f55 [.one ((kRow Pg2).av p)]=liftG2_T f0 p:=by kernel_rfl
theorem liftG2_sat (f0:Fp2->Fp2) (p:Pg2):(liftG2_T f0 p).sat fun q=>q=some (liftG2_G f0 p):=⟨fun h0=>(show some _=some _ from congrArg some (by unfold liftG2_G;rw [h0])),fun h0=>(show some _=some _ from congrArg some (by unfold liftG2_G;rw [h0]))⟩
def liftG2 (p:Pg2):Fp6:=liftG2_G wholeF2 p
theorem liftG2_ok:CallOk Tryz.prog 55 (K1 (kRow Pg2).arg (kRow Fp6).rs.res liftG2) :=
 P1 (En_ok (.cons wholeF2_ok .nil)) Tryz.func55 (bodied Tryz.func55 (by kernel_rfl) (by kernel_rfl)) 300 (kRow Pg2) (kRow Fp6).rs liftG2 (liftG2_run wholeF2) (liftG2_sat wholeF2)
def zeroG2_G (a:Fp2):Bool:=((fp2Eq (a) (zeroFp2)))
def zeroG2_T (a:Fp2):Tree (Option (Bool)) :=
 (.leaf (some ((fp2Eq (a) (zeroFp2)))))
theorem zeroG2_run (a:Fp2):plainRun (En []) kBool.rs 300 Tryz.f120 [.one ((kRow Fp2).av a)]=zeroG2_T a:=by kernel_rfl
theorem zeroG2_sat (a:Fp2):(zeroG2_T a).sat fun q=>q=some (zeroG2_G a):=(show some _=some _ from rfl)
def zeroG2 (a:Fp2):Bool:=zeroG2_G  a
theorem zeroG2_ok:CallOk Tryz.prog 120 (K1 (kRow Fp2).arg kBool.rs.res zeroG2) :=
 P1 (En_ok .nil) Tryz.func120 (bodied Tryz.func120 (by kernel_rfl) (by kernel_rfl)) 300 (kRow Fp2) kBool.rs zeroG2 (zeroG2_run ) (zeroG2_sat )
def laysG2_G (f0:Fp2->Fp2 × Int) (f1:Fp2->Fp2) (f2:Fp2->Fp2->Fp2) (s:Fp6):Pg2:=(match ((f0 (f1 s.c2)).snd != 0) with | true=>(infG2) | false=>({ x:=f2 (f1 s.c0) (f2 (f0 (f1 s.c2)).fst (f0 (f1 s.c2)).fst),y:=f2 (f1 s.c1) (f2 (f2 (f0 (f1 s.c2)).fst (f0 (f1 s.c2)).fst) (f0 (f1 s.c2)).fst),inf:=false }))
def laysG2_T (f0:Fp2->Fp2 × Int) (f1:Fp2->Fp2) (f2:Fp2->Fp2->Fp2) (s:Fp6):Tree (Option (Pg2)):=letI za':=f0 (f1 s.c2);letI zb':=f2 za'.fst za'.fst;
 (.br (za'.snd != 0) (.leaf (some (infG2))) (.leaf (some ({ x:=f2 (f1 s.c0) zb',y:=f2 (f1 s.c1) (f2 zb' za'.fst),inf:=false }))))
theorem laysG2_run (f0:Fp2->Fp2 × Int) (f1:Fp2->Fp2) (f2:Fp2->Fp2->Fp2) (s:Fp6):plainRun (En [(103,K1 (kRow Fp2).arg ((kRow Fp2).rs2 kInt).res f0),(104,K1 (kRow Fp2).arg (kRow Fp2).rs.res f1),(95,K2 (kRow Fp2).arg (kRow Fp2).arg (kRow Fp2).rs.res f2)]) (kRow Pg2).rs 300 Tryz.f53 [.one ((kRow Fp6).av s)]=laysG2_T f0 f1 f2 s:=by kernel_rfl
theorem laysG2_sat (f0:Fp2->Fp2 × Int) (f1:Fp2->Fp2) (f2:Fp2->Fp2->Fp2) (s:Fp6):(laysG2_T f0 f1 f2 s).sat fun q=>q=some (laysG2_G f0 f1 f2 s):=⟨fun h0=>(show some _=some _ from congrArg some (by unfold laysG2_G;rw [h0])),fun h0=>(show some _=some _ from congrArg some (by unfold laysG2_G;rw [h0]))⟩
def laysG2 (s:Fp6):Pg2:=laysG2_G invF2 lowF2 mulF2 s
theorem laysG2_ok:CallOk Tryz.prog 53 (K1 (kRow Fp6).arg (kRow Pg2).rs.res laysG2) :=
 P1 (En_ok (.cons invF2_ok (.cons lowF2_ok (.cons mulF2_ok .nil)))) Tryz.func53 (bodied Tryz.func53 (by kernel_rfl) (by kernel_rfl)) 300 (kRow Fp6) (kRow Pg2).rs laysG2 (laysG2_run invF2 lowF2 mulF2) (laysG2_sat invF2 lowF2 mulF2)
def twiceG2_G (f0:Fp2->Fp2->Fp2) (f1:Fp2->Fp2->Fp2) (f2:Fp2->Fp2->Fp2) (s:Fp6):Fp6:=({ c0:=f2 (f0 (f1 (f1 (f0 s.c0 s.c0) (f0 s.c0 s.c0)) (f0 s.c0 s.c0)) (f1 (f1 (f0 s.c0 s.c0) (f0 s.c0 s.c0)) (f0 s.c0 s.c0))) (f1 (f1 (f1 (f0 s.c0 (f0 s.c1 s.c1)) (f0 s.c0 (f0 s.c1 s.c1))) (f1 (f0 s.c0 (f0 s.c1 s.c1)) (f0 s.c0 (f0 s.c1 s.c1)))) (f1 (f1 (f0 s.c0 (f0 s.c1 s.c1)) (f0 s.c0 (f0 s.c1 s.c1))) (f1 (f0 s.c0 (f0 s.c1 s.c1)) (f0 s.c0 (f0 s.c1 s.c1))))),c1:=f2 (f0 (f1 (f1 (f0 s.c0 s.c0) (f0 s.c0 s.c0)) (f0 s.c0 s.c0)) (f2 (f1 (f1 (f0 s.c0 (f0 s.c1 s.c1)) (f0 s.c0 (f0 s.c1 s.c1))) (f1 (f0 s.c0 (f0 s.c1 s.c1)) (f0 s.c0 (f0 s.c1 s.c1)))) (f2 (f0 (f1 (f1 (f0 s.c0 s.c0) (f0 s.c0 s.c0)) (f0 s.c0 s.c0)) (f1 (f1 (f0 s.c0 s.c0) (f0 s.c0 s.c0)) (f0 s.c0 s.c0))) (f1 (f1 (f1 (f0 s.c0 (f0 s.c1 s.c1)) (f0 s.c0 (f0 s.c1 s.c1))) (f1 (f0 s.c0 (f0 s.c1 s.c1)) (f0 s.c0 (f0 s.c1 s.c1)))) (f1 (f1 (f0 s.c0 (f0 s.c1 s.c1)) (f0 s.c0 (f0 s.c1 s.c1))) (f1 (f0 s.c0 (f0 s.c1 s.c1)) (f0 s.c0 (f0 s.c1 s.c1)))))))) (f1 (f1 (f1 (f0 (f0 s.c1 s.c1) (f0 s.c1 s.c1)) (f0 (f0 s.c1 s.c1) (f0 s.c1 s.c1))) (f1 (f0 (f0 s.c1 s.c1) (f0 s.c1 s.c1)) (f0 (f0 s.c1 s.c1) (f0 s.c1 s.c1)))) (f1 (f1 (f0 (f0 s.c1 s.c1) (f0 s.c1 s.c1)) (f0 (f0 s.c1 s.c1) (f0 s.c1 s.c1))) (f1 (f0 (f0 s.c1 s.c1) (f0 s.c1 s.c1)) (f0 (f0 s.c1 s.c1) (f0 s.c1 s.c1))))),c2:=f1 (f0 s.c1 s.c2) (f0 s.c1 s.c2) })
def twiceG2_T (f0:Fp2->Fp2->Fp2) (f1:Fp2->Fp2->Fp2) (f2:Fp2->Fp2->Fp2) (s:Fp6):Tree (Option (Fp6)):=letI za':=f1 (f0 s.c0 (f0 s.c1 s.c1)) (f0 s.c0 (f0 s.c1 s.c1));letI zb':=f0 (f0 s.c1 s.c1) (f0 s.c1 s.c1);letI zc':=f1 (f1 (f0 s.c0 s.c0) (f0 s.c0 s.c0)) (f0 s.c0 s.c0);letI zd':=f1 (f1 za' za') (f1 za' za');letI ze':=f1 (f1 zb' zb') (f1 zb' zb');
 (.leaf (some ({ c0:=f2 (f0 zc' zc') zd',c1:=f2 (f0 zc' (f2 (f1 za' za') (f2 (f0 zc' zc') zd'))) (f1 ze' ze'),c2:=f1 (f0 s.c1 s.c2) (f0 s.c1 s.c2) })))
theorem twiceG2_run (f0:Fp2->Fp2->Fp2) (f1:Fp2->Fp2->Fp2) (f2:Fp2->Fp2->Fp2) (s:Fp6):plainRun (En [(157,K2 (kRow Fp2).arg (kRow Fp2).arg (kRow Fp2).rs.res f0),(94,K2 (kRow Fp2).arg (kRow Fp2).arg (kRow Fp2).rs.res f1),(163,K2 (kRow Fp2).arg (kRow Fp2).arg (kRow Fp2).rs.res f2)]) (kRow Fp6).rs 300 Tryz.f105 [.one ((kRow Fp6).av s)]=twiceG2_T f0 f1 f2 s:=by kernel_rfl
theorem twiceG2_sat (f0:Fp2->Fp2->Fp2) (f1:Fp2->Fp2->Fp2) (f2:Fp2->Fp2->Fp2) (s:Fp6):(twiceG2_T f0 f1 f2 s).sat fun q=>q=some (twiceG2_G f0 f1 f2 s):=(show some _=some _ from rfl)
def twiceG2 (s:Fp6):Fp6:=twiceG2_G halfF2 addF2 subF2 s
theorem twiceG2_ok:CallOk Tryz.prog 105 (K1 (kRow Fp6).arg (kRow Fp6).rs.res twiceG2) :=
 P1 (En_ok (.cons halfF2_ok (.cons addF2_ok (.cons subF2_ok .nil)))) Tryz.func105 (bodied Tryz.func105 (by kernel_rfl) (by kernel_rfl)) 300 (kRow Fp6) (kRow Fp6).rs twiceG2 (twiceG2_run halfF2 addF2 subF2) (twiceG2_sat halfF2 addF2 subF2)
def plusG2_G (f0:Fp2->Bool) (f1:Fp2->Fp2->Fp2) (f2:Fp2->Fp2->Fp2) (f3:Fp6->Fp6) (f4:Fp2->Fp2->Fp2) (s:Fp6) (t:Fp6):Fp6:=(match (f0 s.c2) with | true=>(t) | false=>(match (f0 t.c2) with | true=>(s) | false=>(match (f0 (f2 (f1 t.c0 (f1 s.c2 s.c2)) (f1 s.c0 (f1 t.c2 t.c2)))) with | true=>(match (f0 (f2 (f1 t.c1 (f1 (f1 s.c2 s.c2) s.c2)) (f1 s.c1 (f1 (f1 t.c2 t.c2) t.c2)))) with | true=>(f3 s) | false=>(zeroFp6)) | false=>({ c0:=f2 (f2 (f1 (f2 (f1 t.c1 (f1 (f1 s.c2 s.c2) s.c2)) (f1 s.c1 (f1 (f1 t.c2 t.c2) t.c2))) (f2 (f1 t.c1 (f1 (f1 s.c2 s.c2) s.c2)) (f1 s.c1 (f1 (f1 t.c2 t.c2) t.c2)))) (f1 (f1 (f2 (f1 t.c0 (f1 s.c2 s.c2)) (f1 s.c0 (f1 t.c2 t.c2))) (f2 (f1 t.c0 (f1 s.c2 s.c2)) (f1 s.c0 (f1 t.c2 t.c2)))) (f2 (f1 t.c0 (f1 s.c2 s.c2)) (f1 s.c0 (f1 t.c2 t.c2))))) (f4 (f1 (f1 s.c0 (f1 t.c2 t.c2)) (f1 (f2 (f1 t.c0 (f1 s.c2 s.c2)) (f1 s.c0 (f1 t.c2 t.c2))) (f2 (f1 t.c0 (f1 s.c2 s.c2)) (f1 s.c0 (f1 t.c2 t.c2))))) (f1 (f1 s.c0 (f1 t.c2 t.c2)) (f1 (f2 (f1 t.c0 (f1 s.c2 s.c2)) (f1 s.c0 (f1 t.c2 t.c2))) (f2 (f1 t.c0 (f1 s.c2 s.c2)) (f1 s.c0 (f1 t.c2 t.c2)))))),c1:=f2 (f1 (f2 (f1 t.c1 (f1 (f1 s.c2 s.c2) s.c2)) (f1 s.c1 (f1 (f1 t.c2 t.c2) t.c2))) (f2 (f1 (f1 s.c0 (f1 t.c2 t.c2)) (f1 (f2 (f1 t.c0 (f1 s.c2 s.c2)) (f1 s.c0 (f1 t.c2 t.c2))) (f2 (f1 t.c0 (f1 s.c2 s.c2)) (f1 s.c0 (f1 t.c2 t.c2))))) (f2 (f2 (f1 (f2 (f1 t.c1 (f1 (f1 s.c2 s.c2) s.c2)) (f1 s.c1 (f1 (f1 t.c2 t.c2) t.c2))) (f2 (f1 t.c1 (f1 (f1 s.c2 s.c2) s.c2)) (f1 s.c1 (f1 (f1 t.c2 t.c2) t.c2)))) (f1 (f1 (f2 (f1 t.c0 (f1 s.c2 s.c2)) (f1 s.c0 (f1 t.c2 t.c2))) (f2 (f1 t.c0 (f1 s.c2 s.c2)) (f1 s.c0 (f1 t.c2 t.c2)))) (f2 (f1 t.c0 (f1 s.c2 s.c2)) (f1 s.c0 (f1 t.c2 t.c2))))) (f4 (f1 (f1 s.c0 (f1 t.c2 t.c2)) (f1 (f2 (f1 t.c0 (f1 s.c2 s.c2)) (f1 s.c0 (f1 t.c2 t.c2))) (f2 (f1 t.c0 (f1 s.c2 s.c2)) (f1 s.c0 (f1 t.c2 t.c2))))) (f1 (f1 s.c0 (f1 t.c2 t.c2)) (f1 (f2 (f1 t.c0 (f1 s.c2 s.c2)) (f1 s.c0 (f1 t.c2 t.c2))) (f2 (f1 t.c0 (f1 s.c2 s.c2)) (f1 s.c0 (f1 t.c2 t.c2))))))))) (f1 (f1 s.c1 (f1 (f1 t.c2 t.c2) t.c2)) (f1 (f1 (f2 (f1 t.c0 (f1 s.c2 s.c2)) (f1 s.c0 (f1 t.c2 t.c2))) (f2 (f1 t.c0 (f1 s.c2 s.c2)) (f1 s.c0 (f1 t.c2 t.c2)))) (f2 (f1 t.c0 (f1 s.c2 s.c2)) (f1 s.c0 (f1 t.c2 t.c2))))),c2:=f1 (f1 s.c2 t.c2) (f2 (f1 t.c0 (f1 s.c2 s.c2)) (f1 s.c0 (f1 t.c2 t.c2))) }))))
def plusG2_T (f0:Fp2->Bool) (f1:Fp2->Fp2->Fp2) (f2:Fp2->Fp2->Fp2) (f3:Fp6->Fp6) (f4:Fp2->Fp2->Fp2) (s:Fp6) (t:Fp6):Tree (Option (Fp6)):=letI za':=f2 (f1 t.c0 (f1 s.c2 s.c2)) (f1 s.c0 (f1 t.c2 t.c2));letI zb':=f2 (f1 t.c1 (f1 (f1 s.c2 s.c2) s.c2)) (f1 s.c1 (f1 (f1 t.c2 t.c2) t.c2));letI zc':=f1 (f1 s.c0 (f1 t.c2 t.c2)) (f1 za' za');letI zd':=f2 (f1 zb' zb') (f1 (f1 za' za') za');letI ze':=f1 (f1 s.c1 (f1 (f1 t.c2 t.c2) t.c2)) (f1 (f1 za' za') za');letI zf':=f1 zb' (f2 zc' (f2 zd' (f4 zc' zc')));
 (.br (f0 s.c2) (.leaf (some (t))) (.br (f0 t.c2) (.leaf (some (s))) (.br (f0 za') (.br (f0 zb') (.leaf (some (f3 s))) (.br (f0 za') (.leaf (some (zeroFp6))) (.leaf (some ({ c0:=f2 zd' (f4 zc' zc'),c1:=f2 zf' ze',c2:=f1 (f1 s.c2 t.c2) za' }))))) (.br (f0 za') (.leaf (some (zeroFp6))) (.leaf (some ({ c0:=f2 zd' (f4 zc' zc'),c1:=f2 zf' ze',c2:=f1 (f1 s.c2 t.c2) za' })))))))
theorem plusG2_run (f0:Fp2->Bool) (f1:Fp2->Fp2->Fp2) (f2:Fp2->Fp2->Fp2) (f3:Fp6->Fp6) (f4:Fp2->Fp2->Fp2) (s:Fp6) (t:Fp6):plainRun (En [(120,K1 (kRow Fp2).arg kBool.rs.res f0),(157,K2 (kRow Fp2).arg (kRow Fp2).arg (kRow Fp2).rs.res f1),(163,K2 (kRow Fp2).arg (kRow Fp2).arg (kRow Fp2).rs.res f2),(105,K1 (kRow Fp6).arg (kRow Fp6).rs.res f3),(94,K2 (kRow Fp2).arg (kRow Fp2).arg (kRow Fp2).rs.res f4)]) (kRow Fp6).rs 300 Tryz.f106 [.one ((kRow Fp6).av s),.one ((kRow Fp6).av t)]=plusG2_T f0 f1 f2 f3 f4 s t:=by kernel_rfl
theorem plusG2_sat (f0:Fp2->Bool) (f1:Fp2->Fp2->Fp2) (f2:Fp2->Fp2->Fp2) (f3:Fp6->Fp6) (f4:Fp2->Fp2->Fp2) (s:Fp6) (t:Fp6):(plusG2_T f0 f1 f2 f3 f4 s t).sat fun q=>q=some (plusG2_G f0 f1 f2 f3 f4 s t):=⟨fun h0=>(show some _=some _ from congrArg some (by unfold plusG2_G;rw [h0])),fun h0=>⟨fun h1=>(show some _=some _ from congrArg some (by unfold plusG2_G;rw [h0,h1])),fun h1=>⟨fun h2=>⟨fun h3=>(show some _=some _ from congrArg some (by unfold plusG2_G;rw [h0,h1,h2,h3])),fun h3=>⟨fun _=>(show some _=some _ from congrArg some (by unfold plusG2_G;rw [h0,h1,h2,h3])),fun h4=>absurd (h2.symm.trans h4) (by decide)⟩⟩,fun h2=>⟨fun h3=>absurd (h2.symm.trans h3) (by decide),fun _=>(show some _=some _ from congrArg some (by unfold plusG2_G;rw [h0,h1,h2]))⟩⟩⟩⟩
def plusG2 (s:Fp6) (t:Fp6):Fp6:=plusG2_G zeroG2 halfF2 subF2 twiceG2 addF2 s t
theorem plusG2_ok:CallOk Tryz.prog 106 (K2 (kRow Fp6).arg (kRow Fp6).arg (kRow Fp6).rs.res plusG2) :=
 P2 (En_ok (.cons zeroG2_ok (.cons halfF2_ok (.cons subF2_ok (.cons twiceG2_ok (.cons addF2_ok .nil)))))) Tryz.func106 (bodied Tryz.func106 (by kernel_rfl) (by kernel_rfl)) 300 (kRow Fp6) (kRow Fp6) (kRow Fp6).rs plusG2 (plusG2_run zeroG2 halfF2 subF2 twiceG2 addF2) (plusG2_sat zeroG2 halfF2 subF2 twiceG2 addF2)
end
section
def gen1R_G  : Pg1:=({ x := { l0:=UInt64.ofNat 18103045581585958587,l1:=UInt64.ofNat 7806400890582735599,l2:=UInt64.ofNat 11623291730934869080,l3:=UInt64.ofNat 14080658508445169925,l4:=UInt64.ofNat 2780237799254240271,l5:=UInt64.ofNat 1725392847304644500 },y := { l0:=UInt64.ofNat 912580534683953121,l1:=UInt64.ofNat 15005087156090211044,l2:=UInt64.ofNat 61670280795567085,l3:=UInt64.ofNat 18227722000993880822,l4:=UInt64.ofNat 11573741888802228964,l5:=UInt64.ofNat 627113611842199793 },inf:=false })
def gen1R_T  : Tree (Option (Pg1)) :=
 (.leaf (some ({ x := { l0:=UInt64.ofNat 18103045581585958587,l1:=UInt64.ofNat 7806400890582735599,l2:=UInt64.ofNat 11623291730934869080,l3:=UInt64.ofNat 14080658508445169925,l4:=UInt64.ofNat 2780237799254240271,l5:=UInt64.ofNat 1725392847304644500 },y := { l0:=UInt64.ofNat 912580534683953121,l1:=UInt64.ofNat 15005087156090211044,l2:=UInt64.ofNat 61670280795567085,l3:=UInt64.ofNat 18227722000993880822,l4:=UInt64.ofNat 11573741888802228964,l5:=UInt64.ofNat 627113611842199793 },inf:=false })))
theorem gen1R_run  : plainRun (En []) (kRow Pg1).rs 300 Tryz.f22 []=gen1R_T  := by kernel_rfl
theorem gen1R_sat  : (gen1R_T ).sat fun q=>q=some (gen1R_G ):=(show some _=some _ from rfl)
def gen1R  : Pg1:=gen1R_G
theorem gen1R_ok:CallOk Tryz.prog 22 (K0 (kRow Pg1).rs.res gen1R) :=
 P0 (En_ok .nil) Tryz.func22 (bodied Tryz.func22 (by kernel_rfl) (by kernel_rfl)) 300  (kRow Pg1).rs gen1R (gen1R_run ) (gen1R_sat )
def gen2R_G  : Pg2:=({ x := { c0 := { l0:=UInt64.ofNat 15312334153293348280,l1:=UInt64.ofNat 841050694974028783,l2:=UInt64.ofNat 12993178926126977399,l3:=UInt64.ofNat 14331714969349929730,l4:=UInt64.ofNat 2740446039084699729,l5:=UInt64.ofNat 165123225776229009 },c1 := { l0:=UInt64.ofNat 16549740192668593022,l1:=UInt64.ofNat 3696594454104530263,l2:=UInt64.ofNat 13103893525273989193,l3:=UInt64.ofNat 6443473286224459290,l4:=UInt64.ofNat 9055845637167730533,l5:=UInt64.ofNat 1432192374203850592 } },y := { c0 := { l0:=UInt64.ofNat 16254428414758889473,l1:=UInt64.ofNat 10536956157198377609,l2:=UInt64.ofNat 7873024875724591404,l3:=UInt64.ofNat 12537348094477325223,l4:=UInt64.ofNat 10144865889576432922,l5:=UInt64.ofNat 929383263523139089 },c1 := { l0:=UInt64.ofNat 12297368366147926462,l1:=UInt64.ofNat 4555124010822409633,l2:=UInt64.ofNat 2771000935339432363,l3:=UInt64.ofNat 14645187562128761775,l4:=UInt64.ofNat 3651525051980876697,l5:=UInt64.ofNat 434250606344352972 } },inf:=false })
def gen2R_T  : Tree (Option (Pg2)) :=
 (.leaf (some ({ x := { c0 := { l0:=UInt64.ofNat 15312334153293348280,l1:=UInt64.ofNat 841050694974028783,l2:=UInt64.ofNat 12993178926126977399,l3:=UInt64.ofNat 14331714969349929730,l4:=UInt64.ofNat 2740446039084699729,l5:=UInt64.ofNat 165123225776229009 },c1 := { l0:=UInt64.ofNat 16549740192668593022,l1:=UInt64.ofNat 3696594454104530263,l2:=UInt64.ofNat 13103893525273989193,l3:=UInt64.ofNat 6443473286224459290,l4:=UInt64.ofNat 9055845637167730533,l5:=UInt64.ofNat 1432192374203850592 } },y := { c0 := { l0:=UInt64.ofNat 16254428414758889473,l1:=UInt64.ofNat 10536956157198377609,l2:=UInt64.ofNat 7873024875724591404,l3:=UInt64.ofNat 12537348094477325223,l4:=UInt64.ofNat 10144865889576432922,l5:=UInt64.ofNat 929383263523139089 },c1 := { l0:=UInt64.ofNat 12297368366147926462,l1:=UInt64.ofNat 4555124010822409633,l2:=UInt64.ofNat 2771000935339432363,l3:=UInt64.ofNat 14645187562128761775,l4:=UInt64.ofNat 3651525051980876697,l5:=UInt64.ofNat 434250606344352972 } },inf:=false })))
theorem gen2R_run  : plainRun (En []) (kRow Pg2).rs 300 Tryz.f23 []=gen2R_T  := by kernel_rfl
theorem gen2R_sat  : (gen2R_T ).sat fun q=>q=some (gen2R_G ):=(show some _=some _ from rfl)
def gen2R  : Pg2:=gen2R_G
theorem gen2R_ok:CallOk Tryz.prog 23 (K0 (kRow Pg2).rs.res gen2R) :=
 P0 (En_ok .nil) Tryz.func23 (bodied Tryz.func23 (by kernel_rfl) (by kernel_rfl)) 300  (kRow Pg2).rs gen2R (gen2R_run ) (gen2R_sat )
def mulS_G (f0:Fp->Fp->Fp) (f1:Fp2->Fp2->Fp2) (a:Fp2) (b:Fp2) (small:Bool):Fp2:=(match (small) with | true=>({ c0:=f0 a.c0 b.c0,c1:=zeroFp }) | false=>(f1 a b))
def mulS (a:Fp2) (b:Fp2) (small:Bool):Fp2:=mulS_G mulPF mul2R a b small
def b3R_G (f0:Fp2->Fp2->Fp2) (f1:Fp2->Fp2->Fp2) (f2:Fp2) (a:Fp2) (small:Bool):Fp2:=(match (small) with | true=>(f0 (f0 (f0 (f0 a a) (f0 a a)) (f0 (f0 a a) (f0 a a))) (f0 (f0 a a) (f0 a a))) | false=>(f1 (f0 (f0 (f0 (f0 a a) (f0 a a)) (f0 (f0 a a) (f0 a a))) (f0 (f0 a a) (f0 a a))) f2))
def b3R (a:Fp2) (small:Bool):Fp2:=b3R_G add2R mul2R xi2R a small
def addS5_G (f0:Fp2->Fp2->Bool->Fp2) (f1:Fp2->Fp2->Fp2) (f2:Fp2->Fp2->Fp2) (f3:Fp2->Bool->Fp2) (s:Fp6) (t:Fp6) (small:Bool):Fp6:=({ c0:=f2 (f0 (f2 (f2 (f0 (f1 s.c0 s.c1) (f1 t.c0 t.c1) small) (f0 s.c0 t.c0 small)) (f0 s.c1 t.c1 small)) (f2 (f0 s.c1 t.c1 small) (f3 (f0 s.c2 t.c2 small) small)) small) (f0 (f2 (f2 (f0 (f1 s.c1 s.c2) (f1 t.c1 t.c2) small) (f0 s.c1 t.c1 small)) (f0 s.c2 t.c2 small)) (f3 (f2 (f2 (f0 (f1 s.c0 s.c2) (f1 t.c0 t.c2) small) (f0 s.c0 t.c0 small)) (f0 s.c2 t.c2 small)) small) small),c1:=f1 (f0 (f2 (f0 s.c1 t.c1 small) (f3 (f0 s.c2 t.c2 small) small)) (f1 (f0 s.c1 t.c1 small) (f3 (f0 s.c2 t.c2 small) small)) small) (f0 (f3 (f2 (f2 (f0 (f1 s.c0 s.c2) (f1 t.c0 t.c2) small) (f0 s.c0 t.c0 small)) (f0 s.c2 t.c2 small)) small) (f1 (f1 (f0 s.c0 t.c0 small) (f0 s.c0 t.c0 small)) (f0 s.c0 t.c0 small)) small),c2:=f1 (f0 (f1 (f0 s.c1 t.c1 small) (f3 (f0 s.c2 t.c2 small) small)) (f2 (f2 (f0 (f1 s.c1 s.c2) (f1 t.c1 t.c2) small) (f0 s.c1 t.c1 small)) (f0 s.c2 t.c2 small)) small) (f0 (f1 (f1 (f0 s.c0 t.c0 small) (f0 s.c0 t.c0 small)) (f0 s.c0 t.c0 small)) (f2 (f2 (f0 (f1 s.c0 s.c1) (f1 t.c0 t.c1) small) (f0 s.c0 t.c0 small)) (f0 s.c1 t.c1 small)) small) })
def addS5 (s:Fp6) (t:Fp6) (small:Bool):Fp6:=addS5_G mulS add2R sub2R b3R s t small
def none5_G (f0:Fp2):Fp6:=({ c0:=zeroFp2,c1:=f0,c2:=zeroFp2 })
def none5  : Fp6:=none5_G one2R
def of1R_G (f0:Fp6) (f1:Fp2) (a:Pg1):Fp6:=(match (a.inf) with | true=>(f0) | false=>({ c0 := { c0:=a.x,c1:=zeroFp },c1 := { c0:=a.y,c1:=zeroFp },c2:=f1 }))
def of1R (a:Pg1):Fp6:=of1R_G none5 one2R a
def of2R_G (f0:Fp6) (f1:Fp2) (a:Pg2):Fp6:=(match (a.inf) with | true=>(f0) | false=>({ c0:=a.x,c1:=a.y,c2:=f1 }))
def of2R (a:Pg2):Fp6:=of2R_G none5 one2R a
def to1R_G (f0:Fp->Fp × Int) (f1:Fp->Fp->Fp) (s:Fp6):Pg1:=(match ((f0 s.c2.c0).snd != 0) with | true=>(infG1) | false=>({ x:=f1 s.c0.c0 (f0 s.c2.c0).fst,y:=f1 s.c1.c0 (f0 s.c2.c0).fst,inf:=false }))
def to1R (s:Fp6):Pg1:=to1R_G invPF mulPF s
def to2R_G (f0:Fp2->Fp2 × Int) (f1:Fp2->Fp2->Fp2) (s:Fp6):Pg2:=(match ((f0 s.c2).snd != 0) with | true=>(infG2) | false=>({ x:=f1 s.c0 (f0 s.c2).fst,y:=f1 s.c1 (f0 s.c2).fst,inf:=false }))
def to2R (s:Fp6):Pg2:=to2R_G inv2R mul2R s
end
set_option maxRecDepth 100000
section
abbrev Kr0 (x:Fr):Contract:=K0 r4.res x
noncomputable def T1r:Table:=(114,Kr0 rLimbs) :: T0
theorem T1r_ok:TableOk Tryz.prog T1r := .cons modulus4_ok T0_ok
noncomputable def E1r:Env:=mkEnv Tryz.prog T1r []
theorem E1r_ok:EnvOk E1r:=mkEnv_ok follows_mixed T1r_ok
def less4T (a:Fr):Fr × Bool :=
 let c0:=subB a.l0 rLimbs.l0 false
 let c1:=subB a.l1 rLimbs.l1 c0
 let c2:=subB a.l2 rLimbs.l2 c1
 (⟨subS a.l0 rLimbs.l0 false,subS a.l1 rLimbs.l1 c0,subS a.l2 rLimbs.l2 c1,subS a.l3 rLimbs.l3 c2⟩,subB a.l3 rLimbs.l3 c2)
def less4F (a:Fr) (over:UInt64):Fr:=match decide (over<b2u (less4T a).2) with | true=>a | false=>(less4T a).1
theorem less4_ok:CallOk Tryz.prog 115 (K2 (kRow Fr).arg kU64.arg r4.res less4F) :=
 P2 E1r_ok Tryz.func115 (bodied Tryz.func115 (by kernel_rfl) (by kernel_rfl)) 100 (kRow Fr) kU64 r4 less4F
  (T:=fun a o => .br (decide (o<b2u (less4T a).2)) (.leaf (some a)) (.leaf (some (less4T a).1))) (by intro a o;kernel_rfl)
  (by intro a o;exact ⟨fun h=>congrArg some (by unfold less4F;rw [h]),fun h=>congrArg some (by unfold less4F;rw [h])⟩)
noncomputable def T2r:Table:=(115,K2 (kRow Fr).arg kU64.arg r4.res less4F) :: (69,K2 kU64.arg kU64.arg (kU64.rs2 kU64).res fun x y=>(mulHi x y,x*y)) :: T1r
theorem T2r_ok:TableOk Tryz.prog T2r := .cons less4_ok (.cons mul64_ok T1r_ok)
noncomputable def E2r:Env:=mkEnv Tryz.prog T2r []
theorem E2r_ok:EnvOk E2r:=mkEnv_ok follows_mixed T2r_ok
def rInvW:UInt64:=0xfffffffeffffffff
def round4B (t0 t1 t2 t3 top:UInt64) (more:Bool):L5 :=
 let x:=t0*rInvW
 let d0:=mulHi x rLimbs.l0+b2u (addC (x*rLimbs.l0) t0 false)
 let d1:=macH x rLimbs.l1 t1 d0
 let d2:=macH x rLimbs.l2 t2 d1
 let d3:=macH x rLimbs.l3 t3 d2
 ⟨macL x rLimbs.l1 t1 d0,macL x rLimbs.l2 t2 d1,macL x rLimbs.l3 t3 d2,addS top d3 false,b2u more+b2u (addC top d3 false)⟩
def round4F (a:Fr) (b:UInt64) (t:L5):L5 :=
 let c0:=macH a.l0 b t.t0 0
 let c1:=macH a.l1 b t.t1 c0
 let c2:=macH a.l2 b t.t2 c1
 let c3:=macH a.l3 b t.t3 c2
 round4B (macL a.l0 b t.t0 0) (macL a.l1 b t.t1 c0) (macL a.l2 b t.t2 c1) (macL a.l3 b t.t3 c2) (addS t.t4 c3 false) (addC t.t4 c3 false)
def halfr1 (a b:Fr):L5:=round4F a b.l0 ⟨0,0,0,0,0⟩
def halfr2 (a b:Fr):L5:=round4F a b.l1 (halfr1 a b)
def halfr3 (a b:Fr):L5:=round4F a b.l2 (halfr2 a b)
def halfrT (a b:Fr):L5:=round4F a b.l3 (halfr3 a b)
def halfR (a b:Fr):Fr:=less4F (halfrT a b).low (halfrT a b).t4
def hSt4 (a b:Fr) (k:Nat) (t:List Cell):St :=
 mkSt 139 [(2,ptrV 0),(3,ptrV 1),(4,ptrV 2),(5,ptrV 3),(6,ptrV 4),(18,litV k)] [own 24 (Row.cs a),own 24 (Row.cs b),own 24 (zeros 4),own 24 (Row.cs rLimbs),own 148 t]
noncomputable def h4Code:List Code:=flat (codeOf Tryz.f60)
noncomputable def h4Body:Code:=loopAt Tryz.f60 0
theorem halfr_start (a b:Fr):stageT E2r 100 (h4Code.take 4) (startSt Tryz.f60 [v4 a,v4 b] []) [2,3,4,5,6,18] [0,1,2,3,4] = .leaf (hSt4 a b 0 (zeros 5)):=by kernel_rfl
theorem halfr_round0 (a b:Fr):roundT E2r 100 h4Body (hSt4 a b 0 (zeros 5)) hCut = .leaf (.normal,hSt4 a b 1 (round4F a b.l0 ⟨0,0,0,0,0⟩).cs):=by kernel_rfl
theorem halfr_round1 (a b:Fr) (t:L5):roundT E2r 100 h4Body (hSt4 a b 1 t.cs) hCut = .leaf (.normal,hSt4 a b 2 (round4F a b.l1 t).cs):=by kernel_rfl
theorem halfr_round2 (a b:Fr) (t:L5):roundT E2r 100 h4Body (hSt4 a b 2 t.cs) hCut = .leaf (.normal,hSt4 a b 3 (round4F a b.l2 t).cs):=by kernel_rfl
theorem halfr_round3 (a b:Fr) (t:L5):roundT E2r 100 h4Body (hSt4 a b 3 t.cs) hCut = .leaf (.normal,hSt4 a b 4 (round4F a b.l3 t).cs):=by kernel_rfl
theorem halfr_out (a b:Fr) (t:L5):roundT E2r 100 h4Body (hSt4 a b 4 t.cs) hCut = .leaf (.exit 0,hSt4 a b 4 t.cs):=by kernel_rfl
theorem halfr_fin (a b:Fr) (t:L5):finT E2r r4 100 Tryz.f60 (h4Code.drop 5) (hSt4 a b 4 t.cs) = .leaf (some (less4F t.low t.t4)):=by kernel_rfl
theorem halfr_split:h4Code.drop 4 = .block 0 (.loop h4Body) :: h4Code.drop 5:=by kernel_rfl
def h4Inv (a b:Fr) (k:Fin 5):St :=
 match k with
 | 0=>hSt4 a b 0 (zeros 5)
 | 1=>hSt4 a b 1 (halfr1 a b).cs
 | 2=>hSt4 a b 2 (halfr2 a b).cs
 | 3=>hSt4 a b 3 (halfr3 a b).cs
 | 4=>hSt4 a b 4 (halfrT a b).cs
theorem halfR_ok:CallOk Tryz.prog 60 (Kr2 halfR):=by
 refine Q2 (E:=E2r) Tryz.func60 (c:=codeOf Tryz.f60) (by kernel_rfl) (bodied Tryz.func60 (by kernel_rfl) (by kernel_rfl)) (kRow Fr) (kRow Fr) r4 halfR fun a b => ?_
 refine DoesL.stageTo E2r_ok 100 4 [2,3,4,5,6,18] [0,1,2,3,4] (halfr_start a b) ?_
 refine DoesL.blockLoop halfr_split (h4Inv a b) (fun k=>4-k.1) 0 fun k => ?_
 match k with
 | 0=>exact Does.round E2r_ok 100 hCut (halfr_round0 a b) ⟨1,by decide,by simp only [h4Inv,halfr1]⟩
 | 1=>exact Does.round E2r_ok 100 hCut (halfr_round1 a b _) ⟨2,by decide,by simp only [h4Inv,halfr2]⟩
 | 2=>exact Does.round E2r_ok 100 hCut (halfr_round2 a b _) ⟨3,by decide,by simp only [h4Inv,halfr3]⟩
 | 3=>exact Does.round E2r_ok 100 hCut (halfr_round3 a b _) ⟨4,by decide,by simp only [h4Inv,halfrT]⟩
 | 4=>exact Does.round E2r_ok 100 hCut (halfr_out a b _) ⟨rfl,DoesL.fin E2r_ok 100 (halfr_fin a b _) (Tree.sat_leaf (by simp only [halfR]))⟩
theorem square4_ok:CallOk Tryz.prog 113 (Kr0 sq4Limbs):=P0 E0_ok Tryz.func113 (bodied Tryz.func113 (by kernel_rfl) (by kernel_rfl)) 100 r4 sq4Limbs (T := .leaf (some sq4Limbs)) (by kernel_rfl) rfl
def wholeR (a:Fr):Fr:=halfR a sq4Limbs
theorem wholeR_run (hF:Fr->Fr->Fr) (q a:Fr):plainRun (En [(60,Kr2 hF),(113,Kr0 q)]) r4 100 Tryz.f59 [v4 a] = .leaf (some (hF a q)):=by kernel_rfl
theorem wholeR_ok:CallOk Tryz.prog 59 (Kr1 wholeR):=P1 (En_ok (.cons halfR_ok (.cons square4_ok .nil))) Tryz.func59 (bodied Tryz.func59 (by kernel_rfl) (by kernel_rfl)) 100 (kRow Fr) r4 wholeR (wholeR_run halfR sq4Limbs) (fun _=>Tree.sat_leaf (by simp only [wholeR]))
def mulPR (a b:Fr):Fr:=wholeR (halfR a b)
theorem mulPR_run (hF:Fr->Fr->Fr) (wF:Fr->Fr) (a b:Fr):plainRun (En [(60,Kr2 hF),(59,Kr1 wF)]) r4 100 Tryz.f31 [v4 a,v4 b] = .leaf (some (wF (hF a b))):=by kernel_rfl
theorem mulPR_ok:CallOk Tryz.prog 31 (Kr2 mulPR):=P2 (En_ok (.cons halfR_ok (.cons wholeR_ok .nil))) Tryz.func31 (bodied Tryz.func31 (by kernel_rfl) (by kernel_rfl)) 100 (kRow Fr) (kRow Fr) r4 mulPR (mulPR_run halfR wholeR) (fun _ _=>Tree.sat_leaf (by simp only [mulPR]))
def ofPR (n:UInt64):Fr:=⟨n,0,0,0⟩
theorem ofPR_run (n:UInt64):plainRun (En []) r4 100 Tryz.f28 [vU n] = .leaf (some (ofPR n)):=by kernel_rfl
theorem ofPR_ok:CallOk Tryz.prog 28 (K1 kU64.arg r4.res ofPR):=P1 (En_ok .nil) Tryz.func28 (bodied Tryz.func28 (by kernel_rfl) (by kernel_rfl)) 100 kU64 r4 ofPR ofPR_run (fun _=>Tree.sat_leaf (by simp only [ofPR]))
end
set_option maxRecDepth 100000
section
def frZ:Fr:=⟨UInt64.ofNat 0,UInt64.ofNat 0,UInt64.ofNat 0,UInt64.ofNat 0⟩
section
variable (aF mF : Fr -> Fr -> Fr)
end
end
set_option maxRecDepth 100000
section
theorem wrapU (m:Nat) (h:m<4294967296):IntKind.i64.wrap ((m:Int)+1)=((m+1:Nat):Int):=(IntWalk.i64_in _ (by omega)).trans (by omega)
theorem zeroN (m:Nat):0+((m:Nat):Int).toNat=m:=by omega
section
variable {aF mF : Fr -> Fr -> Fr}
end
end
end Go.Proofs.YtcbplfkeeaecgaaGreat
namespace Go.Proofs.YtcbplfkeeaecgaaGreat
def W64:Nat:=18446744073709551616
def pN:Nat:=0x1a0111ea397fe69a4b1ba7b6434bacd764774b84f38512bf6730d2a0f6b0f6241eabfffeb153ffffb9feffffffffaaab
def rN:Nat:=0x1000000000000000000000000000000000000000000000000000000000000000000000000000000000000000000000000
def Fp.nat (a:Fp):Nat:=a.l0.toNat+W64*(a.l1.toNat+W64*(a.l2.toNat+W64*(a.l3.toNat+W64*(a.l4.toNat+W64*a.l5.toNat))))
theorem Fp.nat_lt (a:Fp):a.nat<rN:=by
 have h0:=a.l0.toNat_lt
 have h1:=a.l1.toNat_lt
 have h2:=a.l2.toNat_lt
 have h3:=a.l3.toNat_lt
 have h4:=a.l4.toNat_lt
 have h5:=a.l5.toNat_lt
 unfold Fp.nat rN W64
 omega
theorem Fp.nat_inj {a b:Fp} (h:a.nat=b.nat):a=b:=by
 have h0:=a.l0.toNat_lt
 have h1:=a.l1.toNat_lt
 have h2:=a.l2.toNat_lt
 have h3:=a.l3.toNat_lt
 have h4:=a.l4.toNat_lt
 have h5:=a.l5.toNat_lt
 have k0:=b.l0.toNat_lt
 have k1:=b.l1.toNat_lt
 have k2:=b.l2.toNat_lt
 have k3:=b.l3.toNat_lt
 have k4:=b.l4.toNat_lt
 have k5:=b.l5.toNat_lt
 unfold Fp.nat W64 at h
 obtain ⟨a0,a1,a2,a3,a4,a5⟩:=a
 obtain ⟨b0,b1,b2,b3,b4,b5⟩:=b
 simp only [] at *
 have e0:a0=b0:=UInt64.toNat.inj (by omega)
 have e1:a1=b1:=UInt64.toNat.inj (by omega)
 have e2:a2=b2:=UInt64.toNat.inj (by omega)
 have e3:a3=b3:=UInt64.toNat.inj (by omega)
 have e4:a4=b4:=UInt64.toNat.inj (by omega)
 have e5:a5=b5:=UInt64.toNat.inj (by omega)
 rw [e0,e1,e2,e3,e4,e5]
theorem pLimbs_nat:pLimbs.nat=pN:=by decide +kernel
theorem add_step (x y:UInt64) (c:Bool):(addS x y c).toNat+W64*(addC x y c).toNat=x.toNat+y.toNat+c.toNat:=by
 rw [addS_nat,addC_nat]
 unfold W64
 omega
theorem subB_nat (x y:UInt64) (c:Bool):(subB x y c).toNat=if x.toNat<y.toNat+c.toNat then 1 else 0:=by
 rw [subB_iff]
 by_cases h:x.toNat<y.toNat+c.toNat <;> simp [h]
theorem sub_step (x y:UInt64) (c:Bool):(subS x y c).toNat+y.toNat+c.toNat=x.toNat+W64*(subB x y c).toNat:=by
 have hx:=x.toNat_lt
 have hy:=y.toNat_lt
 have hc:c.toNat<=1:=by cases c <;> simp
 rw [subS_nat,subB_nat]
 unfold W64
 split <;> omega
theorem addT_nat (a b:Fp):(addT a b).1.nat+rN*(addT a b).2.toNat=a.nat+b.nat:=by
 unfold addT
 simp only []
 have s0:=add_step a.l0 b.l0 false
 generalize addC a.l0 b.l0 false=c0 at *
 have s1:=add_step a.l1 b.l1 c0
 generalize addC a.l1 b.l1 c0=c1 at *
 have s2:=add_step a.l2 b.l2 c1
 generalize addC a.l2 b.l2 c1=c2 at *
 have s3:=add_step a.l3 b.l3 c2
 generalize addC a.l3 b.l3 c2=c3 at *
 have s4:=add_step a.l4 b.l4 c3
 generalize addC a.l4 b.l4 c3=c4 at *
 have s5:=add_step a.l5 b.l5 c4
 generalize addC a.l5 b.l5 c4=c5 at *
 unfold Fp.nat rN W64 at *
 simp only [Bool.toNat_false] at *
 omega
theorem subT_nat (a b:Fp):(subT a b).1.nat+b.nat=a.nat+rN*(subT a b).2.toNat:=by
 unfold subT
 simp only []
 have s0:=sub_step a.l0 b.l0 false
 generalize subB a.l0 b.l0 false=c0 at *
 have s1:=sub_step a.l1 b.l1 c0
 generalize subB a.l1 b.l1 c0=c1 at *
 have s2:=sub_step a.l2 b.l2 c1
 generalize subB a.l2 b.l2 c1=c2 at *
 have s3:=sub_step a.l3 b.l3 c2
 generalize subB a.l3 b.l3 c2=c3 at *
 have s4:=sub_step a.l4 b.l4 c3
 generalize subB a.l4 b.l4 c3=c4 at *
 have s5:=sub_step a.l5 b.l5 c4
 generalize subB a.l5 b.l5 c4=c5 at *
 unfold Fp.nat rN W64 at *
 simp only [Bool.toNat_false] at *
 omega
theorem lessT_eq (a:Fp):lessT a=subT a pLimbs:=rfl
theorem lessF_nat (a:Fp) (o:UInt64) (ho:o.toNat<=1) (h:a.nat+rN*o.toNat<2*pN):(lessF a o).nat=(a.nat+rN*o.toNat) % pN:=by
 have h1:=subT_nat a pLimbs
 rw [pLimbs_nat] at h1
 have h2:=(subT a pLimbs).1.nat_lt
 have h3:=a.nat_lt
 have hb:(subT a pLimbs).2.toNat<=1:=by cases (subT a pLimbs).2 <;> simp
 have hd:decide (o<b2u (lessT a).2)=decide (o.toNat<(subT a pLimbs).2.toNat):=by
  rw [lessT_eq]
  refine decide_eq_decide.2 ?_
  rw [UInt64.lt_iff_toNat_lt,b2u_nat]
 unfold lessF
 rw [hd,lessT_eq]
 have hp:pN<rN:=by decide +kernel
 have hp0:0<pN:=by decide +kernel
 by_cases hc:o.toNat<(subT a pLimbs).2.toNat
 ·simp only [hc,decide_true]
  have e0:o.toNat=0:=by omega
  have e1:(subT a pLimbs).2.toNat=1:=by omega
  rw [e0] at h ⊢
  rw [e1] at h1
  rw [Nat.mod_eq_of_lt (by omega)]
  omega
 ·simp only [hc,decide_false]
  have e2:(subT a pLimbs).1.nat+pN=a.nat+rN*o.toNat:=by
   rcases Nat.lt_or_ge (subT a pLimbs).2.toNat o.toNat with hl | hl
   ·have e0:o.toNat=1:=by omega
    have e1:(subT a pLimbs).2.toNat=0:=by omega
    rw [e1] at h1
    rw [e0] at h ⊢
    omega
   ·have e1:(subT a pLimbs).2.toNat=o.toNat:=by omega
    rw [e1] at h1
    exact h1
  rw [<- e2,Nat.add_mod_right,Nat.mod_eq_of_lt (by omega)]
theorem addF_nat {a b:Fp} (ha:a.nat<pN) (hb:b.nat<pN):(addF a b).nat=(a.nat+b.nat) % pN:=by
 unfold addF
 have h:=addT_nat a b
 rw [lessF_nat _ _ (by rw [b2u_nat];cases (addT a b).2 <;> simp) (by rw [b2u_nat,h];omega),b2u_nat,h]
theorem subF_nat {a b:Fp} (ha:a.nat<pN) (hb:b.nat<pN):(subF a b).nat=(a.nat+pN-b.nat) % pN:=by
 have h1:=subT_nat a b
 have h2:=(subT a b).1.nat_lt
 have hp:pN<rN:=by decide +kernel
 have hd:decide (b2u (subT a b).2=0)=decide ((subT a b).2.toNat=0):=by
  refine decide_eq_decide.2 ⟨fun h=>by rw [<- b2u_nat,h];rfl,fun h=>UInt64.toNat.inj (by rw [b2u_nat,h];rfl)⟩
 unfold subF
 rw [hd]
 by_cases hc:(subT a b).2.toNat=0
 ·simp only [hc,decide_true]
  rw [hc] at h1
  rw [show a.nat+pN-b.nat=(subT a b).1.nat+pN by omega,Nat.add_mod_right,Nat.mod_eq_of_lt (by omega)]
 ·simp only [hc,decide_false]
  have e1:(subT a b).2.toNat=1:=by cases h:(subT a b).2 <;> simp [h] at hc ⊢
  rw [e1] at h1
  have h3:=addT_nat (subT a b).1 pLimbs
  rw [pLimbs_nat] at h3
  have h4:=(addT (subT a b).1 pLimbs).1.nat_lt
  have e2:(addT (subT a b).1 pLimbs).2.toNat=1:=by
   cases h:(addT (subT a b).1 pLimbs).2 with
   | true=>rfl
   | false=>rw [h] at h3;simp only [Bool.toNat_false] at h3;omega
  rw [e2] at h3
  rw [Nat.mod_eq_of_lt (by omega)]
  omega
end Go.Proofs.YtcbplfkeeaecgaaGreat
namespace Go.Proofs.YtcbplfkeeaecgaaGreat
def L7.nat (t:L7):Nat:=t.t0.toNat+W64*(t.t1.toNat+W64*(t.t2.toNat+W64*(t.t3.toNat+W64*(t.t4.toNat+W64*(t.t5.toNat+W64*t.t6.toNat)))))
theorem L7.nat_low (t:L7):t.nat=t.low.nat+rN*t.t6.toNat:=by
 unfold L7.nat L7.low Fp.nat rN W64
 simp only []
 omega
theorem zip0 (y t U:Nat):y+t+W64*U=(t+W64*U)+y:=by omega
theorem zipS {y t U T Y:Nat} (h:U=T+Y):y+t+W64*U=(t+W64*T)+(y+W64*Y):=by
 subst h
 unfold W64
 omega
theorem zipE {A d T Y t y:Nat} (h:A=T+Y) (q:d*W64=y+t):(A+d)*W64=(t+W64*T)+(y+W64*Y):=by
 rw [h,Nat.add_mul,q,Nat.add_mul,Nat.mul_comm T,Nat.mul_comm Y]
 omega
theorem mac_w (x y t c:UInt64):(macH x y t c).toNat*W64+(macL x y t c).toNat=x.toNat*y.toNat+t.toNat+c.toNat:=mac_nat x y t c
theorem limb_step {m d y t c R U:Nat} (q:d*W64+m=y+t+c) (h:R=U+d):m+W64*R=(y+t+W64*U)+c:=by
 subst h
 unfold W64 at *
 omega
theorem low_step (t:UInt64):(mulHi (t*pInv) pLimbs.l0+b2u (addC (t*pInv*pLimbs.l0) t false)).toNat*W64=(t*pInv).toNat*pLimbs.l0.toNat+t.toNat:=by
 generalize hx:t*pInv=x
 have hx':x.toNat=t.toNat*9940570264628428797 % 18446744073709551616:=by rw [<- hx,UInt64.toNat_mul];rfl
 have hp:pLimbs.l0.toNat=13402431016077863595:=rfl
 have ht:=t.toNat_lt
 have hlt:=x.toNat_lt
 rw [UInt64.toNat_add,b2u_nat,addC_nat,mulHi_nat,UInt64.toNat_mul,hp]
 simp only [Bool.toNat_false,Nat.add_zero]
 unfold W64
 have key:(x.toNat*13402431016077863595 % 18446744073709551616+t.toNat) % 18446744073709551616=0:=by
  rw [hx']
  omega
 omega
theorem roundB_nat (t0 t1 t2 t3 t4 t5 top:UInt64) (more:Bool) :
  (roundB t0 t1 t2 t3 t4 t5 top more).nat*W64=(t0.toNat+W64*(t1.toNat+W64*(t2.toNat+W64*(t3.toNat+W64*(t4.toNat+W64*(t5.toNat+W64*(top.toNat+W64*more.toNat)))))))+(t0*pInv).toNat*pN:=by
 have q0:=low_step t0
 unfold roundB
 simp only [L7.nat]
 generalize mulHi (t0*pInv) pLimbs.l0+b2u (addC (t0*pInv*pLimbs.l0) t0 false)=d0 at *
 generalize t0*pInv=x at *
 have q1:=mac_w x pLimbs.l1 t1 d0
 generalize macH x pLimbs.l1 t1 d0=d1 at *
 have q2:=mac_w x pLimbs.l2 t2 d1
 generalize macH x pLimbs.l2 t2 d1=d2 at *
 have q3:=mac_w x pLimbs.l3 t3 d2
 generalize macH x pLimbs.l3 t3 d2=d3 at *
 have q4:=mac_w x pLimbs.l4 t4 d3
 generalize macH x pLimbs.l4 t4 d3=d4 at *
 have q5:=mac_w x pLimbs.l5 t5 d4
 generalize macH x pLimbs.l5 t5 d4=d5 at *
 have q6:=add_step top d5 false
 have q7:(b2u more+b2u (addC top d5 false)).toNat=more.toNat+(addC top d5 false).toNat:=by
  rw [UInt64.toNat_add,b2u_nat,b2u_nat]
  cases more <;> cases addC top d5 false <;> rfl
 rw [q7]
 have ep:pN=pLimbs.l0.toNat+W64*(pLimbs.l1.toNat+W64*(pLimbs.l2.toNat+W64*(pLimbs.l3.toNat+W64*(pLimbs.l4.toNat+W64*pLimbs.l5.toNat)))):=by decide +kernel
 have exp:x.toNat*pN=x.toNat*pLimbs.l0.toNat+W64*(x.toNat*pLimbs.l1.toNat+W64*(x.toNat*pLimbs.l2.toNat+W64*(x.toNat*pLimbs.l3.toNat+W64*(x.toNat*pLimbs.l4.toNat+W64*(x.toNat*pLimbs.l5.toNat))))):=by
  rw [ep]
  simp only [Nat.mul_add,Nat.mul_left_comm x.toNat W64]
 rw [exp]
 have s6:(addS top d5 false).toNat+W64*(more.toNat+(addC top d5 false).toNat)=(top.toNat+W64*more.toNat)+d5.toNat:=by
  simp only [Bool.toNat_false] at q6
  unfold W64 at *
  omega
 have s5:=limb_step q5 s6
 have s4:=limb_step q4 s5
 have s3:=limb_step q3 s4
 have s2:=limb_step q2 s3
 have s1:=limb_step q1 s2
 rw [s1]
 generalize x.toNat*pLimbs.l0.toNat=y0 at *
 generalize x.toNat*pLimbs.l1.toNat=y1 at *
 generalize x.toNat*pLimbs.l2.toNat=y2 at *
 generalize x.toNat*pLimbs.l3.toNat=y3 at *
 generalize x.toNat*pLimbs.l4.toNat=y4 at *
 generalize x.toNat*pLimbs.l5.toNat=y5 at *
 exact zipE (zipS (zipS (zipS (zipS (zip0 _ _ _))))) q0
theorem roundF_nat (a:Fp) (b:UInt64) (t:L7) : ∃ m:Nat,m<W64/\(roundF a b t).nat*W64=t.nat+a.nat*b.toNat+m*pN:=by
 unfold roundF
 simp only []
 have q0:=mac_w a.l0 b t.t0 0
 generalize macH a.l0 b t.t0 0=c0 at *
 have q1:=mac_w a.l1 b t.t1 c0
 generalize macH a.l1 b t.t1 c0=c1 at *
 have q2:=mac_w a.l2 b t.t2 c1
 generalize macH a.l2 b t.t2 c1=c2 at *
 have q3:=mac_w a.l3 b t.t3 c2
 generalize macH a.l3 b t.t3 c2=c3 at *
 have q4:=mac_w a.l4 b t.t4 c3
 generalize macH a.l4 b t.t4 c3=c4 at *
 have q5:=mac_w a.l5 b t.t5 c4
 generalize macH a.l5 b t.t5 c4=c5 at *
 have q6:=add_step t.t6 c5 false
 refine ⟨(macL a.l0 b t.t0 0*pInv).toNat,UInt64.toNat_lt _,?_⟩
 rw [roundB_nat]
 refine congrArg (fun z=>z+(macL a.l0 b t.t0 0*pInv).toNat*pN) ?_
 have e:a.nat*b.toNat=a.l0.toNat*b.toNat+W64*(a.l1.toNat*b.toNat+W64*(a.l2.toNat*b.toNat+W64*(a.l3.toNat*b.toNat+W64*(a.l4.toNat*b.toNat+W64*(a.l5.toNat*b.toNat))))):=by
  unfold Fp.nat
  simp only [Nat.add_mul,Nat.mul_assoc]
 rw [e]
 have s6:(addS t.t6 c5 false).toNat+W64*(addC t.t6 c5 false).toNat=t.t6.toNat+c5.toNat:=by simpa using q6
 have s5:=limb_step q5 s6
 have s4:=limb_step q4 s5
 have s3:=limb_step q3 s4
 have s2:=limb_step q2 s3
 have s1:=limb_step q1 s2
 have s0:=limb_step q0 s1
 rw [s0]
 have z:(0:UInt64).toNat=0:=rfl
 rw [z,L7.nat]
 generalize a.l0.toNat*b.toNat=x0 at *
 generalize a.l1.toNat*b.toNat=x1 at *
 generalize a.l2.toNat*b.toNat=x2 at *
 generalize a.l3.toNat*b.toNat=x3 at *
 generalize a.l4.toNat*b.toNat=x4 at *
 generalize a.l5.toNat*b.toNat=x5 at *
 rw [Nat.add_zero]
 exact zipS (zipS (zipS (zipS (zipS (zip0 _ _ _)))))
theorem round_bound {a:Fp} {b:UInt64} {t:L7} (h:t.nat<a.nat+pN):(roundF a b t).nat<a.nat+pN:=by
 obtain ⟨m,hm,e⟩:=roundF_nat a b t
 have hb:=b.toNat_lt
 have h1:a.nat*b.toNat<=a.nat*(W64-1):=Nat.mul_le_mul_left _ (by unfold W64;omega)
 have h2:m*pN<=(W64-1)*pN:=Nat.mul_le_mul_right _ (by omega)
 have h3:(roundF a b t).nat*W64<(a.nat+pN)*W64:=by
  rw [e]
  unfold W64 at *
  omega
 exact Nat.lt_of_mul_lt_mul_right h3
set_option maxRecDepth 100000 in
theorem halfT_nat (a b:Fp) : ∃ k:Nat,(halfT a b).nat*rN=a.nat*b.nat+k*pN/\(halfT a b).nat<a.nat+pN:=by
 have hp0:0<pN:=by decide +kernel
 obtain ⟨m0,_,e0⟩:=roundF_nat a b.l0 ⟨0,0,0,0,0,0,0⟩
 obtain ⟨m1,_,e1⟩:=roundF_nat a b.l1 (half1 a b)
 obtain ⟨m2,_,e2⟩:=roundF_nat a b.l2 (half2 a b)
 obtain ⟨m3,_,e3⟩:=roundF_nat a b.l3 (half3 a b)
 obtain ⟨m4,_,e4⟩:=roundF_nat a b.l4 (half4 a b)
 obtain ⟨m5,_,e5⟩:=roundF_nat a b.l5 (half5 a b)
 have z:(L7.mk 0 0 0 0 0 0 0).nat=0:=by decide +kernel
 have b0:(half1 a b).nat<a.nat+pN:=round_bound (by rw [z];omega)
 have b1:(half2 a b).nat<a.nat+pN:=round_bound b0
 have b2:(half3 a b).nat<a.nat+pN:=round_bound b1
 have b3:(half4 a b).nat<a.nat+pN:=round_bound b2
 have b4:(half5 a b).nat<a.nat+pN:=round_bound b3
 refine ⟨m0+W64*(m1+W64*(m2+W64*(m3+W64*(m4+W64*m5)))),?_,round_bound b4⟩
 rw [z] at e0
 change (half1 a b).nat*W64=_ at e0
 change (half2 a b).nat*W64=_ at e1
 change (half3 a b).nat*W64=_ at e2
 change (half4 a b).nat*W64=_ at e3
 change (half5 a b).nat*W64=_ at e4
 change (halfT a b).nat*W64=_ at e5
 have er:rN=W64*(W64*(W64*(W64*(W64*W64)))):=by decide +kernel
 have eb:a.nat*b.nat=a.nat*b.l0.toNat+W64*(a.nat*b.l1.toNat+W64*(a.nat*b.l2.toNat+W64*(a.nat*b.l3.toNat+W64*(a.nat*b.l4.toNat+W64*(a.nat*b.l5.toNat))))):=by
  rw [show b.nat=b.l0.toNat+W64*(b.l1.toNat+W64*(b.l2.toNat+W64*(b.l3.toNat+W64*(b.l4.toNat+W64*b.l5.toNat)))) from rfl]
  simp only [Nat.mul_add,Nat.mul_left_comm a.nat W64]
 have ek:(m0+W64*(m1+W64*(m2+W64*(m3+W64*(m4+W64*m5)))))*pN=m0*pN+W64*(m1*pN+W64*(m2*pN+W64*(m3*pN+W64*(m4*pN+W64*(m5*pN))))):=by
  simp only [Nat.add_mul,Nat.mul_assoc]
 rw [er,eb,ek]
 have st : ∀ {t' t z R:Nat},t'*W64=t+z -> ∀ s:Nat,t'*(W64*s)=(t+z)*s:=fun h s=>by rw [<- Nat.mul_assoc,h]
 rw [st (R:=0) (t:=(half5 a b).nat) (z:=a.nat*b.l5.toNat+m5*pN) (by rw [e5,Nat.add_assoc])]
 rw [Nat.add_mul,st (R:=0) (t:=(half4 a b).nat) (z:=a.nat*b.l4.toNat+m4*pN) (by rw [e4,Nat.add_assoc])]
 rw [Nat.add_mul _ _ (W64*(W64*(W64*W64))),st (R:=0) (t:=(half3 a b).nat) (z:=a.nat*b.l3.toNat+m3*pN) (by rw [e3,Nat.add_assoc])]
 rw [Nat.add_mul _ _ (W64*(W64*W64)),st (R:=0) (t:=(half2 a b).nat) (z:=a.nat*b.l2.toNat+m2*pN) (by rw [e2,Nat.add_assoc])]
 rw [Nat.add_mul _ _ (W64*W64),st (R:=0) (t:=(half1 a b).nat) (z:=a.nat*b.l1.toNat+m1*pN) (by rw [e1,Nat.add_assoc])]
 rw [Nat.add_mul _ _ W64,e0]
 generalize a.nat*b.l0.toNat=x0
 generalize a.nat*b.l1.toNat=x1
 generalize a.nat*b.l2.toNat=x2
 generalize a.nat*b.l3.toNat=x3
 generalize a.nat*b.l4.toNat=x4
 generalize a.nat*b.l5.toNat=x5
 generalize m0*pN=y0
 generalize m1*pN=y1
 generalize m2*pN=y2
 generalize m3*pN=y3
 generalize m4*pN=y4
 generalize m5*pN=y5
 clear e0 e1 e2 e3 e4 e5 eb ek st
 unfold W64
 omega
theorem halfF_nat {a b:Fp} (ha:a.nat<pN):(halfF a b).nat<pN/\((halfF a b).nat*rN) % pN=(a.nat*b.nat) % pN:=by
 obtain ⟨k,h1,h2⟩:=halfT_nat a b
 rw [L7.nat_low] at h1 h2
 have hlt:=(halfT a b).low.nat_lt
 have hpr:2*pN<rN:=by decide +kernel
 have hp0:0<pN:=by decide +kernel
 have h6:(halfT a b).t6.toNat<=1:=by
  rcases Nat.lt_or_ge (halfT a b).t6.toNat 1 with h | h
  ·omega
  ·have:rN*1<=rN*(halfT a b).t6.toNat:=Nat.mul_le_mul_left _ h
   omega
 have h:=lessF_nat (halfT a b).low (halfT a b).t6 h6 (by omega)
 have e:(halfF a b).nat=((halfT a b).low.nat+rN*(halfT a b).t6.toNat) % pN:=h
 rw [e]
 refine ⟨Nat.mod_lt _ hp0,?_⟩
 rw [Nat.mod_mul_mod,h1,Nat.add_mul_mod_self_right]
end Go.Proofs.YtcbplfkeeaecgaaGreat
namespace Go.Proofs.YtcbplfkeeaecgaaGreat
def rInv:Nat:=0x14fec701e8fb0ce9ed5e64273c4f538b1797ab1458a88de9343ea97914956dc87fe11274d898fafbf4d38259380b4820
theorem r_inv:rN*rInv % pN=1:=by decide +kernel
theorem r_cancel {x y:Nat} (h:x*rN % pN=y*rN % pN):x % pN=y % pN:=by
 have e : ∀ z:Nat,z % pN=(z*rN % pN)*rInv % pN:=by
  intro z
  rw [Nat.mod_mul_mod,Nat.mul_assoc,Nat.mul_mod,r_inv,Nat.mul_one,Nat.mod_mod]
 rw [e x,e y,h]
theorem sq_nat:sqLimbs.nat=rN*rN % pN:=by decide +kernel
theorem one_nat:oneFp.nat=1:=by decide +kernel
theorem zero_nat:zeroFp.nat=0:=by decide +kernel
theorem pN_pos:0<pN:=by decide +kernel
theorem wholeF_nat {a:Fp} (ha:a.nat<pN):(wholeF a).nat=a.nat*rN % pN:=by
 obtain ⟨h1,h2⟩:=halfF_nat (b:=sqLimbs) ha
 have h3:(wholeF a).nat*rN % pN=(a.nat*rN)*rN % pN:=by
  rw [show (wholeF a).nat=(halfF a sqLimbs).nat from rfl,h2,sq_nat,Nat.mul_mod_mod,Nat.mul_assoc]
 rw [<- r_cancel h3]
 exact (Nat.mod_eq_of_lt h1).symm
theorem lowF_nat {a:Fp} (ha:a.nat<pN):(lowF a).nat<pN/\(lowF a).nat*rN % pN=a.nat:=by
 obtain ⟨h1,h2⟩:=halfF_nat (b:=oneFp) ha
 rw [one_nat,Nat.mul_one,Nat.mod_eq_of_lt ha] at h2
 exact ⟨h1,h2⟩
theorem mulF_nat {a b:Fp} (ha:a.nat<pN):(mulF a b).nat=a.nat*b.nat % pN:=by
 obtain ⟨h1,h2⟩:=halfF_nat (b:=b) ha
 rw [show mulF a b=wholeF (halfF a b) from rfl,wholeF_nat h1,h2]
theorem mulF_lt {a b:Fp} (ha:a.nat<pN):(mulF a b).nat<pN:=by rw [mulF_nat ha];exact Nat.mod_lt _ pN_pos
theorem addF_lt {a b:Fp} (ha:a.nat<pN) (hb:b.nat<pN):(addF a b).nat<pN:=by rw [addF_nat ha hb];exact Nat.mod_lt _ pN_pos
theorem subF_lt {a b:Fp} (ha:a.nat<pN) (hb:b.nat<pN):(subF a b).nat<pN:=by rw [subF_nat ha hb];exact Nat.mod_lt _ pN_pos
theorem negF_nat {a:Fp} (ha:a.nat<pN):(negF a).nat=(pN-a.nat) % pN:=by
 rw [show negF a=subF zeroFp a from rfl,subF_nat (by rw [zero_nat];exact pN_pos) ha,zero_nat,Nat.zero_add]
def eLow (e:List UInt64):Nat->Nat
 | 0=>0
 | n+1=>eLow e n+(bitAt e n).toNat*2 ^ n
theorem powAt_nat {x:Fp} {a:Nat} (e:List UInt64) (hx:x.nat=a*rN % pN) : ∀ (n:Nat) (o:Fp) (v:Nat),o.nat=v*rN % pN ->
  (powAt x e n o).nat=v ^ 2 ^ n*a ^ eLow e n % pN
 | 0,o,v,ho=>by
  have hlt:o.nat<pN:=by rw [ho];exact Nat.mod_lt _ pN_pos
  obtain ⟨h1,h2⟩:=lowF_nat hlt
  have h3:=r_cancel (h2.trans ho)
  simp only [powAt,eLow,Nat.pow_zero,Nat.pow_one,Nat.mul_one]
  rw [<- h3]
  exact (Nat.mod_eq_of_lt h1).symm
 | n+1,o,v,ho=>by
  have hlt:o.nat<pN:=by rw [ho];exact Nat.mod_lt _ pN_pos
  have hmul : ∀ {p q:Fp} {s t:Nat},p.nat=s*rN % pN->q.nat=t*rN % pN->(halfF p q).nat=(s*t)*rN % pN:=by
   intro p q s t hp hq
   obtain ⟨h1,h2⟩:=halfF_nat (a:=p) (b:=q) (by rw [hp];exact Nat.mod_lt _ pN_pos)
   have h3:(halfF p q).nat*rN % pN=((s*t)*rN)*rN % pN:=by
    rw [h2,hp,hq,<- Nat.mul_mod]
    refine congrArg (fun z=>z % pN) ?_
    simp only [Nat.mul_assoc,Nat.mul_left_comm,Nat.mul_comm]
   have h4:=r_cancel h3
   rw [<- h4]
   exact (Nat.mod_eq_of_lt h1).symm
  have h1:=hmul ho ho
  simp only [powAt]
  cases hb:bitAt e n with
  | true =>
   simp only []
   rw [powAt_nat e hx n _ _ (hmul h1 hx)]
   simp only [eLow,hb,Bool.toNat_true,Nat.one_mul]
   refine congrArg (fun z=>z % pN) ?_
   rw [Nat.mul_pow,<- Nat.pow_two,<- Nat.pow_mul,show 2 ^ (n+1)=2*2 ^ n by rw [Nat.pow_succ,Nat.mul_comm],Nat.pow_add a,Nat.mul_assoc,Nat.mul_comm (a ^ 2 ^ n)]
  | false =>
   simp only []
   rw [powAt_nat e hx n _ _ h1]
   simp only [eLow,hb,Bool.toNat_false,Nat.zero_mul,Nat.add_zero]
   refine congrArg (fun z=>z % pN) ?_
   rw [<- Nat.pow_two,<- Nat.pow_mul,show 2 ^ (n+1)=2*2 ^ n by rw [Nat.pow_succ,Nat.mul_comm]]
theorem powF_nat {a:Fp} (ha:a.nat<pN) (e:List UInt64):(powF a e).nat=a.nat ^ eLow e (64*e.length) % pN:=by
 unfold powF
 have h1:(1:Nat)<pN:=by decide +kernel
 rw [powAt_nat e (wholeF_nat ha) _ _ 1 (by rw [wholeF_nat (by rw [one_nat];exact h1),one_nat])]
 rw [Nat.one_pow,Nat.one_mul]
end Go.Proofs.YtcbplfkeeaecgaaGreat
namespace Go.Proofs.YtcbplfkeeaecgaaGreat
def IsPrime (p:Nat):Prop:=1<p /\ ∀ d,d ∣ p->d=1 \/ d=p
theorem IsPrime.pos {p:Nat} (h:IsPrime p):0<p:=by have:=h.1;omega
theorem IsPrime.coprime {p a:Nat} (h:IsPrime p) (ha : ¬ p ∣ a):Nat.gcd p a=1:=by
 rcases h.2 _ (Nat.gcd_dvd_left p a) with h1 | h1
 ·exact h1
 ·exact absurd (h1 ▸ Nat.gcd_dvd_right p a) ha
theorem IsPrime.dvd_mul {p a b:Nat} (h:IsPrime p) (hd:p ∣ a*b):p ∣ a \/ p ∣ b:=by
 by_cases ha:p ∣ a
 ·exact .inl ha
 ·exact .inr (Nat.Coprime.dvd_of_dvd_mul_left (h.coprime ha) hd)
def ch:Nat->Nat->Nat
 | _,0=>1
 | 0,_+1=>0
 | n+1,k+1=>ch n k+ch n (k+1)
theorem ch_zero (n:Nat):ch n 0=1:=by cases n <;> rfl
theorem ch_big : ∀ {n k:Nat},n<k->ch n k=0
 | 0,k+1,_=>rfl
 | n+1,k+1,h=>by simp only [ch];rw [ch_big (by omega),ch_big (by omega)]
theorem ch_self : ∀ n:Nat,ch n n=1
 | 0=>rfl
 | n+1=>by simp only [ch];rw [ch_self n,ch_big (by omega)]
theorem ch_mul : ∀ n k:Nat,(k+1)*ch (n+1) (k+1)=(n+1)*ch n k
 | 0,0=>rfl
 | 0,k+1=>by simp [ch]
 | n+1,0=>by
  have h:=ch_mul n 0
  simp only [ch_zero,Nat.zero_add,Nat.one_mul,Nat.mul_one] at h ⊢
  show ch (n+1) 0+ch (n+1) 1=n+1+1
  rw [ch_zero,h]
  omega
 | n+1,j+1=>by
  have h1:=ch_mul n j
  have h2:=ch_mul n (j+1)
  have e:ch (n+1) (j+1)=ch n j+ch n (j+1):=rfl
  show (j+1+1)*(ch (n+1) (j+1)+ch (n+1) (j+1+1))=(n+1+1)*ch (n+1) (j+1)
  rw [Nat.mul_add,h2,Nat.succ_mul (j+1),h1]
  rw [Nat.succ_mul (n+1),e,Nat.mul_add]
  omega
def bs (a n:Nat):Nat->Nat
 | 0=>0
 | m+1=>bs a n m+ch n m*a ^ m
theorem bs_step (a n:Nat) : ∀ m:Nat,bs a (n+1) (m+1)=bs a n (m+1)+a*bs a n m
 | 0=>by simp [bs,ch_zero]
 | m+1=>by
  have h:=bs_step a n m
  show bs a (n+1) (m+1)+ch (n+1) (m+1)*a ^ (m+1)=bs a n (m+1)+ch n (m+1)*a ^ (m+1)+a*(bs a n m+ch n m*a ^ m)
  rw [h,show ch (n+1) (m+1)=ch n m+ch n (m+1) from rfl,Nat.add_mul,Nat.mul_add,Nat.pow_succ]
  have:ch n m*(a ^ m*a)=a*(ch n m*a ^ m):=by rw [<- Nat.mul_assoc,Nat.mul_comm]
  omega
theorem binom (a:Nat) : ∀ n:Nat,(a+1) ^ n=bs a n (n+1)
 | 0=>by simp [bs,ch]
 | n+1=>by
  rw [bs_step a n (n+1),show bs a n (n+1+1)=bs a n (n+1)+ch n (n+1)*a ^ (n+1) from rfl,ch_big (Nat.lt_succ_self n),Nat.zero_mul,Nat.add_zero,<- binom a n,Nat.pow_succ,Nat.mul_add,Nat.mul_one,Nat.mul_comm a]
  omega
theorem ch_prime {p k:Nat} (h:IsPrime p) (h0:0<k) (hk:k<p):p ∣ ch p k:=by
 obtain ⟨j,rfl⟩ : ∃ j,k=j+1:=⟨k-1,by omega⟩
 obtain ⟨n,rfl⟩ : ∃ n,p=n+1:=⟨p-1,by omega⟩
 have hd:n+1 ∣ (j+1)*ch (n+1) (j+1):=⟨ch n j,ch_mul n j⟩
 rcases h.dvd_mul hd with h1 | h1
 ·exact absurd (Nat.le_of_dvd (by omega) h1) (by omega)
 ·exact h1
theorem bs_prime {p:Nat} (h:IsPrime p) (a:Nat) : ∀ m:Nat,m<p->bs a p (m+1) % p=1
 | 0,_=>by
  simp only [bs,ch_zero,Nat.pow_zero,Nat.mul_one,Nat.zero_add]
  exact Nat.mod_eq_of_lt h.1
 | m+1,hm=>by
  have ih:=bs_prime h a m (by omega)
  obtain ⟨c,hc⟩:=ch_prime h (Nat.succ_pos m) hm
  show (bs a p (m+1)+ch p (m+1)*a ^ (m+1)) % p=1
  rw [hc,Nat.mul_assoc,Nat.add_mul_mod_self_left]
  exact ih
theorem fermat_a {p:Nat} (h:IsPrime p) : ∀ a:Nat,a ^ p % p=a % p
 | 0=>by
  have:=h.pos
  rw [Nat.zero_pow this]
 | a+1=>by
  have ih:=fermat_a h a
  have hp:=h.1
  obtain ⟨n,rfl⟩ : ∃ n,p=n+1:=⟨p-1,by omega⟩
  rw [binom a (n+1),show bs a (n+1) (n+1+1)=bs a (n+1) (n+1)+ch (n+1) (n+1)*a ^ (n+1) from rfl,ch_self,Nat.one_mul,Nat.add_mod,bs_prime h a n (by omega),ih]
  rw [Nat.add_mod a 1,Nat.mod_eq_of_lt hp,Nat.add_comm]
theorem fermat {p a:Nat} (h:IsPrime p) (ha : ¬ p ∣ a):a ^ (p-1) % p=1:=by
 have hp:=h.1
 have h1:=fermat_a h a
 obtain ⟨n,rfl⟩ : ∃ n,p=n+1:=⟨p-1,by omega⟩
 rw [Nat.add_sub_cancel]
 have h0:0<a:=Nat.pos_of_ne_zero (by rintro rfl;exact ha ⟨0,rfl⟩)
 have hle:a<=a ^ (n+1):=Nat.le_self_pow (by omega) a
 have hd:n+1 ∣ a ^ (n+1)-a:=Nat.dvd_of_mod_eq_zero (Nat.sub_mod_eq_zero_of_mod_eq h1)
 have h2:1<=a ^ n:=Nat.one_le_pow _ _ h0
 have e:a ^ (n+1)-a=a*(a ^ n-1):=by rw [Nat.pow_succ,Nat.mul_sub,Nat.mul_one,Nat.mul_comm]
 rw [e] at hd
 rcases h.dvd_mul hd with h3 | h3
 ·exact absurd h3 ha
 ·obtain ⟨c,hc⟩:=h3
  rw [show a ^ n=(n+1)*c+1 by omega,Nat.mul_add_mod]
  exact Nat.mod_eq_of_lt hp
theorem exists_prime_dvd : ∀ n:Nat,1<n -> ∃ p,IsPrime p/\p ∣ n:=by
 intro n
 induction n using Nat.strongRecOn with
 | ind n ih =>
  intro hn
  by_cases h:IsPrime n
  ·exact ⟨n,h,Nat.dvd_refl n⟩
  ·have : ∃ d,d ∣ n/\d ≠ 1/\d ≠ n:=by
    apply Classical.byContradiction
    intro hc
    refine h ⟨hn,fun d hd => ?_⟩
    by_cases h1:d=1
    ·exact .inl h1
    ·by_cases h2:d=n
     ·exact .inr h2
     ·exact absurd ⟨d,hd,h1,h2⟩ hc
   obtain ⟨d,hd,h1,h2⟩:=this
   have hdn:=Nat.le_of_dvd (by omega) hd
   have hd0:d ≠ 0:=by
    rintro rfl
    have:=Nat.eq_zero_of_zero_dvd hd
    omega
   obtain ⟨p,hp,hpd⟩:=ih d (by omega) (by omega)
   exact ⟨p,hp,Nat.dvd_trans hpd hd⟩
theorem pow_gcd {d b:Nat} (hd:1<d) : ∀ m n:Nat,b ^ m % d=1->b ^ n % d=1->b ^ Nat.gcd m n % d=1:=by
 intro m n
 induction m,n using Nat.gcd.induction with
 | H0 n=>intro _ h;rw [Nat.gcd_zero_left];exact h
 | H1 m n hm ih =>
  intro h1 h2
  rw [Nat.gcd_rec]
  refine ih ?_ h1
  have e:b ^ n % d=(b ^ m) ^ (n / m)*b ^ (n % m) % d:=by rw [<- Nat.pow_mul,<- Nat.pow_add,Nat.div_add_mod]
  rw [h2,Nat.mul_mod,Nat.pow_mod,h1,Nat.one_pow,Nat.mod_eq_of_lt hd,Nat.one_mul,Nat.mod_mod] at e
  exact e.symm
theorem pock_key {n q r a:Nat} (hn:n=q*r+1) (hq:IsPrime q) (hr:0<r) (h1:a ^ (q*r) % n=1) (h2:Nat.gcd (a ^ r % n+(n-1)) n=1) {d:Nat} (hd:IsPrime d) (hdn:d ∣ n):q ∣ d-1:=by
 have hq1:=hq.1
 have hn1:1<n:=by
  have:0<q*r:=Nat.mul_pos (by omega) hr
  omega
 have hd1:=hd.1
 have hb:(a ^ r) ^ q % d=1:=by
  rw [<- Nat.pow_mul,Nat.mul_comm r q]
  have:a ^ (q*r) % n % d=a ^ (q*r) % d:=Nat.mod_mod_of_dvd _ hdn
  rw [<- this,h1,Nat.mod_eq_of_lt hd1]
 have hnd : ¬ d ∣ a ^ r:=by
  intro h
  obtain ⟨c,hc⟩:=h
  rw [hc,Nat.mul_pow,Nat.mul_mod] at hb
  have:d ^ q % d=0:=by
   obtain ⟨k,rfl⟩ : ∃ k,q=k+1:=⟨q-1,by omega⟩
   rw [Nat.pow_succ,Nat.mul_mod_left]
  rw [this] at hb
  simp at hb
 have hf:=fermat hd hnd
 have hne:a ^ r % d ≠ 1:=by
  intro h
  have hdd:d ∣ a ^ r % n+(n-1):=by
   have e:(a ^ r % n) % d=1:=by rw [Nat.mod_mod_of_dvd _ hdn];exact h
   have e2:(a ^ r % n+(n-1)+1) % d=1:=by
    rw [show a ^ r % n+(n-1)+1=a ^ r % n+n by omega,Nat.add_mod,e]
    obtain ⟨c,hc⟩:=hdn
    rw [hc,Nat.mul_mod_right,Nat.add_zero,Nat.mod_eq_of_lt hd1]
   have e3:=Nat.sub_mod_eq_zero_of_mod_eq (e2.trans (Nat.mod_eq_of_lt hd1).symm)
   rw [Nat.add_sub_cancel] at e3
   exact Nat.dvd_of_mod_eq_zero e3
  have:=Nat.dvd_gcd hdd hdn
  rw [h2] at this
  have:=Nat.le_of_dvd (by omega) this
  omega
 apply Classical.byContradiction
 intro hc
 have hg:=hq.coprime hc
 have:=pow_gcd hd1 q (d-1) hb hf
 rw [hg,Nat.pow_one] at this
 exact hne this
theorem pocklington {n q r a K:Nat} (hn:n=q*r+1) (hq:IsPrime q) (hr:0<r) (hK : ∀ k,k<K -> ¬ (q*(k+1)+1) ∣ n) (hqq:n<(q*(K+1)+1)*(q*(K+1)+1)) (h1:a ^ (q*r) % n=1) (h2:Nat.gcd (a ^ r % n+(n-1)) n=1):IsPrime n:=by
 have hq1:=hq.1
 have hn1:1<n:=by
  have:0<q*r:=Nat.mul_pos (by omega) hr
  omega
 refine ⟨hn1,fun x hx => ?_⟩
 have key : ∀ d,IsPrime d->d ∣ n->q*(K+1)+1<=d:=by
  intro d hd hdn
  obtain ⟨c,hc⟩:=pock_key hn hq hr h1 h2 hd hdn
  have hd1:=hd.1
  have hdc:d=q*c+1:=by omega
  rcases Nat.lt_or_ge K c with h | h
  ·have:=Nat.mul_le_mul_left q (show K+1<=c from h)
   omega
  ·have hc0:c ≠ 0:=by rintro rfl;omega
   obtain ⟨k,rfl⟩ : ∃ k,c=k+1:=⟨c-1,by omega⟩
   exact absurd (hdc ▸ hdn) (hK k (by omega))
 by_cases hx1:x=1
 ·exact .inl hx1
 ·right
  obtain ⟨y,hy⟩:=hx
  have hx0:x ≠ 0:=by rintro rfl;omega
  by_cases hy1:y=1
  ·subst hy1;omega
  ·have hy0:y ≠ 0:=by rintro rfl;omega
   obtain ⟨d,hd,hdx⟩:=exists_prime_dvd x (by omega)
   obtain ⟨e,he,hey⟩:=exists_prime_dvd y (by omega)
   have k1:=key d hd (Nat.dvd_trans hdx ⟨y,hy⟩)
   have k2:=key e he (Nat.dvd_trans hey ⟨x,by rw [hy,Nat.mul_comm]⟩)
   have l1:=Nat.le_of_dvd (by omega) hdx
   have l2:=Nat.le_of_dvd (by omega) hey
   have:=Nat.mul_le_mul (show q*(K+1)+1<=x by omega) (show q*(K+1)+1<=y by omega)
   omega
end Go.Proofs.YtcbplfkeeaecgaaGreat
namespace Go.Proofs.YtcbplfkeeaecgaaGreat
def mpow:Nat->Nat->Nat->Nat->Nat
 | 0,_,_,n=>1 % n
 | k+1,a,e,n=>match Nat.beq e 0 with
  | true=>1 % n
  | false=>match Nat.beq (e % 2) 1 with
   | true=>a*mpow k (a*a % n) (e / 2) n % n
   | false=>mpow k (a*a % n) (e / 2) n
theorem mpow_eq (n:Nat) : ∀ (k a e:Nat),e<2 ^ k->mpow k a e n=a ^ e % n
 | 0,a,e,h=>by
  obtain rfl:e=0:=by simpa using h
  rfl
 | k+1,a,e,h=>by
  unfold mpow
  cases h0:Nat.beq e 0 with
  | true =>
   have:=Nat.eq_of_beq_eq_true h0
   subst this
   rfl
  | false =>
   have hlt:e / 2<2 ^ k:=by rw [Nat.pow_succ] at h;omega
   have ih:=mpow_eq n k (a*a % n) (e / 2) hlt
   have e1:(a*a % n) ^ (e / 2) % n=a ^ (2*(e / 2)) % n:=by rw [<- Nat.pow_mod,<- Nat.pow_two,<- Nat.pow_mul]
   cases h1:Nat.beq (e % 2) 1 with
   | true =>
    have h1:=Nat.eq_of_beq_eq_true h1
    simp only []
    rw [ih,e1,Nat.mul_mod_mod]
    refine congrArg (fun z=>z % n) ?_
    rw [show a ^ e=a ^ (2*(e / 2)+1) by congr 1;omega,Nat.pow_succ,Nat.mul_comm]
   | false =>
    have h1:=Nat.ne_of_beq_eq_false h1
    simp only []
    rw [ih,e1]
    refine congrArg (fun z=>a ^ z % n) ?_
    omega
theorem pock {n q r a k:Nat} (K:Nat) (hn:n=q*r+1) (hq:IsPrime q) (hr:0<r) (hK : ∀ k,k<K -> ¬ (q*(k+1)+1) ∣ n) (hqq:n<(q*(K+1)+1)*(q*(K+1)+1)) (hk:q*r<2 ^ k) (h1:mpow k a (q*r) n=1) (h2:Nat.gcd (mpow k a r n+(n-1)) n=1):IsPrime n:=by
 have hrq:r<2 ^ k:=Nat.lt_of_le_of_lt (Nat.le_mul_of_pos_left r (by have:=hq.1;omega)) hk
 rw [mpow_eq n k a _ hk] at h1
 rw [mpow_eq n k a _ hrq] at h2
 exact pocklington hn hq hr hK hqq h1 h2
def noDiv (n:Nat):Nat->Nat->Bool
 | 0,_=>true
 | k+1,d=>match Nat.beq (n % d) 0 with
  | true=>false
  | false=>noDiv n k (d+1)
theorem noDiv_spec {n:Nat} : ∀ {k d:Nat},noDiv n k d=true -> ∀ x,d<=x->x<d+k -> ¬ x ∣ n
 | 0,d,_,x,h1,h2=>by omega
 | k+1,d,h,x,h1,h2=>by
  simp only [noDiv] at h
  split at h
  ·cases h
  ·rename_i hb
   have hb:=Nat.ne_of_beq_eq_false hb
   rcases Nat.lt_or_ge d x with hlt | hge
   ·exact noDiv_spec h x hlt (by omega)
   ·obtain rfl:x=d:=by omega
    exact fun hd=>hb (Nat.mod_eq_zero_of_dvd hd)
theorem prime_of_noDiv {n k:Nat} (hn:1<n) (h:noDiv n k 2=true) (hk:n<(k+2)*(k+2)):IsPrime n:=by
 refine ⟨hn,fun d hd => ?_⟩
 obtain ⟨y,hy⟩:=hd
 have hd0:d ≠ 0:=by rintro rfl;omega
 have hy0:y ≠ 0:=by rintro rfl;omega
 by_cases h1:d=1
 ·exact .inl h1
 ·right
  by_cases h2:y=1
  ·subst h2;omega
  ·have k1:k+2<=d:=by
    rcases Nat.lt_or_ge d (2+k) with hl | hl
    ·exact absurd ⟨y,hy⟩ (noDiv_spec h d (by omega) hl)
    ·omega
   have k2:k+2<=y:=by
    rcases Nat.lt_or_ge y (2+k) with hl | hl
    ·exact absurd ⟨d,by rw [hy,Nat.mul_comm]⟩ (noDiv_spec h y (by omega) hl)
    ·omega
   have:=Nat.mul_le_mul k1 k2
   omega
theorem prime_u:IsPrime 421987:=prime_of_noDiv (k:=700) (by decide) (by decide +kernel) (by decide)
theorem prime_t:IsPrime 13090036741:=pock 0 (q:=421987) (r:=31020) (a:=2) (k:=34) (by decide) prime_u (by decide) (fun k h=>absurd h (by omega)) (by decide) (by decide) (by decide +kernel) (by decide +kernel)
theorem prime_s:IsPrime 3819663927398918131021:=pock 4 (q:=13090036741) (r:=291799328220) (a:=2) (k:=72) (by decide) prime_t (by decide) (by decide +kernel) (by decide +kernel) (by decide +kernel) (by decide +kernel) (by decide +kernel)
theorem prime_r:IsPrime 1125266252156850182658904441386709967:=pock 0 (q:=3819663927398918131021) (r:=294598235223046) (a:=2) (k:=120) (by decide +kernel) prime_s (by decide) (fun k h=>absurd h (by omega)) (by decide +kernel) (by decide +kernel) (by decide +kernel) (by decide +kernel)
theorem prime_q:IsPrime 15778400344354997994418419698270088123916926905054652752758194827714659:=pock 0 (q:=1125266252156850182658904441386709967) (r:=14021926201120671579994175730661374) (a:=2) (k:=234) (by decide +kernel) prime_r (by decide +kernel) (fun k h=>absurd h (by omega)) (by decide +kernel) (by decide +kernel) (by decide +kernel) (by decide +kernel)
theorem prime_p:IsPrime pN:=pock 0 (q:=15778400344354997994418419698270088123916926905054652752758194827714659) (r:=253663835868735594330404923636534084567099854) (a:=2) (k:=381) (by decide +kernel) prime_q (by decide +kernel) (fun k h=>absurd h (by omega)) (by decide +kernel) (by decide +kernel) (by decide +kernel) (by decide +kernel)
end Go.Proofs.YtcbplfkeeaecgaaGreat
namespace Go.Proofs.YtcbplfkeeaecgaaGreat
def valAt (xs:List UInt64):Nat->Nat
 | 0=>0
 | n+1=>valAt xs n+(atF xs n).toNat*W64 ^ n
theorem valAt_lt (xs:List UInt64) : ∀ n,valAt xs n<W64 ^ n
 | 0=>by simp [valAt]
 | n+1=>by
  have ih:=valAt_lt xs n
  have h:=(atF xs n).toNat_lt
  have h1:(atF xs n).toNat*W64 ^ n<=(W64-1)*W64 ^ n:=Nat.mul_le_mul_right _ (by unfold W64;omega)
  have h2:W64 ^ (n+1)=(W64-1)*W64 ^ n+W64 ^ n:=by
   rw [Nat.pow_succ,Nat.mul_comm,Nat.sub_mul,Nat.one_mul]
   have:W64 ^ n<=W64*W64 ^ n:=Nat.le_mul_of_pos_left _ (by unfold W64;omega)
   omega
  simp only [valAt]
  omega
theorem val_step {x y p q:Nat} {w a b:Nat} (hp:p<w) (hq:q<w):a<b->p+a*w<q+b*w:=by
 intro h
 have:(a+1)*w<=b*w:=Nat.mul_le_mul_right _ h
 rw [Nat.add_mul,Nat.one_mul] at this
 omega
theorem cmpAt_val (xs ys:List UInt64) : ∀ n,cmpAt xs ys n=if valAt xs n<valAt ys n then -1 else if valAt xs n > valAt ys n then 1 else 0
 | 0=>by simp [cmpAt,valAt]
 | n+1=>by
  have ih:=cmpAt_val xs ys n
  have h1:=valAt_lt xs n
  have h2:=valAt_lt ys n
  have e1:valAt xs (n+1)=valAt xs n+(atF xs n).toNat*W64 ^ n:=rfl
  have e2:valAt ys (n+1)=valAt ys n+(atF ys n).toNat*W64 ^ n:=rfl
  rw [e1,e2]
  show (if atF xs n<atF ys n then -1 else if atF xs n > atF ys n then 1 else cmpAt xs ys n)=_
  by_cases ha:atF xs n<atF ys n
  ·have:=UInt64.lt_iff_toNat_lt.1 ha
   have:=val_step (x:=0) (y:=0) h1 h2 this
   rw [if_pos ha,if_pos this]
  ·rw [if_neg ha]
   by_cases hb:atF xs n > atF ys n
   ·have:=UInt64.lt_iff_toNat_lt.1 hb
    have:=val_step (x:=0) (y:=0) h2 h1 this
    rw [if_pos hb,if_neg (by omega),if_pos this]
   ·rw [if_neg hb,ih]
    have e:(atF xs n).toNat=(atF ys n).toNat:=by
     have h3:=mt UInt64.lt_iff_toNat_lt.2 ha
     have h4:=mt UInt64.lt_iff_toNat_lt.2 hb
     omega
    rw [e]
    simp only [Nat.add_lt_add_iff_right,gt_iff_lt]
theorem list_val (a:Fp):valAt a.list 6=a.nat:=by
 simp only [valAt,atF,Fp.list,Fp.nat,List.getD_eq_getElem?_getD,List.getElem?_cons_zero,List.getElem?_cons_succ,Option.getD_some]
 generalize a.l0.toNat=x0
 generalize a.l1.toNat=x1
 generalize a.l2.toNat=x2
 generalize a.l3.toNat=x3
 generalize a.l4.toNat=x4
 generalize a.l5.toNat=x5
 simp only [Nat.pow_succ,Nat.pow_zero,Nat.one_mul,Nat.mul_one,Nat.mul_add,Nat.mul_assoc,Nat.mul_comm,Nat.mul_left_comm,Nat.zero_add]
 omega
theorem cmp_nat (a b:Fp):cmpF a.list b.list=if a.nat<b.nat then -1 else if a.nat > b.nat then 1 else 0:=by
 have h:cmpF a.list b.list=cmpAt a.list b.list 6:=by
  unfold cmpF maxI
  rfl
 rw [h,cmpAt_val,list_val,list_val]
theorem mayF_nat (a:Fp):mayF a=decide (a.nat<pN):=by
 unfold mayF
 rw [cmp_nat,pLimbs_nat]
 refine decide_eq_decide.2 ?_
 split
 ·rename_i h;simp [h]
 ·rename_i h
  simp only [h,iff_false]
  split <;> omega
def hN:Nat:=pN / 2
theorem halved_nat:(halvedF pLimbs).nat=hN:=by decide +kernel
theorem greatF_nat (a:Fp):greatF a=decide (hN<a.nat):=by
 unfold greatF
 rw [cmp_nat,halved_nat]
 refine decide_eq_decide.2 ?_
 split
 ·rename_i h;constructor <;> intro h' <;> omega
 ·split
  ·rename_i h h2;constructor <;> intro h' <;> omega
  ·rename_i h h2;constructor <;> intro h' <;> omega
theorem u64_ne {x y:UInt64}:(x != y)=true <-> x.toNat ≠ y.toNat:=by
 simp only [bne_iff_ne,ne_eq]
 exact ⟨fun h e=>h (UInt64.toNat.inj e),fun h e=>h (by rw [e])⟩
theorem belowF_nat (a m:Fp):belowF a m=decide (a.nat<m.nat):=by
 have h0:=a.l0.toNat_lt
 have h1:=a.l1.toNat_lt
 have h2:=a.l2.toNat_lt
 have h3:=a.l3.toNat_lt
 have h4:=a.l4.toNat_lt
 have k0:=m.l0.toNat_lt
 have k1:=m.l1.toNat_lt
 have k2:=m.l2.toNat_lt
 have k3:=m.l3.toNat_lt
 have k4:=m.l4.toNat_lt
 have same : ∀ {x y:UInt64},(x != y)=false->x.toNat=y.toNat:=fun h=>by
  simp only [bne_eq_false_iff_eq] at h
  rw [h]
 unfold belowF
 cases e5:a.l5 != m.l5 with
 | true =>
  have:=u64_ne.1 e5
  refine decide_eq_decide.2 ?_
  rw [UInt64.lt_iff_toNat_lt]
  unfold Fp.nat W64
  omega
 | false =>
  have e5:=same e5
  simp only []
  cases e4:a.l4 != m.l4 with
  | true =>
   have:=u64_ne.1 e4
   refine decide_eq_decide.2 ?_
   rw [UInt64.lt_iff_toNat_lt]
   unfold Fp.nat W64
   omega
  | false =>
   have e4:=same e4
   simp only []
   cases e3:a.l3 != m.l3 with
   | true =>
    have:=u64_ne.1 e3
    refine decide_eq_decide.2 ?_
    rw [UInt64.lt_iff_toNat_lt]
    unfold Fp.nat W64
    omega
   | false =>
    have e3:=same e3
    simp only []
    cases e2:a.l2 != m.l2 with
    | true =>
     have:=u64_ne.1 e2
     refine decide_eq_decide.2 ?_
     rw [UInt64.lt_iff_toNat_lt]
     unfold Fp.nat W64
     omega
    | false =>
     have e2:=same e2
     simp only []
     cases e1:a.l1 != m.l1 with
     | true =>
      have:=u64_ne.1 e1
      refine decide_eq_decide.2 ?_
      rw [UInt64.lt_iff_toNat_lt]
      unfold Fp.nat W64
      omega
     | false =>
      have e1:=same e1
      simp only []
      cases e0:a.l0 != m.l0 with
      | true =>
       have:=u64_ne.1 e0
       refine decide_eq_decide.2 ?_
       rw [UInt64.lt_iff_toNat_lt]
       unfold Fp.nat W64
       omega
      | false =>
       have e0:=same e0
       refine (decide_eq_false ?_).symm
       unfold Fp.nat W64
       omega
theorem fpEq_nat (a b:Fp):fpEq a b=decide (a.nat=b.nat):=by
 by_cases h:a=b
 ·subst h;rw [(fpEq_iff a a).2 rfl];simp
 ·have h1:fpEq a b=false:=by
   cases e:fpEq a b with
   | true=>exact absurd ((fpEq_iff a b).1 e) h
   | false=>rfl
  rw [h1]
  exact (decide_eq_false fun e=>h (Fp.nat_inj e)).symm
end Go.Proofs.YtcbplfkeeaecgaaGreat
namespace Go.Proofs.YtcbplfkeeaecgaaGreat
theorem of_nat (n:UInt64):(ofF n).nat=n.toNat:=by
 unfold ofF Fp.nat
 simp only [show (0:UInt64).toNat=0 from rfl,Nat.mul_zero,Nat.add_zero]
theorem invE:eLow [pLimbs.l0-2,pLimbs.l1,pLimbs.l2,pLimbs.l3,pLimbs.l4,pLimbs.l5] (64*6)=pN-2:=by decide +kernel
theorem not_dvd {a:Nat} (h:a<pN) (h0:a ≠ 0) : ¬ pN ∣ a:=fun hd=>absurd (Nat.le_of_dvd (by omega) hd) (by omega)
theorem two_lt:2<pN:=by decide +kernel
theorem inv_law {x:Fp} (hx:x.nat<pN):(x.nat=0->(invF x).2=7)/\(x.nat ≠ 0->(invF x).2=0/\(invF x).1.nat<pN/\x.nat*(invF x).1.nat % pN=1):=by
 unfold invF
 rw [fpEq_nat,zero_nat]
 refine ⟨fun h => ?_,fun h => ?_⟩
 ·rw [decide_eq_true h]
 ·rw [decide_eq_false h]
  simp only []
  have e:(powF x [pLimbs.l0-2,pLimbs.l1,pLimbs.l2,pLimbs.l3,pLimbs.l4,pLimbs.l5]).nat=x.nat ^ (pN-2) % pN:=by
   rw [powF_nat hx,show 64 * [pLimbs.l0-2,pLimbs.l1,pLimbs.l2,pLimbs.l3,pLimbs.l4,pLimbs.l5].length=64*6 from rfl,invE]
  refine ⟨trivial,by rw [e];exact Nat.mod_lt _ pN_pos,?_⟩
  rw [e,Nat.mul_mod_mod]
  have h2:=two_lt
  have:x.nat*x.nat ^ (pN-2)=x.nat ^ (pN-1):=by rw [show pN-1=(pN-2)+1 by omega,Nat.pow_succ,Nat.mul_comm]
  rw [this]
  exact fermat prime_p (not_dvd hx h)
end Go.Proofs.YtcbplfkeeaecgaaGreat
namespace Go.Proofs.YtcbplfkeeaecgaaGreat
instance : NeZero pN := ⟨by decide +kernel⟩
def V1:Type:=Fin pN
def V1.of (n:Nat):V1:=Fin.ofNat pN n
def V1.nat (a:V1):Nat:=Fin.val a
theorem V1.nat_lt (a:V1):a.nat<pN:=Fin.isLt a
theorem V1.nat_of (n:Nat):(V1.of n).nat=n % pN:=rfl
theorem V1.ext {a b:V1} (h:a.nat=b.nat):a=b:=Fin.eq_of_val_eq h
theorem V1.of_nat (a:V1):V1.of a.nat=a:=V1.ext (by rw [V1.nat_of,Nat.mod_eq_of_lt a.nat_lt])
def V1.add (a b:V1):V1:=V1.of (a.nat+b.nat)
def V1.mul (a b:V1):V1:=V1.of (a.nat*b.nat)
def V1.neg (a:V1):V1:=V1.of (pN-a.nat)
def V1.sub (a b:V1):V1:=V1.of (a.nat+(pN-b.nat))
def V1.inv (a:V1):V1:=V1.of (mpow 381 a.nat (pN-2) pN)
theorem one_lt_p:1<pN:=by decide +kernel
theorem V1.one_mod:1 % pN=1:=Nat.mod_eq_of_lt one_lt_p
instance : CR V1 where
 add:=V1.add
 mul:=V1.mul
 neg:=V1.neg
 sub:=V1.sub
 z:=V1.of 0
 o:=V1.of 1
 add_zero:=fun a=>V1.ext (by show (a.nat+0 % pN) % pN=a.nat;rw [Nat.zero_mod,Nat.add_zero,Nat.mod_eq_of_lt a.nat_lt])
 add_comm:=fun a b=>V1.ext (by show (a.nat+b.nat) % pN=(b.nat+a.nat) % pN;rw [Nat.add_comm])
 add_assoc:=fun a b c=>V1.ext (by show ((a.nat+b.nat) % pN+c.nat) % pN=(a.nat+(b.nat+c.nat) % pN) % pN;rw [Nat.mod_add_mod,Nat.add_mod_mod,Nat.add_assoc])
 mul_assoc:=fun a b c=>V1.ext (by show ((a.nat*b.nat) % pN*c.nat) % pN=(a.nat*((b.nat*c.nat) % pN)) % pN;rw [Nat.mod_mul_mod,Nat.mul_mod_mod,Nat.mul_assoc])
 mul_comm:=fun a b=>V1.ext (by show (a.nat*b.nat) % pN=(b.nat*a.nat) % pN;rw [Nat.mul_comm])
 mul_one:=fun a=>V1.ext (by show (a.nat*(1 % pN)) % pN=a.nat;rw [V1.one_mod,Nat.mul_one,Nat.mod_eq_of_lt a.nat_lt])
 dist:=fun a b c=>V1.ext (by
  show (a.nat*((b.nat+c.nat) % pN)) % pN=((a.nat*b.nat) % pN+(a.nat*c.nat) % pN) % pN
  rw [Nat.mul_mod_mod,<- Nat.add_mod,Nat.mul_add])
 neg_add:=fun a=>V1.ext (by
  show ((pN-a.nat) % pN+a.nat) % pN=0 % pN
  rw [Nat.mod_add_mod,Nat.sub_add_cancel (Nat.le_of_lt a.nat_lt),Nat.mod_self,Nat.zero_mod])
 sub_eq:=fun a b=>V1.ext (by
  show (a.nat+(pN-b.nat)) % pN=(a.nat+(pN-b.nat) % pN) % pN
  rw [Nat.add_mod_mod])
theorem V1.nat_add (a b:V1):(a+b).nat=(a.nat+b.nat) % pN:=rfl
theorem V1.nat_mul (a b:V1):(a*b).nat=(a.nat*b.nat) % pN:=rfl
theorem V1.nat_zero:(0:V1).nat=0:=Nat.zero_mod _
theorem V1.nat_one:(1:V1).nat=1:=V1.one_mod
theorem V1.nat_pow (a:V1) : ∀ n:Nat,(a ^ n).nat=a.nat ^ n % pN
 | 0=>rfl
 | n+1=>by rw [pow_succ',V1.nat_mul,V1.nat_pow a n,Nat.mod_mul_mod,Nat.pow_succ]
theorem V1.ne_zero {a:V1} (h:a ≠ 0):a.nat ≠ 0:=fun e=>h (V1.ext (by rw [e,V1.nat_zero]))
theorem V1.fermat {a:V1} (h:a ≠ 0):a ^ (pN-1)=1:=V1.ext (by
 rw [V1.nat_pow,V1.nat_one]
 exact Go.Proofs.YtcbplfkeeaecgaaGreat.fermat prime_p (not_dvd a.nat_lt (V1.ne_zero h)))
theorem V1.inv_eq (a:V1):V1.inv a=a ^ (pN-2):=V1.ext (by
 show mpow 381 a.nat (pN-2) pN % pN=_
 rw [mpow_eq pN 381 _ _ (by decide +kernel),V1.nat_pow,Nat.mod_mod])
instance : Fld V1 where
 inv:=V1.inv
 mul_inv:=fun a h=>by
  rw [V1.inv_eq]
  have:=V1.fermat h
  rw [show pN-1=(pN-2)+1 by have:=two_lt;omega,pow_succ'] at this
  rw [CR.mul_comm]
  exact this
 one_ne:=fun e=>by
  have:=congrArg V1.nat e
  rw [V1.nat_one,V1.nat_zero] at this
  omega
def Fp.ok (a:Fp):Prop:=a.nat<pN
def Fp.v (a:Fp):V1:=V1.of a.nat
theorem Fp.v_nat {a:Fp} (h:a.ok):a.v.nat=a.nat:=Nat.mod_eq_of_lt h
theorem Fp.v_inj {a b:Fp} (ha:a.ok) (hb:b.ok) (h:a.v=b.v):a=b:=Fp.nat_inj (by rw [<- Fp.v_nat ha,<- Fp.v_nat hb,h])
theorem fpEq_v {a b:Fp} (ha:a.ok) (hb:b.ok):fpEq a b=true <-> a.v=b.v:=⟨fun h=>by rw [(fpEq_iff a b).1 h],fun h=>(fpEq_iff a b).2 (Fp.v_inj ha hb h)⟩
theorem add_ok' {a b:Fp} (ha:a.ok) (hb:b.ok):(addF a b).ok:=addF_lt ha hb
theorem sub_ok' {a b:Fp} (ha:a.ok) (hb:b.ok):(subF a b).ok:=subF_lt ha hb
theorem mul_ok' {a b:Fp} (ha:a.ok):(mulF a b).ok:=mulF_lt ha
theorem zero_ok':zeroFp.ok:=by unfold Fp.ok;rw [zero_nat];exact pN_pos
theorem one_ok':oneFp.ok:=by unfold Fp.ok;rw [one_nat];exact one_lt_p
theorem neg_ok' {a:Fp} (ha:a.ok):(negF a).ok:=sub_ok' zero_ok' ha
theorem v_zero:zeroFp.v=0:=V1.ext (by rw [Fp.v_nat zero_ok',zero_nat,V1.nat_zero])
theorem v_one:oneFp.v=1:=V1.ext (by rw [Fp.v_nat one_ok',one_nat,V1.nat_one])
theorem v_add {a b:Fp} (ha:a.ok) (hb:b.ok):(addF a b).v=a.v+b.v:=V1.ext (by
 rw [Fp.v_nat (add_ok' ha hb),addF_nat ha hb,V1.nat_add,Fp.v_nat ha,Fp.v_nat hb])
theorem v_mul {a b:Fp} (ha:a.ok) (hb:b.ok):(mulF a b).v=a.v*b.v:=V1.ext (by
 rw [Fp.v_nat (mul_ok' ha),mulF_nat ha,V1.nat_mul,Fp.v_nat ha,Fp.v_nat hb])
theorem v_sub {a b:Fp} (ha:a.ok) (hb:b.ok):(subF a b).v=a.v-b.v:=V1.ext (by
 rw [Fp.v_nat (sub_ok' ha hb),subF_nat ha hb]
 show _=(a.v.nat+(pN-b.v.nat)) % pN
 rw [Fp.v_nat ha,Fp.v_nat hb]
 congr 1
 have:b.nat<pN:=hb
 omega)
theorem v_neg {a:Fp} (ha:a.ok):(negF a).v = - a.v:=by
 rw [show negF a=subF zeroFp a from rfl,v_sub zero_ok' ha,v_zero]
 grind
end Go.Proofs.YtcbplfkeeaecgaaGreat
namespace Go.Proofs.YtcbplfkeeaecgaaGreat
theorem half_exp2:(pN-1) / 2+(pN-1) / 2=pN-1:=by decide +kernel
theorem half_odd:(pN-1) / 2=2*((pN-3) / 4)+1:=by decide +kernel
def V1.chi (a:V1):V1:=a ^ ((pN-1) / 2)
theorem chi_sq {a:V1} (h:a ≠ 0):a.chi*a.chi=1:=by
 unfold V1.chi
 rw [<- pow_add',half_exp2]
 exact V1.fermat h
theorem chi_cases {a:V1} (h:a ≠ 0):a.chi=1 \/ a.chi = -1:=sq_eq' (by rw [chi_sq h];grind)
theorem chi_mul (a b:V1):(a*b).chi=a.chi*b.chi:=mul_pow' a b _
theorem neg_one_sq:(-1:V1) * -1=1:=by grind
theorem chi_neg_one:(-1:V1).chi = -1:=by
 unfold V1.chi
 rw [half_odd,pow_add',pow_mul',pow_one',pow_succ' _ 1,pow_one',neg_one_sq,one_pow']
 grind
theorem one_ne_neg:(1:V1) ≠ -1:=fun e=>by
 have:=congrArg V1.nat e
 rw [V1.nat_one] at this
 have h2:(-1:V1).nat=(pN-1 % pN) % pN:=rfl
 rw [h2,V1.one_mod] at this
 have h3:=one_lt_p
 rw [Nat.mod_eq_of_lt (by omega)] at this
 have h4:=two_lt
 omega
theorem p_odd:pN=2*hN+1:=by decide +kernel
theorem great_neg {a:Fp} (ha:a.ok) (h:a.v ≠ 0):greatF (negF a) = !greatF a:=by
 have h0:a.nat ≠ 0:=by
  have:=V1.ne_zero h
  rwa [Fp.v_nat ha] at this
 have h1:a.nat<pN:=ha
 have h2:=p_odd
 rw [greatF_nat,greatF_nat,negF_nat ha,Nat.mod_eq_of_lt (by omega)]
 by_cases h3:hN<a.nat
 ·rw [decide_eq_true h3,decide_eq_false (by omega)];rfl
 ·rw [decide_eq_false h3,decide_eq_true (by omega)];rfl
theorem ofF_ok (n:UInt64):(ofF n).ok:=by
 unfold Fp.ok
 rw [of_nat]
 exact Nat.lt_trans n.toNat_lt (by decide +kernel)
theorem v_of (n:UInt64):(ofF n).v=V1.of n.toNat:=by unfold Fp.v;rw [of_nat]
theorem mayF_ok (a:Fp):mayF a=true <-> a.ok:=by rw [mayF_nat];exact decide_eq_true_iff
end Go.Proofs.YtcbplfkeeaecgaaGreat
namespace Go.Proofs.YtcbplfkeeaecgaaGreat
theorem borrow_iff (a b:Fp):(subT a b).2=decide (a.nat<b.nat):=by
 have h:=subT_nat a b
 have h1:=(subT a b).1.nat_lt
 cases e:(subT a b).2 with
 | true =>
  rw [e,Bool.toNat_true,Nat.mul_one] at h
  exact (decide_eq_true (by omega)).symm
 | false =>
  rw [e,Bool.toNat_false,Nat.mul_zero] at h
  exact (decide_eq_false (by omega)).symm
theorem lessF_eq (a:Fp) (o:UInt64):lessF a o=match decide (o<b2u (decide (a.nat<pN))) with | true=>a | false=>(subT a pLimbs).1:=by
 have h:=borrow_iff a pLimbs
 rw [pLimbs_nat] at h
 unfold lessF
 rw [lessT_eq,h]
 all_goals rfl
theorem montE7_eq (t:L7) (h6:t.t6.toNat<=1):montE7 pLimbs t=lessF t.low t.t6:=by
 rw [lessF_eq]
 unfold montE7
 rw [belowF_nat,pLimbs_nat]
 by_cases h:t.t6.toNat=0
 ·have e0:t.t6=0:=UInt64.toNat.inj h
  rw [e0]
  by_cases hl:t.low.nat<pN
  ·rw [decide_eq_true hl];rfl
  ·rw [decide_eq_false hl];rfl
 ·have e0:t.t6=1:=UInt64.toNat.inj (by rw [UInt64.toNat_one];omega)
  rw [e0]
  by_cases hl:t.low.nat<pN
  ·rw [decide_eq_true hl];rfl
  ·rw [decide_eq_false hl];rfl
theorem macL_comm (x y t c:UInt64):macL x y t c=macL y x t c:=by unfold macL;rw [UInt64.mul_comm]
theorem mulHi_comm (x y:UInt64):mulHi x y=mulHi y x:=UInt64.toNat.inj (by rw [mulHi_nat,mulHi_nat,Nat.mul_comm])
theorem macH_comm (x y t c:UInt64):macH x y t c=macH y x t c:=by unfold macH;rw [UInt64.mul_comm,mulHi_comm]
theorem montB_eq (t0 t1 t2 t3 t4 t5 top:UInt64) (more:Bool):montB pLimbs pInv t0 t1 t2 t3 t4 t5 top more=roundB t0 t1 t2 t3 t4 t5 top more:=by
 unfold montB roundB
 simp only [rmL_eq,rmH_eq,addC_comm t0]
theorem montR_eq (ai:UInt64) (b:Fp) (t:L7):montR pLimbs pInv ai b t=roundF b ai t:=by
 unfold montR roundF
 rw [montB_eq]
 simp only [rmL_eq,rmH_eq,macL_comm ai,macH_comm ai]
theorem montInv_eq:montInv pLimbs.l0=pInv:=by decide +kernel
theorem mont6_eq (a b:Fp):mont6 a b pLimbs=halfT b a:=by
 unfold mont6 mont5 mont4 mont3 mont2 mont1
 rw [montInv_eq]
 simp only [montR_eq]
 rfl
theorem halfT_top {a b:Fp} (ha:a.nat<pN):(halfT a b).t6.toNat<=1:=by
 obtain ⟨k,h1,h2⟩:=halfT_nat a b
 rw [L7.nat_low] at h1 h2
 have hlt:=(halfT a b).low.nat_lt
 have hpr:2*pN<rN:=by decide +kernel
 rcases Nat.lt_or_ge (halfT a b).t6.toNat 1 with h | h
 ·omega
 ·have:rN*1<=rN*(halfT a b).t6.toNat:=Nat.mul_le_mul_left _ h
  rcases Nat.lt_or_ge (halfT a b).t6.toNat 2 with h3 | h3
  ·omega
  ·have:rN*2<=rN*(halfT a b).t6.toNat:=Nat.mul_le_mul_left _ h3
   omega
theorem montF_half (a:Fp) {b:Fp} (hb:b.ok):montF a b pLimbs=halfF b a:=by
 unfold montF halfF
 rw [mont6_eq]
 exact montE7_eq _ (halfT_top hb)
theorem sq_ok:sqLimbs.ok:=by unfold Fp.ok;rw [sq_nat];exact Nat.mod_lt _ pN_pos
theorem mulPF_nat (a:Fp) {b:Fp} (hb:b.ok):(mulPF a b).nat=a.nat*b.nat % pN:=by
 unfold mulPF
 rw [montF_half a hb,montF_half _ sq_ok]
 obtain ⟨h1,h2⟩:=halfF_nat (b:=a) hb
 obtain ⟨h3,h4⟩:=halfF_nat (b:=halfF b a) sq_ok
 rw [<- Nat.mod_eq_of_lt h3]
 refine r_cancel ?_
 rw [h4,sq_nat,Nat.mod_mul_mod]
 have e:rN*rN*(halfF b a).nat=(halfF b a).nat*rN*rN:=by rw [Nat.mul_comm,Nat.mul_assoc]
 rw [e,<- Nat.mod_mul_mod,h2,Nat.mod_mul_mod,Nat.mul_comm a.nat]
theorem mulPF_eq {a b:Fp} (ha:a.ok) (hb:b.ok):mulPF a b=mulF a b:=Fp.nat_inj (by rw [mulPF_nat a hb,mulF_nat ha])
theorem subPF_eq (a b:Fp):subPF a b=subF a b:=by
 unfold subPF minusF subF
 cases (subT a b).2 <;> rfl
theorem negPF_eq (a:Fp):negPF a=negF a:=subPF_eq zeroFp a
theorem addPF_eq (a b:Fp):addPF a b=addF a b:=by
 unfold addPF plusF addF
 rw [lessF_eq,belowF_nat,pLimbs_nat]
 cases (addT a b).2
 ·by_cases hl:(addT a b).1.nat<pN
  ·rw [decide_eq_true hl];rfl
  ·rw [decide_eq_false hl];rfl
 ·by_cases hl:(addT a b).1.nat<pN
  ·rw [decide_eq_true hl];rfl
  ·rw [decide_eq_false hl];rfl
theorem mulPF_ok (a:Fp) {b:Fp} (hb:b.ok):(mulPF a b).ok:=by unfold Fp.ok;rw [mulPF_nat a hb];exact Nat.mod_lt _ pN_pos
theorem powPAt_nat {a:Fp} (ha:a.ok) (e:List UInt64) : ∀ (n:Nat) (o:Fp),o.ok->(powPAt a e n o).nat=o.nat ^ 2 ^ n*a.nat ^ eLow e n % pN
 | 0,o,ho=>by
  simp only [powPAt,eLow,Nat.pow_zero,Nat.pow_one,Nat.mul_one]
  exact (Nat.mod_eq_of_lt ho).symm
 | n+1,o,ho=>by
  have h1:=mulPF_nat o ho
  simp only [powPAt]
  cases hb:bitAt e n with
  | true =>
   simp only []
   rw [powPAt_nat ha e n _ (mulPF_ok _ ha),mulPF_nat _ ha,h1]
   simp only [eLow,hb,Bool.toNat_true,Nat.one_mul]
   rw [Nat.mod_mul_mod,<- Nat.mod_mul_mod,<- Nat.pow_mod,Nat.mod_mul_mod]
   refine congrArg (fun z=>z % pN) ?_
   rw [Nat.mul_pow,<- Nat.pow_two,<- Nat.pow_mul,show 2 ^ (n+1)=2*2 ^ n by rw [Nat.pow_succ,Nat.mul_comm],Nat.pow_add a.nat,Nat.mul_assoc,Nat.mul_comm (a.nat ^ 2 ^ n)]
  | false =>
   simp only []
   rw [powPAt_nat ha e n _ (mulPF_ok _ ho),h1]
   simp only [eLow,hb,Bool.toNat_false,Nat.zero_mul,Nat.add_zero]
   rw [<- Nat.mod_mul_mod,<- Nat.pow_mod,Nat.mod_mul_mod]
   refine congrArg (fun z=>z % pN) ?_
   rw [<- Nat.pow_two,<- Nat.pow_mul,show 2 ^ (n+1)=2*2 ^ n by rw [Nat.pow_succ,Nat.mul_comm]]
theorem one_of:ofF 1=oneFp:=rfl
theorem powPF_eq {a:Fp} (ha:a.ok) (e:List UInt64):powPF a e=powF a e:=Fp.nat_inj (by
 unfold powPF
 rw [powF_nat ha,one_of,powPAt_nat ha e _ _ one_ok',one_nat,Nat.one_pow,Nat.one_mul])
theorem pm2_eq:pm2 = [pLimbs.l0-2,pLimbs.l1,pLimbs.l2,pLimbs.l3,pLimbs.l4,pLimbs.l5]:=by decide +kernel
theorem invPF_eq {a:Fp} (ha:a.ok):invPF a=invF a:=by
 unfold invPF invF
 rw [powPF_eq ha,pm2_eq]
 all_goals rfl
def valL (xs:List UInt64):Nat:=valAt xs xs.length
end Go.Proofs.YtcbplfkeeaecgaaGreat
namespace Go.Proofs.YtcbplfkeeaecgaaGreat
section
variable {R : Type} [CR R]
theorem CR.nat_add (m:Nat) : ∀ n:Nat,(CR.nat (m+n):R)=CR.nat m+CR.nat n
 | 0=>by show CR.nat m=CR.nat m+CR.z;rw [CR.add_zero]
 | n+1=>by
  rw [<- Nat.add_assoc,CR.nat_succ,CR.nat_add m n,CR.nat_succ,CR.add_assoc]
theorem CR.nat_mul (m:Nat) : ∀ n:Nat,(CR.nat (m*n):R)=CR.nat m*CR.nat n
 | 0=>by
  show CR.z=CR.nat m*CR.z
  rw [CR.mul_zero]
 | n+1=>by
  rw [Nat.mul_succ,CR.nat_add,CR.nat_mul m n,CR.nat_succ,CR.dist,CR.mul_one]
def bsR (a:R) (n:Nat):Nat->R
 | 0=>0
 | m+1=>bsR a n m+CR.nat (ch n m)*a ^ m
theorem bsR_step (a:R) (n:Nat) : ∀ m:Nat,bsR a (n+1) (m+1)=bsR a n (m+1)+a*bsR a n m
 | 0=>by
  simp only [bsR,ch_zero]
  grind
 | m+1=>by
  have h:=bsR_step a n m
  show bsR a (n+1) (m+1)+CR.nat (ch (n+1) (m+1))*a ^ (m+1)=bsR a n (m+1)+CR.nat (ch n (m+1))*a ^ (m+1)+a*(bsR a n m+CR.nat (ch n m)*a ^ m)
  rw [h,show ch (n+1) (m+1)=ch n m+ch n (m+1) from rfl,CR.nat_add,pow_succ']
  generalize (CR.nat (ch n m):R)=c
  generalize (CR.nat (ch n (m+1)):R)=d
  generalize a ^ m=e
  grind
theorem binomR (a:R) : ∀ n:Nat,(a+1) ^ n=bsR a n (n+1)
 | 0=>by
  show (1:R)=0+CR.nat 1*a ^ 0
  rw [pow_zero']
  show (1:R)=0+1*1
  grind
 | n+1=>by
  rw [bsR_step a n (n+1),show bsR a n (n+1+1)=bsR a n (n+1)+CR.nat (ch n (n+1))*a ^ (n+1) from rfl,ch_big (Nat.lt_succ_self n),<- binomR a n,pow_succ']
  show _=(a+1) ^ n+0*a ^ (n+1)+a*(a+1) ^ n
  grind
theorem bsR_prime {p:Nat} (h:IsPrime p) (h0:(CR.nat p:R)=0) (a:R) : ∀ m:Nat,m<p->bsR a p (m+1)=1
 | 0,_=>by
  simp only [bsR,ch_zero]
  show (0:R)+1*a ^ 0=1
  rw [pow_zero']
  grind
 | m+1,hm=>by
  have ih:=bsR_prime h h0 a m (by omega)
  obtain ⟨c,hc⟩:=ch_prime h (Nat.succ_pos m) hm
  show bsR a p (m+1)+CR.nat (ch p (m+1))*a ^ (m+1)=1
  rw [hc,CR.nat_mul,h0,ih]
  grind
theorem dream1 {p:Nat} (h:IsPrime p) (h0:(CR.nat p:R)=0) (a:R):(a+1) ^ p=a ^ p+1:=by
 have hp:=h.1
 obtain ⟨n,rfl⟩ : ∃ n,p=n+1:=⟨p-1,by omega⟩
 rw [binomR a (n+1),show bsR a (n+1) (n+1+1)=bsR a (n+1) (n+1)+CR.nat (ch (n+1) (n+1))*a ^ (n+1) from rfl,ch_self,bsR_prime h h0 a n (by omega)]
 show (1:R)+1*a ^ (n+1)=_
 grind
end
section
variable {K : Type} [Fld K]
theorem dream {p:Nat} (h:IsPrime p) (h0:(CR.nat p:K)=0) (a b:K):(a+b) ^ p=a ^ p+b ^ p:=by
 by_cases hb:b=0
 ·rw [hb,zero_pow' p (by have:=h.1;omega)]
  have e:a+0=a:=by grind
  rw [e]
  grind
 ·have hi:=mul_inv' hb
  have h1:=dream1 h h0 (a*Fld.inv b)
  have e1:(a+b)=(a*Fld.inv b+1)*b:=by grind
  have e2:a=(a*Fld.inv b)*b:=by grind
  have e3:a ^ p=(a*Fld.inv b) ^ p*b ^ p:=by rw [<- mul_pow',<- e2]
  rw [e1,mul_pow',h1,e3]
  grind
end
theorem Qd.nat_eq {K:Type} [CR K] [QP K] : ∀ n:Nat,(CR.nat n:Qd K)=Qd.of (CR.nat n)
 | 0=>rfl
 | n+1=>by
  rw [CR.nat_succ,Qd.nat_eq n,CR.nat_succ]
  exact Qd.ext' rfl (show (0:K)+0=0 by grind)
theorem Cb.nat_eq {K:Type} [CR K] [CP K] : ∀ n:Nat,(CR.nat n:Cb K)=Cb.of (CR.nat n)
 | 0=>rfl
 | n+1=>by
  rw [CR.nat_succ,Cb.nat_eq n,CR.nat_succ]
  exact Cb.ext' rfl (show (0:K)+0=0 by grind) (show (0:K)+0=0 by grind)
theorem V1.nat_nat : ∀ n:Nat,V1.nat (CR.nat n)=n % pN
 | 0=>V1.nat_zero
 | n+1=>by
  rw [CR.nat_succ]
  show V1.nat (CR.nat n+1)=_
  rw [V1.nat_add,V1.nat_nat n,V1.nat_one,Nat.mod_add_mod]
theorem V1.char:(CR.nat pN:V1)=0:=V1.ext (by rw [V1.nat_nat,Nat.mod_self,V1.nat_zero])
theorem V1.two_nat:V1.nat (2:V1)=2:=by
 show V1.nat (CR.nat 2)=2
 rw [V1.nat_nat]
 exact Nat.mod_eq_of_lt two_lt
instance : QF V1 where
 nr := -1
 no:=fun x h=>by
  have h1:(x*x).chi=x.chi*x.chi:=chi_mul x x
  rw [h,chi_neg_one] at h1
  have hx:x ≠ 0:=fun e=>by
   rw [e] at h
   have:=one_ne' (K:=V1)
   grind
  rw [chi_sq hx] at h1
  exact one_ne_neg h1.symm
abbrev V2:Type:=Qd V1
theorem V1.nr_eq:(QP.nr:V1) = -1:=rfl
def xi:V2:=⟨1,1⟩
theorem xi_norm:xi.norm=2:=by
 unfold Qd.norm xi
 rw [V1.nr_eq]
 show (1:V1)*1 - -1*(1*1)=2
 grind
theorem two_ne:(2:V1) ≠ 0:=fun h=>by
 have h1:=congrArg V1.nat h
 rw [V1.two_nat,V1.nat_zero] at h1
 exact absurd h1 (by decide)
theorem third:(pN-1) / 3*3=pN-1:=by decide +kernel
theorem two_third:((2:V1) ^ ((pN-1) / 3)) ≠ 1:=fun h=>by
 have h1:=congrArg V1.nat h
 rw [V1.nat_pow,V1.two_nat,V1.nat_one,<- mpow_eq pN 381 2 _ (by decide +kernel)] at h1
 exact absurd h1 (by decide +kernel)
theorem two_half:(2:V1).chi ≠ 1:=fun h=>by
 have h1:=congrArg V1.nat h
 unfold V1.chi at h1
 rw [V1.nat_pow,V1.two_nat,V1.nat_one,<- mpow_eq pN 381 2 _ (by decide +kernel)] at h1
 exact absurd h1 (by decide +kernel)
theorem CR_zero {R:Type} [CR R] (a:R):a*0=0:=CR.mul_zero a
instance : CF V2 where
 cr:=xi
 no:=fun x h=>by
  have h1:x.norm*x.norm*x.norm=2:=by rw [<- Qd.norm_mul,<- Qd.norm_mul,h,xi_norm]
  have hx:x.norm ≠ 0:=fun e=>by
   exact two_ne (by rw [<- h1,e,CR_zero])
  apply two_third
  have e:(2:V1)=x.norm ^ 3:=by rw [<- h1];grind
  rw [e,<- pow_mul',Nat.mul_comm,third]
  exact V1.fermat hx
abbrev V6:Type:=Cb V2
theorem V2.cr_eq:(CP.cr:V2)=xi:=rfl
def vv:V6:=⟨0,1,0⟩
theorem vv_norm:vv.norm=xi:=by
 unfold Cb.norm vv
 rw [V2.cr_eq]
 show (0:V2)*(0*0-xi*(1*0))+xi*(0*(xi*(0*0)-0*1)+1*(1*1-0*0))=xi
 generalize xi=x
 grind
instance : QF V6 where
 nr:=vv
 no:=fun x h=>by
  have h1:x.norm*x.norm=xi:=by rw [<- Cb.norm_mul,h,vv_norm]
  have h2:x.norm.norm*x.norm.norm=2:=by rw [<- Qd.norm_mul,h1,xi_norm]
  have hx:x.norm.norm ≠ 0:=fun e=>by
   exact two_ne (by rw [<- h2,e,CR_zero])
  apply two_half
  rw [<- h2,chi_mul,chi_sq hx]
abbrev V12:Type:=Qd V6
theorem V2.char:(CR.nat pN:V2)=0:=by rw [Qd.nat_eq,V1.char];rfl
theorem V6.char:(CR.nat pN:V6)=0:=by rw [Cb.nat_eq,V2.char];rfl
theorem V12.char:(CR.nat pN:V12)=0:=by rw [Qd.nat_eq,V6.char];rfl
theorem V1.pow_p (a:V1):a ^ pN=a:=by
 by_cases h:a=0
 ·rw [h];exact zero_pow' _ pN_pos
 ·have e:pN=(pN-1)+1:=by have:=pN_pos;omega
  rw [e,pow_succ',V1.fermat h]
  grind
theorem Qd.of_pow {K:Type} [CR K] [QP K] (a:K) : ∀ n:Nat,(Qd.of a) ^ n=Qd.of (a ^ n)
 | 0=>rfl
 | n+1=>by rw [pow_succ',Qd.of_pow a n,pow_succ',Qd.of_mul]
def uu:V2:=⟨0,1⟩
theorem uu_sq:uu*uu = -1:=Qd.ext' (by rw [Qd.mul_a,V1.nr_eq];show (0:V1)*0 + -1*(1*1) = -1;grind) (by rw [Qd.mul_b];show (0:V1)*1+1*0 = -0;grind)
theorem neg_one_pow {R:Type} [CR R] : ∀ k:Nat,(-1:R) ^ (2*k+1) = -1
 | 0=>by show (-1:R) ^ 1 = -1;exact pow_one' _
 | k+1=>by
  rw [show 2*(k+1)+1=(2*k+1)+1+1 by omega,pow_succ',pow_succ',neg_one_pow k]
  grind
theorem p_four:pN=2*(2*((pN-3) / 4)+1)+1:=by decide +kernel
theorem uu_pow:uu ^ pN = -uu:=by
 have e:uu ^ pN=(uu ^ 2) ^ (2*((pN-3) / 4)+1)*uu:=by
  rw [<- pow_mul',<- pow_succ',<- p_four]
 have e2:uu ^ 2 = -1:=by
  rw [show (2:Nat)=1+1 from rfl,pow_succ',pow_one',uu_sq]
 rw [e,e2,neg_one_pow]
 grind
theorem V2.split (x:V2):x=Qd.of x.a+Qd.of x.b*uu:=Qd.ext' (by rw [Qd.add_a,Qd.mul_a];show x.a=x.a+(x.b*0+QP.nr*(0*1));grind) (by rw [Qd.add_b,Qd.mul_b];show x.b=0+(x.b*1+0*0);grind)
theorem V2.frob (x:V2):x ^ pN=x.conj:=by
 have h:x ^ pN=Qd.of x.a+Qd.of x.b * -uu:=by
  conv=>lhs;rw [V2.split x]
  rw [dream prime_p V2.char,mul_pow',uu_pow,Qd.of_pow,Qd.of_pow,V1.pow_p,V1.pow_p]
 rw [h]
 exact Qd.ext' (by rw [Qd.add_a,Qd.mul_a];show x.a+(x.b * -0+QP.nr*(0 * -1))=x.a;grind) (by rw [Qd.add_b,Qd.mul_b];show 0+(x.b * -1+0 * -0) = -x.b;grind)
end Go.Proofs.YtcbplfkeeaecgaaGreat
namespace Go.Proofs.YtcbplfkeeaecgaaGreat
open Go.RowKit
section
def rv:V1:=V1.of rN
def ri:V1:=Fld.inv rv
theorem rv_ne:rv ≠ 0:=fun e=>by
 have h:=congrArg V1.nat e
 rw [V1.nat_zero] at h
 exact absurd h (by decide +kernel)
theorem rv_ri:rv*ri=1:=mul_inv' rv_ne
theorem half_ok' {a b:Fp} (ha:a.ok):(halfF a b).ok:=(halfF_nat ha).1
theorem v_half {a b:Fp} (ha:a.ok) (hb:b.ok):(halfF a b).v=ri*(a.v*b.v):=by
 have h:(halfF a b).v*rv=a.v*b.v:=V1.ext (by
  rw [V1.nat_mul,V1.nat_mul,Fp.v_nat (half_ok' ha),Fp.v_nat ha,Fp.v_nat hb]
  show ((halfF a b).nat*(rN % pN)) % pN=_
  rw [Nat.mul_mod_mod,(halfF_nat ha).2])
 have h2:=rv_ri
 grind
theorem whole_ok' {a:Fp} (ha:a.ok):(wholeF a).ok:=by
 unfold Fp.ok
 rw [wholeF_nat ha]
 exact Nat.mod_lt _ pN_pos
theorem v_whole {a:Fp} (ha:a.ok):(wholeF a).v=rv*a.v:=V1.ext (by
 rw [Fp.v_nat (whole_ok' ha),wholeF_nat ha,V1.nat_mul,Fp.v_nat ha]
 show _=(rN % pN*a.nat) % pN
 rw [Nat.mod_mul_mod,Nat.mul_comm])
theorem low_ok' {a:Fp} (ha:a.ok):(lowF a).ok:=(lowF_nat ha).1
theorem v_low {a:Fp} (ha:a.ok):(lowF a).v=ri*a.v:=by
 have h:(lowF a).v*rv=a.v:=V1.ext (by
  rw [V1.nat_mul,Fp.v_nat (low_ok' ha),Fp.v_nat ha]
  show ((lowF a).nat*(rN % pN)) % pN=_
  rw [Nat.mul_mod_mod,(lowF_nat ha).2])
 have h2:=rv_ri
 grind
theorem inv_v {a:Fp} (ha:a.ok):(a.v=0->(invF a).2=7)/\(a.v ≠ 0->(invF a).2=0/\(invF a).1.ok/\(invF a).1.v=Fld.inv a.v):=by
 obtain ⟨h1,h2⟩:=inv_law ha
 constructor
 ·intro h
  refine h1 ?_
  have:=congrArg V1.nat h
  rwa [Fp.v_nat ha,V1.nat_zero] at this
 ·intro h
  have h0:=V1.ne_zero h
  rw [Fp.v_nat ha] at h0
  obtain ⟨i1,i2,i3⟩:=h2 h0
  refine ⟨i1,i2,inv_unique' (V1.ext ?_)⟩
  rw [V1.nat_mul,Fp.v_nat ha,Fp.v_nat i2,i3,V1.nat_one]
def Fp2.ok (a:Fp2):Prop:=a.c0.ok/\a.c1.ok
def Fp2.v (a:Fp2):V2:=⟨a.c0.v,a.c1.v⟩
theorem Fp2.v_a (a:Fp2):a.v.a=a.c0.v:=rfl
theorem Fp2.v_b (a:Fp2):a.v.b=a.c1.v:=rfl
theorem Fp2.v_inj {a b:Fp2} (ha:a.ok) (hb:b.ok) (h:a.v=b.v):a=b:=by
 have h1:a.c0=b.c0:=Fp.v_inj ha.1 hb.1 (congrArg Qd.a h)
 have h2:a.c1=b.c1:=Fp.v_inj ha.2 hb.2 (congrArg Qd.b h)
 cases a;cases b
 simp only [] at h1 h2
 subst h1 h2
 rfl
theorem fp2Eq_v {a b:Fp2} (ha:a.ok) (hb:b.ok):fp2Eq a b=true <-> a.v=b.v:=⟨fun h=>by rw [(fp2Eq_iff a b).1 h],fun h=>(fp2Eq_iff a b).2 (Fp2.v_inj ha hb h)⟩
theorem addF2_eq (a b:Fp2):addF2 a b=⟨addF a.c0 b.c0,addF a.c1 b.c1⟩:=by unfold addF2 addF2_G;rfl
theorem subF2_eq (a b:Fp2):subF2 a b=⟨subF a.c0 b.c0,subF a.c1 b.c1⟩:=by unfold subF2 subF2_G;rfl
theorem negF2_eq (a:Fp2):negF2 a=⟨negF a.c0,negF a.c1⟩:=by unfold negF2 negF2_G;rfl
theorem conjF2_eq (a:Fp2):conjF2 a=⟨a.c0,negF a.c1⟩:=by unfold conjF2 conjF2_G;rfl
theorem upF2_eq (a:Fp2):upF2 a=⟨subF a.c0 a.c1,addF a.c0 a.c1⟩:=by unfold upF2 upF2_G;rfl
theorem halfF2_eq (a b:Fp2):halfF2 a b=⟨subF (halfF a.c0 b.c0) (halfF a.c1 b.c1),subF (halfF (addF a.c0 a.c1) (addF b.c0 b.c1)) (addF (halfF a.c0 b.c0) (halfF a.c1 b.c1))⟩:=by unfold halfF2 halfF2_G;rfl
theorem wholeF2_eq (a:Fp2):wholeF2 a=⟨wholeF a.c0,wholeF a.c1⟩:=by unfold wholeF2 wholeF2_G;rfl
theorem lowF2_eq (a:Fp2):lowF2 a=⟨lowF a.c0,lowF a.c1⟩:=by unfold lowF2 lowF2_G;rfl
theorem mulF2_eq (a b:Fp2):mulF2 a b=wholeF2 (halfF2 a b):=by unfold mulF2 mulF2_G;rfl
theorem normF2_G_eq (f g:Fp->Fp->Fp) (a:Fp2):normF2_G f g a=f (g a.c0 a.c0) (g a.c1 a.c1):=rfl
theorem normF2_eq (a:Fp2):normF2 a=addF (mulF a.c0 a.c0) (mulF a.c1 a.c1):=by
 unfold normF2
 exact normF2_G_eq addF mulF a
theorem scaledF2_eq (a:Fp2) (k:Fp):scaledF2 a k=⟨mulF a.c0 k,mulF a.c1 k⟩:=by unfold scaledF2 scaledF2_G;rfl
theorem Fp2.mk_ok {a b:Fp} (ha:a.ok) (hb:b.ok):(⟨a,b⟩:Fp2).ok:=⟨ha,hb⟩
theorem Fp2.mk_v {a b:Fp} {x:V2} (ha:a.v=x.a) (hb:b.v=x.b):(⟨a,b⟩:Fp2).v=x:=Qd.ext' ha hb
theorem may2_iff (a:Fp2):mayF2 a=true <-> a.ok:=by
 unfold mayF2 mayF2_G Fp2.ok
 rw [<- mayF_ok,<- mayF_ok]
 cases mayF a.c0 <;> simp
theorem zero_ok2:zeroFp2.ok:=⟨zero_ok',zero_ok'⟩
theorem v_zero2:zeroFp2.v=0:=Qd.ext' v_zero v_zero
theorem one_ok2:oneFp2.ok:=⟨one_ok',zero_ok'⟩
theorem v_one2:oneFp2.v=1:=Qd.ext' v_one v_zero
theorem add_ok2 {a b:Fp2} (ha:a.ok) (hb:b.ok):(addF2 a b).ok:=by rw [addF2_eq];exact Fp2.mk_ok (add_ok' ha.1 hb.1) (add_ok' ha.2 hb.2)
theorem v_add2 {a b:Fp2} (ha:a.ok) (hb:b.ok):(addF2 a b).v=a.v+b.v:=by rw [addF2_eq];exact Fp2.mk_v (v_add ha.1 hb.1) (v_add ha.2 hb.2)
theorem sub_ok2 {a b:Fp2} (ha:a.ok) (hb:b.ok):(subF2 a b).ok:=by rw [subF2_eq];exact Fp2.mk_ok (sub_ok' ha.1 hb.1) (sub_ok' ha.2 hb.2)
theorem v_sub2 {a b:Fp2} (ha:a.ok) (hb:b.ok):(subF2 a b).v=a.v-b.v:=by rw [subF2_eq];exact Fp2.mk_v (v_sub ha.1 hb.1) (v_sub ha.2 hb.2)
theorem neg_ok2 {a:Fp2} (ha:a.ok):(negF2 a).ok:=by rw [negF2_eq];exact Fp2.mk_ok (neg_ok' ha.1) (neg_ok' ha.2)
theorem v_neg2 {a:Fp2} (ha:a.ok):(negF2 a).v = -a.v:=by rw [negF2_eq];exact Fp2.mk_v (v_neg ha.1) (v_neg ha.2)
theorem conj_ok2 {a:Fp2} (ha:a.ok):(conjF2 a).ok:=by rw [conjF2_eq];exact Fp2.mk_ok (ha.1) (neg_ok' ha.2)
theorem v_conj2 {a:Fp2} (ha:a.ok):(conjF2 a).v=a.v.conj:=by rw [conjF2_eq];exact Fp2.mk_v rfl (v_neg ha.2)
theorem up_ok2 {a:Fp2} (ha:a.ok):(upF2 a).ok:=by rw [upF2_eq];exact Fp2.mk_ok (sub_ok' ha.1 ha.2) (add_ok' ha.1 ha.2)
theorem V2.mul_a (x y:V2):(x*y).a=x.a*y.a-x.b*y.b:=by rw [Qd.mul_a,V1.nr_eq];grind
theorem V2.mul_b (x y:V2):(x*y).b=x.a*y.b+x.b*y.a:=Qd.mul_b x y
theorem xi_a:xi.a=1:=rfl
theorem xi_b:xi.b=1:=rfl
theorem v_up2 {a:Fp2} (ha:a.ok):(upF2 a).v=xi*a.v:=by
 rw [upF2_eq]
 exact Fp2.mk_v (by rw [V2.mul_a,xi_a,xi_b,v_sub ha.1 ha.2,Fp2.v_a,Fp2.v_b];grind)
  (by rw [V2.mul_b,xi_a,xi_b,v_add ha.1 ha.2,Fp2.v_a,Fp2.v_b];grind)
def rv2:V2:=Qd.of rv
def ri2:V2:=Qd.of ri
theorem rv_ri2:rv2*ri2=1:=by unfold rv2 ri2;rw [<- Qd.of_mul,rv_ri];rfl
theorem half_ok2 {a b:Fp2} (ha:a.ok) (hb:b.ok):(halfF2 a b).ok:=by rw [halfF2_eq];exact Fp2.mk_ok (sub_ok' (half_ok' ha.1) (half_ok' ha.2)) (sub_ok' (half_ok' (add_ok' ha.1 ha.2)) (add_ok' (half_ok' ha.1) (half_ok' ha.2)))
theorem v_half2 {a b:Fp2} (ha:a.ok) (hb:b.ok):(halfF2 a b).v=ri2*(a.v*b.v):=by
 rw [halfF2_eq]
 exact Fp2.mk_v (by
  rw [v_sub (half_ok' ha.1) (half_ok' ha.2),v_half ha.1 hb.1,v_half ha.2 hb.2,V2.mul_a,V2.mul_a,V2.mul_b]
  rw [show ri2.a=ri from rfl,show ri2.b=0 from rfl,Fp2.v_a,Fp2.v_b,Fp2.v_a,Fp2.v_b]
  grind)
  (by
  rw [v_sub (half_ok' (add_ok' ha.1 ha.2)) (add_ok' (half_ok' ha.1) (half_ok' ha.2)),v_half (add_ok' ha.1 ha.2) (add_ok' hb.1 hb.2),v_add (half_ok' ha.1) (half_ok' ha.2),v_half ha.1 hb.1,v_half ha.2 hb.2,v_add ha.1 ha.2,v_add hb.1 hb.2,V2.mul_b,V2.mul_a,V2.mul_b]
  rw [show ri2.a=ri from rfl,show ri2.b=0 from rfl,Fp2.v_a,Fp2.v_b,Fp2.v_a,Fp2.v_b]
  grind)
theorem whole_ok2 {a:Fp2} (ha:a.ok):(wholeF2 a).ok:=by rw [wholeF2_eq];exact Fp2.mk_ok (whole_ok' ha.1) (whole_ok' ha.2)
theorem of_mul_a (k:V1) (x:V2):(Qd.of k*x).a=k*x.a:=by rw [V2.mul_a];show k*x.a-0*x.b=_;grind
theorem of_mul_b (k:V1) (x:V2):(Qd.of k*x).b=k*x.b:=by rw [V2.mul_b];show k*x.b+0*x.a=_;grind
theorem v_whole2 {a:Fp2} (ha:a.ok):(wholeF2 a).v=rv2*a.v:=by rw [wholeF2_eq];exact Fp2.mk_v (by unfold rv2;rw [of_mul_a];exact v_whole ha.1) (by unfold rv2;rw [of_mul_b];exact v_whole ha.2)
theorem low_ok2 {a:Fp2} (ha:a.ok):(lowF2 a).ok:=by rw [lowF2_eq];exact Fp2.mk_ok (low_ok' ha.1) (low_ok' ha.2)
theorem v_low2 {a:Fp2} (ha:a.ok):(lowF2 a).v=ri2*a.v:=by rw [lowF2_eq];exact Fp2.mk_v (by unfold ri2;rw [of_mul_a];exact v_low ha.1) (by unfold ri2;rw [of_mul_b];exact v_low ha.2)
theorem mul_ok2 {a b:Fp2} (ha:a.ok) (hb:b.ok):(mulF2 a b).ok:=by rw [mulF2_eq];exact whole_ok2 (half_ok2 ha hb)
theorem v_mul2 {a b:Fp2} (ha:a.ok) (hb:b.ok):(mulF2 a b).v=a.v*b.v:=by
 rw [mulF2_eq,v_whole2 (half_ok2 ha hb),v_half2 ha hb]
 have:=rv_ri2
 grind
theorem norm_ok2 {a:Fp2} (ha:a.ok):(normF2 a).ok:=by rw [normF2_eq];exact add_ok' (mul_ok' ha.1) (mul_ok' ha.2)
theorem V2.norm_eq (x:V2):x.norm=x.a*x.a+x.b*x.b:=by unfold Qd.norm;rw [V1.nr_eq];grind
theorem v_norm2 {a:Fp2} (ha:a.ok):(normF2 a).v=a.v.norm:=by
 rw [V2.norm_eq,normF2_eq,v_add (mul_ok' ha.1) (mul_ok' ha.2),v_mul ha.1 ha.1,v_mul ha.2 ha.2]
 rfl
theorem scaled_ok2 {a:Fp2} {k:Fp} (ha:a.ok) (hk:k.ok):(scaledF2 a k).ok:=by rw [scaledF2_eq];exact Fp2.mk_ok (mul_ok' ha.1) (mul_ok' ha.2)
theorem v_scaled2 {a:Fp2} {k:Fp} (ha:a.ok) (hk:k.ok):(scaledF2 a k).v=Qd.of k.v*a.v:=by
 rw [scaledF2_eq]
 exact Fp2.mk_v (by rw [of_mul_a,v_mul ha.1 hk];exact CR.mul_comm a.c0.v k.v)
  (by rw [of_mul_b,v_mul ha.2 hk];exact CR.mul_comm a.c1.v k.v)
theorem V2.inv_eq {x:V2} (h:x ≠ 0):Fld.inv x=Qd.of (Fld.inv x.norm)*x.conj:=by
 refine (inv_unique' ?_).symm
 have h1:=Qd.mul_conj x
 have h2:Qd.of x.norm*Qd.of (Fld.inv x.norm)=(1:V2):=by rw [<- Qd.of_mul,mul_inv' (Qd.norm_ne h)];rfl
 grind
theorem V2.norm_zero:(0:V2).norm=0:=by rw [V2.norm_eq];show (0:V1)*0+0*0=0;grind
theorem invF2_no {f0:Fp->Fp × Int} {f1:Fp2->Fp} (f2:Fp2->Fp->Fp2) (f3:Fp2->Fp2) {a:Fp2} (h:(f0 (f1 a)).2=7):invF2_G f0 f1 f2 f3 a=(zeroFp2,7):=by
 unfold invF2_G
 rw [h]
 rfl
theorem invF2_yes {f0:Fp->Fp × Int} {f1:Fp2->Fp} (f2:Fp2->Fp->Fp2) (f3:Fp2->Fp2) {a:Fp2} (h:(f0 (f1 a)).2=0):invF2_G f0 f1 f2 f3 a=(f2 (f3 a) (f0 (f1 a)).1,0):=by
 unfold invF2_G
 rw [h]
 rfl
theorem inv_v2 {a:Fp2} (ha:a.ok):(a.v=0->invF2 a=(zeroFp2,7))/\(a.v ≠ 0->(invF2 a).2=0/\(invF2 a).1.ok/\(invF2 a).1.v=Fld.inv a.v):=by
 obtain ⟨h1,h2⟩:=inv_v (norm_ok2 ha)
 rw [v_norm2 ha] at h1 h2
 unfold invF2
 constructor
 ·intro h
  exact invF2_no _ _ (h1 (by rw [h];exact V2.norm_zero))
 ·intro h
  obtain ⟨i1,i2,i3⟩:=h2 (Qd.norm_ne h)
  rw [invF2_yes _ _ i1]
  simp only []
  refine ⟨trivial,scaled_ok2 (conj_ok2 ha) i2,?_⟩
  rw [v_scaled2 (conj_ok2 ha) i2,i3,v_conj2 ha,V2.inv_eq h]
theorem powG_v {α R:Type} [CR R] (ok:α->Prop) (v:α->R) {mF:α->α->α} (h1 : ∀ {a b},ok a->ok b->ok (mF a b)) (h2 : ∀ {a b},ok a->ok b->v (mF a b)=v a*v b) {a:α} (ha:ok a) (e:List UInt64) : ∀ (n:Nat) {o:α},ok o ->
  ok (powG mF a e n o)/\v (powG mF a e n o)=v o ^ 2 ^ n*v a ^ eLow e n
 | 0,o,ho=>⟨ho,by
  show v o=v o ^ 2 ^ 0*v a ^ eLow e 0
  rw [show (2 ^ 0:Nat)=1 from rfl,pow_one',show eLow e 0=0 from rfl,pow_zero']
  grind⟩
 | n+1,o,ho=>by
  simp only [powG]
  have e2:(2:Nat) ^ (n+1)=2 ^ n+2 ^ n:=by rw [Nat.pow_succ];omega
  cases hb:bitAt e n with
  | true =>
   simp only []
   obtain ⟨i1,i2⟩:=powG_v ok v h1 h2 ha e n (h1 (h1 ho ho) ha)
   refine ⟨i1,?_⟩
   rw [i2,h2 (h1 ho ho) ha,h2 ho ho]
   simp only [eLow,hb,Bool.toNat_true,Nat.one_mul]
   rw [mul_pow',mul_pow',e2,pow_add',pow_add']
   grind
  | false =>
   simp only []
   obtain ⟨i1,i2⟩:=powG_v ok v h1 h2 ha e n (h1 ho ho)
   refine ⟨i1,?_⟩
   rw [i2,h2 ho ho]
   simp only [eLow,hb,Bool.toNat_false,Nat.zero_mul,Nat.add_zero]
   rw [mul_pow',e2,pow_add']
theorem pw2At_eq (x:Fp2) (e:List UInt64) : ∀ (n:Nat) (o:Fp2),pw2At x e n o=lowF2 (powG halfF2 x e n o)
 | 0,o=>rfl
 | n+1,o=>by
  simp only [pw2At,powG]
  exact pw2At_eq x e n _
theorem pow_v2 {a:Fp2} (ha:a.ok) (e:List UInt64):(powF2 a e).ok/\(powF2 a e).v=a.v ^ eLow e (64*e.length):=by
 unfold powF2
 rw [pw2At_eq]
 have h:=rv_ri2
 obtain ⟨h1,h2⟩:=powG_v (mF:=halfF2) Fp2.ok (fun x=>ri2*x.v) half_ok2 (fun {a b} ha hb=>by
  show ri2*(halfF2 a b).v=ri2*a.v*(ri2*b.v)
  rw [v_half2 ha hb]
  grind) (whole_ok2 ha) e (64*e.length) (whole_ok2 one_ok2)
 refine ⟨low_ok2 h1,?_⟩
 rw [v_low2 h1]
 rw [h2,v_whole2 one_ok2,v_whole2 ha,v_one2,show ri2*(rv2*1)=1 by grind,one_pow',show ri2*(rv2*a.v)=a.v by grind]
 grind
end
section
theorem add2R_G_eq (f:Fp->Fp->Fp) (a b:Fp2):add2R_G f a b=⟨f a.c0 b.c0,f a.c1 b.c1⟩:=rfl
theorem sub2R_G_eq (f:Fp->Fp->Fp) (a b:Fp2):sub2R_G f a b=⟨f a.c0 b.c0,f a.c1 b.c1⟩:=rfl
theorem mul2R_G_eq (f g h:Fp->Fp->Fp) (a b:Fp2):mul2R_G f g h a b=⟨f (g a.c0 b.c0) (g a.c1 b.c1),h (g a.c0 b.c1) (g a.c1 b.c0)⟩:=rfl
theorem conj2R_G_eq (f:Fp->Fp) (a:Fp2):conj2R_G f a=⟨a.c0,f a.c1⟩:=rfl
theorem one2R_G_eq (f:UInt64->Fp):one2R_G f=⟨f 1,zeroFp⟩:=rfl
theorem xi2R_G_eq (f:UInt64->Fp):xi2R_G f=⟨f 1,f 1⟩:=rfl
theorem add2R_eq (a b:Fp2):add2R a b=addF2 a b:=by
 unfold add2R
 rw [add2R_G_eq,addPF_eq,addPF_eq,addF2_eq]
theorem sub2R_eq (a b:Fp2):sub2R a b=subF2 a b:=by
 unfold sub2R
 rw [sub2R_G_eq,subPF_eq,subPF_eq,subF2_eq]
theorem conj2R_eq (a:Fp2):conj2R a=conjF2 a:=by
 unfold conj2R
 rw [conj2R_G_eq,negPF_eq,conjF2_eq]
theorem one2R_eq:one2R=oneFp2:=by
 unfold one2R
 rw [one2R_G_eq,one_of]
 rfl
theorem xi2R_eq':xi2R=⟨oneFp,oneFp⟩:=by
 unfold xi2R
 rw [xi2R_G_eq,one_of]
theorem xi_ok2:xi2R.ok:=by rw [xi2R_eq'];exact ⟨one_ok',one_ok'⟩
theorem v_xi2:xi2R.v=xi:=by rw [xi2R_eq'];exact Qd.ext' v_one v_one
theorem mul2R_eq {a b:Fp2} (ha:a.ok) (hb:b.ok):mul2R a b=mulF2 a b:=by
 unfold mul2R
 rw [mul2R_G_eq,mulPF_eq ha.1 hb.1,mulPF_eq ha.2 hb.2,mulPF_eq ha.1 hb.2,mulPF_eq ha.2 hb.1,subPF_eq,addPF_eq]
 refine Fp2.v_inj (Fp2.mk_ok (sub_ok' (mul_ok' ha.1) (mul_ok' ha.2)) (add_ok' (mul_ok' ha.1) (mul_ok' ha.2))) (mul_ok2 ha hb) ?_
 rw [v_mul2 ha hb]
 refine Fp2.mk_v ?_ ?_
 ·rw [V2.mul_a,v_sub (mul_ok' ha.1) (mul_ok' ha.2),v_mul ha.1 hb.1,v_mul ha.2 hb.2,Fp2.v_a,Fp2.v_a,Fp2.v_b,Fp2.v_b]
 ·rw [V2.mul_b,v_add (mul_ok' ha.1) (mul_ok' ha.2),v_mul ha.1 hb.2,v_mul ha.2 hb.1,Fp2.v_a,Fp2.v_a,Fp2.v_b,Fp2.v_b]
def great2V (a:Fp2):Bool:=match fpEq a.c1 zeroFp with
 | true=>greatF a.c0
 | false=>greatF a.c1
theorem inv2R_no {f0:Fp2->Fp2->Fp2} {f1:Fp2->Fp2} {f2:Fp->Fp × Int} {a:Fp2} (h:(f2 (f0 a (f1 a)).c0).2=7):inv2R_G f0 f1 f2 a=(zeroFp2,7):=by
 unfold inv2R_G
 rw [h]
 rfl
theorem inv2R_yes {f0:Fp2->Fp2->Fp2} {f1:Fp2->Fp2} {f2:Fp->Fp × Int} {a:Fp2} (h:(f2 (f0 a (f1 a)).c0).2=0):inv2R_G f0 f1 f2 a=(f0 (f1 a) ⟨(f2 (f0 a (f1 a)).c0).1,zeroFp⟩,0):=by
 unfold inv2R_G
 rw [h]
 rfl
theorem inv2R_eq {a:Fp2} (ha:a.ok):inv2R a=invF2 a:=by
 have hc:=conj_ok2 ha
 have hn:(mul2R a (conj2R a)).c0=normF2 a:=by
  rw [conj2R_eq,mul2R_eq ha hc]
  refine Fp.v_inj (mul_ok2 ha hc).1 (norm_ok2 ha) ?_
  rw [v_norm2 ha,<- Fp2.v_a,v_mul2 ha hc,v_conj2 ha,Qd.mul_conj]
  rfl
 obtain ⟨h1,h2⟩:=inv_v (norm_ok2 ha)
 obtain ⟨k1,k2⟩:=inv_v2 ha
 rw [v_norm2 ha] at h1 h2
 by_cases h0:a.v=0
 ·rw [k1 h0]
  unfold inv2R
  exact inv2R_no (by rw [hn,invPF_eq (norm_ok2 ha)];exact h1 (by rw [h0];exact V2.norm_zero))
 ·obtain ⟨i1,i2,i3⟩:=h2 (Qd.norm_ne h0)
  obtain ⟨j1,j2,j3⟩:=k2 h0
  have e:inv2R a=(mul2R (conj2R a) ⟨(invF (normF2 a)).1,zeroFp⟩,0):=by
   unfold inv2R
   rw [inv2R_yes (by rw [hn,invPF_eq (norm_ok2 ha)];exact i1),hn,invPF_eq (norm_ok2 ha)]
  have hq:(⟨(invF (normF2 a)).1,zeroFp⟩:Fp2).ok:=Fp2.mk_ok i2 zero_ok'
  rw [e]
  refine Prod.ext ?_ j1.symm
  simp only []
  rw [conj2R_eq,mul2R_eq hc hq]
  refine Fp2.v_inj (mul_ok2 hc hq) j2 ?_
  rw [j3,v_mul2 hc hq,v_conj2 ha,V2.inv_eq h0,show (⟨(invF (normF2 a)).1,zeroFp⟩:Fp2).v=Qd.of (Fld.inv a.v.norm) from Fp2.mk_v i3 v_zero]
  exact CR.mul_comm _ _
theorem great2_low {a:Fp2} (h:fpEq a.c1 zeroFp=true):great2V a=greatF a.c0:=by
 unfold great2V
 rw [h]
theorem great2_high {a:Fp2} (h:fpEq a.c1 zeroFp=false):great2V a=greatF a.c1:=by
 unfold great2V
 rw [h]
theorem fpEq_zero {a:Fp} (ha:a.ok):fpEq a zeroFp=true <-> a.v=0:=by
 have:=fpEq_v ha zero_ok'
 rw [v_zero] at this
 exact this
theorem fpEq_nonzero {a:Fp} (ha:a.ok):fpEq a zeroFp=false <-> a.v ≠ 0:=by
 rw [<- Bool.not_eq_true,fpEq_zero ha]
theorem great_neg2 {a:Fp2} (ha:a.ok) (h:a.v ≠ 0):great2V (negF2 a) = !great2V a:=by
 have e0:(negF2 a).c0=negF a.c0:=by rw [negF2_eq]
 have e1:(negF2 a).c1=negF a.c1:=by rw [negF2_eq]
 by_cases h1:a.c1.v=0
 ·have h0:a.c0.v ≠ 0:=fun h0=>h (Qd.ext' h0 h1)
  rw [great2_low ((fpEq_zero ha.2).2 h1),great2_low (a:=negF2 a) (by rw [e1,fpEq_zero (neg_ok' ha.2),v_neg ha.2,h1];grind),e0,great_neg ha.1 h0]
 ·rw [great2_high ((fpEq_nonzero ha.2).2 h1),great2_high (a:=negF2 a) (by rw [e1,fpEq_nonzero (neg_ok' ha.2),v_neg ha.2];grind),e1,great_neg ha.2 h1]
def RootOf (a:Fp2) (r:Fp2 × Bool):Prop:=((∃ y:V2,y*y=a.v)/\r.2=true/\r.1.ok/\r.1.v*r.1.v=a.v/\great2V r.1=false) \/ ((¬ ∃ y:V2,y*y=a.v)/\r=(zeroFp2,false))
theorem RootOf.eq {a:Fp2} {r s:Fp2 × Bool} (h:RootOf a r) (k:RootOf a s):r=s:=by
 rcases h with ⟨h0,h1,h2,h3,h4⟩ | ⟨h0,h1⟩
 ·rcases k with ⟨k0,k1,k2,k3,k4⟩ | ⟨k0,_⟩
  ·refine Prod.ext ?_ (h1.trans k1.symm)
   rcases sq_eq' (h3.trans k3.symm) with e | e
   ·exact Fp2.v_inj h2 k2 e
   ·by_cases hz:s.1.v=0
    ·exact Fp2.v_inj h2 k2 (by rw [e,hz];grind)
    ·exfalso
     have:r.1=negF2 s.1:=Fp2.v_inj h2 (neg_ok2 k2) (by rw [e,v_neg2 k2])
     rw [this,great_neg2 k2 hz,k4] at h4
     cases h4
  ·exact absurd h0 k0
 ·rcases k with ⟨k0,_⟩ | ⟨_,k1⟩
  ·exact absurd k0 h0
  ·rw [h1,k1]
def i2:V1:=Fld.inv 2
theorem low_v (x:Fp):(⟨x,zeroFp⟩:Fp2).v=⟨x.v,0⟩:=Fp2.mk_v rfl v_zero
section
variable {f0 : Fp -> Fp2} {f1 : Fp2 -> Fp} {f2 : Fp -> Fp × Bool} {f3 : Fp2 -> Fp -> Fp2} {f4 : Fp2 -> Fp2 -> Fp2} {f5 : Fp2 -> Bool} {f6 : Fp2 -> Fp2} {a : Fp2}
end
section
variable {f0 : Fp -> Fp × Int} {f1 : UInt64 -> Fp} {f2 : Fp -> Fp × Bool} {f3 f4 : Fp -> Fp -> Fp} {f5 : Fp -> Fp} {f6 : Fp2 -> Fp2 -> Fp2} {f7 : Fp2 -> Bool} {f8 : Fp2 -> Fp2} {a : Fp2} {n : Fp}
variable (hn : (f2 (f3 (f4 a.c0 a.c0) (f4 a.c1 a.c1))).1 = n) (h : (f2 (f3 (f4 a.c0 a.c0) (f4 a.c1 a.c1))).2 = true)
include hn h
end
end
end Go.Proofs.YtcbplfkeeaecgaaGreat
namespace Go.Proofs.YtcbplfkeeaecgaaGreat
theorem W64_pow (k:Nat):W64 ^ k=2 ^ (64*k):=by
 rw [show W64=2 ^ 64 from rfl,<- Nat.pow_mul]
theorem bit_step (x j:Nat):x % 2 ^ (j+1)=x % 2 ^ j+(x.testBit j).toNat*2 ^ j:=by
 rw [Nat.pow_succ,Nat.mod_mul]
 rw [Nat.testBit_eq_decide_div_mod_eq]
 have h:x / 2 ^ j % 2<2:=Nat.mod_lt _ (by decide)
 rcases (by omega:x / 2 ^ j % 2=0 \/ x / 2 ^ j % 2=1) with h1 | h1
 ·rw [h1];simp
 ·rw [h1];simp
theorem eLow_in (e:List UInt64) (k:Nat) (hk:eLow e (64*k)=valAt e k) : ∀ j,j<=64->eLow e (64*k+j)=valAt e k+(atF e k).toNat % 2 ^ j*2 ^ (64*k)
 | 0,_=>by rw [Nat.add_zero,hk,Nat.pow_zero,Nat.mod_one,Nat.zero_mul,Nat.add_zero]
 | j+1,h=>by
  rw [show 64*k+(j+1)=(64*k+j)+1 from rfl]
  simp only [eLow]
  rw [eLow_in e k hk j (by omega),bit_step,Nat.add_mul]
  have hb:bitAt e (64*k+j)=(atF e k).toNat.testBit j:=by
   unfold bitAt atF
   rw [show (64*k+j) / 64=k by omega,show (64*k+j) % 64=j by omega]
  rw [hb,Nat.add_assoc,show 2 ^ (64*k+j)=2 ^ j*2 ^ (64*k) by rw [Nat.pow_add,Nat.mul_comm],Nat.mul_assoc]
theorem eLow_val (e:List UInt64) : ∀ k,eLow e (64*k)=valAt e k
 | 0=>rfl
 | k+1=>by
  rw [show 64*(k+1)=64*k+64 by omega,eLow_in e k (eLow_val e k) 64 (Nat.le_refl _)]
  simp only [valAt]
  rw [W64_pow,Nat.mod_eq_of_lt (UInt64.toNat_lt _)]
theorem eLow_valL (e:List UInt64):eLow e (64*e.length)=valL e:=eLow_val e _
end Go.Proofs.YtcbplfkeeaecgaaGreat
namespace Go.Proofs.YtcbplfkeeaecgaaGreat
def dblG {α:Type} (tw pl:α->α) (e:List UInt64):Nat->α->α
 | 0,x=>x
 | n+1,x=>dblG tw pl e n (match bitAt e n with | true=>pl (tw x) | false=>tw x)
theorem dblG_pt {α K:Type} [Fld K] [Crv K] (R:α->Pt K->Prop) {tw pl:α->α} {p:Pt K} (hp:p.on) (h1 : ∀ {o:α} {q:Pt K},q.on->R o q->R (tw o) (q.add q)) (h2 : ∀ {o:α} {q:Pt K},q.on->R o q->R (pl o) (q.add p)) (e:List UInt64) :
  ∀ (n:Nat) {o:α} {q:Pt K},q.on->R o q->R (dblG tw pl e n o) ((q.mul (2 ^ n)).add (p.mul (eLow e n)))
 | 0,o,q,hq,h=>by
  show R o ((q.mul 1).add (p.mul 0))
  rw [mul_one_pt,mul_zero_pt,add_inf]
  exact h
 | n+1,o,q,hq,h=>by
  have e2:(2:Nat) ^ (n+1)=2 ^ n+2 ^ n:=by rw [Nat.pow_succ];omega
  have hqq:=add_on hq hq
  simp only [dblG]
  cases hb:bitAt e n with
  | true =>
   have ih:=dblG_pt R hp h1 h2 e n (add_on hqq hp) (h2 hqq (h1 hq h))
   have el:eLow e (n+1)=2 ^ n+eLow e n:=by simp only [eLow,hb,Bool.toNat_true,Nat.one_mul];exact Nat.add_comm _ _
   rw [add_mul_pt hqq hp,add_mul_pt hq hq,<- mul_add_pt hq,<- e2,add_assoc_pt (mul_on hq _) (mul_on hp _) (mul_on hp _),<- mul_add_pt hp,<- el] at ih
   exact ih
  | false =>
   have ih:=dblG_pt R hp h1 h2 e n hqq (h1 hq h)
   have el:eLow e (n+1)=eLow e n:=by simp only [eLow,hb,Bool.toNat_false,Nat.zero_mul,Nat.add_zero]
   rw [add_mul_pt hq hq,<- mul_add_pt hq,<- e2,<- el] at ih
   exact ih
theorem dblG_all {α K:Type} [Fld K] [Crv K] (R:α->Pt K->Prop) {tw pl:α->α} {p:Pt K} (hp:p.on) (h1 : ∀ {o:α} {q:Pt K},q.on->R o q->R (tw o) (q.add q)) (h2 : ∀ {o:α} {q:Pt K},q.on->R o q->R (pl o) (q.add p)) (e:List UInt64) {o:α} (h:R o .inf) :
  R (dblG tw pl e (64*e.length) o) (p.mul (valL e)):=by
 have:=dblG_pt R hp h1 h2 e (64*e.length) (q := .inf) trivial h
 rw [mul_inf_pt,inf_add,eLow_valL] at this
 exact this
theorem V1.four_cube : ∀ x:V1,x*x*x+4 ≠ 0:=fun x h=>by
 have hx:x ≠ 0:=fun e=>by
  rw [e] at h
  have h4:(4:V1)=0:=by grind
  have:=congrArg V1.nat h4
  exact absurd this (by decide +kernel)
 have h1:x ^ 3 = -4:=by grind
 have h2:(-4:V1) ^ ((pN-1) / 3)=1:=by
  rw [<- h1,<- pow_mul',Nat.mul_comm,third]
  exact V1.fermat hx
 have h3:=congrArg V1.nat h2
 have h4:(-4:V1).nat=pN-4:=by decide +kernel
 rw [V1.nat_pow,h4,V1.nat_one,<- mpow_eq pN 381 _ _ (by decide +kernel)] at h3
 exact absurd h3 (by decide +kernel)
instance crv1 : Crv V1 where
 b:=4
 two:=two_ne
 no:=V1.four_cube
def bb2:V2:=⟨4,4⟩
theorem bb2_norm:bb2.norm=32:=by
 rw [V2.norm_eq]
 show (4:V1)*4+4*4=32
 grind
theorem V2.two_ne:(2:V2) ≠ 0:=fun e=>Go.Proofs.YtcbplfkeeaecgaaGreat.two_ne (by
 have:=congrArg Qd.a e
 exact this)
theorem V2.four_cube : ∀ x:V2,x*x*x+bb2 ≠ 0:=fun x h=>by
 have h1:x*x*x = -bb2:=by grind
 have h2:x.norm*x.norm*x.norm=32:=by
  rw [<- Qd.norm_mul,<- Qd.norm_mul,h1,<- bb2_norm,V2.norm_eq,V2.norm_eq]
  show -bb2.a * -bb2.a + -bb2.b * -bb2.b=_
  grind
 have hx:x.norm ≠ 0:=fun e=>by
  rw [e] at h2
  have h4:(32:V1)=0:=h2.symm.trans (CR.mul_zero _)
  have:=congrArg V1.nat h4
  exact absurd this (by decide +kernel)
 have h3:(32:V1) ^ ((pN-1) / 3)=1:=by
  have e:(32:V1)=x.norm ^ 3:=by rw [<- h2];grind
  rw [e,<- pow_mul',Nat.mul_comm,third]
  exact V1.fermat hx
 have h5:=congrArg V1.nat h3
 have h4:(32:V1).nat=32:=by decide +kernel
 rw [V1.nat_pow,h4,V1.nat_one,<- mpow_eq pN 381 _ _ (by decide +kernel)] at h5
 exact absurd h5 (by decide +kernel)
instance crv2 : Crv V2 where
 b:=bb2
 two:=V2.two_ne
 no:=V2.four_cube
theorem add_ok1 {a b:Fp} (ha:a.ok) (hb:b.ok):(addF a b).ok:=add_ok' ha hb
theorem sub_ok1 {a b:Fp} (ha:a.ok) (hb:b.ok):(subF a b).ok:=sub_ok' ha hb
theorem neg_ok1 {a:Fp} (ha:a.ok):(negF a).ok:=neg_ok' ha
theorem mul_ok1 {a b:Fp} (ha:a.ok) (hb:b.ok):(mulF a b).ok:=mul_ok' ha
theorem half_ok1 {a b:Fp} (ha:a.ok) (hb:b.ok):(halfF a b).ok:=half_ok' ha
theorem whole_ok1 {a:Fp} (ha:a.ok):(wholeF a).ok:=whole_ok' ha
theorem low_ok1 {a:Fp} (ha:a.ok):(lowF a).ok:=low_ok' ha
theorem zero_ok1:zeroFp.ok:=zero_ok'
theorem one_ok1:oneFp.ok:=one_ok'
theorem v_add1 {a b:Fp} (ha:a.ok) (hb:b.ok):(addF a b).v=a.v+b.v:=v_add ha hb
theorem v_sub1 {a b:Fp} (ha:a.ok) (hb:b.ok):(subF a b).v=a.v-b.v:=v_sub ha hb
theorem v_neg1 {a:Fp} (ha:a.ok):(negF a).v = -a.v:=v_neg ha
theorem v_mul1 {a b:Fp} (ha:a.ok) (hb:b.ok):(mulF a b).v=a.v*b.v:=v_mul ha hb
theorem v_half1 {a b:Fp} (ha:a.ok) (hb:b.ok):(halfF a b).v=ri*(a.v*b.v):=v_half ha hb
theorem v_whole1 {a:Fp} (ha:a.ok):(wholeF a).v=rv*a.v:=v_whole ha
theorem v_low1 {a:Fp} (ha:a.ok):(lowF a).v=ri*a.v:=v_low ha
theorem v_zero1:zeroFp.v=0:=v_zero
theorem v_one1:oneFp.v=1:=v_one
theorem inv_v1 {a:Fp} (ha:a.ok):(a.v=0->(invF a).2=7)/\(a.v ≠ 0->(invF a).2=0/\(invF a).1.ok/\(invF a).1.v=Fld.inv a.v):=inv_v ha
theorem inv_v2' {a:Fp2} (ha:a.ok):(a.v=0->(invF2 a).2=7)/\(a.v ≠ 0->(invF2 a).2=0/\(invF2 a).1.ok/\(invF2 a).1.v=Fld.inv a.v):=⟨fun h=>congrArg Prod.snd ((inv_v2 ha).1 h),(inv_v2 ha).2⟩
theorem eq_v1 {a b:Fp} (ha:a.ok) (hb:b.ok):fpEq a b=true <-> a.v=b.v:=fpEq_v ha hb
theorem may1_iff (a:Fp):mayF a=true <-> a.ok:=mayF_ok a
end Go.Proofs.YtcbplfkeeaecgaaGreat
namespace Go.Proofs.YtcbplfkeeaecgaaGreat
open Go.RowKit
section
abbrev ks1:Kd Sp1:=kRow Sp1
def tmSt1 (e:List UInt64) (x:Sp1) (cs:List Cell) (z:Int):St:=mkSt 31 [(1,inV 0 e),(2,ptrV 1),(4,ptrV 2),(5,ptrV 3),(6,vI z)] [inHE eU64 e,own 99 (Row.cs x),own 99 (zeros 18),own 99 cs]
def tTm1 (tw:Sp1->Sp1) (pl:Sp1->Sp1->Sp1):Table := [(110,K1 ks1.arg ks1.rs.res tw),(111,K2 ks1.arg ks1.arg ks1.rs.res pl)]
theorem tm1_front (T:Table) (x:Sp1) (e:List UInt64):stageT (En T) 100 ((flat (codeOf Tryz.f57)).take 1) (startSt Tryz.f57 [.one (ks1.av x),iL.av 0 e] [inHE eU64 e]) [1,2,4] [0,1,2] = .leaf (mkSt 31 [(1,inV 0 e),(2,ptrV 1),(4,ptrV 2)] [inHE eU64 e,own 99 (Row.cs x),own 99 (zeros 18)]):=by kernel_rfl
theorem tm1_start (tw:Sp1->Sp1) (pl:Sp1->Sp1->Sp1) (x:Sp1) (e:List UInt64):stageT (En (tTm1 tw pl)) 100 ((flat (scopeOf Tryz.f57)).take 3) (mkSt 31 [(1,inV 0 e),(2,ptrV 1),(4,ptrV 2)] [inHE eU64 e,own 99 (Row.cs x),own 99 (zeros 18)]) [1,2,4,5,6] [0,1,2,3] = .vc (0+e.length*1<=(eU64.body e).cells.length/\0<1) (.leaf (tmSt1 e x (zeros 18) (IntKind.i64.wrap (64*e.length)))):=by kernel_rfl
theorem tm1_iter (tw:Sp1->Sp1) (pl:Sp1->Sp1->Sp1) (x o:Sp1) (e:List UInt64) (z:Int):letI za':=IntKind.i64.wrap (z-1);iterT (En (tTm1 tw pl)) ks1.rs.out 100 Tryz.f57 ((flat (scopeOf Tryz.f57)).drop 3) (tmSt1 e x (Row.cs o) z) [1,2,4,5,6] [0,1,2,3] = .br (decide (IntKind.i64.wrap (z-1)<0)) (.leaf (.inr (some (o,.t)))) (.vc ((0<=quoZ z/\quoZ z<e.length)/\0+e.length*1<=(eU64.body e).cells.length/\0<1) (.vc (0+(quoZ z).toNat*1<e.length) (.br (bitZ e z) (.leaf (.inl (.goto 0,tmSt1 e x (Row.cs (pl (tw o) x)) za'))) (.leaf (.inl (.goto 0,tmSt1 e x (Row.cs (tw o)) za')))))):=by kernel_rfl
theorem tm1_first (tw:Sp1->Sp1) (pl:Sp1->Sp1->Sp1) (x:Sp1) (e:List UInt64) (z:Int):letI za':=IntKind.i64.wrap (z-1);iterT (En (tTm1 tw pl)) ks1.rs.out 100 Tryz.f57 ((flat (scopeOf Tryz.f57)).drop 3) (tmSt1 e x (zeros 18) z) [1,2,4,5,6] [0,1,2,3] = .br (decide (IntKind.i64.wrap (z-1)<0)) (.leaf (.inr (some (zeroSp,.t)))) (.vc ((0<=quoZ z/\quoZ z<e.length)/\0+e.length*1<=(eU64.body e).cells.length/\0<1) (.vc (0+(quoZ z).toNat*1<e.length) (.br (bitZ e z) (.leaf (.inl (.goto 0,tmSt1 e x (Row.cs (pl (tw zeroSp) x)) za'))) (.leaf (.inl (.goto 0,tmSt1 e x (Row.cs (tw zeroSp)) za')))))):=by kernel_rfl
def outC1 (b:Bool) (o:Sp1):List Cell:=match b with
 | true=>zeros 18
 | false=>Row.cs o
def timesG1 (x:Sp1) (e:List UInt64):Sp1:=dblG twiceG1 (fun o=>plusG1 o x) e (64*e.length) zeroSp
abbrev Tm1Ok (x:Sp1) (e:List UInt64):Type := { q:Bool × Int × Sp1 // 0<=q.2.1/\q.2.1<=64*e.length/\(q.1=true->q.2.2=zeroSp)/\dblG twiceG1 (fun o=>plusG1 o x) e q.2.1.toNat q.2.2=timesG1 x e }
def tm1I (x:Sp1) (e:List UInt64) (q:Tm1Ok x e):St:=tmSt1 e x (outC1 q.1.1 q.1.2.2) q.1.2.1
theorem tm1_iterB (x:Sp1) (e:List UInt64) (b:Bool) (o:Sp1) (hb:b=true->o=zeroSp) (z:Int):iterT (En (tTm1 twiceG1 plusG1)) ks1.rs.out 100 Tryz.f57 ((flat (scopeOf Tryz.f57)).drop 3) (tmSt1 e x (outC1 b o) z) [1,2,4,5,6] [0,1,2,3] =
  .br (decide (IntKind.i64.wrap (z-1)<0)) (.leaf (.inr (some (o,.t))))
   (.vc ((0<=quoZ z/\quoZ z<e.length)/\0+e.length*1<=(eU64.body e).cells.length/\0<1) (.vc (0+(quoZ z).toNat*1<e.length)
    (.br (bitZ e z) (.leaf (.inl (.goto 0,tmSt1 e x (Row.cs (plusG1 (twiceG1 o) x)) (IntKind.i64.wrap (z-1))))) (.leaf (.inl (.goto 0,tmSt1 e x (Row.cs (twiceG1 o)) (IntKind.i64.wrap (z-1)))))))):=by
 cases b with
 | true =>
  rw [hb rfl]
  exact tm1_first twiceG1 plusG1 x e z
 | false=>exact tm1_iter twiceG1 plusG1 x o e z
theorem timesG1_ok:CallOk Tryz.prog 57 (K2 ks1.arg aL ks1.rs.res timesG1) :=
 Go.Proofs.YtcbplfkeeaecgaaGreat.G2 (E:=En (tTm1 twiceG1 plusG1)) Tryz.func57 (c:=codeOf Tryz.f57) (by kernel_rfl) (bodied Tryz.func57 (by kernel_rfl) (by kernel_rfl)) ks1.inp iL ks1.rs.out timesG1 fun x e _ he=>by
  have hE:EnvOk (En (tTm1 twiceG1 plusG1)):=En_ok (.cons twiceG1_ok (.cons plusG1_ok .nil))
  have he:e.length<1125899906842624:=he
  have hw:IntKind.i64.wrap (64*(e.length:Int))=64*(e.length:Int):=IntWalk.i64_in _ (by omega)
  refine DoesL.stageE hE 100 1 [1,2,4] [0,1,2] (tm1_front _ x e) ?_
  refine DoesL.scopeFn (body:=scopeOf Tryz.f57) (rest:=restOf Tryz.f57) (tail := []) (l:=0) hE (by kernel_rfl) (by kernel_rfl) 100 3 (by kernel_rfl) [1,2,4,5,6] [0,1,2,3] (tm1I x e) (fun q=>q.1.2.1.toNat)
   ⟨(true,64*(e.length:Int),zeroSp),by simp only [];omega,by simp only [];omega,fun _=>rfl,by rw [show ((true,64*(e.length:Int),zeroSp):Bool × Int × Sp1).2.1.toNat=64*e.length by simp only [];omega];simp only [timesG1]⟩
   (tm1_start twiceG1 plusG1 x e) ⟨⟨by rw [cells_len];omega,by decide⟩,fun _=>by rw [hw];exact Tree.sat_leaf (by simp only [tm1I,outC1])⟩ fun q => ?_
  obtain ⟨⟨b,z,o⟩,h0,h1,hb,h2⟩:=q
  simp only [] at h0 h1 h2 hb
  have hz:IntKind.i64.wrap (z-1)=z-1:=IntWalk.i64_in _ (by omega)
  refine DoesL.iter hE 100 [1,2,4,5,6] [0,1,2,3] (tm1_iterB x e b o hb z) ?_
  rw [hz]
  refine ⟨fun h => ?_,fun h => ?_⟩
  ·simp only [decide_eq_true_eq] at h
   obtain rfl:z=0:=by omega
   exact ⟨.t,by rw [<- h2];rfl,trivial⟩
  ·simp only [decide_eq_false_iff_not] at h
   obtain ⟨n,rfl⟩ : ∃ n:Nat,z=(n:Int)+1:=⟨(z-1).toNat,by omega⟩
   rw [quoZ_nat n (by omega),bitZ_nat e n (by omega)]
   rw [show ((n:Int)+1).toNat=n+1 by omega] at h2
   simp only [dblG] at h2
   refine ⟨⟨⟨by omega,by omega⟩,by rw [cells_len];omega,by decide⟩,fun _=>⟨by omega,fun _=>⟨fun h3 => ?_,fun h3 => ?_⟩⟩⟩
   all_goals
    have hn:((n:Int)+1-1).toNat=n:=by omega
    rw [h3] at h2
    simp only [] at h2
   ·refine ⟨rfl,⟨(false,(n:Int)+1-1,plusG1 (twiceG1 o) x),?_,?_,?_,?_⟩,?_,by simp only [tm1I,outC1]⟩
    ·show 0<=(n:Int)+1-1;omega
    ·show (n:Int)+1-1<=64*e.length;omega
    ·intro h;cases h
    ·simpa only [hn] using h2
    ·show ((n:Int)+1-1).toNat<((n:Int)+1).toNat;omega
   ·refine ⟨rfl,⟨(false,(n:Int)+1-1,twiceG1 o),?_,?_,?_,?_⟩,?_,by simp only [tm1I,outC1]⟩
    ·show 0<=(n:Int)+1-1;omega
    ·show (n:Int)+1-1<=64*e.length;omega
    ·intro h;cases h
    ·simpa only [hn] using h2
    ·show ((n:Int)+1-1).toNat<((n:Int)+1).toNat;omega
def mulG1_G (f0:Sp1->Pg1) (f1:Sp1->List UInt64->Sp1) (f2:Pg1->Sp1) (a:Pg1) (k:Fr):Pg1:=(f0 (f1 (f2 a) [k.l0,k.l1,k.l2,k.l3]))
def mulG1_T (f0:Sp1->Pg1) (f1:Sp1->List UInt64->Sp1) (f2:Pg1->Sp1) (a:Pg1) (k:Fr):Tree (Option (Pg1)) :=
 (.leaf (some (f0 (f1 (f2 a) [k.l0,k.l1,k.l2,k.l3]))))
theorem mulG1_run (f0:Sp1->Pg1) (f1:Sp1->List UInt64->Sp1) (f2:Pg1->Sp1) (a:Pg1) (k:Fr):plainRun (En [(56,K1 (kRow Sp1).arg (kRow Pg1).rs.res f0),(57,K2 ks1.arg aL ks1.rs.res f1),(58,K1 (kRow Pg1).arg (kRow Sp1).rs.res f2)]) (kRow Pg1).rs 300 Tryz.f29 [.one ((kRow Pg1).av a),.one ((kRow Fr).av k)]=mulG1_T f0 f1 f2 a k:=by kernel_rfl
theorem mulG1_sat (f0:Sp1->Pg1) (f1:Sp1->List UInt64->Sp1) (f2:Pg1->Sp1) (a:Pg1) (k:Fr):(mulG1_T f0 f1 f2 a k).sat fun q=>q=some (mulG1_G f0 f1 f2 a k):=(show some _=some _ from rfl)
def mulG1 (a:Pg1) (k:Fr):Pg1:=mulG1_G laysG1 timesG1 liftG1 a k
theorem mulG1_ok:CallOk Tryz.prog 29 (K2 (kRow Pg1).arg (kRow Fr).arg (kRow Pg1).rs.res mulG1) :=
 P2 (En_ok (.cons laysG1_ok (.cons timesG1_ok (.cons liftG1_ok .nil)))) Tryz.func29 (bodied Tryz.func29 (by kernel_rfl) (by kernel_rfl)) 300 (kRow Pg1) (kRow Fr) (kRow Pg1).rs mulG1 (mulG1_run laysG1 timesG1 liftG1) (mulG1_sat laysG1 timesG1 liftG1)
def inG1_G (f0:Pg1->Bool) (f1:Fp->Bool) (f2:Sp1->List UInt64->Sp1) (f3:Pg1->Sp1) (f4:Fr) (a:Pg1):Bool:=(match (f0 a) with | true=>((f1 (f2 (f3 a) [f4.l0,f4.l1,f4.l2,f4.l3]).z)) | false=>((false)))
def inG1_T (f0:Pg1->Bool) (f1:Fp->Bool) (f2:Sp1->List UInt64->Sp1) (f3:Pg1->Sp1) (f4:Fr) (a:Pg1):Tree (Option (Bool)) :=
 (.br (f0 a)
  (.leaf (some ((f1 (f2 (f3 a) [f4.l0,f4.l1,f4.l2,f4.l3]).z))))
  (.leaf (some ((false)))))
theorem inG1_run (f0:Pg1->Bool) (f1:Fp->Bool) (f2:Sp1->List UInt64->Sp1) (f3:Pg1->Sp1) (f4:Fr) (a:Pg1):plainRun (Ens [(116,K1 (kRow Pg1).arg kBool.rs.res f0),(117,K1 (kRow Fp).arg kBool.rs.res f1),(57,K2 ks1.arg aL ks1.rs.res f2),(58,K1 (kRow Pg1).arg (kRow Sp1).rs.res f3),(118,K0 (rS4 24) f4)] [118]) kBool.rs 300 Tryz.f61 [.one ((kRow Pg1).av a)]=inG1_T f0 f1 f2 f3 f4 a:=by kernel_rfl
theorem inG1_sat (f0:Pg1->Bool) (f1:Fp->Bool) (f2:Sp1->List UInt64->Sp1) (f3:Pg1->Sp1) (f4:Fr) (a:Pg1):(inG1_T f0 f1 f2 f3 f4 a).sat fun q=>q=some (inG1_G f0 f1 f2 f3 f4 a):=⟨fun h0=>(show some _=some _ from congrArg some (by unfold inG1_G;rw [h0])),fun h0=>(show some _=some _ from congrArg some (by unfold inG1_G;rw [h0]))⟩
def inG1 (a:Pg1):Bool:=inG1_G onG1 zeroG1 timesG1 liftG1 rLimbs a
theorem inG1_ok:CallOk Tryz.prog 61 (K1 (kRow Pg1).arg kBool.rs.res inG1) :=
 P1 (Ens_ok (.cons onG1_ok (.cons zeroG1_ok (.cons timesG1_ok (.cons liftG1_ok (.cons R4_ok .nil)))))) Tryz.func61 (bodied Tryz.func61 (by kernel_rfl) (by kernel_rfl)) 300 (kRow Pg1) kBool.rs inG1 (inG1_run onG1 zeroG1 timesG1 liftG1 rLimbs) (inG1_sat onG1 zeroG1 timesG1 liftG1 rLimbs)
end
end Go.Proofs.YtcbplfkeeaecgaaGreat
