/- Texts of the proof, joined. -/
import Derived.Test.YtcbplfkeeaecgaaGreatRows
import Derived.IntWalk
import Derived.Test.YtcbplfkeeaecgaaGreatZG4
set_option linter.unusedSectionVars false
set_option linter.unusedSimpArgs false
set_option linter.unusedVariables false
namespace Go.Proofs.YtcbplfkeeaecgaaGreat
open Go.RowKit
theorem ac {f : Nat} {fn : Func} (h : Tryz.prog.funcs[f]? = some fn) (h1 : fn.body.isSome = true) (h2 : (fn.name == "runtime.NumGoroutine") = false) : Bodied Tryz.prog f := ⟨fn, h, h1, h2⟩
theorem cT:Tryz.prog.follows .mixedOrders=true:=by kernel_rfl
theorem j4:CallOk Tryz.prog 70 (K3x eg ci):=afg Tryz.func70 (by kernel_rfl) (by kernel_rfl) (by kernel_rfl) (by kernel_rfl)
theorem rk:CallOk Tryz.prog 132 (K3x fe du):=afb Tryz.func132 (by kernel_rfl) (by kernel_rfl) (by kernel_rfl) (by kernel_rfl)
noncomputable def T0:cQ := [(70,K3x eg ci),(132,K3x fe du)]
theorem abV:TableOk Tryz.prog T0 := .cons j4 (.cons rk .nil)
def pLimbs:Fp:=⟨0xb9feffffffffaaab,0x1eabfffeb153ffff,0x6730d2a0f6b0f624,0x64774b84f38512bf,0x4b1ba7b6434bacd7,0x1a0111ea397fe69a⟩
noncomputable def E0:Env:=wS Tryz.prog T0 []
theorem L6:EnvOk E0:=jU cT abV
theorem jH:CallOk Tryz.prog 148 (K0 (aa Fp).rs.res pLimbs):=P0 L6 Tryz.func148 (ac Tryz.func148 (by kernel_rfl) (by kernel_rfl)) 100 (aa Fp).rs pLimbs (T := .leaf (some pLimbs)) (by kernel_rfl) rfl
noncomputable def T1:cQ:=(148,K0 (aa Fp).rs.res pLimbs) :: T0
theorem agh:TableOk Tryz.prog T1 := .cons jH abV
noncomputable def E1:Env:=wS Tryz.prog T1 []
theorem agp:EnvOk E1:=jU cT agh
def Ei (a:Fp):Fp × Bool :=
 let c0:=du a.l0 pLimbs.l0 false
 let c1:=du a.l1 pLimbs.l1 c0
 let c2:=du a.l2 pLimbs.l2 c1
 let c3:=du a.l3 pLimbs.l3 c2
 let c4:=du a.l4 pLimbs.l4 c3
 (⟨fe a.l0 pLimbs.l0 false,fe a.l1 pLimbs.l1 c0,fe a.l2 pLimbs.l2 c1,fe a.l3 pLimbs.l3 c2,fe a.l4 pLimbs.l4 c3,fe a.l5 pLimbs.l5 c4⟩,du a.l5 pLimbs.l5 c4)
def l6 (a:Fp) (over:UInt64):Fp:=match decide (over<b2u (Ei a).2) with | true=>a | false=>(Ei a).1
theorem OA:CallOk Tryz.prog 151 (K2 (aa Fp).arg kU64.arg (aa Fp).rs.res l6) :=
 P2 agp Tryz.func151 (ac Tryz.func151 (by kernel_rfl) (by kernel_rfl)) 100 (aa Fp) kU64 (aa Fp).rs l6
  (T:=fun a o => .br (decide (o<b2u (Ei a).2)) (.leaf (some a)) (.leaf (some (Ei a).1))) (by intro a o;kernel_rfl)
  (by intro a o;exact ⟨fun h=>congrArg some (by unfold l6;rw [h]),fun h=>congrArg some (by unfold l6;rw [h])⟩)
end Go.Proofs.YtcbplfkeeaecgaaGreat
namespace Go.Proofs.YtcbplfkeeaecgaaGreat
open Go.RowKit
def fD (x y:UInt64):UInt64 :=
 let t:=gk x 32*(y &&& 4294967295)+gk ((x &&& 4294967295)*(y &&& 4294967295)) 32
 gk x 32*gk y 32+gk t 32+gk ((t &&& 4294967295)+(x &&& 4294967295)*gk y 32) 32
theorem rO:CallOk Tryz.prog 69 (K2 kU64.arg kU64.arg (kU64.rs2 kU64).res fun x y=>(fD x y,x*y)) :=
 P2 L6 Tryz.func69 (ac Tryz.func69 (by kernel_rfl) (by kernel_rfl)) 100 kU64 kU64 (kU64.rs2 kU64) (fun x y=>(fD x y,x*y))
  (T:=fun x y => .leaf (some (fD x y,x*y))) (by intro x y;kernel_rfl) (fun _ _=>rfl)
theorem Jl (x:UInt64):(gk x 32).toNat=x.toNat / 4294967296:=by
 have:=x.toNat_lt
 unfold gk
 rw [show (min (Int.toNat 32) 64)=32 from rfl,UInt64.toNat_ofNat']
 omega
theorem Uj (x:UInt64):(x &&& 4294967295).toNat=x.toNat % 4294967296:=by
 rw [UInt64.toNat_and]
 exact Nat.and_two_pow_sub_one_eq_mod x.toNat 32
theorem il (x y:UInt64):(fD x y).toNat=x.toNat*y.toNat / 18446744073709551616:=by
 have hx:=x.toNat_lt
 have hy:=y.toNat_lt
 have h1:x.toNat=4294967296*(x.toNat / 4294967296)+x.toNat % 4294967296:=by omega
 have h2:y.toNat=4294967296*(y.toNat / 4294967296)+y.toNat % 4294967296:=by omega
 have b0:x.toNat % 4294967296<=4294967295:=by omega
 have b1:x.toNat / 4294967296<=4294967295:=by omega
 have c0:y.toNat % 4294967296<=4294967295:=by omega
 have c1:y.toNat / 4294967296<=4294967295:=by omega
 unfold fD
 simp only [UInt64.toNat_add,UInt64.toNat_mul,Jl,Uj]
 generalize hx0:x.toNat % 4294967296=x0 at *
 generalize hx1:x.toNat / 4294967296=x1 at *
 generalize hy0:y.toNat % 4294967296=y0 at *
 generalize hy1:y.toNat / 4294967296=y1 at *
 have p00:x0*y0<=4294967295*4294967295:=Nat.mul_le_mul b0 c0
 have p01:x0*y1<=4294967295*4294967295:=Nat.mul_le_mul b0 c1
 have p10:x1*y0<=4294967295*4294967295:=Nat.mul_le_mul b1 c0
 have p11:x1*y1<=4294967295*4294967295:=Nat.mul_le_mul b1 c1
 have e:x.toNat*y.toNat=18446744073709551616*(x1*y1)+4294967296*(x1*y0)+4294967296*(x0*y1)+x0*y0:=by
  rw [h1,h2]
  simp only [Nat.mul_add,Nat.add_mul]
  have q1:4294967296*x1*(4294967296*y1)=18446744073709551616*(x1*y1):=by
   rw [Nat.mul_mul_mul_comm]
  have q2:4294967296*x1*y0=4294967296*(x1*y0):=Nat.mul_assoc _ _ _
  have q3:x0*(4294967296*y1)=4294967296*(x0*y1):=by rw [Nat.mul_left_comm]
  omega
 rw [e]
 generalize x0*y0=p at *
 generalize x0*y1=q at *
 generalize x1*y0=r at *
 generalize x1*y1=s at *
 omega
def jd (x y t c:UInt64):UInt64:=eg (eg (x*y) t false) c false
def fg (x y t c:UInt64):UInt64:=fD x y+b2u (ci (x*y) t false)+b2u (ci (eg (x*y) t false) c false)
theorem aec (x y t c:UInt64):(fg x y t c).toNat*18446744073709551616+(jd x y t c).toNat=x.toNat*y.toNat+t.toNat+c.toNat:=by
 have hx:=x.toNat_lt
 have hy:=y.toNat_lt
 have ht:=t.toNat_lt
 have hc:=c.toNat_lt
 have hp:x.toNat*y.toNat<=18446744073709551615*18446744073709551615:=Nat.mul_le_mul (by omega) (by omega)
 unfold fg jd
 simp only [UInt64.toNat_add,cG,nO,j0,il,UInt64.toNat_mul,Bool.toNat_false]
 generalize x.toNat*y.toNat=p at *
 omega
end Go.Proofs.YtcbplfkeeaecgaaGreat
namespace Go.Proofs.YtcbplfkeeaecgaaGreat
open Go.RowKit
noncomputable def T2:cQ:=(151,K2 (aa Fp).arg kU64.arg (aa Fp).rs.res l6) :: (69,K2 kU64.arg kU64.arg (kU64.rs2 kU64).res fun x y=>(fD x y,x*y)) :: T1
theorem ajM:TableOk Tryz.prog T2 := .cons OA (.cons rO agh)
noncomputable def E2:Env:=wS Tryz.prog T2 []
theorem uE:EnvOk E2:=jU cT ajM
structure L7 where
 t0:UInt64
 t1:UInt64
 t2:UInt64
 t3:UInt64
 t4:UInt64
 t5:UInt64
 t6:UInt64
def wG:UInt64:=0x89f3fffcfffcfffd
def zh (t0 t1 t2 t3 t4 t5 top:UInt64) (more:Bool):L7 :=
 let x:=t0*wG
 let d0:=fD x pLimbs.l0+b2u (ci (x*pLimbs.l0) t0 false)
 let d1:=fg x pLimbs.l1 t1 d0
 let d2:=fg x pLimbs.l2 t2 d1
 let d3:=fg x pLimbs.l3 t3 d2
 let d4:=fg x pLimbs.l4 t4 d3
 let d5:=fg x pLimbs.l5 t5 d4
 ⟨jd x pLimbs.l1 t1 d0,jd x pLimbs.l2 t2 d1,jd x pLimbs.l3 t3 d2,jd x pLimbs.l4 t4 d3,jd x pLimbs.l5 t5 d4,eg top d5 false,b2u more+b2u (ci top d5 false)⟩
def eo (a:Fp) (b:UInt64) (t:L7):L7 :=
 let c0:=fg a.l0 b t.t0 0
 let c1:=fg a.l1 b t.t1 c0
 let c2:=fg a.l2 b t.t2 c1
 let c3:=fg a.l3 b t.t3 c2
 let c4:=fg a.l4 b t.t4 c3
 let c5:=fg a.l5 b t.t5 c4
 zh (jd a.l0 b t.t0 0) (jd a.l1 b t.t1 c0) (jd a.l2 b t.t2 c1) (jd a.l3 b t.t3 c2) (jd a.l4 b t.t4 c3) (jd a.l5 b t.t5 c4) (eg t.t6 c5 false) (ci t.t6 c5 false)
def Ak (a b:Fp):L7:=eo a b.l0 ⟨0,0,0,0,0,0,0⟩
def Aj (a b:Fp):L7:=eo a b.l1 (Ak a b)
def Ai (a b:Fp):L7:=eo a b.l2 (Aj a b)
def Ah (a b:Fp):L7:=eo a b.l3 (Ai a b)
def Ag (a b:Fp):L7:=eo a b.l4 (Ah a b)
def gj (a b:Fp):L7:=eo a b.l5 (Ag a b)
def L7.low (t:L7):Fp:=⟨t.t0,t.t1,t.t2,t.t3,t.t4,t.t5⟩
def aP (a b:Fp):Fp:=l6 (gj a b).low (gj a b).t6
def bv (n:Nat):AV := .one (.c (.ptr n 0))
def aaA (n:Nat):AV := .one (.c (.lit .i64 n))
def own (ty:TypeId) (cs:List Cell):HE := .live ⟨true,ty,0,.row cs,false⟩
def L7.cs (t:L7):List Cell := [.u64 t.t0,.u64 t.t1,.u64 t.t2,.u64 t.t3,.u64 t.t4,.u64 t.t5,.u64 t.t6]
def bO (n:Nat):List Cell:=List.replicate n (.lit .u64 0)
def hSt (a b:Fp) (k:Nat) (t:List Cell):St :=
 aw 139 [(2,bv 0),(3,bv 1),(4,bv 2),(5,bv 3),(6,bv 4),(18,aaA k)] [own 29 (Row.cs a),own 29 (Row.cs b),own 29 (bO 6),own 29 (Row.cs pLimbs),own 176 t]
def ma:X->Option (List Nat × List Nat):=same [2,3,4,5,6,18] [0,1,2,3,4]
noncomputable def hCode:List Code:=flat (af Tryz.f152)
noncomputable def xa:Code:=bk Tryz.f152 0
set_option maxRecDepth 100000
theorem K6 (a b:Fp):b8 E2 100 (hCode.take 4) (ah Tryz.f152 [.one ((aa Fp).av a),.one ((aa Fp).av b)] []) [2,3,4,5,6,18] [0,1,2,3,4] = .leaf (hSt a b 0 (bO 7)):=by kernel_rfl
theorem FH (a b:Fp):bm E2 100 xa (hSt a b 0 (bO 7)) ma = .leaf (.normal,hSt a b 1 (eo a b.l0 ⟨0,0,0,0,0,0,0⟩).cs):=by kernel_rfl
theorem FG (a b:Fp) (t:L7):bm E2 100 xa (hSt a b 1 t.cs) ma = .leaf (.normal,hSt a b 2 (eo a b.l1 t).cs):=by kernel_rfl
theorem FF (a b:Fp) (t:L7):bm E2 100 xa (hSt a b 2 t.cs) ma = .leaf (.normal,hSt a b 3 (eo a b.l2 t).cs):=by kernel_rfl
theorem FE (a b:Fp) (t:L7):bm E2 100 xa (hSt a b 3 t.cs) ma = .leaf (.normal,hSt a b 4 (eo a b.l3 t).cs):=by kernel_rfl
theorem FD (a b:Fp) (t:L7):bm E2 100 xa (hSt a b 4 t.cs) ma = .leaf (.normal,hSt a b 5 (eo a b.l4 t).cs):=by kernel_rfl
theorem FC (a b:Fp) (t:L7):bm E2 100 xa (hSt a b 5 t.cs) ma = .leaf (.normal,hSt a b 6 (eo a b.l5 t).cs):=by kernel_rfl
theorem YJ (a b:Fp) (t:L7):bm E2 100 xa (hSt a b 6 t.cs) ma = .leaf (.exit 0,hSt a b 6 t.cs):=by kernel_rfl
theorem YL (a b:Fp) (t:L7):af0 E2 (aa Fp).rs 100 Tryz.f152 (hCode.drop 5) (hSt a b 6 t.cs) = .leaf (some (l6 t.low t.t6)):=by kernel_rfl
theorem K7:hCode.drop 4 = .block 0 (.loop xa) :: hCode.drop 5:=by kernel_rfl
def U0 (a b:Fp) (k:Fin 7):St :=
 match k with
 | 0=>hSt a b 0 (bO 7)
 | 1=>hSt a b 1 (Ak a b).cs
 | 2=>hSt a b 2 (Aj a b).cs
 | 3=>hSt a b 3 (Ai a b).cs
 | 4=>hSt a b 4 (Ah a b).cs
 | 5=>hSt a b 5 (Ag a b).cs
 | 6=>hSt a b 6 (gj a b).cs
theorem mw:CallOk Tryz.prog 152 (K2 (aa Fp).arg (aa Fp).arg (aa Fp).rs.res aP):=by
 refine Q2 (E:=E2) Tryz.func152 (c:=af Tryz.f152) (by kernel_rfl) (ac Tryz.func152 (by kernel_rfl) (by kernel_rfl)) (aa Fp) (aa Fp) (aa Fp).rs aP fun a b => ?_
 refine DoesL.stageTo uE 100 4 [2,3,4,5,6,18] [0,1,2,3,4] (K6 a b) ?_
 refine DoesL.blockLoop K7 (U0 a b) (fun k=>6-k.1) 0 fun k => ?_
 match k with
 | 0=>exact Does.round uE 100 ma (FH a b) ⟨1,by decide,by simp only [U0,Ak]⟩
 | 1=>exact Does.round uE 100 ma (FG a b _) ⟨2,by decide,by simp only [U0,Aj]⟩
 | 2=>exact Does.round uE 100 ma (FF a b _) ⟨3,by decide,by simp only [U0,Ai]⟩
 | 3=>exact Does.round uE 100 ma (FE a b _) ⟨4,by decide,by simp only [U0,Ah]⟩
 | 4=>exact Does.round uE 100 ma (FD a b _) ⟨5,by decide,by simp only [U0,Ag]⟩
 | 5=>exact Does.round uE 100 ma (FC a b _) ⟨6,by decide,by simp only [U0,gj]⟩
 | 6=>exact Does.round uE 100 ma (YJ a b _) ⟨rfl,DoesL.fin uE 100 (YL a b _) (Tree.sat_leaf (by simp only [aP]))⟩
end Go.Proofs.YtcbplfkeeaecgaaGreat
namespace Go.Proofs.YtcbplfkeeaecgaaGreat
open Go.RowKit
abbrev Kc (x:Fp):ak:=K0 (aa Fp).rs.res x
abbrev Kf (F:Fp->Fp):ak:=K1 (aa Fp).arg (aa Fp).rs.res F
abbrev Kff (F:Fp->Fp->Fp):ak:=K2 (aa Fp).arg (aa Fp).arg (aa Fp).rs.res F
noncomputable abbrev En (T:cQ):Env:=wS Tryz.prog T []
theorem ag {T:cQ} (h:TableOk Tryz.prog T):EnvOk (En T):=jU cT h
abbrev vF (a:Fp):AV := .one ((aa Fp).av a)
abbrev vU (a:UInt64):AV := .one (kU64.av a)
abbrev rF:Rs Fp:=(aa Fp).rs
def sqLimbs:Fp:=⟨0xf4df1f341c341746,0x0a76e6a609d104f1,0x8de5476c4c95b6d5,0x67eb88a9939d83c0,0x9a793e85b519952d,0x11988fe592cae3aa⟩
theorem Qj:CallOk Tryz.prog 164 (Kc sqLimbs):=P0 L6 Tryz.func164 (ac Tryz.func164 (by kernel_rfl) (by kernel_rfl)) 100 rF sqLimbs (T := .leaf (some sqLimbs)) (by kernel_rfl) rfl
def bf (a:Fp):Fp:=aP a sqLimbs
def oneFp:Fp:=⟨1,0,0,0,0,0⟩
def zeroFp:Fp:=⟨0,0,0,0,0,0⟩
def iR (a:Fp):Fp:=aP a oneFp
theorem Py (hF:Fp->Fp->Fp) (q a:Fp):ab (En [(152,Kff hF),(164,Kc q)]) rF 100 Tryz.f112 [vF a] = .leaf (some (hF a q)):=by kernel_rfl
theorem aef (hF:Fp->Fp->Fp) (a:Fp):ab (En [(152,Kff hF)]) rF 100 Tryz.f109 [vF a] = .leaf (some (hF a oneFp)):=by kernel_rfl
theorem np:CallOk Tryz.prog 112 (Kf bf):=P1 (ag (.cons mw (.cons Qj .nil))) Tryz.func112 (ac Tryz.func112 (by kernel_rfl) (by kernel_rfl)) 100 (aa Fp) rF bf (Py aP sqLimbs) (fun _=>Tree.sat_leaf (by simp only [bf]))
theorem MD:CallOk Tryz.prog 109 (Kf iR):=P1 (ag (.cons mw .nil)) Tryz.func109 (ac Tryz.func109 (by kernel_rfl) (by kernel_rfl)) 100 (aa Fp) rF iR (aef aP) (fun _=>Tree.sat_leaf (by simp only [iR]))
def jl (a b:Fp):Fp × Bool :=
 let c0:=ci a.l0 b.l0 false
 let c1:=ci a.l1 b.l1 c0
 let c2:=ci a.l2 b.l2 c1
 let c3:=ci a.l3 b.l3 c2
 let c4:=ci a.l4 b.l4 c3
 (⟨eg a.l0 b.l0 false,eg a.l1 b.l1 c0,eg a.l2 b.l2 c1,eg a.l3 b.l3 c2,eg a.l4 b.l4 c3,eg a.l5 b.l5 c4⟩,ci a.l5 b.l5 c4)
def cP (a b:Fp):Fp:=l6 (jl a b).1 (b2u (jl a b).2)
theorem ae6 (lF:Fp->UInt64->Fp) (a b:Fp):ab (En [(70,K3x eg ci),(151,K2 (aa Fp).arg kU64.arg rF.res lF)]) rF 100 Tryz.f90 [vF a,vF b] = .leaf (some (lF (jl a b).1 (b2u (jl a b).2))):=by kernel_rfl
theorem m8:CallOk Tryz.prog 90 (Kff cP):=P2 (ag (.cons j4 (.cons OA .nil))) Tryz.func90 (ac Tryz.func90 (by kernel_rfl) (by kernel_rfl)) 100 (aa Fp) (aa Fp) rF cP (ae6 l6) (fun _ _=>Tree.sat_leaf (by simp only [cP]))
def dr (a b:Fp):Fp × Bool :=
 let c0:=du a.l0 b.l0 false
 let c1:=du a.l1 b.l1 c0
 let c2:=du a.l2 b.l2 c1
 let c3:=du a.l3 b.l3 c2
 let c4:=du a.l4 b.l4 c3
 (⟨fe a.l0 b.l0 false,fe a.l1 b.l1 c0,fe a.l2 b.l2 c1,fe a.l3 b.l3 c2,fe a.l4 b.l4 c3,fe a.l5 b.l5 c4⟩,du a.l5 b.l5 c4)
def dM (a b:Fp):Fp:=match decide (b2u (dr a b).2=0) with | true=>(dr a b).1 | false=>(jl (dr a b).1 pLimbs).1
theorem acx (a b:Fp):ab E1 rF 100 Tryz.f131 [vF a,vF b] = .br (decide (b2u (dr a b).2=0)) (.leaf (some (dr a b).1)) (.leaf (some (jl (dr a b).1 pLimbs).1)):=by kernel_rfl
theorem sub_ok:CallOk Tryz.prog 131 (Kff dM):=P2 agp Tryz.func131 (ac Tryz.func131 (by kernel_rfl) (by kernel_rfl)) 100 (aa Fp) (aa Fp) rF dM acx
 (by intro a b;exact ⟨fun h=>congrArg some (by unfold dM;rw [h]),fun h=>congrArg some (by unfold dM;rw [h])⟩)
def dV (a:Fp):Fp:=dM zeroFp a
def bT (a b:Fp):Fp:=bf (aP a b)
def ofF (n:UInt64):Fp:=⟨n,0,0,0,0,0⟩
theorem adU (sF:Fp->Fp->Fp) (a:Fp):ab (En [(131,Kff sF)]) rF 100 Tryz.f68 [vF a] = .leaf (some (sF zeroFp a)):=by kernel_rfl
theorem zx:CallOk Tryz.prog 68 (Kf dV):=P1 (ag (.cons sub_ok .nil)) Tryz.func68 (ac Tryz.func68 (by kernel_rfl) (by kernel_rfl)) 100 (aa Fp) rF dV (adU dM) (fun _=>Tree.sat_leaf (by simp only [dV]))
theorem adX (hF:Fp->Fp->Fp) (wF:Fp->Fp) (a b:Fp):ab (En [(152,Kff hF),(112,Kf wF)]) rF 100 Tryz.f91 [vF a,vF b] = .leaf (some (wF (hF a b))):=by kernel_rfl
theorem pf:CallOk Tryz.prog 91 (Kff bT):=P2 (ag (.cons mw (.cons np .nil))) Tryz.func91 (ac Tryz.func91 (by kernel_rfl) (by kernel_rfl)) 100 (aa Fp) (aa Fp) rF bT (adX aP bf) (fun _ _=>Tree.sat_leaf (by simp only [bT]))
theorem ahn (n:UInt64):ab (En []) rF 100 Tryz.f92 [vU n] = .leaf (some (ofF n)):=by kernel_rfl
theorem of_ok:CallOk Tryz.prog 92 (K1 kU64.arg rF.res ofF):=P1 (ag .nil) Tryz.func92 (ac Tryz.func92 (by kernel_rfl) (by kernel_rfl)) 100 kU64 rF ofF ahn (fun _=>Tree.sat_leaf rfl)
end Go.Proofs.YtcbplfkeeaecgaaGreat
namespace Go.Proofs.YtcbplfkeeaecgaaGreat
open Go.RowKit
def kI:Arg Nat where
 rd:=fun _ v=>match v with
  | .one (.c (.lit .i64 n))=>match decide (0<=n) with
   | true=>some (n.toNat,.t,[])
   | false=>none
  | .one (.c (.int .i64 n))=>some (n.toNat,.p (0<=n),[])
  | _=>none
 is:=fun _ v x=>v = .int .i64 (x:Int)
 ok:=fun {w0 β h w v x p rs} e hp _ _=>by
  split at e
  ·split at e
   ·rename_i hd
    cases e
    simp only [decide_eq_true_eq] at hd
    simp only [gv,g1,gc]
    congr 1
    omega
   ·cases e
  ·cases e
   have:(0:Int)<=_:=hp
   simp only [gv,g1,gc]
   congr 1
   omega
  ·cases e
 near:=fun e _=>e
def inpNat:Inp Nat where
 arg:=kI
 av:=fun _ x => .one (.c (.int .i64 (x:Int)))
 hes:=fun _ => []
 fact:=fun _=>True
 known:=fun _=>trivial
 intro:=fun {w0 β heap w v x} hr _ hv=>⟨β,by rw [List.append_nil];exact hr,hv.symm,aj rfl,fun _ _=>rfl⟩
abbrev oU:Out UInt64:=kU64.rs.out
abbrev iL:Inp (List UInt64):=Em eU64
abbrev aL:Arg (List UInt64):=LZ eU64
def atF (xs:List UInt64) (i:Nat):UInt64:=xs.getD i 0
theorem aiq (xs:List UInt64) (i:Nat):letI za':=0+xs.length*1<=(eU64.body xs).cells.length/\0<1;dx (En []) oU 100 Tryz.f185 (flat (af Tryz.f185)) (ah Tryz.f185 [iL.av 0 xs,inpNat.av 1 i] [bN eU64 xs]) = .vc za' (.br (decide ((i:Int)<(xs.length:Int))) (.vc ((0<=(i:Int)/\(i:Int)<(xs.length:Int))/\za') (.vc (0+(i:Int).toNat*1<xs.length) (.leaf (some (xs.getD (0+(i:Int).toNat*1) 0,.t))))) (.leaf (some (0,.t)))):=by kernel_rfl
theorem ajI:CallOk Tryz.prog 185 (K2 aL kI kU64.rs.res atF) :=
 G2 (E:=En []) Tryz.func185 (c:=af Tryz.f185) (by kernel_rfl) (ac Tryz.func185 (by kernel_rfl) (by kernel_rfl)) iL inpNat oU atF fun xs i _ _=>by
  refine DoesL.ends (ag .nil) 100 (aiq xs i) ⟨⟨by rw [eU64.cells_len];omega,by decide⟩,fun _=>⟨fun h => ?_,fun h => ?_⟩⟩
  ·simp only [decide_eq_true_eq] at h
   refine ⟨⟨⟨by omega,h⟩,by rw [eU64.cells_len];omega,by decide⟩,fun _=>⟨by omega,fun _=>⟨.t,?_,trivial⟩⟩⟩
   simp [atF]
  ·simp only [decide_eq_false_iff_not] at h
   refine ⟨.t,?_,trivial⟩
   have:xs.length<=i:=by omega
   simp [atF,List.getElem?_eq_none this]
def v9:Code->Option Code
 | .scope a=>some a
 | .seq a b=>match v9 a with | some c=>some c | none=>v9 b
 | .block _ a=>v9 a
 | _=>none
def aU (fn:Func):Code:=match v9 (af fn) with | some c=>c | none => .skip
def oV (fn:Func):Code:=match findLabel (aU fn) 0 with | some c=>c | none => .skip
abbrev vI (z:Int):AV := .one (.c (.int .i64 z))
abbrev oI:Out Int:=kInt.rs.out
abbrev okL (xs:List UInt64):Prop:=0+xs.length<=xs.length/\xs.length<bE/\RC.fits (.of 0) 0 xs.length 1 1
def UO (xs ys:List UInt64) (z:Int):St:=aw 31 [(0,inV 0 xs),(1,inV 1 ys),(5,vI z)] [bN eU64 xs,bN eU64 ys]
def UZ (xs ys:List UInt64):Int:=if (ys.length:Int) > xs.length then ys.length else xs.length
theorem TU (T:cQ) (xs ys:List UInt64):b8 (En T) 100 ((flat (af Tryz.f160)).take 1) (ah Tryz.f160 [iL.av 0 xs,iL.av 1 ys] [bN eU64 xs,bN eU64 ys]) [0,1] [0,1] =
  .leaf (aw 31 [(0,inV 0 xs),(1,inV 1 ys)] [bN eU64 xs,bN eU64 ys]):=by kernel_rfl
theorem TT (T:cQ) (xs ys:List UInt64):b8 (En T) 100 ((flat (aU Tryz.f160)).take 2) (aw 31 [(0,inV 0 xs),(1,inV 1 ys)] [bN eU64 xs,bN eU64 ys]) [0,1,5] [0,1] = .vc (0+xs.length*1<=(eU64.body xs).cells.length/\0<1) (.vc (0+ys.length*1<=(eU64.body ys).cells.length/\0<1) (.leaf (UO xs ys (UZ xs ys)))):=by kernel_rfl
theorem Zh (aF:List UInt64->Nat->UInt64) (xs ys:List UInt64) (z:Int):letI za':=IntKind.i64.wrap (z-1);letI zb':=(xs.drop 0).take xs.length;letI zc':=(ys.drop 0).take ys.length;fE (En [(185,K2 aL kI kU64.rs.res aF)]) oI 100 Tryz.f160 ((flat (aU Tryz.f160)).drop 2) (UO xs ys z) [0,1,5] [0,1] = .br (decide (IntKind.i64.wrap (z-1)<0)) (.leaf (.inr (some (0,.t)))) (.vc (okL xs/\0<=IntKind.i64.wrap (z-1)) (.vc (okL ys/\0<=IntKind.i64.wrap (z-1)) (.br (decide (aF zb' za'.toNat<aF zc' za'.toNat)) (.leaf (.inr (some (-1,.t)))) (.br (decide (aF zb' za'.toNat > aF zc' za'.toNat)) (.leaf (.inr (some (1,.t)))) (.leaf (.inl (.goto 0,UO xs ys za'))))))):=by kernel_rfl
def mg (xs ys:List UInt64):Nat->Int
 | 0=>0
 | n+1=>if atF xs n<atF ys n then -1 else if atF xs n > atF ys n then 1 else mg xs ys n
def Ie (xs ys:List UInt64):Int:=mg xs ys (UZ xs ys).toNat
theorem cells_len (xs:List UInt64):(eU64.body xs).cells.length=xs.length:=eU64.cells_len xs
theorem aaj {xs:List UInt64} (h:xs.length<bE):okL xs:=⟨by omega,h,by simp [RC.fits]⟩
abbrev ajS (xs ys:List UInt64):Type := { z:Int // 0<=z/\z<bE/\mg xs ys z.toNat=Ie xs ys }
def akv (xs ys:List UInt64) (z:ajS xs ys):St:=UO xs ys z.1
theorem aa4:CallOk Tryz.prog 160 (K2 aL aL kInt.rs.res Ie) :=
 G2 (E:=En [(185,K2 aL kI kU64.rs.res atF)]) Tryz.func160 (c:=af Tryz.f160) (by kernel_rfl) (ac Tryz.func160 (by kernel_rfl) (by kernel_rfl)) iL iL oI Ie fun xs ys hx hy=>by
  have hE:EnvOk (En [(185,K2 aL kI kU64.rs.res atF)]):=ag (.cons ajI .nil)
  have hx:xs.length<1125899906842624:=hx
  have hy:ys.length<1125899906842624:=hy
  have hm:0<=UZ xs ys/\UZ xs ys<bE:=by unfold UZ bE;split <;> omega
  refine DoesL.stageE hE 100 1 [0,1] [0,1] (TU _ xs ys) ?_
  refine DoesL.scopeFn (body:=aU Tryz.f160) (rest:=oV Tryz.f160) (tail := []) (l:=0) hE (by kernel_rfl) (by kernel_rfl) 100 2 (by kernel_rfl) [0,1,5] [0,1] (akv xs ys) (fun z=>z.1.toNat)
   ⟨UZ xs ys,hm.1,hm.2,rfl⟩ (TT _ xs ys) ⟨⟨by rw [cells_len];omega,by decide⟩,fun _=>⟨⟨by rw [cells_len];omega,by decide⟩,fun _=>rfl⟩⟩ fun z => ?_
  ·obtain ⟨z,h0,h1,h2⟩:=z
   have h1:z<1125899906842624:=h1
   have hw:IntKind.i64.wrap (z-1)=z-1:=IntWalk.i64_in _ (by omega)
   refine DoesL.iter hE 100 [0,1,5] [0,1] (Zh atF xs ys z) ?_
   rw [hw]
   simp only [List.drop_zero,List.take_length]
   refine ⟨fun h => ?_,fun h=>⟨⟨aaj hx,?_⟩,fun _=>⟨⟨aaj hy,?_⟩,fun _=>⟨fun h3 => ?_,fun h3=>⟨fun h4 => ?_,fun h4 => ?_⟩⟩⟩⟩⟩
   ·simp only [decide_eq_true_eq] at h
    obtain rfl:z=0:=by omega
    exact ⟨.t,by rw [<- h2];rfl,trivial⟩
   all_goals simp only [decide_eq_false_iff_not] at h
   ·omega
   ·omega
   all_goals
    obtain ⟨n,rfl⟩ : ∃ n:Nat,z=(n:Int)+1:=⟨(z-1).toNat,by omega⟩
    rw [show ((n:Int)+1).toNat=n+1 by omega] at h2
    rw [show ((n:Int)+1-1).toNat=n by omega] at h3
    simp only [mg] at h2
   ·simp only [decide_eq_true_eq] at h3
    rw [if_pos h3] at h2
    exact ⟨.t,by rw [<- h2],trivial⟩
   ·rw [show ((n:Int)+1-1).toNat=n by omega] at h4
    simp only [decide_eq_false_iff_not] at h3
    simp only [decide_eq_true_eq] at h4
    rw [if_neg h3,if_pos h4] at h2
    exact ⟨.t,by rw [<- h2],trivial⟩
   ·rw [show ((n:Int)+1-1).toNat=n by omega] at h4
    simp only [decide_eq_false_iff_not] at h3 h4
    rw [if_neg h3,if_neg h4] at h2
    exact ⟨rfl,⟨(n:Int)+1-1,by omega,by unfold bE;omega,by rw [show ((n:Int)+1-1).toNat=n by omega];exact h2⟩,by simp only [];omega,rfl⟩
end Go.Proofs.YtcbplfkeeaecgaaGreat
namespace Go.Proofs.YtcbplfkeeaecgaaGreat
open Go.RowKit
def Fp.list (a:Fp):List UInt64 := [a.l0,a.l1,a.l2,a.l3,a.l4,a.l5]
def e9 (a:Fp):Fp:=⟨gk a.l0 1 ||| tV a.l1 63,gk a.l1 1 ||| tV a.l2 63,gk a.l2 1 ||| tV a.l3 63,gk a.l3 1 ||| tV a.l4 63,gk a.l4 1 ||| tV a.l5 63,gk a.l5 1⟩
theorem K4 (a:Fp):ab (En []) rF 100 Tryz.f149 [vF a] = .leaf (some (e9 a)):=by kernel_rfl
theorem Bf:CallOk Tryz.prog 149 (Kf e9):=P1 (ag .nil) Tryz.func149 (ac Tryz.func149 (by kernel_rfl) (by kernel_rfl)) 100 (aa Fp) rF e9 K4 (fun _=>Tree.sat_leaf rfl)
abbrev akf (cF:List UInt64->List UInt64->Int):ak:=K2 aL aL kInt.rs.res cF
def qG (a:Fp):Bool:=decide (Ie a.list pLimbs.list<0)
theorem aea (cF:List UInt64->List UInt64->Int) (m a:Fp):ab (En [(160,akf cF),(148,Kc m)]) kBool.rs 100 Tryz.f147 [vF a] = .leaf (some (decide (cF a.list m.list<0))):=by kernel_rfl
theorem MA:CallOk Tryz.prog 147 (K1 (aa Fp).arg kBool.rs.res qG):=P1 (ag (.cons aa4 (.cons jH .nil))) Tryz.func147 (ac Tryz.func147 (by kernel_rfl) (by kernel_rfl)) 100 (aa Fp) kBool.rs qG (aea Ie pLimbs) (fun _=>Tree.sat_leaf (by simp only [qG]))
def bB (a:Fp):Bool:=decide (Ie a.list (e9 pLimbs).list > 0)
theorem Tl (cF:List UInt64->List UInt64->Int) (hF:Fp->Fp) (m a:Fp):ab (En [(160,akf cF),(148,Kc m),(149,Kf hF)]) kBool.rs 100 Tryz.f101 [vF a] = .leaf (some (decide (cF a.list (hF m).list > 0))):=by kernel_rfl
theorem HT:CallOk Tryz.prog 101 (K1 (aa Fp).arg kBool.rs.res bB) :=
 P1 (ag (.cons aa4 (.cons jH (.cons Bf .nil)))) Tryz.func101 (ac Tryz.func101 (by kernel_rfl) (by kernel_rfl)) 100 (aa Fp) kBool.rs bB (Tl Ie e9 pLimbs) (fun _=>Tree.sat_leaf (by simp only [bB]))
abbrev oF:Out Fp:=rF.out
def JU (e:List UInt64) (x o:Fp) (z:Int):St:=aw 38 [(1,inV 0 e),(4,bv 1),(5,bv 2),(6,bv 3),(7,vI z)] [bN eU64 e,own 29 (bO 6),own 29 (Row.cs x),own 29 (Row.cs o)]
def afv (wF:Fp->Fp) (hF:Fp->Fp->Fp) (lF:Fp->Fp):cQ := [(112,Kf wF),(152,Kff hF),(109,Kf lF)]
theorem Rx (T:cQ) (a:Fp) (e:List UInt64):b8 (En T) 100 ((flat (af Tryz.f150)).take 1) (ah Tryz.f150 [vF a,iL.av 0 e] [bN eU64 e]) [1,2,4] [0,1,2] = .leaf (aw 38 [(1,inV 0 e),(2,bv 1),(4,bv 2)] [bN eU64 e,own 29 (Row.cs a),own 29 (bO 6)]):=by kernel_rfl
theorem Rw (hF:Fp->Fp->Fp) (wF lF:Fp->Fp) (a:Fp) (e:List UInt64):b8 (En (afv wF hF lF)) 100 ((flat (aU Tryz.f150)).take 3) (aw 38 [(1,inV 0 e),(2,bv 1),(4,bv 2)] [bN eU64 e,own 29 (Row.cs a),own 29 (bO 6)]) [1,4,5,6,7] [0,2,3,4] = .vc (0+e.length*1<=(eU64.body e).cells.length/\0<1) (.leaf (JU e (wF a) (wF oneFp) (IntKind.i64.wrap (64*e.length)))):=by kernel_rfl
def jk (z:Int):Int:=IntKind.i64.wrap ((IntKind.i64.wrap (z-1)).tdiv 64)
def aiF (z:Int):UInt64:=UInt64.ofNat (((IntKind.i64.wrap (z-1)).tmod 64) % 18446744073709551616).toNat
def DA (e:List UInt64) (z:Int):Bool:=gk (e.getD (0+(jk z).toNat*1) 0) ((aiF z).toNat:Int) &&& 1==1
theorem WX (hF:Fp->Fp->Fp) (wF lF:Fp->Fp) (x o:Fp) (e:List UInt64) (z:Int):letI za':=IntKind.i64.wrap (z-1);fE (En (afv wF hF lF)) oF 100 Tryz.f150 ((flat (aU Tryz.f150)).drop 3) (JU e x o z) [1,4,5,6,7] [0,1,2,3] = .br (decide (IntKind.i64.wrap (z-1)<0)) (.leaf (.inr (some (lF o,.t)))) (.vc ((0<=jk z/\jk z<e.length)/\0+e.length*1<=(eU64.body e).cells.length/\0<1) (.vc (0+(jk z).toNat*1<e.length) (.br (DA e z) (.leaf (.inl (.goto 0,JU e x (hF (hF o o) x) za'))) (.leaf (.inl (.goto 0,JU e x (hF o o) za')))))):=by kernel_rfl
def dH (e:List UInt64) (i:Nat):Bool:=(e.getD (i / 64) 0).toNat.testBit (i % 64)
theorem CX (x:UInt64) (k:Nat) (hk:k<64):(gk x (k:Int) &&& 1==1)=x.toNat.testBit k:=by
 have h1:(gk x (k:Int)).toNat=x.toNat / 2 ^ k:=by
  have:=x.toNat_lt
  unfold gk
  rw [Int.toNat_natCast,Nat.min_eq_left (by omega),UInt64.toNat_ofNat']
  exact Nat.mod_eq_of_lt (Nat.lt_of_le_of_lt (Nat.div_le_self _ _) this)
 have h2:(gk x (k:Int) &&& 1).toNat=x.toNat / 2 ^ k % 2:=by
  rw [UInt64.toNat_and,h1]
  exact Nat.and_one_is_mod _
 rw [Nat.testBit_eq_decide_div_mod_eq]
 rw [<- h2]
 have h3:(gk x (k:Int) &&& 1==1)=decide ((gk x (k:Int) &&& 1)=1):=rfl
 rw [h3]
 have:((gk x (k:Int) &&& 1)=1) <-> (gk x (k:Int) &&& 1).toNat=1:=⟨fun h=>by rw [h];rfl,fun h=>UInt64.toNat.inj (by rw [h];rfl)⟩
 exact decide_eq_decide.2 this
theorem ls (n:Nat) (h:n<576460752303423488):jk ((n:Int)+1)=((n / 64:Nat):Int):=by
 unfold jk
 rw [show (n:Int)+1-1=n by omega,IntWalk.i64_in (n:Int) (by omega),show ((n:Int)).tdiv 64=((n / 64:Nat):Int) by rw [Int.tdiv_eq_ediv_of_nonneg (by omega)];omega,IntWalk.i64_in _ (by omega)]
theorem nN (e:List UInt64) (n:Nat) (h:n<576460752303423488):DA e ((n:Int)+1)=dH e n:=by
 unfold DA dH
 rw [ls n h]
 have h1:(aiF ((n:Int)+1)).toNat=n % 64:=by
  unfold aiF
  rw [show (n:Int)+1-1=n by omega,IntWalk.i64_in (n:Int) (by omega),show ((n:Int)).tmod 64=((n % 64:Nat):Int) by rw [Int.tmod_eq_emod_of_nonneg (by omega)];omega]
  rw [show (((n % 64:Nat):Int) % 18446744073709551616).toNat=n % 64 by omega,UInt64.toNat_ofNat']
  omega
 rw [h1,CX _ _ (by omega)]
 simp only [Nat.zero_add,Nat.mul_one,Int.toNat_natCast]
def z9 (x:Fp) (e:List UInt64):Nat->Fp->Fp
 | 0,o=>iR o
 | n+1,o=>z9 x e n (match dH e n with | true=>aP (aP o o) x | false=>aP o o)
def ub (a:Fp) (e:List UInt64):Fp:=z9 (bf a) e (64*e.length) (bf oneFp)
abbrev ajP (a:Fp) (e:List UInt64):Type := { q:Int × Fp // 0<=q.1/\q.1<=64*e.length/\z9 (bf a) e q.1.toNat q.2=ub a e }
def afK (a:Fp) (e:List UInt64) (q:ajP a e):St:=JU e (bf a) q.1.2 q.1.1
theorem Z9:CallOk Tryz.prog 150 (K2 (aa Fp).arg aL rF.res ub) :=
 G2 (E:=En (afv bf aP iR)) Tryz.func150 (c:=af Tryz.f150) (by kernel_rfl) (ac Tryz.func150 (by kernel_rfl) (by kernel_rfl)) (aa Fp).inp iL oF ub fun a e _ he=>by
  have hE:EnvOk (En (afv bf aP iR)):=ag (.cons np (.cons mw (.cons MD .nil)))
  have he:e.length<1125899906842624:=he
  have hw:IntKind.i64.wrap (64*(e.length:Int))=64*(e.length:Int):=IntWalk.i64_in _ (by omega)
  refine DoesL.stageE hE 100 1 [1,2,4] [0,1,2] (Rx _ a e) ?_
  refine DoesL.scopeFn (body:=aU Tryz.f150) (rest:=oV Tryz.f150) (tail := []) (l:=0) hE (by kernel_rfl) (by kernel_rfl) 100 3 (by kernel_rfl) [1,4,5,6,7] [0,2,3,4] (afK a e) (fun q=>q.1.1.toNat)
   ⟨(64*(e.length:Int),bf oneFp),by simp only [];omega,by simp only [];omega,by rw [show ((64*(e.length:Int),bf oneFp):Int × Fp).1.toNat=64*e.length by simp only [];omega];simp only [ub]⟩
   (Rw aP bf iR a e) ⟨⟨by rw [cells_len];omega,by decide⟩,fun _=>by rw [hw];exact Tree.sat_leaf (by simp only [afK])⟩ fun q => ?_
  obtain ⟨⟨z,o⟩,h0,h1,h2⟩:=q
  simp only [] at h0 h1 h2
  have hz:IntKind.i64.wrap (z-1)=z-1:=IntWalk.i64_in _ (by omega)
  refine DoesL.iter hE 100 [1,4,5,6,7] [0,1,2,3] (WX aP bf iR (bf a) o e z) ?_
  rw [hz]
  refine ⟨fun h => ?_,fun h => ?_⟩
  ·simp only [decide_eq_true_eq] at h
   obtain rfl:z=0:=by omega
   exact ⟨.t,by rw [<- h2];rfl,trivial⟩
  ·simp only [decide_eq_false_iff_not] at h
   obtain ⟨n,rfl⟩ : ∃ n:Nat,z=(n:Int)+1:=⟨(z-1).toNat,by omega⟩
   rw [ls n (by omega),nN e n (by omega)]
   rw [show ((n:Int)+1).toNat=n+1 by omega] at h2
   simp only [z9] at h2
   refine ⟨⟨⟨by omega,by omega⟩,by rw [cells_len];omega,by decide⟩,fun _=>⟨by omega,fun _=>⟨fun h3 => ?_,fun h3 => ?_⟩⟩⟩
   all_goals
    have hn:((n:Int)+1-1).toNat=n:=by omega
    rw [h3] at h2
    simp only [] at h2
   ·refine ⟨rfl,⟨((n:Int)+1-1,aP (aP o o) (bf a)),?_,?_,?_⟩,?_,by simp only [afK]⟩
    ·show 0<=(n:Int)+1-1;omega
    ·show (n:Int)+1-1<=64*e.length;omega
    ·simpa only [hn] using h2
    ·show ((n:Int)+1-1).toNat<((n:Int)+1).toNat;omega
   ·refine ⟨rfl,⟨((n:Int)+1-1,aP o o),?_,?_,?_⟩,?_,by simp only [afK]⟩
    ·show 0<=(n:Int)+1-1;omega
    ·show (n:Int)+1-1<=64*e.length;omega
    ·simpa only [hn] using h2
    ·show ((n:Int)+1-1).toNat<((n:Int)+1).toNat;omega
end Go.Proofs.YtcbplfkeeaecgaaGreat
namespace Go.Proofs.YtcbplfkeeaecgaaGreat
open Go.RowKit
abbrev rFI:Rs (Fp × Int):=(aa Fp).rs2 kInt
abbrev rFB:Rs (Fp × Bool):=(aa Fp).rs2 kBool
abbrev ake (pF:Fp->List UInt64->Fp):ak:=K2 (aa Fp).arg aL rF.res pF
def cH (a b:Fp):Bool:=a.l0==b.l0 && (a.l1==b.l1 && (a.l2==b.l2 && (a.l3==b.l3 && (a.l4==b.l4 && (a.l5==b.l5 && true)))))
theorem gH (a b:Fp):cH a b=true <-> a=b:=by
 cases a;cases b
 simp [cH]
def dc (a:Fp):Fp × Int:=match cH a zeroFp with | true=>(a,7) | false=>(ub a [pLimbs.l0-2,pLimbs.l1,pLimbs.l2,pLimbs.l3,pLimbs.l4,pLimbs.l5],0)
theorem aep (pF:Fp->List UInt64->Fp) (m a:Fp):ab (En [(148,Kc m),(150,ake pF)]) rFI 100 Tryz.f108 [vF a] =
  .br (cH a zeroFp) (.leaf (some (a,7))) (.leaf (some (pF a [m.l0-2,m.l1,m.l2,m.l3,m.l4,m.l5],0))):=by kernel_rfl
theorem MG:CallOk Tryz.prog 108 (K1 (aa Fp).arg rFI.res dc):=P1 (ag (.cons jH (.cons Z9 .nil))) Tryz.func108 (ac Tryz.func108 (by kernel_rfl) (by kernel_rfl)) 100 (aa Fp) rFI dc (aep ub pLimbs)
 (fun a=>⟨fun h=>congrArg some (by simp only [dc,h]),fun h=>congrArg some (by simp only [dc,h])⟩)
def UA (pF:Fp->List UInt64->Fp) (hF:Fp->Fp) (m a:Fp):Fp:=pF a (hF (hF ⟨m.l0+1,m.l1,m.l2,m.l3,m.l4,m.l5⟩)).list
def gf (nF:Fp->Fp) (mF:Fp->Fp->Fp) (gF:Fp->Bool) (x a:Fp):Fp × Bool:=match !(cH (mF x x) a) with
 | true=>(zeroFp,false)
 | false=>match gF x with
  | true=>(nF x,true)
  | false=>(x,true)
def afx (nF:Fp->Fp) (mF:Fp->Fp->Fp) (gF:Fp->Bool) (x a:Fp):Tree (Option (Fp × Bool)) := .br (!(cH (mF x x) a)) (.leaf (some (zeroFp,false))) (.br (gF x) (.leaf (some (nF x,true))) (.leaf (some (x,true))))
theorem VG (pF:Fp->List UInt64->Fp) (hF nF:Fp->Fp) (mF:Fp->Fp->Fp) (gF:Fp->Bool) (m a:Fp) :
  ab (En [(148,Kc m),(150,ake pF),(149,Kf hF),(91,Kff mF),(68,Kf nF),(101,K1 (aa Fp).arg kBool.rs.res gF)]) rFB 100 Tryz.f89 [vF a]=afx nF mF gF (UA pF hF m a) a:=by kernel_rfl
theorem AI (nF:Fp->Fp) (mF:Fp->Fp->Fp) (gF:Fp->Bool) (x a:Fp):(afx nF mF gF x a).sat fun q=>q=some (gf nF mF gF x a):=by
 refine ⟨fun h => ?_,fun h=>⟨fun h2 => ?_,fun h2 => ?_⟩⟩
 ·exact congrArg some (by unfold gf;rw [h])
 ·exact congrArg some (by unfold gf;rw [h,h2])
 ·exact congrArg some (by unfold gf;rw [h,h2])
def zY (a:Fp):Fp:=UA ub e9 pLimbs a
def aT (a:Fp):Fp × Bool:=gf dV bT bB (zY a) a
theorem vY:CallOk Tryz.prog 89 (K1 (aa Fp).arg rFB.res aT) :=
 P1 (ag (.cons jH (.cons Z9 (.cons Bf (.cons pf (.cons zx (.cons HT .nil))))))) Tryz.func89 (ac Tryz.func89 (by kernel_rfl) (by kernel_rfl)) 100 (aa Fp) rFB aT
  (VG ub e9 dV bT bB pLimbs) (fun a=>AI dV bT bB (zY a) a)
end Go.Proofs.YtcbplfkeeaecgaaGreat
namespace Go.Proofs.YtcbplfkeeaecgaaGreat
open Go.RowKit
noncomputable abbrev Ens (T:cQ) (ns:List Nat):Env:=wS Tryz.prog T ns
theorem cm {T:cQ} {ns:List Nat} (h:TableOk Tryz.prog T):EnvOk (Ens T ns):=jU cT h
abbrev oS (ty:TypeId):Out Fp:=aad Fp ty 6 (fun _=>rfl)
abbrev iS:Inp Fp:=aaD Fp 6 (fun _=>rfl)
abbrev aS:Arg Fp:=M0 Fp
abbrev rS (ty:TypeId):Res Fp:=Mp Fp ty 6 (fun _=>rfl)
abbrev oB:Out Bool:=kBool.rs.out
theorem WI:dx (En []) (oS 22) 100 Tryz.f77 (flat (af Tryz.f77)) (ah Tryz.f77 [] []) = .leaf (some (pLimbs,.t)):=by kernel_rfl
theorem oX:CallOk Tryz.prog 77 (K0 (rS 22) pLimbs) :=
 G0 (E:=En []) Tryz.func77 (c:=af Tryz.f77) (by kernel_rfl) (ac Tryz.func77 (by kernel_rfl) (by kernel_rfl)) (oS 22) pLimbs (DoesL.ends (ag .nil) 100 WI ⟨.t,rfl,trivial⟩)
def cN (a m:Fp):Bool :=
 match a.l5 != m.l5 with
 | true=>decide (a.l5<m.l5)
 | false=>match a.l4 != m.l4 with
  | true=>decide (a.l4<m.l4)
  | false=>match a.l3 != m.l3 with
   | true=>decide (a.l3<m.l3)
   | false=>match a.l2 != m.l2 with
    | true=>decide (a.l2<m.l2)
    | false=>match a.l1 != m.l1 with
     | true=>decide (a.l1<m.l1)
     | false=>match a.l0 != m.l0 with
      | true=>decide (a.l0<m.l0)
      | false=>false
def lfB (b:Bool):Tree (Option (Bool × Pr)) := .leaf (some (b,.t))
def aa8 (a m:Fp):Tree (Option (Bool × Pr)) :=
 .br (a.l5 != m.l5) (lfB (decide (a.l5<m.l5))) (.br (a.l4 != m.l4) (lfB (decide (a.l4<m.l4))) (.br (a.l3 != m.l3) (lfB (decide (a.l3<m.l3))) (.br (a.l2 != m.l2) (lfB (decide (a.l2<m.l2))) (.br (a.l1 != m.l1) (lfB (decide (a.l1<m.l1))) (.br (a.l0 != m.l0) (lfB (decide (a.l0<m.l0))) (lfB false))))))
theorem T9 (a m:Fp):dx (En []) oB 100 Tryz.f24 (flat (af Tryz.f24)) (ah Tryz.f24 [iS.av 0 a,iS.av 1 m] (iS.hes a++iS.hes m))=aa8 a m:=by kernel_rfl
theorem LR (a m:Fp):(aa8 a m).sat fun q => ∃ p,q=some (cN a m,p)/\p.holds:=by
 unfold cN
 refine ⟨fun h => ?_,fun h => ?_⟩ <;> rw [h]
 ·exact ⟨.t,rfl,trivial⟩
 refine ⟨fun h => ?_,fun h => ?_⟩ <;> rw [h]
 ·exact ⟨.t,rfl,trivial⟩
 refine ⟨fun h => ?_,fun h => ?_⟩ <;> rw [h]
 ·exact ⟨.t,rfl,trivial⟩
 refine ⟨fun h => ?_,fun h => ?_⟩ <;> rw [h]
 ·exact ⟨.t,rfl,trivial⟩
 refine ⟨fun h => ?_,fun h => ?_⟩ <;> rw [h]
 ·exact ⟨.t,rfl,trivial⟩
 refine ⟨fun h => ?_,fun h => ?_⟩ <;> rw [h]
 ·exact ⟨.t,rfl,trivial⟩
 ·exact ⟨.t,rfl,trivial⟩
theorem Ip:CallOk Tryz.prog 24 (K2 aS aS oB.res cN) :=
 G2 (E:=En []) Tryz.func24 (c:=af Tryz.f24) (by kernel_rfl) (ac Tryz.func24 (by kernel_rfl) (by kernel_rfl)) iS iS oB cN fun a m _ _=>DoesL.ends (ag .nil) 100 (T9 a m) (LR a m)
end Go.Proofs.YtcbplfkeeaecgaaGreat
namespace Go.Proofs.YtcbplfkeeaecgaaGreat
open Go.RowKit
abbrev Kfb (F:Fp->Bool):ak:=K1 (aa Fp).arg kBool.rs.res F
abbrev afd (iF:Fp->Fp × Int):ak:=K1 (aa Fp).arg rFI.res iF
abbrev EE (sF:Fp->Fp × Bool):ak:=K1 (aa Fp).arg rFB.res sF
abbrev Kof (oF':UInt64->Fp):ak:=K1 kU64.arg rF.res oF'
end Go.Proofs.YtcbplfkeeaecgaaGreat
namespace Go.Proofs.YtcbplfkeeaecgaaGreat
open Go.RowKit
abbrev rL:Res (List UInt64):=zZ eU64 22
abbrev oL:Out (List UInt64):=D4 eU64 22
abbrev nV (xs:List UInt64):Prop:=xs.length<1099511627776
abbrev aLc:Arg (List UInt64):=aL.such nV
abbrev iLc:Inp (List UInt64):=iL.such nV
abbrev tS (xs:List UInt64):Prop:=xs.length<4294967296
abbrev aLt:Arg (List UInt64):=aL.such tS
abbrev iLt:Inp (List UInt64):=iL.such tS
theorem eQ (xs:List UInt64):(List.map EK.u64.cell xs).length=xs.length:=List.length_map ..
theorem Yl (xs:List UInt64) (i:Nat):letI za':=List.map EK.u64.cell xs;letI zb':=(↑xs.length:Int);dx (En []) oU 100 Tryz.f136 (flat (af Tryz.f136)) (ah Tryz.f136 [iL.av 0 xs,inpNat.av 1 i] [bN eU64 xs])=(.vc (0+xs.length*1<=za'.length/\0<1) (.br (decide ((↑i:Int)<zb')) (.vc ((0<=(↑i:Int)/\(↑i:Int)<zb')/\0+xs.length*1<=za'.length/\0<1) (.vc (0+(↑i:Int).toNat*1<xs.length) (.leaf (some ((xs.getD (0+(↑i:Int).toNat*1) 0,.t)))))) (.leaf (some ((UInt64.ofNat 0,.t)))))):=by kernel_rfl
theorem wZ:CallOk Tryz.prog 136 (K2 aL kI kU64.rs.res atF) :=
 G2 (E:=En []) Tryz.func136 (c:=af Tryz.f136) (by kernel_rfl) (ac Tryz.func136 (by kernel_rfl) (by kernel_rfl)) iL inpNat oU atF fun xs i _ _=>by
  refine DoesL.ends (ag .nil) 100 (Yl xs i) ⟨⟨by rw [eQ];omega,by decide⟩,fun _=>⟨fun h => ?_,fun h => ?_⟩⟩
  ·simp only [decide_eq_true_eq] at h
   refine ⟨⟨⟨by omega,h⟩,by rw [eQ];omega,by decide⟩,fun _=>⟨by omega,fun _=>⟨.t,?_,trivial⟩⟩⟩
   simp [atF]
  ·simp only [decide_eq_false_iff_not] at h
   refine ⟨.t,?_,trivial⟩
   have:xs.length<=i:=by omega
   simp [atF,List.getElem?_eq_none this]
theorem aeU (xs:List UInt64) (i:Nat):letI za':=((↑i:Int).tdiv 64);letI zb':=List.map EK.u64.cell xs;letI zc':=IntKind.i64.wrap za';letI zd':=(↑xs.length:Int);dx (En []) oU 100 Tryz.f135 (flat (af Tryz.f135)) (ah Tryz.f135 [iL.av 0 xs,inpNat.av 1 i] [bN eU64 xs])=(.vc (0+xs.length*1<=zb'.length/\0<1) (.br (decide (IntKind.i64.wrap za' >= zd')) (.leaf (some ((UInt64.ofNat 0,.t)))) (.vc ((0<=IntKind.i64.wrap za'/\IntKind.i64.wrap za'<zd')/\0+xs.length*1<=zb'.length/\0<1) (.vc (0+zc'.toNat*1<xs.length) (.vc (0<=(↑i:Int).tmod 64) (.leaf (some ((gk (xs.getD (0+zc'.toNat*1) 0) ((↑i:Int).tmod 64) &&& UInt64.ofNat 1,.t))))))))):=by kernel_rfl
theorem T8 (xs:List UInt64) (i:Nat):gk (xs.getD (i / 64) 0) ((i % 64:Nat):Int) &&& 1=b2u (dH xs i):=by
 have h:=CX (xs.getD (i / 64) 0) (i % 64) (by omega)
 unfold dH
 rw [<- h]
 have h2 : ∀ y:UInt64,y &&& 1=b2u (y &&& 1==1):=fun y=>by
  have:(y &&& 1).toNat=y.toNat % 2:=by rw [UInt64.toNat_and];exact Nat.and_one_is_mod _
  have h3:(y &&& 1)=0 \/ (y &&& 1)=1:=by
   rcases Nat.mod_two_eq_zero_or_one y.toNat with h | h
   ·exact .inl (UInt64.toNat.inj (by rw [this,h];rfl))
   ·exact .inr (UInt64.toNat.inj (by rw [this,h];rfl))
  rcases h3 with h | h <;> rw [h] <;> rfl
 exact h2 _
theorem yq (i:Nat) (h:i<9223372036854775808):IntKind.i64.wrap (((i:Nat):Int).tdiv 64)=((i / 64:Nat):Int):=by
 rw [show ((i:Int)).tdiv 64=((i / 64:Nat):Int) by rw [Int.tdiv_eq_ediv_of_nonneg (by omega)];omega,IntWalk.i64_in _ (by omega)]
theorem yp (i:Nat):((i:Nat):Int).tmod 64=((i % 64:Nat):Int):=by rw [Int.tmod_eq_emod_of_nonneg (by omega)];omega
def M1:Arg Nat where
 rd:=fun _ v=>match v with
  | .one (.c (.lit .i64 n))=>match decide (0<=n) && decide (n<9223372036854775808) with
   | true=>some (n.toNat,.t,[])
   | false=>none
  | .one (.c (.int .i64 n))=>some (n.toNat,.p (0<=n/\n<9223372036854775808),[])
  | _=>none
 is:=fun _ v x=>v = .int .i64 (x:Int)/\x<9223372036854775808
 ok:=fun {w0 β h w v x p rs} e hp _ _=>by
  split at e
  ·split at e
   ·rename_i hd
    cases e
    simp only [Bool.and_eq_true,decide_eq_true_eq] at hd
    refine ⟨?_,by omega⟩
    simp only [gv,g1,gc]
    congr 1
    omega
   ·cases e
  ·cases e
   have hp:(0:Int)<=_/\_<(9223372036854775808:Int):=hp
   refine ⟨?_,by omega⟩
   simp only [gv,g1,gc]
   congr 1
   omega
  ·cases e
 near:=fun e _=>e
def ahF:Inp Nat where
 arg:=M1
 av:=fun _ x => .one (.c (.int .i64 (x:Int)))
 hes:=fun _ => []
 fact:=fun x=>x<9223372036854775808
 known:=fun h=>h.2
 intro:=fun {w0 β heap w v x} hr _ hv=>⟨β,by rw [List.append_nil];exact hr,hv.1.symm,aj rfl,fun _ _=>rfl⟩
def Io (xs:List UInt64) (i:Nat):UInt64:=b2u (dH xs i)
theorem aim:CallOk Tryz.prog 135 (K2 aL M1 kU64.rs.res Io) :=
 G2 (E:=En []) Tryz.func135 (c:=af Tryz.f135) (by kernel_rfl) (ac Tryz.func135 (by kernel_rfl) (by kernel_rfl)) iL ahF oU Io fun xs i _ hi=>by
  have hi:i<9223372036854775808:=hi
  refine DoesL.ends (ag .nil) 100 (aeU xs i) ⟨⟨by rw [eQ];omega,by decide⟩,fun _=>⟨fun h => ?_,fun h => ?_⟩⟩
  ·simp only [decide_eq_true_eq] at h
   rw [yq i hi] at h
   refine ⟨.t,?_,trivial⟩
   have:xs.length<=i / 64:=by omega
   simp [Io,dH,List.getD_eq_getElem?_getD,List.getElem?_eq_none this]
   rfl
  ·simp only [decide_eq_false_iff_not] at h
   rw [yq i hi] at h ⊢
   refine ⟨⟨⟨by omega,by omega⟩,by rw [eQ];omega,by decide⟩,fun _=>⟨by omega,fun _=>⟨by rw [yp];omega,fun _=>⟨.t,?_,trivial⟩⟩⟩⟩
   rw [yp]
   have:=T8 xs i
   simp only [Nat.zero_add,Nat.mul_one,Int.toNat_natCast]
   exact congrArg (fun z=>some (z,Pr.t)) this.symm ▸ rfl
end Go.Proofs.YtcbplfkeeaecgaaGreat
namespace Go.Proofs.YtcbplfkeeaecgaaGreat
open Go.RowKit
noncomputable abbrev cutC:List Code:=flat (af Tryz.f137)
def abO (xs:List UInt64) (z:Int):St:=aw 23 [(0,inV 0 xs),(3,vI z)] [bN eU64 xs]
theorem TF (xs:List UInt64):stageG (En []) 100 (cutC.take 2) (ah Tryz.f137 [iL.av 0 xs] [bN eU64 xs]) [0,3] [0] [(0,.as),(3,.int)] [] []=(.vc (0+xs.length*1<=(List.map EK.u64.cell xs).length/\0<1) (.leaf (aw 23 [(0,.one (.c (.slc 0 0 (xs.length) 1 (.of 0) false))),(3,.one (.c (.int .i64 ((↑xs.length:Int)))))] [.live ⟨false,0,1,(.elts .u64 (xs:List UInt64)),false⟩]))):=by kernel_rfl
theorem TH (xs:List UInt64) (z:Int):letI za':=IntKind.i64.wrap (z-1);bm (En []) 100 (bk Tryz.f137 0) (abO xs z) (same [0,3] [0])=(.br (decide (z > 0)) (.vc ((0<=IntKind.i64.wrap (z-1)/\IntKind.i64.wrap (z-1)<(↑xs.length:Int))/\0+xs.length*1<=(List.map EK.u64.cell xs).length/\0<1) (.vc (0+za'.toNat*1<xs.length) (.br (xs.getD (0+za'.toNat*1) 0==UInt64.ofNat 0) (.leaf ((.normal,aw 23 [(0,.one (.c (.slc 0 0 (xs.length) 1 (.of 0) false))),(3,.one (.c (.int .i64 za')))] [.live ⟨false,0,1,(.elts .u64 (xs:List UInt64)),false⟩]))) (.leaf ((.exit 0,aw 23 [(0,.one (.c (.slc 0 0 (xs.length) 1 (.of 0) false))),(3,.one (.c (.int .i64 (z))))] [.live ⟨false,0,1,(.elts .u64 (xs:List UInt64)),false⟩])))))) (.leaf ((.exit 0,aw 23 [(0,.one (.c (.slc 0 0 (xs.length) 1 (.of 0) false))),(3,.one (.c (.int .i64 (z))))] [.live ⟨false,0,1,(.elts .u64 (xs:List UInt64)),false⟩])))):=by kernel_rfl
theorem OW (xs:List UInt64) (z:Int):dx (En []) oL 100 Tryz.f137 (cutC.drop 3) (abO xs z)=(.vc (0<=z/\0<=z.toNat/\z.toNat<=xs.length/\0+xs.length*1<=(List.map EK.u64.cell xs).length/\0<1/\(0=0 \/ 0<z.toNat)/\0=0/\1=1) (.vc (0+(z.toNat-0)<=xs.length/\0+(z.toNat-0)<=9223372036854775807/\(0+(z.toNat-0))*8<=140737488355328) (.leaf (some ((List.take (0+(z.toNat-0)) ([]++List.take (z.toNat-0) (List.drop 0 xs)),(.p (0+(z.toNat-0)<=([]++List.take (z.toNat-0) (List.drop 0 xs)).length)))))))):=by kernel_rfl
theorem TG:cutC.drop 2 = .block 0 (.loop (bk Tryz.f137 0)) :: cutC.drop 3:=by kernel_rfl
def mf (xs:List UInt64):Nat->Nat
 | 0=>0
 | n+1=>if atF xs n=0 then mf xs n else n+1
def aY (xs:List UInt64):List UInt64:=xs.take (mf xs xs.length)
theorem OX (xs:List UInt64) : ∀ n,mf xs n<=n
 | 0=>Nat.le_refl _
 | n+1=>by
  unfold mf
  split
  ·exact Nat.le_succ_of_le (OX xs n)
  ·exact Nat.le_refl _
abbrev agq (xs:List UInt64):Type := { n:Nat // n<=xs.length/\mf xs n=mf xs xs.length }
theorem Ew:CallOk Tryz.prog 137 (K1 aLc rL aY) :=
 G1 (E:=En []) Tryz.func137 (c:=af Tryz.f137) (by kernel_rfl) (ac Tryz.func137 (by kernel_rfl) (by kernel_rfl)) iLc oL aY fun xs hx=>by
  have hx:xs.length<1099511627776:=hx.2
  refine DoesL.stageG (ag .nil) 100 2 [0,3] [0] [(0,.as),(3,.int)] [] [] (TF xs) ⟨⟨by rw [eQ];omega,by decide⟩,fun _ => ?_⟩
  refine DoesL.blockLoop TG (fun n:agq xs=>abO xs (n.1:Int)) (fun n=>n.1) ⟨xs.length,Nat.le_refl _,rfl⟩ fun n => ?_
  obtain ⟨n,h1,h2⟩:=n
  refine Does.round (ag .nil) 100 _ (TH xs n) ⟨fun h => ?_,fun h => ?_⟩
  ·simp only [decide_eq_true_eq] at h
   obtain ⟨m,rfl⟩ : ∃ m,n=m+1:=⟨n-1,by omega⟩
   have hw:IntKind.i64.wrap (((m+1:Nat):Int)-1)=(m:Int):=by rw [IntWalk.i64_in _ (by omega)];omega
   rw [hw]
   refine ⟨⟨⟨by omega,by omega⟩,by rw [eQ];omega,by decide⟩,fun _=>⟨by omega,fun _=>⟨fun h3 => ?_,fun h3 => ?_⟩⟩⟩
   ·refine ⟨⟨m,by omega,?_⟩,by show m<m+1;omega,rfl⟩
    rw [<- h2]
    have:atF xs m=0:=by
     simp only [beq_iff_eq,Nat.zero_add,Nat.mul_one,Int.toNat_natCast] at h3
     exact h3
    simp only [mf,if_pos this]
   ·refine ⟨rfl,DoesL.ends (ag .nil) 100 (OW xs ((m+1:Nat):Int)) ⟨?_,fun _=>⟨?_,fun _=>fR ?_ ?_⟩⟩⟩
    ·rw [eQ,Int.toNat_natCast];exact ⟨by omega,by omega,by omega,by omega,by decide,.inl rfl,rfl,rfl⟩
    ·rw [Int.toNat_natCast];omega
    ·simp only [Int.toNat_natCast,Nat.zero_add,Nat.sub_zero,List.drop_zero,List.nil_append,List.take_take,Nat.min_self]
     unfold aY
     rw [<- h2]
     have:atF xs m ≠ 0:=by
      simp only [beq_eq_false_iff_ne,Nat.zero_add,Nat.mul_one,Int.toNat_natCast] at h3
      exact h3
     simp only [mf,if_neg this]
    ·simp only [Int.toNat_natCast,Nat.zero_add,Nat.sub_zero,List.drop_zero,List.nil_append,List.length_take]
     omega
  ·simp only [decide_eq_false_iff_not] at h
   obtain rfl:n=0:=by omega
   refine ⟨rfl,DoesL.ends (ag .nil) 100 (OW xs 0) ⟨?_,fun _=>⟨?_,fun _=>fR ?_ ?_⟩⟩⟩
   ·rw [eQ];exact ⟨by omega,by omega,by simp,by omega,by decide,.inl rfl,rfl,rfl⟩
   ·simp
   ·unfold aY
    rw [<- h2]
    simp [mf]
   ·simp
end Go.Proofs.YtcbplfkeeaecgaaGreat
namespace Go.Proofs.YtcbplfkeeaecgaaGreat
open Go.RowKit
noncomputable abbrev rcmpC:List Code:=flat (af Tryz.f138)
noncomputable abbrev afD:Code:=bk Tryz.f138 0
def u5 (xs:List UInt64):HE := .live ⟨true,22,1,.elts .u64 xs,false⟩
def slV (i:Nat) (xs:List UInt64):AV := .one (.c (.slc i 0 xs.length 1 (.of 0) false))
def ag7 (a b:List UInt64):St:=aw 45 [(0,slV 0 a),(1,slV 1 b)] [u5 a,u5 b]
def Mr (a b:List UInt64) (z:Int):St:=aw 45 [(0,slV 0 a),(1,slV 1 b),(5,vI z)] [u5 a,u5 b]
noncomputable abbrev DV (cF:List UInt64->List UInt64):Env:=Ens [(137,K1 aLc rL cF)] [137]
theorem WL:EnvOk (DV aY):=cm (.cons Ew .nil)
theorem JI (cF:List UInt64->List UInt64) (xs ys:List UInt64):letI za':=List.take xs.length (List.drop 0 xs);letI zb':=List.take ys.length (List.drop 0 ys);b8 (DV cF) 100 (rcmpC.take 2) (ah Tryz.f138 [iL.av 0 xs,iL.av 1 ys] [bN eU64 xs,bN eU64 ys]) [0,1] [2,3]=(.vc ((0+xs.length<=xs.length/\xs.length<1125899906842624/\0=0/\1=1)/\nV za') (.vc ((0+ys.length<=ys.length/\ys.length<1125899906842624/\0=0/\1=1)/\nV zb') (.leaf (aw 45 [(0,.one (.c (.slc 0 0 ((cF za').length) 1 (.of 0) false))),(1,.one (.c (.slc 1 0 ((cF zb').length) 1 (.of 0) false)))] [.live ⟨true,22,1,(.elts .u64 (cF za':List UInt64)),false⟩,.live ⟨true,22,1,(.elts .u64 (cF zb':List UInt64)),false⟩])))):=by kernel_rfl
theorem WJ (cF:List UInt64->List UInt64) (a b:List UInt64):letI za':=0+a.length*1<=(List.map EK.u64.cell a).length/\0<1;letI zb':=0+b.length*1<=(List.map EK.u64.cell b).length/\0<1;letI zc':=(↑a.length:Int);GH (DV cF) oI 100 Tryz.f138 ((rcmpC.drop 2).take 3) (ag7 a b) [0,1,5] [0,1] [(0,.as),(1,.as),(5,.int)] [] []=(.vc za' (.vc zb' (.br (zc' != (↑b.length:Int)) (.vc za' (.vc zb' (.br (decide (zc'<(↑b.length:Int))) (.leaf (.inr (some ((-1,.t))))) (.leaf (.inr (some ((1,.t)))))))) (.vc za' (.leaf (.inl (aw 45 [(0,.one (.c (.slc 0 0 (a.length) 1 (.of 0) false))),(1,.one (.c (.slc 1 0 (b.length) 1 (.of 0) false))),(5,.one (.c (.int .i64 (IntKind.i64.wrap (zc'-1)))))] [.live ⟨true,22,1,(.elts .u64 (a:List UInt64)),false⟩,.live ⟨true,22,1,(.elts .u64 (b:List UInt64)),false⟩]))))))):=by kernel_rfl
theorem JJ (cF:List UInt64->List UInt64) (a b:List UInt64) (z:Int):letI za':=((0<=z/\z<(↑a.length:Int))/\0+a.length*1<=(List.map EK.u64.cell a).length/\0<1);letI zb':=((0<=z/\z<(↑b.length:Int))/\0+b.length*1<=(List.map EK.u64.cell b).length/\0<1);letI zc':=0+z.toNat*1;letI zd':=0+z.toNat*1<a.length;letI ze':=0+z.toNat*1<b.length;fE (DV cF) oI 100 Tryz.f138 [afD] (Mr a b z) [0,1,5] [0,1]=(.br (decide (z >= 0)) (.vc za' (.vc zd' (.vc zb' (.vc ze' (.br (decide (a.getD zc' 0<b.getD zc' 0)) (.leaf (.inr (some ((-1,.t))))) (.vc za' (.vc zd' (.vc zb' (.vc ze' (.br (decide (b.getD zc' 0<a.getD zc' 0)) (.leaf (.inr (some ((1,.t))))) (.leaf (.inl ((.normal,aw 45 [(0,.one (.c (.slc 0 0 (a.length) 1 (.of 0) false))),(1,.one (.c (.slc 1 0 (b.length) 1 (.of 0) false))),(5,.one (.c (.int .i64 (IntKind.i64.wrap (z-1)))))] [.live ⟨true,22,1,(.elts .u64 (a:List UInt64)),false⟩,.live ⟨true,22,1,(.elts .u64 (b:List UInt64)),false⟩])))))))))))))) (.leaf (.inl ((.exit 0,aw 45 [(0,.one (.c (.slc 0 0 (a.length) 1 (.of 0) false))),(1,.one (.c (.slc 1 0 (b.length) 1 (.of 0) false))),(5,.one (.c (.int .i64 (z))))] [.live ⟨true,22,1,(.elts .u64 (a:List UInt64)),false⟩,.live ⟨true,22,1,(.elts .u64 (b:List UInt64)),false⟩]))))):=by kernel_rfl
theorem WK (cF:List UInt64->List UInt64) (a b:List UInt64) (z:Int):dx (DV cF) oI 100 Tryz.f138 (rcmpC.drop 6) (Mr a b z) =
 (.leaf (some ((0,.t)))):=by kernel_rfl
theorem j6 (xs:List UInt64):0+xs.length*1<=(List.map EK.u64.cell xs).length/\0<1:=⟨by rw [eQ];omega,by decide⟩
theorem mC {xs:List UInt64} {n:Nat} (h:n<xs.length):((0:Int)<=(n:Int)/\(n:Int)<(xs.length:Int))/\0+xs.length*1<=(List.map EK.u64.cell xs).length/\0<1:=⟨⟨by omega,by omega⟩,j6 xs⟩
theorem mD {xs:List UInt64} {n:Nat} (h:n<xs.length):0+((n:Int)).toNat*1<xs.length:=by rw [Int.toNat_natCast];omega
theorem OL (xs:List UInt64) (n:Nat):xs.getD (0+((n:Int)).toNat*1) 0=atF xs n:=by rw [Int.toNat_natCast,Nat.zero_add,Nat.mul_one];rfl
theorem nR (n:Nat) (h:n<9223372036854775807):IntKind.i64.wrap ((n:Int)-1)=(n:Int)-1:=IntWalk.i64_in _ (by omega)
theorem fM (n:Nat) (h:n<9223372036854775807):IntKind.i64.wrap ((n:Int)+1)=((n+1:Nat):Int):=by rw [IntWalk.i64_in _ (by omega)];omega
theorem whole (xs:List UInt64):List.take xs.length (List.drop 0 xs)=xs:=by rw [List.drop_zero,List.take_length]
theorem AY {xs:List UInt64} (h:xs.length<1125899906842624):0+xs.length<=xs.length/\xs.length<1125899906842624/\0=0/\1=1:=⟨by omega,h,rfl,rfl⟩
theorem okC {xs:List UInt64} (h:xs.length<1099511627776):(0+xs.length<=xs.length/\xs.length<1125899906842624/\0=0/\1=1)/\nV (List.take xs.length (List.drop 0 xs)):=⟨AY (by omega),by rw [whole];exact h⟩
theorem okT {xs:List UInt64} (h:xs.length<4294967296):(0+xs.length<=xs.length/\xs.length<1125899906842624/\0=0/\1=1)/\tS (List.take xs.length (List.drop 0 xs)):=⟨AY (by omega),by rw [whole];exact h⟩
def xr (xs ys:List UInt64):Int :=
 if (aY xs).length ≠ (aY ys).length then (if (aY xs).length<(aY ys).length then -1 else 1) else mg (aY xs) (aY ys) (aY xs).length
abbrev akC (a b:List UInt64):Type := { z:Int // -1<=z/\z<a.length/\mg a b (z+1).toNat=mg a b a.length }
theorem NM:CallOk Tryz.prog 138 (K2 aLc aLc kInt.rs.res xr) :=
 G2 (E:=DV aY) Tryz.func138 (c:=af Tryz.f138) (by kernel_rfl) (ac Tryz.func138 (by kernel_rfl) (by kernel_rfl)) iLc iLc oI xr fun xs ys hx hy=>by
  have hx:xs.length<1099511627776:=hx.2
  have hy:ys.length<1099511627776:=hy.2
  have hE:=WL
  have hcl : ∀ zs:List UInt64,(aY zs).length<=zs.length:=fun zs=>by unfold aY;rw [List.length_take];omega
  have cx:=hcl xs
  have cy:=hcl ys
  refine DoesL.stageE hE 100 2 [0,1] [2,3] (JI aY xs ys) ?_
  simp only [List.drop_zero,List.take_length]
  refine ⟨⟨⟨by omega,by omega,trivial,trivial⟩,hx⟩,fun _=>⟨⟨⟨by omega,by omega,trivial,trivial⟩,hy⟩,fun _ => ?_⟩⟩
  have ex:xr xs ys=if (aY xs).length ≠ (aY ys).length then (if (aY xs).length<(aY ys).length then -1 else 1) else mg (aY xs) (aY ys) (aY xs).length:=rfl
  generalize aY xs=a at *
  generalize aY ys=b at *
  refine DoesL.seg hE 100 3 [0,1,5] [0,1] [(0,.as),(1,.as),(5,.int)] [] [] (WJ aY a b) ⟨j6 a,fun _=>⟨j6 b,fun _=>⟨fun h=>⟨j6 a,fun _=>⟨j6 b,fun _=>⟨fun h2 => ?_,fun h2 => ?_⟩⟩⟩,fun h=>⟨j6 a,fun _ => ?_⟩⟩⟩⟩
  ·simp only [bne_iff_ne,ne_eq,decide_eq_true_eq] at h h2
   exact bA (by rw [ex,if_pos (by omega),if_pos (by omega)])
  ·simp only [bne_iff_ne,ne_eq,decide_eq_false_iff_not] at h h2
   exact bA (by rw [ex,if_pos (by omega),if_neg (by omega)])
  ·simp only [bne_eq_false_iff_eq] at h
   have hl:a.length=b.length:=by omega
   rw [if_neg (by omega)] at ex
   have hw:IntKind.i64.wrap ((a.length:Int)-1)=(a.length:Int)-1:=nR _ (by omega)
   rw [hw]
   refine DoesL.blockLoopR (B:=afD) (rest:=rcmpC.drop 6) (id:=0) (by kernel_rfl) (fun z:akC a b=>Mr a b z.1) (fun z=>(z.1+1).toNat) ⟨(a.length:Int)-1,by omega,by omega,by rw [show ((a.length:Int)-1+1).toNat=a.length by omega]⟩ fun z => ?_
   obtain ⟨z,z1,z2,z3⟩:=z
   refine DoesL.iter hE 100 [0,1,5] [0,1] (JJ aY a b z) ⟨fun h0 => ?_,fun h0 => ?_⟩
   ·simp only [ge_iff_le,decide_eq_true_eq] at h0
    obtain ⟨n,rfl⟩ : ∃ n:Nat,z=(n:Int):=⟨z.toNat,by omega⟩
    have na:n<a.length:=by omega
    have nb:n<b.length:=by omega
    rw [OL,OL,nR _ (by omega)]
    rw [show ((n:Int)+1).toNat=n+1 by omega] at z3
    have st:mg a b (n+1)=if atF a n<atF b n then -1 else if atF a n > atF b n then 1 else mg a b n:=rfl
    refine ⟨mC na,fun _=>⟨mD na,fun _=>⟨by exact mC nb,fun _=>⟨mD nb,fun _=>⟨fun h1 => ?_,fun h1=>⟨mC na,fun _=>⟨mD na,fun _=>⟨mC nb,fun _=>⟨mD nb,fun _=>⟨fun h2 => ?_,fun h2 => ?_⟩⟩⟩⟩⟩⟩⟩⟩⟩⟩
    ·simp only [decide_eq_true_eq] at h1
     exact bA (by rw [ex,<- z3,st,if_pos h1])
    ·simp only [decide_eq_true_eq,decide_eq_false_iff_not] at h1 h2
     exact bA (by rw [ex,<- z3,st,if_neg h1,if_pos h2])
    ·simp only [decide_eq_false_iff_not] at h1 h2
     refine ⟨⟨(n:Int)-1,by omega,by omega,?_⟩,?_,rfl⟩
     ·rw [show ((n:Int)-1+1).toNat=n by omega,<- z3,st,if_neg h1,if_neg h2]
     ·simp only [];omega
   ·simp only [ge_iff_le,decide_eq_false_iff_not] at h0
    obtain rfl:z = -1:=by omega
    refine ⟨rfl,DoesL.ends hE 100 (WK aY a b (-1)) (bA ?_)⟩
    rw [ex,<- z3]
    rfl
end Go.Proofs.YtcbplfkeeaecgaaGreat
namespace Go.Proofs.YtcbplfkeeaecgaaGreat
open Go.RowKit
abbrev aiR (b:Bool):AV := .one (.c (.bit b))
noncomputable abbrev rsumC:List Code:=flat (af Tryz.f76)
noncomputable abbrev afA:Code:=bk Tryz.f76 0
def DT (xs ys out:List UInt64) (c:Bool) (z:Int):St:=aw 40 [(0,inV 0 xs),(1,inV 1 ys),(5,slV 2 out),(6,aiR c),(7,vI z)] [bN eU64 xs,bN eU64 ys,u5 out]
noncomputable abbrev Jy (lF:List UInt64->Nat->UInt64) (S:UInt64->UInt64->Bool->UInt64) (C:UInt64->UInt64->Bool->Bool) (cF:List UInt64->List UInt64):Env :=
 Ens [(136,K2 aL kI kU64.rs.res lF),(70,K3x S C),(137,K1 aLc rL cF)] [137]
theorem Wg:EnvOk (Jy atF eg ci aY):=cm (.cons wZ (.cons j4 (.cons Ew .nil)))
theorem Jw (lF:List UInt64->Nat->UInt64) (S:UInt64->UInt64->Bool->UInt64) (C:UInt64->UInt64->Bool->Bool) (cF:List UInt64->List UInt64) (xs ys:List UInt64):stageG (Jy lF S C cF) 100 (rsumC.take 4) (ah Tryz.f76 [iL.av 0 xs,iL.av 1 ys] [bN eU64 xs,bN eU64 ys]) [0,1,5,6,7] [0,1] [(0,.as),(1,.as),(5,.nil 2),(6,.bit),(7,.int)] [] [(22,.u64)]=(.leaf (aw 40 [(0,.one (.c (.slc 0 0 (xs.length) 1 (.of 0) false))),(1,.one (.c (.slc 1 0 (ys.length) 1 (.of 0) false))),(5,.one (.c (.slc 2 0 0 1 (.of 0) false))),(6,.one (.c (.bit (false)))),(7,.one (.c (.int .i64 0)))] [.live ⟨false,0,1,(.elts .u64 (xs:List UInt64)),false⟩,.live ⟨false,0,1,(.elts .u64 (ys:List UInt64)),false⟩,.live ⟨true,22,1,(.elts .u64 ([]:List UInt64)),false⟩])):=by kernel_rfl
theorem Jx (lF:List UInt64->Nat->UInt64) (S:UInt64->UInt64->Bool->UInt64) (C:UInt64->UInt64->Bool->Bool) (cF:List UInt64->List UInt64) (xs ys out:List UInt64) (c:Bool) (z:Int):letI za':=lF (List.take xs.length (List.drop 0 xs)) z.toNat;letI zb':=lF (List.take ys.length (List.drop 0 ys)) z.toNat;letI zc':=(↑ys.length:Int);letI zd':=(↑xs.length:Int);bm (Jy lF S C cF) 100 afA (DT xs ys out c z) (fun x=>match x with | .normal=>some ([0,1,5,6,7],[0,1,4]) | _=>some ([0,1,5,6,7],[0,1,2]))=(.vc (0+xs.length*1<=(List.map EK.u64.cell xs).length/\0<1) (.vc (0+ys.length*1<=(List.map EK.u64.cell ys).length/\0<1) (.br (decide (z<if zc' > zd' then zc' else zd')) (.vc ((0+xs.length<=xs.length/\xs.length<1125899906842624/\0=0/\1=1)/\0<=z) (.vc ((0+ys.length<=ys.length/\ys.length<1125899906842624/\0=0/\1=1)/\0<=z) (.vc (0+out.length<=out.length/\out.length+1<=9223372036854775807/\(out.length+1)*8<=140737488355328) (.leaf ((.normal,aw 40 [(0,.one (.c (.slc 0 0 (xs.length) 1 (.of 0) false))),(1,.one (.c (.slc 1 0 (ys.length) 1 (.of 0) false))),(5,.one (.c (.slc 2 0 (out.length+1) 1 (.of 0) false))),(6,.one (.c (.bit (C za' zb' c)))),(7,.one (.c (.int .i64 (IntKind.i64.wrap (z+1)))))] [.live ⟨false,0,1,(.elts .u64 (xs:List UInt64)),false⟩,.live ⟨false,0,1,(.elts .u64 (ys:List UInt64)),false⟩,.live ⟨true,22,1,(.elts .u64 (List.take out.length (List.drop 0 out) ++ [S za' zb' c]:List UInt64)),false⟩])))))) (.leaf ((.exit 0,aw 40 [(0,.one (.c (.slc 0 0 (xs.length) 1 (.of 0) false))),(1,.one (.c (.slc 1 0 (ys.length) 1 (.of 0) false))),(5,.one (.c (.slc 2 0 (out.length) 1 (.of 0) false))),(6,.one (.c (.bit (c)))),(7,.one (.c (.int .i64 (z))))] [.live ⟨false,0,1,(.elts .u64 (xs:List UInt64)),false⟩,.live ⟨false,0,1,(.elts .u64 (ys:List UInt64)),false⟩,.live ⟨true,22,1,(.elts .u64 (out:List UInt64)),false⟩])))))):=by kernel_rfl
theorem Wf (lF:List UInt64->Nat->UInt64) (S:UInt64->UInt64->Bool->UInt64) (C:UInt64->UInt64->Bool->Bool) (cF:List UInt64->List UInt64) (xs ys out:List UInt64) (c:Bool) (z:Int):letI za':=out.length+1;letI zb':=List.drop 0 out;dx (Jy lF S C cF) oL 100 Tryz.f76 (rsumC.drop 5) (DT xs ys out c z)=(.vc (0+out.length<=out.length/\out.length+1<=9223372036854775807/\za'*8<=140737488355328) (.vc ((0+za'<=(List.take out.length zb' ++ [b2u c]).length/\out.length+1<1125899906842624/\0=0/\1=1)/\nV (List.take za' (List.drop 0 (List.take out.length zb' ++ [b2u c])))) (.leaf (some ((List.take (cF (List.take za' (List.drop 0 (List.take out.length zb' ++ [b2u c])))).length (cF (List.take za' (List.drop 0 (List.take out.length zb' ++ [b2u c])))),(.p ((cF (List.take za' (List.drop 0 (List.take out.length zb' ++ [b2u c])))).length<=(cF (List.take za' (List.drop 0 (List.take out.length zb' ++ [b2u c])))).length)))))))):=by kernel_rfl
def gJ (xs ys:List UInt64):Nat->List UInt64 × Bool
 | 0=>([],false)
 | k+1=>((gJ xs ys k).1 ++ [eg (atF xs k) (atF ys k) (gJ xs ys k).2],ci (atF xs k) (atF ys k) (gJ xs ys k).2)
theorem tJ (xs ys:List UInt64) : ∀ k,(gJ xs ys k).1.length=k
 | 0=>rfl
 | k+1=>by simp only [gJ,List.length_append,tJ xs ys k,List.length_singleton]
def US (xs ys:List UInt64):List UInt64:=aY ((gJ xs ys (max xs.length ys.length)).1 ++ [b2u (gJ xs ys (max xs.length ys.length)).2])
theorem Ef (a b:Nat):(if (b:Int) > (a:Int) then (b:Int) else (a:Int))=((max a b:Nat):Int):=by split <;> omega
theorem D3 (xs:List UInt64) (x:UInt64):List.take xs.length (List.drop 0 xs) ++ [x]=xs ++ [x]:=by rw [List.drop_zero,List.take_length]
theorem yC (xs:List UInt64) (x:UInt64):xs.length+1=(xs ++ [x]).length:=by simp
theorem acV:CallOk Tryz.prog 76 (K2 aLt aLt rL US) :=
 G2 (E:=Jy atF eg ci aY) Tryz.func76 (c:=af Tryz.f76) (by kernel_rfl) (ac Tryz.func76 (by kernel_rfl) (by kernel_rfl)) iLt iLt oL US fun xs ys hx hy=>by
  have hx:xs.length<4294967296:=hx.2
  have hy:ys.length<4294967296:=hy.2
  have hE:=Wg
  refine DoesL.stageG hE 100 4 _ _ _ _ _ (Jw atF eg ci aY xs ys) ?_
  refine DoesL.blockLoop (B:=afA) (rest:=rsumC.drop 5) (id:=0) (by kernel_rfl) (fun k : { k:Nat // k<=max xs.length ys.length }=>DT xs ys (gJ xs ys k.1).1 (gJ xs ys k.1).2 (k.1:Int)) (fun k=>max xs.length ys.length-k.1) ⟨0,by omega⟩ fun k => ?_
  obtain ⟨k,hk⟩:=k
  have hl:=tJ xs ys k
  show Does _ _ (DT xs ys (gJ xs ys k).1 (gJ xs ys k).2 (k:Int)) _
  refine Does.round hE 100 _ (Jx atF eg ci aY xs ys _ _ (k:Int)) ⟨j6 xs,fun _=>⟨j6 ys,fun _=>⟨fun h => ?_,fun h => ?_⟩⟩⟩
  ·rw [Ef] at h
   simp only [decide_eq_true_eq] at h
   refine ⟨⟨AY (by omega),by omega⟩,fun _=>⟨⟨AY (by omega),by omega⟩,fun _=>⟨⟨by omega,by omega,by omega⟩,fun _ => ?_⟩⟩⟩
   refine ⟨⟨k+1,by omega⟩,by show max xs.length ys.length-(k+1)<max xs.length ys.length-k;omega,?_⟩
   rw [fM k (by omega),D3,yC _ (eg (atF xs k) (atF ys k) (gJ xs ys k).2),List.drop_zero,List.drop_zero,List.take_length,List.take_length,Int.toNat_natCast]
   rfl
  ·rw [Ef] at h
   simp only [decide_eq_false_iff_not] at h
   obtain rfl:k=max xs.length ys.length:=by omega
   refine ⟨rfl,DoesL.ends hE 100 (Wf atF eg ci aY xs ys _ _ _) ⟨⟨by omega,by omega,by omega⟩,fun _ => ?_⟩⟩
   have e:List.take ((gJ xs ys (max xs.length ys.length)).1.length+1) (List.drop 0 (List.take (gJ xs ys (max xs.length ys.length)).1.length (List.drop 0 (gJ xs ys (max xs.length ys.length)).1) ++ [b2u (gJ xs ys (max xs.length ys.length)).2]))=(gJ xs ys (max xs.length ys.length)).1 ++ [b2u (gJ xs ys (max xs.length ys.length)).2]:=by
    rw [D3,List.drop_zero,yC _ (b2u (gJ xs ys (max xs.length ys.length)).2),List.take_length]
   rw [e,D3]
   refine ⟨⟨⟨by simp,by omega,rfl,rfl⟩,by show _<_;rw [List.length_append,hl];simp;omega⟩,fun _=>fR ?_ ?_⟩
   ·rw [List.take_length];rfl
   ·exact Nat.le_refl _
noncomputable abbrev rlessC:List Code:=flat (af Tryz.f140)
noncomputable abbrev ZV:Code:=bk Tryz.f140 0
abbrev rLI:Res (List UInt64 × Int):=Mq eU64 22
abbrev oLI:Out (List UInt64 × Int):=aae eU64 22
def wj (xs ys out:List UInt64) (c:Bool) (z:Int):St:=aw 42 [(0,inV 0 xs),(1,inV 1 ys),(6,slV 2 out),(7,aiR c),(8,vI z)] [bN eU64 xs,bN eU64 ys,u5 out]
noncomputable abbrev zk (pF:List UInt64->List UInt64->Int) (lF:List UInt64->Nat->UInt64) (S:UInt64->UInt64->Bool->UInt64) (C:UInt64->UInt64->Bool->Bool) (cF:List UInt64->List UInt64):Env :=
 Ens [(138,K2 aLc aLc kInt.rs.res pF),(136,K2 aL kI kU64.rs.res lF),(132,K3x S C),(137,K1 aLc rL cF)] [137]
theorem QY:EnvOk (zk xr atF fe du aY):=cm (.cons NM (.cons wZ (.cons rk (.cons Ew .nil))))
theorem Fb (pF:List UInt64->List UInt64->Int) (lF:List UInt64->Nat->UInt64) (S:UInt64->UInt64->Bool->UInt64) (C:UInt64->UInt64->Bool->Bool) (cF:List UInt64->List UInt64) (xs ys:List UInt64):letI za':=List.take xs.length (List.drop 0 xs);letI zb':=List.take ys.length (List.drop 0 ys);GH (zk pF lF S C cF) oLI 100 Tryz.f140 (rlessC.take 6) (ah Tryz.f140 [iL.av 0 xs,iL.av 1 ys] [bN eU64 xs,bN eU64 ys]) [0,1,6,7,8] [0,1] [(0,.as),(1,.as),(6,.nil 2),(7,.bit),(8,.int)] [] [(22,.u64)]=(.vc (((0+xs.length<=xs.length/\xs.length<1125899906842624/\0=0/\1=1)/\nV za')/\(0+ys.length<=ys.length/\ys.length<1125899906842624/\0=0/\1=1)/\nV zb') (.br (decide (pF za' zb'<0)) (.leaf (.inr (some ((([],1),.t))))) (.leaf (.inl (aw 42 [(0,.one (.c (.slc 0 0 (xs.length) 1 (.of 0) false))),(1,.one (.c (.slc 1 0 (ys.length) 1 (.of 0) false))),(6,.one (.c (.slc 2 0 0 1 (.of 0) false))),(7,.one (.c (.bit (false)))),(8,.one (.c (.int .i64 0)))] [.live ⟨false,0,1,(.elts .u64 (xs:List UInt64)),false⟩,.live ⟨false,0,1,(.elts .u64 (ys:List UInt64)),false⟩,.live ⟨true,22,1,(.elts .u64 ([]:List UInt64)),false⟩]))))):=by kernel_rfl
theorem Fc (pF:List UInt64->List UInt64->Int) (lF:List UInt64->Nat->UInt64) (S:UInt64->UInt64->Bool->UInt64) (C:UInt64->UInt64->Bool->Bool) (cF:List UInt64->List UInt64) (xs ys out:List UInt64) (c:Bool) (z:Int):letI za':=lF (List.take xs.length (List.drop 0 xs)) z.toNat;letI zb':=lF (List.take ys.length (List.drop 0 ys)) z.toNat;letI zc':=(↑ys.length:Int);letI zd':=(↑xs.length:Int);bm (zk pF lF S C cF) 100 ZV (wj xs ys out c z) (fun x=>match x with | .normal=>some ([0,1,6,7,8],[0,1,4]) | _=>some ([0,1,6,7,8],[0,1,2]))=(.vc (0+xs.length*1<=(List.map EK.u64.cell xs).length/\0<1) (.vc (0+ys.length*1<=(List.map EK.u64.cell ys).length/\0<1) (.br (decide (z<if zc' > zd' then zc' else zd')) (.vc ((0+xs.length<=xs.length/\xs.length<1125899906842624/\0=0/\1=1)/\0<=z) (.vc ((0+ys.length<=ys.length/\ys.length<1125899906842624/\0=0/\1=1)/\0<=z) (.vc (0+out.length<=out.length/\out.length+1<=9223372036854775807/\(out.length+1)*8<=140737488355328) (.leaf ((.normal,aw 42 [(0,.one (.c (.slc 0 0 (xs.length) 1 (.of 0) false))),(1,.one (.c (.slc 1 0 (ys.length) 1 (.of 0) false))),(6,.one (.c (.slc 2 0 (out.length+1) 1 (.of 0) false))),(7,.one (.c (.bit (C za' zb' c)))),(8,.one (.c (.int .i64 (IntKind.i64.wrap (z+1)))))] [.live ⟨false,0,1,(.elts .u64 (xs:List UInt64)),false⟩,.live ⟨false,0,1,(.elts .u64 (ys:List UInt64)),false⟩,.live ⟨true,22,1,(.elts .u64 (List.take out.length (List.drop 0 out) ++ [S za' zb' c]:List UInt64)),false⟩])))))) (.leaf ((.exit 0,aw 42 [(0,.one (.c (.slc 0 0 (xs.length) 1 (.of 0) false))),(1,.one (.c (.slc 1 0 (ys.length) 1 (.of 0) false))),(6,.one (.c (.slc 2 0 (out.length) 1 (.of 0) false))),(7,.one (.c (.bit (c)))),(8,.one (.c (.int .i64 (z))))] [.live ⟨false,0,1,(.elts .u64 (xs:List UInt64)),false⟩,.live ⟨false,0,1,(.elts .u64 (ys:List UInt64)),false⟩,.live ⟨true,22,1,(.elts .u64 (out:List UInt64)),false⟩])))))):=by kernel_rfl
theorem QX (pF:List UInt64->List UInt64->Int) (lF:List UInt64->Nat->UInt64) (S:UInt64->UInt64->Bool->UInt64) (C:UInt64->UInt64->Bool->Bool) (cF:List UInt64->List UInt64) (xs ys out:List UInt64) (c:Bool) (z:Int):letI za':=List.take out.length (List.drop 0 out);dx (zk pF lF S C cF) oLI 100 Tryz.f140 (rlessC.drop 7) (wj xs ys out c z)=(.vc ((0+out.length<=out.length/\out.length<1125899906842624/\0=0/\1=1)/\nV za') (.leaf (some (((List.take (cF za').length (cF za'),0),(.p ((cF za').length<=(cF za').length))))))):=by kernel_rfl
def mH (xs ys:List UInt64):Nat->List UInt64 × Bool
 | 0=>([],false)
 | k+1=>((mH xs ys k).1 ++ [fe (atF xs k) (atF ys k) (mH xs ys k).2],du (atF xs k) (atF ys k) (mH xs ys k).2)
theorem sW (xs ys:List UInt64) : ∀ k,(mH xs ys k).1.length=k
 | 0=>rfl
 | k+1=>by simp only [mH,List.length_append,sW xs ys k,List.length_singleton]
def lr (xs ys:List UInt64):List UInt64 × Int:=if xr xs ys<0 then ([],1) else (aY (mH xs ys (max xs.length ys.length)).1,0)
theorem WA:CallOk Tryz.prog 140 (K2 aLt aLt rLI lr) :=
 G2 (E:=zk xr atF fe du aY) Tryz.func140 (c:=af Tryz.f140) (by kernel_rfl) (ac Tryz.func140 (by kernel_rfl) (by kernel_rfl)) iLt iLt oLI lr fun xs ys hx hy=>by
  have hx:xs.length<4294967296:=hx.2
  have hy:ys.length<4294967296:=hy.2
  have hE:=QY
  refine DoesL.seg hE 100 6 _ _ _ _ _ (Fb xr atF fe du aY xs ys) ?_
  refine ⟨⟨okC (by omega),okC (by omega)⟩,fun _=>⟨fun h => ?_,fun h => ?_⟩⟩
  ·rw [whole,whole] at h
   simp only [decide_eq_true_eq] at h
   exact bA (by rw [lr,if_pos h])
  rw [whole,whole] at h
  simp only [decide_eq_false_iff_not] at h
  have ex:lr xs ys=(aY (mH xs ys (max xs.length ys.length)).1,0):=by rw [lr,if_neg h]
  refine DoesL.blockLoop (B:=ZV) (rest:=rlessC.drop 7) (id:=0) (by kernel_rfl) (fun k : { k:Nat // k<=max xs.length ys.length }=>wj xs ys (mH xs ys k.1).1 (mH xs ys k.1).2 (k.1:Int)) (fun k=>max xs.length ys.length-k.1) ⟨0,by omega⟩ fun k => ?_
  obtain ⟨k,hk⟩:=k
  have hl:=sW xs ys k
  show Does _ _ (wj xs ys (mH xs ys k).1 (mH xs ys k).2 (k:Int)) _
  refine Does.round hE 100 _ (Fc xr atF fe du aY xs ys _ _ (k:Int)) ⟨j6 xs,fun _=>⟨j6 ys,fun _=>⟨fun h => ?_,fun h => ?_⟩⟩⟩
  ·rw [Ef] at h
   simp only [decide_eq_true_eq] at h
   refine ⟨⟨AY (by omega),by omega⟩,fun _=>⟨⟨AY (by omega),by omega⟩,fun _=>⟨⟨by omega,by omega,by omega⟩,fun _ => ?_⟩⟩⟩
   refine ⟨⟨k+1,by omega⟩,by show max xs.length ys.length-(k+1)<max xs.length ys.length-k;omega,?_⟩
   rw [fM k (by omega),D3,yC _ (fe (atF xs k) (atF ys k) (mH xs ys k).2),whole,whole,Int.toNat_natCast]
   rfl
  ·rw [Ef] at h
   simp only [decide_eq_false_iff_not] at h
   obtain rfl:k=max xs.length ys.length:=by omega
   refine ⟨rfl,DoesL.ends hE 100 (QX xr atF fe du aY xs ys _ _ _) ⟨okC (by omega),fun _ => ?_⟩⟩
   rw [whole]
   refine fR ?_ (Nat.le_refl _)
   rw [List.take_length,ex]
end Go.Proofs.YtcbplfkeeaecgaaGreat
namespace Go.Proofs.YtcbplfkeeaecgaaGreat
open Go.RowKit
noncomputable abbrev rhalfC:List Code:=flat (af Tryz.f75)
noncomputable abbrev ZY:Code:=bk Tryz.f75 0
def kK (xs out:List UInt64) (z:Int):St:=aw 29 [(0,inV 0 xs),(3,slV 1 out),(4,vI z)] [bN eU64 xs,u5 out]
noncomputable abbrev zl (lF:List UInt64->Nat->UInt64):Env:=En [(136,K2 aL kI kU64.rs.res lF)]
theorem Q8:EnvOk (zl atF):=ag (.cons wZ .nil)
theorem Fd (lF:List UInt64->Nat->UInt64) (xs:List UInt64):letI za':=(↑xs.length:Int);stageG (zl lF) 100 (rhalfC.take 3) (ah Tryz.f75 [iL.av 0 xs] [bN eU64 xs]) [0,3,4] [0,1] [(0,.as),(3,.as),(4,.int)] [] []=(.vc (0+xs.length*1<=(List.map EK.u64.cell xs).length/\0<1) (.vc (0<=za'/\za'<=za'/\(↑8:Int)*za'<=281474976710656/\za'<1125899906842624) (.leaf (aw 29 [(0,.one (.c (.slc 0 0 (xs.length) 1 (.of 0) false))),(3,.one (.c (.slc 1 0 (za'.toNat) 1 (.of 0) false))),(4,.one (.c (.int .i64 0)))] [.live ⟨false,0,1,(.elts .u64 (xs:List UInt64)),false⟩,.live ⟨true,22,1,(.elts .u64 (List.replicate za'.toNat 0:List UInt64)),false⟩])))):=by kernel_rfl
theorem Fe (lF:List UInt64->Nat->UInt64) (xs out:List UInt64) (z:Int):letI za':=IntKind.i64.wrap (z+1);letI zb':=List.map EK.u64.cell xs;letI zc':=(↑xs.length:Int);bm (zl lF) 100 ZY (kK xs out z) (same [0,3,4] [0,1])=(.vc (0+xs.length*1<=zb'.length/\0<1) (.br (decide (z<zc')) (.vc ((0<=z/\z<zc')/\0+xs.length*1<=zb'.length/\0<1) (.vc (0+z.toNat*1<xs.length) (.vc ((0+xs.length<=xs.length/\xs.length<1125899906842624/\0=0/\1=1)/\0<=IntKind.i64.wrap (z+1)) (.vc ((0<=z/\z<(↑out.length:Int))/\0+out.length*1<=(List.map EK.u64.cell out).length/\0<1) (.vc (0+z.toNat*1<out.length) (.leaf ((.normal,aw 29 [(0,.one (.c (.slc 0 0 (xs.length) 1 (.of 0) false))),(3,.one (.c (.slc 1 0 (out.length) 1 (.of 0) false))),(4,.one (.c (.int .i64 za')))] [.live ⟨false,0,1,(.elts .u64 (xs:List UInt64)),false⟩,.live ⟨true,22,1,(.elts .u64 (out.set (0+z.toNat*1) (gk (xs.getD (0+z.toNat*1) 0) 1+tV (lF (List.take xs.length (List.drop 0 xs)) za'.toNat) 63):List UInt64)),false⟩])))))))) (.leaf ((.exit 0,aw 29 [(0,.one (.c (.slc 0 0 (xs.length) 1 (.of 0) false))),(3,.one (.c (.slc 1 0 (out.length) 1 (.of 0) false))),(4,.one (.c (.int .i64 (z))))] [.live ⟨false,0,1,(.elts .u64 (xs:List UInt64)),false⟩,.live ⟨true,22,1,(.elts .u64 (out:List UInt64)),false⟩]))))):=by kernel_rfl
theorem Q7 (lF:List UInt64->Nat->UInt64) (xs out:List UInt64) (z:Int):dx (zl lF) oL 100 Tryz.f75 (rhalfC.drop 4) (kK xs out z) =
 (.leaf (some ((List.take out.length out,(.p (out.length<=out.length)))))):=by kernel_rfl
def hI (xs:List UInt64):Nat->List UInt64
 | 0=>List.replicate xs.length 0
 | k+1=>(hI xs k).set k (gk (atF xs k) 1+tV (atF xs (k+1)) 63)
theorem jL (xs:List UInt64) : ∀ k,(hI xs k).length=xs.length
 | 0=>by simp [hI]
 | k+1=>by simp only [hI,List.length_set,jL xs k]
def i9 (xs:List UInt64):List UInt64:=hI xs xs.length
theorem Q6 (xs:List UInt64) (n:Nat) (hn:n=xs.length):aw 29 [(0,inV 0 xs),(3,.one (.c (.slc 1 0 n 1 (.of 0) false))),(4,vI 0)] [bN eU64 xs,u5 (List.replicate n 0)]=kK xs (hI xs 0) ((0:Nat):Int):=by
 subst hn
 have:(List.replicate xs.length (0:UInt64)).length=xs.length:=by simp
 unfold kK slV hI
 rw [this]
 rfl
theorem GN:CallOk Tryz.prog 75 (K1 aLt rL i9) :=
 G1 (E:=zl atF) Tryz.func75 (c:=af Tryz.f75) (by kernel_rfl) (ac Tryz.func75 (by kernel_rfl) (by kernel_rfl)) iLt oL i9 fun xs hx=>by
  have hx:xs.length<4294967296:=hx.2
  have hE:=Q8
  refine DoesL.stageG hE 100 3 _ _ _ _ _ (Fd atF xs) ⟨j6 xs,fun _=>⟨⟨by omega,by omega,by omega,by omega⟩,fun _ => ?_⟩⟩
  refine (?_:DoesL _ _ (aw 29 [(0,inV 0 xs),(3,.one (.c (.slc 1 0 (xs.length:Int).toNat 1 (.of 0) false))),(4,vI 0)] [bN eU64 xs,u5 (List.replicate (xs.length:Int).toNat 0)]) _)
  rw [Q6 xs _ (Int.toNat_natCast _)]
  refine DoesL.blockLoop (B:=ZY) (rest:=rhalfC.drop 4) (id:=0) (by kernel_rfl) (fun k : { k:Nat // k<=xs.length }=>kK xs (hI xs k.1) (k.1:Int)) (fun k=>xs.length-k.1) ⟨0,by omega⟩ fun k => ?_
  obtain ⟨k,hk⟩:=k
  have hl:=jL xs k
  show Does _ _ (kK xs (hI xs k) (k:Int)) _
  refine Does.round hE 100 _ (Fe atF xs (hI xs k) (k:Int)) ⟨j6 xs,fun _=>⟨fun h => ?_,fun h => ?_⟩⟩
  ·simp only [decide_eq_true_eq] at h
   have hk':k<xs.length:=by omega
   have hk2:k<(hI xs k).length:=by omega
   rw [fM k (by omega)]
   refine ⟨mC hk',fun _=>⟨mD hk',fun _=>⟨⟨AY (by omega),by omega⟩,fun _=>⟨mC hk2,fun _=>⟨mD hk2,fun _ => ?_⟩⟩⟩⟩⟩
   refine ⟨⟨k+1,by omega⟩,by show xs.length-(k+1)<xs.length-k;omega,?_⟩
   rw [OL,whole,Int.toNat_natCast,Nat.zero_add,Nat.mul_one,Int.toNat_natCast]
   have e:(hI xs (k+1)).length=(hI xs k).length:=by rw [jL,jL]
   show _=kK xs (hI xs (k+1)) ((k+1:Nat):Int)
   unfold kK slV
   rw [e]
   rfl
  ·simp only [decide_eq_false_iff_not] at h
   obtain rfl:k=xs.length:=by omega
   refine ⟨rfl,DoesL.ends hE 100 (Q7 atF xs _ _) (fR ?_ (Nat.le_refl _))⟩
   rw [List.take_length];rfl
end Go.Proofs.YtcbplfkeeaecgaaGreat
namespace Go.Proofs.YtcbplfkeeaecgaaGreat
open Go.RowKit
noncomputable abbrev rsubC:List Code:=flat (af Tryz.f71)
noncomputable abbrev afB:Code:=bk Tryz.f71 0
def uO (ty ty':TypeId) (xs ys:List UInt64) (c:Bool) (z:Int):St:=aw 28 [(0,slW 0 xs),(1,slW 1 ys),(4,aiR c),(5,vI z)] (afn ty ty' xs ys)
noncomputable abbrev JB (S:UInt64->UInt64->Bool->UInt64) (C:UInt64->UInt64->Bool->Bool):Env:=En [(132,K3x S C)]
theorem Wi:EnvOk (JB fe du):=ag (.cons rk .nil)
theorem Jz (S:UInt64->UInt64->Bool->UInt64) (C:UInt64->UInt64->Bool->Bool) (ty ty':TypeId) (xs ys:List UInt64):stageG (JB S C) 100 (rsubC.take 2) (ah Tryz.f71 [slW 0 xs,slW 1 ys] (afn ty ty' xs ys)) [0,1,4,5] [0,1] [(0,.as),(1,.as),(4,.bit),(5,.int)] [] []=(.leaf (aw 28 [(0,.one (.c (.slc 0 0 (xs.length) 1 (.of 0) false))),(1,.one (.c (.slc 1 0 (ys.length) 1 (.of 0) false))),(4,.one (.c (.bit (false)))),(5,.one (.c (.int .i64 0)))] [.live ⟨true,(ty),1,(.elts .u64 (xs:List UInt64)),true⟩,.live ⟨false,(ty'),1,(.elts .u64 (ys:List UInt64)),false⟩])):=by kernel_rfl
theorem JA (S:UInt64->UInt64->Bool->UInt64) (C:UInt64->UInt64->Bool->Bool) (ty ty':TypeId) (xs ys:List UInt64) (c:Bool) (z:Int):letI za':=((0<=z/\z<(↑xs.length:Int))/\0+xs.length*1<=(List.map EK.u64.cell xs).length/\0<1);letI zb':=0+z.toNat*1;letI zc':=0+z.toNat*1<xs.length;letI zd':=List.map EK.u64.cell ys;letI ze':=(↑ys.length:Int);bm (JB S C) 100 afB (uO ty ty' xs ys c z) (same [0,1,4,5] [0,1])=(.vc (0+ys.length*1<=zd'.length/\0<1) (.br (decide (z<ze')) (.vc za' (.vc zc' (.vc ((0<=z/\z<ze')/\0+ys.length*1<=zd'.length/\0<1) (.vc (0+z.toNat*1<ys.length) (.vc za' (.vc zc' (.leaf ((.normal,aw 28 [(0,.one (.c (.slc 0 0 (xs.length) 1 (.of 0) false))),(1,.one (.c (.slc 1 0 (ys.length) 1 (.of 0) false))),(4,.one (.c (.bit (C (xs.getD zb' 0) (ys.getD zb' 0) c)))),(5,.one (.c (.int .i64 (IntKind.i64.wrap (z+1)))))] [.live ⟨true,(ty),1,(.elts .u64 (xs.set zb' (S (xs.getD zb' 0) (ys.getD zb' 0) c):List UInt64)),true⟩,.live ⟨false,(ty'),1,(.elts .u64 (ys:List UInt64)),false⟩]))))))))) (.leaf ((.exit 0,aw 28 [(0,.one (.c (.slc 0 0 (xs.length) 1 (.of 0) false))),(1,.one (.c (.slc 1 0 (ys.length) 1 (.of 0) false))),(4,.one (.c (.bit (c)))),(5,.one (.c (.int .i64 (z))))] [.live ⟨true,(ty),1,(.elts .u64 (xs:List UInt64)),true⟩,.live ⟨false,(ty'),1,(.elts .u64 (ys:List UInt64)),false⟩]))))):=by kernel_rfl
theorem Wh (S:UInt64->UInt64->Bool->UInt64) (C:UInt64->UInt64->Bool->Bool) (ty ty':TypeId) (xs ys:List UInt64) (c:Bool) (z:Int):abr (JB S C) 100 Tryz.f71 (rsubC.drop 3) (uO ty ty' xs ys c z)=(.leaf (some ((AV.tup [],hpS (afn ty ty' xs ys) 0)))):=by kernel_rfl
theorem ac1 (xs:List UInt64):letI za':=List.take xs.length (List.drop 0 xs);letI zb':=UInt64.ofNat 0;dx (En []) oF 100 Tryz.f80 (flat (af Tryz.f80)) (ah Tryz.f80 [iL.av 0 xs] [bN eU64 xs])=(.vc (0+xs.length<=xs.length) (.leaf (some (({ l0:=fA (Nat.blt 0 xs.length) (za'.getD 0 0) zb',l1:=fA (Nat.blt 1 xs.length) (za'.getD 1 0) zb',l2:=fA (Nat.blt 2 xs.length) (za'.getD 2 0) zb',l3:=fA (Nat.blt 3 xs.length) (za'.getD 3 0) zb',l4:=fA (Nat.blt 4 xs.length) (za'.getD 4 0) zb',l5:=fA (Nat.blt 5 xs.length) (za'.getD 5 0) zb' },.t))))):=by kernel_rfl
theorem CY (xs:List UInt64) (k:Nat) (v:UInt64) {j:Nat} (h:j ≠ k):atF (xs.set k v) j=atF xs j:=by
 unfold atF
 rw [List.getD_eq_getElem?_getD,List.getD_eq_getElem?_getD,List.getElem?_set_ne (Ne.symm h)]
def oM:Nat->List UInt64->List UInt64->Bool->List UInt64 × Bool
 | 0,xs,ys,c=>(xs,c)
 | k+1,xs,ys,c=>((oM k xs ys c).1.set k (fe (atF xs k) (atF ys k) (oM k xs ys c).2),du (atF xs k) (atF ys k) (oM k xs ys c).2)
theorem nw (xs ys:List UInt64) (c:Bool) : ∀ k,(oM k xs ys c).1.length=xs.length
 | 0=>rfl
 | k+1=>by simp only [oM,List.length_set,nw xs ys c k]
theorem Nv (xs ys:List UInt64) (c:Bool) : ∀ k j,k<=j->atF (oM k xs ys c).1 j=atF xs j
 | 0,j,_=>rfl
 | k+1,j,h=>by
  simp only [oM]
  rw [CY _ _ _ (by omega),Nv xs ys c k j (by omega)]
theorem CZ:CallOk Tryz.prog 71 (Kwl fun xs ys=>(oM ys.length xs ys false).1):=by
 refine aiv (E:=JB fe du) Tryz.func71 (c:=af Tryz.f71) (by kernel_rfl) (ac Tryz.func71 (by kernel_rfl) (by kernel_rfl)) (fun xs ys=>nw _ _ _ _) fun ty ty' xs ys h0 hl hb => ?_
 have hE:=Wi
 refine DoesL.stageG hE 100 2 _ _ _ _ _ (Jz fe du ty ty' xs ys) ?_
 refine DoesL.blockLoop (B:=afB) (rest:=rsubC.drop 3) (id:=0) (by kernel_rfl) (fun k : { k:Nat // k<=ys.length }=>uO ty ty' (oM k.1 xs ys false).1 ys (oM k.1 xs ys false).2 (k.1:Int)) (fun k=>ys.length-k.1) ⟨0,by omega⟩ fun k => ?_
 obtain ⟨k,hk⟩:=k
 have hw:=nw xs ys false k
 have ha:=Nv xs ys false k k (Nat.le_refl _)
 show Does _ _ (uO ty ty' (oM k xs ys false).1 ys (oM k xs ys false).2 (k:Int)) _
 refine Does.round hE 100 _ (JA fe du ty ty' (oM k xs ys false).1 ys (oM k xs ys false).2 (k:Int)) ⟨j6 ys,fun _=>⟨fun h => ?_,fun h => ?_⟩⟩
 ·simp only [decide_eq_true_eq] at h
  have k1:k<ys.length:=by omega
  have k2:k<(oM k xs ys false).1.length:=by omega
  refine ⟨mC k2,fun _=>⟨mD k2,fun _=>⟨mC k1,fun _=>⟨mD k1,fun _=>⟨mC k2,fun _=>⟨mD k2,fun _ => ?_⟩⟩⟩⟩⟩⟩
  refine ⟨⟨k+1,by omega⟩,by show ys.length-(k+1)<ys.length-k;omega,?_⟩
  rw [fM k (by omega),OL,OL,Int.toNat_natCast,Nat.zero_add,Nat.mul_one,ha]
  have e:(oM (k+1) xs ys false).1.length=(oM k xs ys false).1.length:=by rw [nw,nw]
  show _=uO ty ty' (oM (k+1) xs ys false).1 ys (oM (k+1) xs ys false).2 ((k+1:Nat):Int)
  unfold uO slW
  rw [e]
  rfl
 ·simp only [decide_eq_false_iff_not] at h
  obtain rfl:k=ys.length:=by omega
  exact ⟨rfl,DoesL.wends hE 100 (Wh fe du ty ty' _ ys _ _) (Tree.sat_leaf rfl)⟩
def ofL (xs:List UInt64):Fp:=⟨atF xs 0,atF xs 1,atF xs 2,atF xs 3,atF xs 4,atF xs 5⟩
theorem dw (xs:List UInt64) (k:Nat):fA (Nat.blt k xs.length) ((List.take xs.length (List.drop 0 xs)).getD k 0) (UInt64.ofNat 0)=atF xs k:=by
 rw [whole]
 cases h:Nat.blt k xs.length with
 | true=>rfl
 | false =>
  have : ¬ k<xs.length:=fun h2=>by rw [show Nat.blt k xs.length=true from Nat.ble_eq_true_of_le h2] at h;cases h
  simp only [fA,atF,List.getD_eq_getElem?_getD]
  rw [List.getElem?_eq_none (by omega)]
  rfl
theorem Mo:CallOk Tryz.prog 80 (K1 aL oF.res ofL) :=
 G1 (E:=En []) Tryz.func80 (c:=af Tryz.f80) (by kernel_rfl) (ac Tryz.func80 (by kernel_rfl) (by kernel_rfl)) iL oF ofL fun xs hx=>by
  refine DoesL.ends (ag .nil) 100 (ac1 xs) ⟨by omega,fun _=>bA ?_⟩
  rw [dw,dw,dw,dw,dw,dw]
  rfl
abbrev rSu:Res Fp:=rS 22
abbrev oSu:Out Fp:=oS 22
def six (a:Fp):List UInt64 := [a.l0,a.l1,a.l2,a.l3,a.l4,a.l5]
def aiy (a m:Fp):Prop:=0<(six a).length/\(six m).length<=(six a).length/\(six a).length<4294967296
theorem M4 (a m:Fp):aiy a m:=⟨Nat.lt_of_lt_of_le (by decide:0<6) (Nat.le_refl 6),Nat.le_refl 6,(by decide:6<4294967296)⟩
abbrev aiT:ak:=Kwl fun xs ys=>(oM ys.length xs ys false).1
noncomputable abbrev abD (bF:Fp->Fp->Bool):Env:=En [(70,K3x eg ci),(24,K2 aS aS oB.res bF),(71,aiT)]
theorem W7:EnvOk (abD cN):=ag (.cons j4 (.cons Ip (.cons CZ .nil)))
def lfF (a:Fp):Tree (Option (Fp × Pr)) := .leaf (some (a,.t))
def afL (bF:Fp->Fp->Bool) (a b m:Fp):Tree (Option (Fp × Pr)) :=
 .br (b2u (jl a b).2==1) (.vc (aiy (jl a b).1 m) (lfF (dr (jl a b).1 m).1)) (.br (!(bF (jl a b).1 m)) (.vc (aiy (jl a b).1 m) (lfF (dr (jl a b).1 m).1)) (lfF (jl a b).1))
theorem W2 (bF:Fp->Fp->Bool) (a b m:Fp):dx (abD bF) oSu 300 Tryz.f81 (flat (af Tryz.f81)) (ah Tryz.f81 [iS.av 0 a,iS.av 1 b,iS.av 2 m] (iS.hes a++iS.hes b++iS.hes m))=afL bF a b m:=by kernel_rfl
def uv (a b m:Fp):Fp:=match b2u (jl a b).2==1 with
 | true=>(dr (jl a b).1 m).1
 | false=>match !(cN (jl a b).1 m) with
  | true=>(dr (jl a b).1 m).1
  | false=>(jl a b).1
theorem RA (a b m:Fp):(afL cN a b m).sat fun q => ∃ p,q=some (uv a b m,p)/\p.holds:=by
 refine ⟨fun h=>⟨M4 _ _,fun _ => ?_⟩,fun h=>⟨fun h2=>⟨M4 _ _,fun _ => ?_⟩,fun h2 => ?_⟩⟩
 ·exact bA (by unfold uv;rw [h])
 ·exact bA (by unfold uv;rw [h,h2])
 ·exact bA (by unfold uv;rw [h,h2])
theorem adp:CallOk Tryz.prog 81 (K3 aS aS aS rSu uv) :=
 G3 (E:=abD cN) Tryz.func81 (c:=af Tryz.f81) (by kernel_rfl) (ac Tryz.func81 (by kernel_rfl) (by kernel_rfl)) iS iS iS oSu uv fun a b m _ _ _=>DoesL.ends W7 300 (W2 cN a b m) (RA a b m)
noncomputable abbrev My:Env:=En [(70,K3x eg ci),(132,K3x fe du)]
theorem SA:EnvOk My:=ag (.cons j4 (.cons rk .nil))
def aht (a b m:Fp):Tree (Option (Fp × Pr)) := .br (b2u (dr a b).2==1) (lfF (jl (dr a b).1 m).1) (lfF (dr a b).1)
theorem Sz (a b m:Fp):dx My oSu 300 Tryz.f182 (flat (af Tryz.f182)) (ah Tryz.f182 [iS.av 0 a,iS.av 1 b,iS.av 2 m] (iS.hes a++iS.hes b++iS.hes m))=aht a b m:=by kernel_rfl
def qT (a b m:Fp):Fp:=match b2u (dr a b).2==1 with
 | true=>(jl (dr a b).1 m).1
 | false=>(dr a b).1
theorem X5:CallOk Tryz.prog 182 (K3 aS aS aS rSu qT) :=
 G3 (E:=My) Tryz.func182 (c:=af Tryz.f182) (by kernel_rfl) (ac Tryz.func182 (by kernel_rfl) (by kernel_rfl)) iS iS iS oSu qT fun a b m _ _ _=>DoesL.ends SA 300 (Sz a b m)
  ⟨fun h=>bA (by unfold qT;rw [h]),fun h=>bA (by unfold qT;rw [h])⟩
abbrev K3s (F:Fp->Fp->Fp->Fp):ak:=K3 aS aS aS rSu F
abbrev Kfp (F:List UInt64->Fp):ak:=K1 aL oF.res F
theorem Zz (pF:Fp->Fp->Fp->Fp) (m a b:Fp):ab (Ens [(81,K3s pF),(77,K0 rSu m),(80,Kfp ofL)] [81,77]) rF 100 Tryz.f42 [vF a,vF b] = .leaf (some (pF a b m)):=by kernel_rfl
def mi (a b:Fp):Fp:=uv a b pLimbs
theorem DD:CallOk Tryz.prog 42 (Kff mi):=P2 (cm (.cons adp (.cons oX (.cons Mo .nil)))) Tryz.func42 (ac Tryz.func42 (by kernel_rfl) (by kernel_rfl)) 100 (aa Fp) (aa Fp) rF mi (Zz uv pLimbs) (fun _ _=>Tree.sat_leaf (by simp only [mi]))
theorem VD (pF:Fp->Fp->Fp->Fp) (m a b:Fp):ab (Ens [(182,K3s pF),(77,K0 rSu m),(80,Kfp ofL)] [182,77]) rF 100 Tryz.f139 [vF a,vF b] = .leaf (some (pF a b m)):=by kernel_rfl
def mG (a b:Fp):Fp:=qT a b pLimbs
theorem CQ:CallOk Tryz.prog 139 (Kff mG):=P2 (cm (.cons X5 (.cons oX (.cons Mo .nil)))) Tryz.func139 (ac Tryz.func139 (by kernel_rfl) (by kernel_rfl)) 100 (aa Fp) (aa Fp) rF mG (VD qT pLimbs) (fun _ _=>Tree.sat_leaf (by simp only [mG]))
theorem XC (sF:Fp->Fp->Fp) (a:Fp):ab (En [(139,Kff sF)]) rF 100 Tryz.f79 [vF a] = .leaf (some (sF zeroFp a)):=by kernel_rfl
def qc (a:Fp):Fp:=mG zeroFp a
theorem Of:CallOk Tryz.prog 79 (Kf qc):=P1 (ag (.cons CQ .nil)) Tryz.func79 (ac Tryz.func79 (by kernel_rfl) (by kernel_rfl)) 100 (aa Fp) rF qc (XC mG) (fun _=>Tree.sat_leaf (by simp only [qc]))
theorem adH (n:UInt64):ab (En []) rF 100 Tryz.f40 [vU n] = .leaf (some (ofF n)):=by kernel_rfl
theorem D5:CallOk Tryz.prog 40 (K1 kU64.arg rF.res ofF):=P1 (ag .nil) Tryz.func40 (ac Tryz.func40 (by kernel_rfl) (by kernel_rfl)) 100 kU64 rF ofF adH (fun _=>Tree.sat_leaf rfl)
end Go.Proofs.YtcbplfkeeaecgaaGreat
namespace Go.Proofs.YtcbplfkeeaecgaaGreat
open Go.RowKit
def rmL (x y t c:UInt64):UInt64:=eg (eg t (x*y) false) c false
def rmH (x y t c:UInt64):UInt64:=fD x y+b2u (ci t (x*y) false)+b2u (ci (eg t (x*y) false) c false)
theorem BO (x y:UInt64) (c:Bool):eg x y c=eg y x c:=UInt64.toNat.inj (by rw [nO,nO,Nat.add_comm x.toNat])
theorem tI (x y:UInt64) (c:Bool):ci x y c=ci y x c:=by
 have h1:=j0 x y c
 have h2:=j0 y x c
 rw [Nat.add_comm x.toNat,<- h2] at h1
 cases h3:ci x y c <;> cases h4:ci y x c <;> simp [h3,h4] at h1 <;> rfl
theorem zi (x y t c:UInt64):rmL x y t c=jd x y t c:=by unfold rmL jd;rw [BO t]
theorem zj (x y t c:UInt64):rmH x y t c=fg x y t c:=by unfold rmH fg;rw [BO t,tI t]
def abF (m:Fp) (inv:UInt64) (t0 t1 t2 t3 t4 t5 top:UInt64) (more:Bool):L7 :=
 let x:=t0*inv
 let d0:=fD x m.l0+b2u (ci t0 (x*m.l0) false)
 let d1:=rmH x m.l1 t1 d0
 let d2:=rmH x m.l2 t2 d1
 let d3:=rmH x m.l3 t3 d2
 let d4:=rmH x m.l4 t4 d3
 let d5:=rmH x m.l5 t5 d4
 ⟨rmL x m.l1 t1 d0,rmL x m.l2 t2 d1,rmL x m.l3 t3 d2,rmL x m.l4 t4 d3,rmL x m.l5 t5 d4,eg top d5 false,b2u more+b2u (ci top d5 false)⟩
def n5 (ai:UInt64) (b:Fp) (t:L7):Bool :=
 let c0:=rmH ai b.l0 t.t0 0
 let c1:=rmH ai b.l1 t.t1 c0
 let c2:=rmH ai b.l2 t.t2 c1
 let c3:=rmH ai b.l3 t.t3 c2
 let c4:=rmH ai b.l4 t.t4 c3
 let c5:=rmH ai b.l5 t.t5 c4
 ci t.t6 c5 false
def lV (m:Fp) (inv:UInt64) (ai:UInt64) (b:Fp) (t:L7):L7 :=
 let c0:=rmH ai b.l0 t.t0 0
 let c1:=rmH ai b.l1 t.t1 c0
 let c2:=rmH ai b.l2 t.t2 c1
 let c3:=rmH ai b.l3 t.t3 c2
 let c4:=rmH ai b.l4 t.t4 c3
 let c5:=rmH ai b.l5 t.t5 c4
 abF m inv (rmL ai b.l0 t.t0 0) (rmL ai b.l1 t.t1 c0) (rmL ai b.l2 t.t2 c1) (rmL ai b.l3 t.t3 c2) (rmL ai b.l4 t.t4 c3) (rmL ai b.l5 t.t5 c4) (eg t.t6 c5 false) (ci t.t6 c5 false)
noncomputable abbrev montC:List Code:=flat (af Tryz.f38)
noncomputable abbrev mQ:Code:=bk Tryz.f38 1
noncomputable abbrev qe (bF:Fp->Fp->Bool):Env:=En [(69,K2 kU64.arg kU64.arg (kU64.rs2 kU64).res fun x y=>(fD x y,x*y)),(70,K3x eg ci),(24,K2 aS aS oB.res bF),(71,aiT)]
theorem XU:EnvOk (qe cN):=ag (.cons rO (.cons j4 (.cons Ip (.cons CZ .nil))))
def slR (i n:Nat):AV := .one (.c (.slc i 0 n 1 (.of 0) true))
def mSt (a b m:Fp) (inv:UInt64) (k:Nat) (t:List Cell):St :=
 aw 222 [(0,slR 0 6),(1,slR 1 6),(2,slR 2 6),(7,aaA 6),(8,vU inv),(10,slR 3 8),(11,aaA k)] [.live ⟨false,0,1,.row (Row.cs a),false⟩,.live ⟨false,0,1,.row (Row.cs b),false⟩,.live ⟨false,0,1,.row (Row.cs m),false⟩,.live ⟨true,22,1,.row t,false⟩]
def lX:X->Option (List Nat × List Nat):=same [0,1,2,7,8,10,11] [0,1,2,3]
def ia (t:L7) (h:Bool):List Cell:=t.cs ++ [.bit h]
def aap (m x:UInt64):UInt64:=x*(2-m*x)
def bG (m:UInt64):UInt64:=0-aap m (aap m (aap m (aap m (aap m (aap m m)))))
set_option maxRecDepth 100000
theorem Ku (bF:Fp->Fp->Bool) (a b m:Fp):b8 (qe bF) 300 (montC.take 8) (ah Tryz.f38 [iS.av 0 a,iS.av 1 b,iS.av 2 m] (iS.hes a++iS.hes b++iS.hes m)) [0,1,2,7,8,10,11] [0,1,2,3] = .leaf (mSt a b m (bG m.l0) 0 (bO 8)):=by kernel_rfl
theorem Fv (bF:Fp->Fp->Bool) (a b m:Fp) (inv:UInt64):bm (qe bF) 300 mQ (mSt a b m inv 0 (bO 8)) lX = .leaf (.normal,mSt a b m inv 1 (ia (lV m inv a.l0 b ⟨0,0,0,0,0,0,0⟩) (n5 a.l0 b ⟨0,0,0,0,0,0,0⟩))):=by kernel_rfl
theorem Fu (bF:Fp->Fp->Bool) (a b m:Fp) (inv:UInt64) (t:L7) (h:Bool):bm (qe bF) 300 mQ (mSt a b m inv 1 (ia t h)) lX = .leaf (.normal,mSt a b m inv 2 (ia (lV m inv a.l1 b t) (n5 a.l1 b t))):=by kernel_rfl
theorem Ft (bF:Fp->Fp->Bool) (a b m:Fp) (inv:UInt64) (t:L7) (h:Bool):bm (qe bF) 300 mQ (mSt a b m inv 2 (ia t h)) lX = .leaf (.normal,mSt a b m inv 3 (ia (lV m inv a.l2 b t) (n5 a.l2 b t))):=by kernel_rfl
theorem Fs (bF:Fp->Fp->Bool) (a b m:Fp) (inv:UInt64) (t:L7) (h:Bool):bm (qe bF) 300 mQ (mSt a b m inv 3 (ia t h)) lX = .leaf (.normal,mSt a b m inv 4 (ia (lV m inv a.l3 b t) (n5 a.l3 b t))):=by kernel_rfl
theorem Fq (bF:Fp->Fp->Bool) (a b m:Fp) (inv:UInt64) (t:L7) (h:Bool):bm (qe bF) 300 mQ (mSt a b m inv 4 (ia t h)) lX = .leaf (.normal,mSt a b m inv 5 (ia (lV m inv a.l4 b t) (n5 a.l4 b t))):=by kernel_rfl
theorem Fo (bF:Fp->Fp->Bool) (a b m:Fp) (inv:UInt64) (t:L7) (h:Bool):bm (qe bF) 300 mQ (mSt a b m inv 5 (ia t h)) lX = .leaf (.normal,mSt a b m inv 6 (ia (lV m inv a.l5 b t) (n5 a.l5 b t))):=by kernel_rfl
theorem XR (bF:Fp->Fp->Bool) (a b m:Fp) (inv:UInt64) (t:L7) (h:Bool):bm (qe bF) 300 mQ (mSt a b m inv 6 (ia t h)) lX = .leaf (.exit 2,mSt a b m inv 6 (ia t h)):=by kernel_rfl
def abp (m:Fp):Prop:=0<8/\6<=8/\8<4294967296
def afQ (bF:Fp->Fp->Bool) (m:Fp) (t:L7):Tree (Option (Fp × Pr)) :=
 .br (t.t6 != 0) (.vc (abp m) (lfF (dr t.low m).1)) (.br (!(bF t.low m)) (.vc (abp m) (lfF (dr t.low m).1)) (lfF t.low))
theorem XS (bF:Fp->Fp->Bool) (a b m:Fp) (inv:UInt64) (t:L7) (h:Bool):dx (qe bF) oSu 300 Tryz.f38 (montC.drop 9) (mSt a b m inv 6 (ia t h))=afQ bF m t:=by kernel_rfl
def qR (m:Fp) (t:L7):Fp:=match t.t6 != 0 with
 | true=>(dr t.low m).1
 | false=>match !(cN t.low m) with
  | true=>(dr t.low m).1
  | false=>t.low
def Ed (a b m:Fp):L7:=lV m (bG m.l0) a.l0 b ⟨0,0,0,0,0,0,0⟩
def Ec (a b m:Fp):L7:=lV m (bG m.l0) a.l1 b (Ed a b m)
def Eb (a b m:Fp):L7:=lV m (bG m.l0) a.l2 b (Ec a b m)
def Ea (a b m:Fp):L7:=lV m (bG m.l0) a.l3 b (Eb a b m)
def D9 (a b m:Fp):L7:=lV m (bG m.l0) a.l4 b (Ea a b m)
def wP (a b m:Fp):L7:=lV m (bG m.l0) a.l5 b (D9 a b m)
def Ac (a b m:Fp):Fp:=qR m (wP a b m)
theorem Sp (m:Fp) (t:L7):(afQ cN m t).sat fun q => ∃ p,q=some (qR m t,p)/\p.holds:=by
 have w:abp m:=⟨by decide,by decide,by decide⟩
 refine ⟨fun h=>⟨w,fun _ => ?_⟩,fun h=>⟨fun h2=>⟨w,fun _ => ?_⟩,fun h2 => ?_⟩⟩
 ·exact bA (by unfold qR;rw [h])
 ·exact bA (by unfold qR;rw [h,h2])
 ·exact bA (by unfold qR;rw [h,h2])
def mAt (a b m:Fp) (q:Fin 7 × Bool):St :=
 match q.1 with
 | 0=>mSt a b m (bG m.l0) 0 (bO 8)
 | 1=>mSt a b m (bG m.l0) 1 (ia (Ed a b m) q.2)
 | 2=>mSt a b m (bG m.l0) 2 (ia (Ec a b m) q.2)
 | 3=>mSt a b m (bG m.l0) 3 (ia (Eb a b m) q.2)
 | 4=>mSt a b m (bG m.l0) 4 (ia (Ea a b m) q.2)
 | 5=>mSt a b m (bG m.l0) 5 (ia (D9 a b m) q.2)
 | 6=>mSt a b m (bG m.l0) 6 (ia (wP a b m) q.2)
theorem wN:montC.drop 8 = .block 2 (.loop mQ) :: montC.drop 9:=by kernel_rfl
theorem ad5:CallOk Tryz.prog 38 (K3 aS aS aS rSu Ac) :=
 G3 (E:=qe cN) Tryz.func38 (c:=af Tryz.f38) (by kernel_rfl) (ac Tryz.func38 (by kernel_rfl) (by kernel_rfl)) iS iS iS oSu Ac fun a b m _ _ _=>by
  have hE:=XU
  refine DoesL.stageTo hE 300 8 _ _ (Ku cN a b m) ?_
  refine DoesL.blockLoop wN (mAt a b m) (fun q=>6-q.1.1) (0,false) fun q => ?_
  obtain ⟨k,h⟩:=q
  match k with
  | 0=>exact Does.round hE 300 lX (Fv cN a b m _) ⟨(1,n5 a.l0 b ⟨0,0,0,0,0,0,0⟩),by show 6-1<6-0;decide,by simp only [mAt,Ed]⟩
  | 1=>exact Does.round hE 300 lX (Fu cN a b m _ (Ed a b m) h) ⟨(2,n5 a.l1 b (Ed a b m)),by show 6-2<6-1;decide,by simp only [mAt,Ec]⟩
  | 2=>exact Does.round hE 300 lX (Ft cN a b m _ (Ec a b m) h) ⟨(3,n5 a.l2 b (Ec a b m)),by show 6-3<6-2;decide,by simp only [mAt,Eb]⟩
  | 3=>exact Does.round hE 300 lX (Fs cN a b m _ (Eb a b m) h) ⟨(4,n5 a.l3 b (Eb a b m)),by show 6-4<6-3;decide,by simp only [mAt,Ea]⟩
  | 4=>exact Does.round hE 300 lX (Fq cN a b m _ (Ea a b m) h) ⟨(5,n5 a.l4 b (Ea a b m)),by show 6-5<6-4;decide,by simp only [mAt,D9]⟩
  | 5=>exact Does.round hE 300 lX (Fo cN a b m _ (D9 a b m) h) ⟨(6,n5 a.l5 b (D9 a b m)),by show 6-6<6-5;decide,by simp only [mAt,wP]⟩
  | 6=>exact Does.round hE 300 lX (XR cN a b m _ (wP a b m) h) ⟨rfl,DoesL.ends hE 300 (XS cN a b m _ (wP a b m) h) (Sp m (wP a b m))⟩
theorem XL (pF:Fp->Fp->Fp->Fp) (m a b:Fp):ab (Ens [(38,K3s pF),(77,K0 rSu m),(80,Kfp ofL)] [38,77]) rF 100 Tryz.f43 [vF a,vF b] = .leaf (some (pF (pF a b m) sqLimbs m)):=by kernel_rfl
def cL (a b:Fp):Fp:=Ac (Ac a b pLimbs) sqLimbs pLimbs
theorem pg:CallOk Tryz.prog 43 (Kff cL):=P2 (cm (.cons ad5 (.cons oX (.cons Mo .nil)))) Tryz.func43 (ac Tryz.func43 (by kernel_rfl) (by kernel_rfl)) 100 (aa Fp) (aa Fp) rF cL (XL Ac pLimbs) (fun _ _=>Tree.sat_leaf (by simp only [cL]))
end Go.Proofs.YtcbplfkeeaecgaaGreat
namespace Go.Proofs.YtcbplfkeeaecgaaGreat
open Go.RowKit
abbrev akE (F:UInt64->Fp):ak:=K1 kU64.arg rF.res F
noncomputable abbrev powPC:List Code:=flat (af Tryz.f74)
noncomputable abbrev afJ:Code:=bk Tryz.f74 0
noncomputable abbrev JX (oF':UInt64->Fp) (mF:Fp->Fp->Fp) (bF:List UInt64->Nat->UInt64):Env:=En [(40,akE oF'),(43,Kff mF),(135,K2 aL M1 kU64.rs.res bF)]
theorem W1:EnvOk (JX ofF cL Io):=ag (.cons D5 (.cons pg (.cons aim .nil)))
def DY (e:List UInt64) (a x:Fp) (z:Int):St:=aw 27 [(1,inV 0 e),(2,bv 1),(4,bv 2),(5,bv 3),(6,vI z)] [bN eU64 e,own 29 (Row.cs a),own 29 (bO 6),own 29 (Row.cs x)]
theorem JV (oF':UInt64->Fp) (mF:Fp->Fp->Fp) (bF:List UInt64->Nat->UInt64) (a:Fp) (e:List UInt64):b8 (JX oF' mF bF) 100 (powPC.take 3) (ah Tryz.f74 [vF a,iL.av 0 e] [bN eU64 e]) [1,2,4,5,6] [0,1,2,3]=(.vc (0+e.length*1<=(List.map EK.u64.cell e).length/\0<1) (.leaf (aw 27 [(1,.one (.c (.slc 0 0 (e.length) 1 (.of 0) false))),(2,.one (.c (.ptr 1 0))),(4,.one (.c (.ptr 2 0))),(5,.one (.c (.ptr 3 0))),(6,.one (.c (.int .i64 (IntKind.i64.wrap (IntKind.i64.wrap (64*(↑e.length:Int))-1)))))] [.live ⟨false,0,1,(.elts .u64 (e:List UInt64)),false⟩,.live ⟨true,29,0,(.row (Row.cs (a:Fp))),false⟩,.live ⟨true,29,0,(.row [(.lit .u64 0),(.lit .u64 0),(.lit .u64 0),(.lit .u64 0),(.lit .u64 0),(.lit .u64 0)]),false⟩,.live ⟨true,29,0,(.row (Row.cs (oF' (UInt64.ofNat 1):Fp))),false⟩]))):=by kernel_rfl
theorem JW (oF':UInt64->Fp) (mF:Fp->Fp->Fp) (bF:List UInt64->Nat->UInt64) (a x:Fp) (e:List UInt64) (z:Int):letI za':=(Row.cs (a:Fp));letI zb':=IntKind.i64.wrap (z-1);bm (JX oF' mF bF) 100 afJ (DY e a x z) (same [1,2,4,5,6] [0,1,2,3])=(.br (decide (z >= 0)) (.vc ((0+e.length<=e.length/\e.length<1125899906842624/\0=0/\1=1)/\0<=z/\z<9223372036854775808) (.br (bF (List.take e.length (List.drop 0 e)) z.toNat==UInt64.ofNat 1) (.leaf ((.normal,aw 27 [(1,.one (.c (.slc 0 0 (e.length) 1 (.of 0) false))),(2,.one (.c (.ptr 1 0))),(4,.one (.c (.ptr 2 0))),(5,.one (.c (.ptr 3 0))),(6,.one (.c (.int .i64 zb')))] [.live ⟨false,0,1,(.elts .u64 (e:List UInt64)),false⟩,.live ⟨true,29,0,(.row za'),false⟩,.live ⟨true,29,0,(.row [(.lit .u64 0),(.lit .u64 0),(.lit .u64 0),(.lit .u64 0),(.lit .u64 0),(.lit .u64 0)]),false⟩,.live ⟨true,29,0,(.row (Row.cs (mF (mF x x) a:Fp))),false⟩]))) (.leaf ((.normal,aw 27 [(1,.one (.c (.slc 0 0 (e.length) 1 (.of 0) false))),(2,.one (.c (.ptr 1 0))),(4,.one (.c (.ptr 2 0))),(5,.one (.c (.ptr 3 0))),(6,.one (.c (.int .i64 zb')))] [.live ⟨false,0,1,(.elts .u64 (e:List UInt64)),false⟩,.live ⟨true,29,0,(.row za'),false⟩,.live ⟨true,29,0,(.row [(.lit .u64 0),(.lit .u64 0),(.lit .u64 0),(.lit .u64 0),(.lit .u64 0),(.lit .u64 0)]),false⟩,.live ⟨true,29,0,(.row (Row.cs (mF x x:Fp))),false⟩]))))) (.leaf ((.exit 0,aw 27 [(1,.one (.c (.slc 0 0 (e.length) 1 (.of 0) false))),(2,.one (.c (.ptr 1 0))),(4,.one (.c (.ptr 2 0))),(5,.one (.c (.ptr 3 0))),(6,.one (.c (.int .i64 (z))))] [.live ⟨false,0,1,(.elts .u64 (e:List UInt64)),false⟩,.live ⟨true,29,0,(.row za'),false⟩,.live ⟨true,29,0,(.row [(.lit .u64 0),(.lit .u64 0),(.lit .u64 0),(.lit .u64 0),(.lit .u64 0),(.lit .u64 0)]),false⟩,.live ⟨true,29,0,(.row (Row.cs (x:Fp))),false⟩])))):=by kernel_rfl
theorem WZ (oF':UInt64->Fp) (mF:Fp->Fp->Fp) (bF:List UInt64->Nat->UInt64) (a x:Fp) (e:List UInt64) (z:Int):dx (JX oF' mF bF) oF 100 Tryz.f74 (powPC.drop 4) (DY e a x z) =
 (.leaf (some ((x,.t)))):=by kernel_rfl
def o6 (a:Fp) (e:List UInt64):Nat->Fp->Fp
 | 0,x=>x
 | n+1,x=>o6 a e n (match dH e n with | true=>cL (cL x x) a | false=>cL x x)
def nY (a:Fp) (e:List UInt64):Fp:=o6 a e (64*e.length) (ofF 1)
abbrev ait (a:Fp) (e:List UInt64):Type := { q:Int × Fp // -1<=q.1/\q.1<64*e.length/\o6 a e (q.1+1).toNat q.2=nY a e }
theorem NT:CallOk Tryz.prog 74 (K2 (aa Fp).arg aL rF.res nY) :=
 G2 (E:=JX ofF cL Io) Tryz.func74 (c:=af Tryz.f74) (by kernel_rfl) (ac Tryz.func74 (by kernel_rfl) (by kernel_rfl)) (aa Fp).inp iL oF nY fun a e _ he=>by
  have he:e.length<1125899906842624:=he
  have hE:=W1
  refine DoesL.stageE hE 100 3 _ _ (JV ofF cL Io a e) ⟨j6 e,fun _ => ?_⟩
  have hw:IntKind.i64.wrap (IntKind.i64.wrap (64*(e.length:Int))-1)=64*(e.length:Int)-1:=by rw [IntWalk.i64_in (64*(e.length:Int)) (by omega),IntWalk.i64_in _ (by omega)]
  rw [hw]
  refine DoesL.blockLoop (B:=afJ) (rest:=powPC.drop 4) (id:=0) (by kernel_rfl) (fun q:ait a e=>DY e a q.1.2 q.1.1) (fun q=>(q.1.1+1).toNat) ⟨(64*(e.length:Int)-1,ofF 1),by simp only [];omega,by simp only [];omega,by
   simp only []
   rw [show (64*(e.length:Int)-1+1).toNat=64*e.length by omega]
   rfl⟩ fun q => ?_
  obtain ⟨⟨z,x⟩,h0,h1,h2⟩:=q
  simp only [] at h0 h1 h2
  show Does _ _ (DY e a x z) _
  refine Does.round hE 100 _ (JW ofF cL Io a x e z) ⟨fun h => ?_,fun h => ?_⟩
  ·simp only [ge_iff_le,decide_eq_true_eq] at h
   obtain ⟨n,rfl⟩ : ∃ n:Nat,z=(n:Int):=⟨z.toNat,by omega⟩
   rw [nR n (by omega),whole,Int.toNat_natCast]
   rw [show ((n:Int)+1).toNat=n+1 by omega] at h2
   simp only [o6] at h2
   have hb:(Io e n==UInt64.ofNat 1)=dH e n:=by
    unfold Io
    cases dH e n <;> rfl
   rw [hb]
   refine ⟨⟨AY he,by omega,by omega⟩,fun _=>⟨fun h3 => ?_,fun h3 => ?_⟩⟩
   all_goals
    have hn:((n:Int)-1+1).toNat=n:=by omega
    rw [h3] at h2
    simp only [] at h2
   ·refine ⟨⟨((n:Int)-1,cL (cL x x) a),?_,?_,?_⟩,?_,?_⟩
    ·show -1<=(n:Int)-1;omega
    ·show (n:Int)-1<64*e.length;omega
    ·simpa only [hn] using h2
    ·show ((n:Int)-1+1).toNat<((n:Int)+1).toNat;omega
    ·kernel_rfl
   ·refine ⟨⟨((n:Int)-1,cL x x),?_,?_,?_⟩,?_,?_⟩
    ·show -1<=(n:Int)-1;omega
    ·show (n:Int)-1<64*e.length;omega
    ·simpa only [hn] using h2
    ·show ((n:Int)-1+1).toNat<((n:Int)+1).toNat;omega
    ·kernel_rfl
  ·simp only [ge_iff_le,decide_eq_false_iff_not] at h
   obtain rfl:z = -1:=by omega
   exact ⟨rfl,DoesL.ends hE 100 (WZ ofF cL Io a x e (-1)) (bA (by
    rw [show ((-1:Int)+1).toNat=0 from rfl] at h2
    simp only [o6] at h2
    exact h2))⟩
abbrev agl (F:Fp->List UInt64->Fp):ak:=K2 (aa Fp).arg aL rF.res F
noncomputable abbrev afU (m:Fp) (lF:List UInt64->List UInt64->List UInt64 × Int) (pF:Fp->List UInt64->Fp):Env:=Ens [(77,K0 rSu m),(140,K2 aLt aLt rLI lF),(74,agl pF)] [77,140]
theorem Yo (m:Fp) (lF:List UInt64->List UInt64->List UInt64 × Int) (pF:Fp->List UInt64->Fp) (a:Fp):letI za':=lF [m.l0,m.l1,m.l2,m.l3,m.l4,m.l5] [UInt64.ofNat 2];ab (afU m lF pF) rFI 100 Tryz.f82 [vF a]=(.br (cH (a) ({ l0:=UInt64.ofNat 0,l1:=UInt64.ofNat 0,l2:=UInt64.ofNat 0,l3:=UInt64.ofNat 0,l4:=UInt64.ofNat 0,l5:=UInt64.ofNat 0 })) (.leaf (some ((a,7)))) (.vc (tS [m.l0,m.l1,m.l2,m.l3,m.l4,m.l5]/\tS [UInt64.ofNat 2]) (.vc (0+za'.fst.length<=za'.fst.length/\za'.fst.length<1125899906842624/\0=0/\1=1) (.leaf (some ((pF a (List.take za'.fst.length (List.drop 0 za'.fst)),0))))))):=by kernel_rfl
noncomputable abbrev OK (m:Fp) (hF:List UInt64->List UInt64) (cF:List UInt64->List UInt64->Int):Env:=Ens [(77,K0 rSu m),(75,K1 aLt rL hF),(138,K2 aLc aLc kInt.rs.res cF)] [77,75]
theorem Lf (m:Fp) (hF:List UInt64->List UInt64) (cF:List UInt64->List UInt64->Int) (a:Fp):letI za':=hF [m.l0,m.l1,m.l2,m.l3,m.l4,m.l5];letI zb':=List.take za'.length (List.drop 0 za');ab (OK m hF cF) kBool.rs 100 Tryz.f78 [vF a]=(.vc (tS [m.l0,m.l1,m.l2,m.l3,m.l4,m.l5]) (.vc (nV [a.l0,a.l1,a.l2,a.l3,a.l4,a.l5]/\(0+za'.length<=za'.length/\za'.length<1125899906842624/\0=0/\1=1)/\nV zb') (.leaf (some ((decide (cF [a.l0,a.l1,a.l2,a.l3,a.l4,a.l5] zb' > 0))))))):=by kernel_rfl
noncomputable abbrev ZR (m:Fp) (hF:List UInt64->List UInt64) (sF:List UInt64->List UInt64->List UInt64) (pF:Fp->List UInt64->Fp) (mF:Fp->Fp->Fp) (gF:Fp->Bool) (nF:Fp->Fp):Env :=
 Ens [(77,K0 rSu m),(75,K1 aLt rL hF),(76,K2 aLt aLt rL sF),(74,agl pF),(43,Kff mF),(78,K1 (aa Fp).arg kBool.rs.res gF),(79,Kf nF)]
  [77,75,76]
theorem Ql (m:Fp) (hF:List UInt64->List UInt64) (sF:List UInt64->List UInt64->List UInt64) (pF:Fp->List UInt64->Fp) (mF:Fp->Fp->Fp) (gF:Fp->Bool) (nF:Fp->Fp) (a:Fp):letI za':=hF (List.take (sF [m.l0,m.l1,m.l2,m.l3,m.l4,m.l5] [UInt64.ofNat 1]).length (List.drop 0 (sF [m.l0,m.l1,m.l2,m.l3,m.l4,m.l5] [UInt64.ofNat 1])));letI zb':=hF (List.take za'.length (List.drop 0 za'));letI zc':=sF [m.l0,m.l1,m.l2,m.l3,m.l4,m.l5] [UInt64.ofNat 1];letI zd':=List.take zb'.length (List.drop 0 zb');ab (ZR m hF sF pF mF gF nF) rFB 100 Tryz.f41 [vF a]=(.vc (tS [m.l0,m.l1,m.l2,m.l3,m.l4,m.l5]/\tS [UInt64.ofNat 1]) (.vc ((0+zc'.length<=zc'.length/\zc'.length<1125899906842624/\0=0/\1=1)/\tS (List.take zc'.length (List.drop 0 zc'))) (.vc ((0+za'.length<=za'.length/\za'.length<1125899906842624/\0=0/\1=1)/\tS (List.take za'.length (List.drop 0 za'))) (.vc (0+zb'.length<=zb'.length/\zb'.length<1125899906842624/\0=0/\1=1) (.br (!(cH (mF (pF a zd') (pF a zd')) (a))) (.leaf (some (({ l0:=UInt64.ofNat 0,l1:=UInt64.ofNat 0,l2:=UInt64.ofNat 0,l3:=UInt64.ofNat 0,l4:=UInt64.ofNat 0,l5:=UInt64.ofNat 0 },false)))) (.br (gF (pF a zd')) (.leaf (some ((nF (pF a zd'),true)))) (.leaf (some ((pF a zd',true)))))))))):=by kernel_rfl
theorem jW (xs:List UInt64):(aY xs).length<=xs.length:=by unfold aY;rw [List.length_take];omega
theorem QW (xs ys:List UInt64):(lr xs ys).1.length<=max xs.length ys.length:=by
 unfold lr
 split
 ·simp
 ·have h:=jW (mH xs ys (max xs.length ys.length)).1
  rw [sW] at h
  exact h
theorem acv (xs ys:List UInt64):(US xs ys).length<=max xs.length ys.length+1:=by
 have h:=jW ((gJ xs ys (max xs.length ys.length)).1 ++ [b2u (gJ xs ys (max xs.length ys.length)).2])
 rw [List.length_append,tJ] at h
 exact h
theorem AQ (xs:List UInt64):(i9 xs).length=xs.length:=jL xs _
theorem tf:pLimbs.list.length=6:=rfl
theorem nK (a:Fp):a.list.length=6:=rfl
def pm2:List UInt64:=(lr pLimbs.list [2]).1
def oe (a:Fp):Fp × Int:=match cH a zeroFp with | true=>(a,7) | false=>(nY a pm2,0)
theorem ado:pm2.length<=6:=QW pLimbs.list [2]
theorem OE:CallOk Tryz.prog 82 (K1 (aa Fp).arg rFI.res oe) :=
 P1 (E:=afU pLimbs lr nY) (cm (.cons oX (.cons WA (.cons NT .nil)))) Tryz.func82 (ac Tryz.func82 (by kernel_rfl) (by kernel_rfl)) 100 (aa Fp) rFI oe (Yo pLimbs lr nY)
  (fun a=>by
   refine ⟨fun h => ?_,fun h=>⟨⟨?_,?_⟩,fun _=>⟨AY ?_,fun _ => ?_⟩⟩⟩
   ·have h:cH a zeroFp=true:=h
    exact congrArg some (by unfold oe;rw [h])
   ·show pLimbs.list.length<_;rw [tf];decide
   ·show 1<4294967296;decide
   ·exact Nat.lt_of_le_of_lt ado (by decide)
   ·have h:cH a zeroFp=false:=h
    rw [whole]
    exact congrArg some (by unfold oe;rw [h];rfl))
def cf (a:Fp):Bool:=decide (xr a.list (i9 pLimbs.list) > 0)
theorem Tj:(i9 pLimbs.list).length=6:=AQ pLimbs.list
theorem tm:CallOk Tryz.prog 78 (K1 (aa Fp).arg kBool.rs.res cf) :=
 P1 (E:=OK pLimbs i9 xr) (cm (.cons oX (.cons GN (.cons NM .nil)))) Tryz.func78 (ac Tryz.func78 (by kernel_rfl) (by kernel_rfl)) 100 (aa Fp) kBool.rs cf (Lf pLimbs i9 xr)
  (fun a=>by
   refine ⟨?_,fun _=>⟨⟨?_,okC ?_⟩,fun _ => ?_⟩⟩
   ·show pLimbs.list.length<_;rw [tf];decide
   ·show a.list.length<_;rw [nK];decide
   ·exact Nat.lt_of_le_of_lt (Nat.le_of_eq Tj) (by decide)
   ·rw [whole];rfl)
def abz:List UInt64:=i9 (i9 (US pLimbs.list [1]))
def qP (a:Fp):Fp × Bool:=gf qc cL cf (nY a abz) a
theorem Qk (m:List UInt64) (hm:m.length=6) (hF:List UInt64->List UInt64) (hh : ∀ x,(hF x).length=x.length) (sF:List UInt64->List UInt64->List UInt64) (hs : ∀ x y,(sF x y).length<=max x.length y.length+1) :
  (tS m/\tS [UInt64.ofNat 1])/\((0+(sF m [UInt64.ofNat 1]).length<=(sF m [UInt64.ofNat 1]).length/\(sF m [UInt64.ofNat 1]).length<1125899906842624/\0=0/\1=1)/\tS (List.take (sF m [UInt64.ofNat 1]).length (List.drop 0 (sF m [UInt64.ofNat 1])))) /\
  ((0+(hF (sF m [1])).length<=(hF (sF m [1])).length/\(hF (sF m [1])).length<1125899906842624/\0=0/\1=1)/\tS (List.take (hF (sF m [1])).length (List.drop 0 (hF (sF m [1]))))) /\
  (hF (hF (sF m [1]))).length<1125899906842624:=by
 have h1:=hs m [UInt64.ofNat 1]
 have h1':(sF m [UInt64.ofNat 1]).length<=7:=by rw [hm] at h1;exact h1
 have h2:=hh (sF m [1])
 have h3:=hh (hF (sF m [1]))
 refine ⟨⟨by show m.length<_;omega,by show 1<4294967296;omega⟩,okT ?_,okT ?_,?_⟩
 ·omega
 ·have:(sF m [1]).length<=7:=h1'
  omega
 ·have:(sF m [1]).length<=7:=h1'
  omega
theorem VH:CallOk Tryz.prog 41 (K1 (aa Fp).arg rFB.res qP) :=
 P1 (E:=ZR pLimbs i9 US nY cL cf qc) (cm (.cons oX (.cons GN (.cons acV (.cons NT (.cons pg (.cons tm (.cons Of .nil)))))))) Tryz.func41 (ac Tryz.func41 (by kernel_rfl) (by kernel_rfl)) 100 (aa Fp) rFB qP (Ql pLimbs i9 US nY cL cf qc)
  (fun a=>by
   obtain ⟨h1,h2,h3,h4⟩:=Qk pLimbs.list tf i9 AQ US acv
   refine ⟨h1,fun _=>⟨h2,fun _ => ?_⟩⟩
   rw [whole]
   refine ⟨h3,fun _ => ?_⟩
   rw [whole]
   refine ⟨AY h4,fun _ => ?_⟩
   rw [whole]
   exact AI qc cL cf (nY a abz) a)
end Go.Proofs.YtcbplfkeeaecgaaGreat
namespace Go.Proofs.YtcbplfkeeaecgaaGreat
open Go.RowKit
section
def rLimbs:Fr:=⟨0xffffffff00000001,0x53bda402fffe5bfe,0x3339d80809a1d805,0x73eda753299d7d48⟩
def sq4Limbs:Fr:=⟨0xc999e990f3f29c6d,0x2b6cedcb87925c23,0x05d314967254398f,0x0748d9d99f59ff11⟩
def zeroFr:Fr:=⟨0,0,0,0⟩
def oneFr:Fr:=⟨1,0,0,0⟩
abbrev r4:Rs Fr:=(aa Fr).rs
abbrev v4 (a:Fr):AV := .one ((aa Fr).av a)
abbrev Kr1 (F:Fr->Fr):ak:=K1 (aa Fr).arg r4.res F
abbrev Kr2 (F:Fr->Fr->Fr):ak:=K2 (aa Fr).arg (aa Fr).arg r4.res F
abbrev Krb (F:Fr->Bool):ak:=K1 (aa Fr).arg kBool.rs.res F
def Fr.list (a:Fr):List UInt64 := [a.l0,a.l1,a.l2,a.l3]
def eE (a b:Fr):Bool:=a.l0==b.l0 && (a.l1==b.l1 && (a.l2==b.l2 && (a.l3==b.l3 && true)))
theorem HZ (a b:Fr):eE a b=true <-> a=b:=by
 cases a;cases b
 simp [eE]
abbrev oS4 (ty:TypeId):Out Fr:=aad Fr ty 4 (fun _=>rfl)
abbrev iS4:Inp Fr:=aaD Fr 4 (fun _=>rfl)
abbrev aS4:Arg Fr:=M0 Fr
abbrev rS4 (ty:TypeId):Res Fr:=Mp Fr ty 4 (fun _=>rfl)
theorem WH:dx (En []) (oS4 22) 100 Tryz.f25 (flat (af Tryz.f25)) (ah Tryz.f25 [] []) = .leaf (some (rLimbs,.t)):=by kernel_rfl
theorem C6:CallOk Tryz.prog 25 (K0 (rS4 22) rLimbs) :=
 G0 (E:=En []) Tryz.func25 (c:=af Tryz.f25) (by kernel_rfl) (ac Tryz.func25 (by kernel_rfl) (by kernel_rfl)) (oS4 22) rLimbs (DoesL.ends (ag .nil) 100 WH ⟨.t,rfl,trivial⟩)
theorem ug:CallOk Tryz.prog 114 (K0 r4.res rLimbs):=P0 L6 Tryz.func114 (ac Tryz.func114 (by kernel_rfl) (by kernel_rfl)) 100 r4 rLimbs (T := .leaf (some rLimbs)) (by kernel_rfl) rfl
theorem ais (m:Fr):dx (En [(114,K0 r4.res m)]) (oS4 24) 100 Tryz.f118 (flat (af Tryz.f118)) (ah Tryz.f118 [] []) = .leaf (some (m,.t)):=by kernel_rfl
theorem agj:CallOk Tryz.prog 118 (K0 (rS4 24) rLimbs) :=
 G0 (E:=En [(114,K0 r4.res rLimbs)]) Tryz.func118 (c:=af Tryz.f118) (by kernel_rfl) (ac Tryz.func118 (by kernel_rfl) (by kernel_rfl)) (oS4 24) rLimbs (DoesL.ends (ag (.cons ug .nil)) 100 (ais rLimbs) ⟨.t,rfl,trivial⟩)
def ct (a m:Fr):Bool :=
 match a.l3 != m.l3 with
 | true=>decide (a.l3<m.l3)
 | false=>match a.l2 != m.l2 with
  | true=>decide (a.l2<m.l2)
  | false=>match a.l1 != m.l1 with
   | true=>decide (a.l1<m.l1)
   | false=>match a.l0 != m.l0 with
    | true=>decide (a.l0<m.l0)
    | false=>false
def O9 (a m:Fr):Tree (Option (Bool × Pr)) :=
 .br (a.l3 != m.l3) (lfB (decide (a.l3<m.l3))) (.br (a.l2 != m.l2) (lfB (decide (a.l2<m.l2))) (.br (a.l1 != m.l1) (lfB (decide (a.l1<m.l1))) (.br (a.l0 != m.l0) (lfB (decide (a.l0<m.l0))) (lfB false))))
theorem LS (a m:Fr):dx (En []) oB 100 Tryz.f24 (flat (af Tryz.f24)) (ah Tryz.f24 [iS4.av 0 a,iS4.av 1 m] (iS4.hes a++iS4.hes m))=O9 a m:=by kernel_rfl
theorem F6 (a m:Fr):(O9 a m).sat fun q => ∃ p,q=some (ct a m,p)/\p.holds:=by
 unfold ct
 refine ⟨fun h => ?_,fun h => ?_⟩ <;> rw [h]
 ·exact ⟨.t,rfl,trivial⟩
 refine ⟨fun h => ?_,fun h => ?_⟩ <;> rw [h]
 ·exact ⟨.t,rfl,trivial⟩
 refine ⟨fun h => ?_,fun h => ?_⟩ <;> rw [h]
 ·exact ⟨.t,rfl,trivial⟩
 refine ⟨fun h => ?_,fun h => ?_⟩ <;> rw [h]
 ·exact ⟨.t,rfl,trivial⟩
 ·exact ⟨.t,rfl,trivial⟩
theorem BK:CallOk Tryz.prog 24 (K2 aS4 aS4 oB.res ct) :=
 G2 (E:=En []) Tryz.func24 (c:=af Tryz.f24) (by kernel_rfl) (ac Tryz.func24 (by kernel_rfl) (by kernel_rfl)) iS4 iS4 oB ct fun a m _ _=>DoesL.ends (ag .nil) 100 (LS a m) (F6 a m)
def jI (a:Fr):Bool:=ct a rLimbs
theorem Ya (bF:Fr->Fr->Bool) (m a:Fr):ab (Ens [(24,K2 aS4 aS4 oB.res bF),(25,K0 (rS4 22) m)] [25]) kBool.rs 100 Tryz.f8 [v4 a] = .leaf (some (bF a m)):=by kernel_rfl
theorem aeb:CallOk Tryz.prog 8 (Krb jI):=P1 (cm (.cons BK (.cons C6 .nil))) Tryz.func8 (ac Tryz.func8 (by kernel_rfl) (by kernel_rfl)) 100 (aa Fr) kBool.rs jI (Ya ct rLimbs) (fun _=>Tree.sat_leaf (by simp only [jI]))
def aiH (xs:List UInt64):Fr:=⟨atF xs 0,atF xs 1,atF xs 2,atF xs 3⟩
abbrev oF4:Out Fr:=r4.out
theorem ac0 (xs:List UInt64):letI za':=List.take xs.length (List.drop 0 xs);letI zb':=UInt64.ofNat 0;dx (En []) oF4 100 Tryz.f37 (flat (af Tryz.f37)) (ah Tryz.f37 [iL.av 0 xs] [bN eU64 xs])=(.vc (0+xs.length<=xs.length) (.leaf (some (({ l0:=fA (Nat.blt 0 xs.length) (za'.getD 0 0) zb',l1:=fA (Nat.blt 1 xs.length) (za'.getD 1 0) zb',l2:=fA (Nat.blt 2 xs.length) (za'.getD 2 0) zb',l3:=fA (Nat.blt 3 xs.length) (za'.getD 3 0) zb' },.t))))):=by kernel_rfl
theorem ag5:CallOk Tryz.prog 37 (K1 aL oF4.res aiH) :=
 G1 (E:=En []) Tryz.func37 (c:=af Tryz.f37) (by kernel_rfl) (ac Tryz.func37 (by kernel_rfl) (by kernel_rfl)) iL oF4 aiH fun xs hx=>by
  refine DoesL.ends (ag .nil) 100 (ac0 xs) ⟨by omega,fun _=>bA ?_⟩
  rw [dw,dw,dw,dw]
  rfl
def lP (a b:Fr):Fr × Bool :=
 let c0:=du a.l0 b.l0 false
 let c1:=du a.l1 b.l1 c0
 let c2:=du a.l2 b.l2 c1
 (⟨fe a.l0 b.l0 false,fe a.l1 b.l1 c0,fe a.l2 b.l2 c1,fe a.l3 b.l3 c2⟩,du a.l3 b.l3 c2)
abbrev afE:Res Fr:=rS4 22
abbrev aj2:Out Fr:=oS4 22
def four (a:Fr):List UInt64 := [a.l0,a.l1,a.l2,a.l3]
def lfR (a:Fr):Tree (Option (Fr × Pr)) := .leaf (some (a,.t))
abbrev akF (F:Fr->Fr->Fr->Fr):ak:=K3 aS4 aS4 aS4 afE F
abbrev Kfr (F:List UInt64->Fr):ak:=K1 aL oF4.res F
structure L5 where
 t0:UInt64
 t1:UInt64
 t2:UInt64
 t3:UInt64
 t4:UInt64
def L5.low (t:L5):Fr:=⟨t.t0,t.t1,t.t2,t.t3⟩
def L5.cs (t:L5):List Cell := [.u64 t.t0,.u64 t.t1,.u64 t.t2,.u64 t.t3,.u64 t.t4]
def zy (m:Fr) (inv:UInt64) (t0 t1 t2 t3 top:UInt64) (more:Bool):L5 :=
 let x:=t0*inv
 let d0:=fD x m.l0+b2u (ci t0 (x*m.l0) false)
 let d1:=rmH x m.l1 t1 d0
 let d2:=rmH x m.l2 t2 d1
 let d3:=rmH x m.l3 t3 d2
 ⟨rmL x m.l1 t1 d0,rmL x m.l2 t2 d1,rmL x m.l3 t3 d2,eg top d3 false,b2u more+b2u (ci top d3 false)⟩
def pi (ai:UInt64) (b:Fr) (t:L5):Bool :=
 let c0:=rmH ai b.l0 t.t0 0
 let c1:=rmH ai b.l1 t.t1 c0
 let c2:=rmH ai b.l2 t.t2 c1
 let c3:=rmH ai b.l3 t.t3 c2
 ci t.t4 c3 false
def et (m:Fr) (inv:UInt64) (ai:UInt64) (b:Fr) (t:L5):L5 :=
 let c0:=rmH ai b.l0 t.t0 0
 let c1:=rmH ai b.l1 t.t1 c0
 let c2:=rmH ai b.l2 t.t2 c1
 let c3:=rmH ai b.l3 t.t3 c2
 zy m inv (rmL ai b.l0 t.t0 0) (rmL ai b.l1 t.t1 c0) (rmL ai b.l2 t.t2 c1) (rmL ai b.l3 t.t3 c2) (eg t.t4 c3 false) (ci t.t4 c3 false)
noncomputable abbrev mR (bF:Fr->Fr->Bool):Env:=En [(69,K2 kU64.arg kU64.arg (kU64.rs2 kU64).res fun x y=>(fD x y,x*y)),(70,K3x eg ci),(24,K2 aS4 aS4 oB.res bF),(71,aiT)]
theorem Sv:EnvOk (mR ct):=ag (.cons rO (.cons j4 (.cons BK (.cons CZ .nil))))
def sA (a b m:Fr) (inv:UInt64) (k:Nat) (t:List Cell):St :=
 aw 222 [(0,slR 0 4),(1,slR 1 4),(2,slR 2 4),(7,aaA 4),(8,vU inv),(10,slR 3 6),(11,aaA k)] [.live ⟨false,0,1,.row (Row.cs a),false⟩,.live ⟨false,0,1,.row (Row.cs b),false⟩,.live ⟨false,0,1,.row (Row.cs m),false⟩,.live ⟨true,22,1,.row t,false⟩]
def v6 (t:L5) (h:Bool):List Cell:=t.cs ++ [.bit h]
set_option maxRecDepth 100000
theorem Fw (bF:Fr->Fr->Bool) (a b m:Fr):b8 (mR bF) 300 (montC.take 8) (ah Tryz.f38 [iS4.av 0 a,iS4.av 1 b,iS4.av 2 m] (iS4.hes a++iS4.hes b++iS4.hes m)) [0,1,2,7,8,10,11] [0,1,2,3] = .leaf (sA a b m (bG m.l0) 0 (bO 6)):=by kernel_rfl
theorem Cj (bF:Fr->Fr->Bool) (a b m:Fr) (inv:UInt64):bm (mR bF) 300 mQ (sA a b m inv 0 (bO 6)) lX = .leaf (.normal,sA a b m inv 1 (v6 (et m inv a.l0 b ⟨0,0,0,0,0⟩) (pi a.l0 b ⟨0,0,0,0,0⟩))):=by kernel_rfl
theorem Ci (bF:Fr->Fr->Bool) (a b m:Fr) (inv:UInt64) (t:L5) (h:Bool):bm (mR bF) 300 mQ (sA a b m inv 1 (v6 t h)) lX = .leaf (.normal,sA a b m inv 2 (v6 (et m inv a.l1 b t) (pi a.l1 b t))):=by kernel_rfl
theorem Ch (bF:Fr->Fr->Bool) (a b m:Fr) (inv:UInt64) (t:L5) (h:Bool):bm (mR bF) 300 mQ (sA a b m inv 2 (v6 t h)) lX = .leaf (.normal,sA a b m inv 3 (v6 (et m inv a.l2 b t) (pi a.l2 b t))):=by kernel_rfl
theorem Cg (bF:Fr->Fr->Bool) (a b m:Fr) (inv:UInt64) (t:L5) (h:Bool):bm (mR bF) 300 mQ (sA a b m inv 3 (v6 t h)) lX = .leaf (.normal,sA a b m inv 4 (v6 (et m inv a.l3 b t) (pi a.l3 b t))):=by kernel_rfl
theorem Sr (bF:Fr->Fr->Bool) (a b m:Fr) (inv:UInt64) (t:L5) (h:Bool):bm (mR bF) 300 mQ (sA a b m inv 4 (v6 t h)) lX = .leaf (.exit 2,sA a b m inv 4 (v6 t h)):=by kernel_rfl
def abq (m:Fr):Prop:=0<6/\4<=6/\6<4294967296
def aat (bF:Fr->Fr->Bool) (m:Fr) (t:L5):Tree (Option (Fr × Pr)) :=
 .br (t.t4 != 0) (.vc (abq m) (lfR (lP t.low m).1)) (.br (!(bF t.low m)) (.vc (abq m) (lfR (lP t.low m).1)) (lfR t.low))
theorem Ss (bF:Fr->Fr->Bool) (a b m:Fr) (inv:UInt64) (t:L5) (h:Bool):dx (mR bF) aj2 300 Tryz.f38 (montC.drop 9) (sA a b m inv 4 (v6 t h))=aat bF m t:=by kernel_rfl
def qS (m:Fr) (t:L5):Fr:=match t.t4 != 0 with
 | true=>(lP t.low m).1
 | false=>match !(ct t.low m) with
  | true=>(lP t.low m).1
  | false=>t.low
def eV (a b m:Fr):L5:=et m (bG m.l0) a.l0 b ⟨0,0,0,0,0⟩
def eU (a b m:Fr):L5:=et m (bG m.l0) a.l1 b (eV a b m)
def eT (a b m:Fr):L5:=et m (bG m.l0) a.l2 b (eU a b m)
def dN (a b m:Fr):L5:=et m (bG m.l0) a.l3 b (eT a b m)
def kC (a b m:Fr):Fr:=qS m (dN a b m)
theorem Kx (m:Fr) (t:L5):(aat ct m t).sat fun q => ∃ p,q=some (qS m t,p)/\p.holds:=by
 have w:abq m:=⟨by decide,by decide,by decide⟩
 refine ⟨fun h=>⟨w,fun _ => ?_⟩,fun h=>⟨fun h2=>⟨w,fun _ => ?_⟩,fun h2 => ?_⟩⟩
 ·exact bA (by unfold qS;rw [h])
 ·exact bA (by unfold qS;rw [h,h2])
 ·exact bA (by unfold qS;rw [h,h2])
def aed (a b m:Fr) (q:Fin 5 × Bool):St :=
 match q.1 with
 | 0=>sA a b m (bG m.l0) 0 (bO 6)
 | 1=>sA a b m (bG m.l0) 1 (v6 (eV a b m) q.2)
 | 2=>sA a b m (bG m.l0) 2 (v6 (eU a b m) q.2)
 | 3=>sA a b m (bG m.l0) 3 (v6 (eT a b m) q.2)
 | 4=>sA a b m (bG m.l0) 4 (v6 (dN a b m) q.2)
theorem XX:CallOk Tryz.prog 38 (K3 aS4 aS4 aS4 afE kC) :=
 G3 (E:=mR ct) Tryz.func38 (c:=af Tryz.f38) (by kernel_rfl) (ac Tryz.func38 (by kernel_rfl) (by kernel_rfl)) iS4 iS4 iS4 aj2 kC fun a b m _ _ _=>by
  have hE:=Sv
  refine DoesL.stageTo hE 300 8 _ _ (Fw ct a b m) ?_
  refine DoesL.blockLoop wN (aed a b m) (fun q=>4-q.1.1) (0,false) fun q => ?_
  obtain ⟨k,h⟩:=q
  match k with
  | 0=>exact Does.round hE 300 lX (Cj ct a b m _) ⟨(1,pi a.l0 b ⟨0,0,0,0,0⟩),by show 4-1<4-0;decide,by simp only [aed,eV]⟩
  | 1=>exact Does.round hE 300 lX (Ci ct a b m _ (eV a b m) h) ⟨(2,pi a.l1 b (eV a b m)),by show 4-2<4-1;decide,by simp only [aed,eU]⟩
  | 2=>exact Does.round hE 300 lX (Ch ct a b m _ (eU a b m) h) ⟨(3,pi a.l2 b (eU a b m)),by show 4-3<4-2;decide,by simp only [aed,eT]⟩
  | 3=>exact Does.round hE 300 lX (Cg ct a b m _ (eT a b m) h) ⟨(4,pi a.l3 b (eT a b m)),by show 4-4<4-3;decide,by simp only [aed,dN]⟩
  | 4=>exact Does.round hE 300 lX (Sr ct a b m _ (dN a b m) h) ⟨rfl,DoesL.ends hE 300 (Ss ct a b m _ (dN a b m) h) (Kx m (dN a b m))⟩
theorem XJ (pF:Fr->Fr->Fr->Fr) (m a b:Fr):ab (Ens [(38,akF pF),(25,K0 afE m),(37,Kfr aiH)] [38,25]) r4 100 Tryz.f14 [v4 a,v4 b] = .leaf (some (pF (pF a b m) sq4Limbs m)):=by kernel_rfl
def d6 (a b:Fr):Fr:=kC (kC a b rLimbs) sq4Limbs rLimbs
theorem ad0:CallOk Tryz.prog 14 (Kr2 d6):=P2 (cm (.cons XX (.cons C6 (.cons ag5 .nil)))) Tryz.func14 (ac Tryz.func14 (by kernel_rfl) (by kernel_rfl)) 100 (aa Fr) (aa Fr) r4 d6 (XJ kC rLimbs) (fun _ _=>Tree.sat_leaf (by simp only [d6]))
end
section
def zeroFp2:Fp2:=⟨zeroFp,zeroFp⟩
def oneFp2:Fp2:=⟨oneFp,zeroFp⟩
def xiFp2:Fp2:=⟨oneFp,oneFp⟩
abbrev rF2:Rs Fp2:=(aa Fp2).rs
abbrev vF2 (a:Fp2):AV := .one ((aa Fp2).av a)
abbrev Kp1 (F:Fp2->Fp2):ak:=K1 (aa Fp2).arg rF2.res F
abbrev Kp2 (F:Fp2->Fp2->Fp2):ak:=K2 (aa Fp2).arg (aa Fp2).arg rF2.res F
abbrev Kpb (F:Fp2->Bool):ak:=K1 (aa Fp2).arg kBool.rs.res F
def dj (a b:Fp2):Bool:=cH a.c0 b.c0 && (cH a.c1 b.c1 && true)
theorem fU (a b:Fp2):dj a b=true <-> a=b:=by
 unfold dj
 rw [Bool.and_true,Bool.and_eq_true,gH,gH]
 cases a;cases b
 simp
def zeroFp6:Fp6:=⟨zeroFp2,zeroFp2,zeroFp2⟩
def oneFp6:Fp6:=⟨oneFp2,zeroFp2,zeroFp2⟩
structure Fp12 where
 c0:Fp6
 c1:Fp6
def Fp12.rd (xs:List Cell):Option Fp12:=match (Row.rd (xs.take 36):Option Fp6),(Row.rd (xs.drop 36):Option Fp6) with
 | some a,some b=>some ⟨a,b⟩
 | _,_=>none
instance : Row Fp12 where
 rd:=Fp12.rd
 cs:=fun x=>Row.cs x.c0++Row.cs x.c1
 rd_ok:=fun {xs x} h β=>by
  unfold Fp12.rd at h
  split at h
  ·rename_i a b h1 h2
   cases h
   exact rb 36 h1 h2 β
  ·cases h
 cs_ok:=fun x β=>by rw [List.map_append,List.map_append,Row.cs_ok x.c0,Row.cs_ok x.c1]
 cs_id:=fun x c hc=>by
  rcases List.mem_append.1 hc with h | h
  ·exact Row.cs_id _ c h
  ·exact Row.cs_id _ c h
def qZ:Fp12:=⟨zeroFp6,zeroFp6⟩
def oneFp12:Fp12:=⟨oneFp6,zeroFp6⟩
def UK (a b:Fp6):Bool:=dj a.c0 b.c0 && (dj a.c1 b.c1 && (dj a.c2 b.c2 && true))
theorem Bq (a b:Fp6):UK a b=true <-> a=b:=by
 unfold UK
 rw [Bool.and_true,Bool.and_eq_true,Bool.and_eq_true,fU,fU,fU]
 cases a;cases b
 simp
def qU (a b:Fp12):Bool:=UK a.c0 b.c0 && (UK a.c1 b.c1 && true)
theorem xh (a b:Fp12):qU a b=true <-> a=b:=by
 unfold qU
 rw [Bool.and_true,Bool.and_eq_true,Bq,Bq]
 cases a;cases b
 simp
end
section
def infG1:Pg1:=⟨zeroFp,zeroFp,true⟩
def mL (a b:Pg1):Bool:=cH a.x b.x && (cH a.y b.y && ((a.inf==b.inf) && true))
theorem lc (a b:Pg1):mL a b=true <-> a=b:=by
 unfold mL
 rw [Bool.and_true,Bool.and_eq_true,Bool.and_eq_true,gH,gH,beq_iff_eq]
 cases a;cases b
 simp
def infG2:Pg2:=⟨zeroFp2,zeroFp2,true⟩
def uw (a b:Pg2):Bool:=dj a.x b.x && (dj a.y b.y && ((a.inf==b.inf) && true))
theorem td (a b:Pg2):uw a b=true <-> a=b:=by
 unfold uw
 rw [Bool.and_true,Bool.and_eq_true,Bool.and_eq_true,fU,fU,beq_iff_eq]
 cases a;cases b
 simp
def fF:Sp1:=⟨zeroFp,zeroFp,zeroFp⟩
abbrev kg1:Kd Pg1:=aa Pg1
abbrev kg2:Kd Pg2:=aa Pg2
end
set_option maxRecDepth 100000
section
abbrev Kr0 (x:Fr):ak:=K0 r4.res x
noncomputable def T1r:cQ:=(114,Kr0 rLimbs) :: T0
theorem abg:TableOk Tryz.prog T1r := .cons ug abV
noncomputable def E1r:Env:=wS Tryz.prog T1r []
theorem aix:EnvOk E1r:=jU cT abg
def zA (a:Fr):Fr × Bool :=
 let c0:=du a.l0 rLimbs.l0 false
 let c1:=du a.l1 rLimbs.l1 c0
 let c2:=du a.l2 rLimbs.l2 c1
 (⟨fe a.l0 rLimbs.l0 false,fe a.l1 rLimbs.l1 c0,fe a.l2 rLimbs.l2 c1,fe a.l3 rLimbs.l3 c2⟩,du a.l3 rLimbs.l3 c2)
def lD (a:Fr) (over:UInt64):Fr:=match decide (over<b2u (zA a).2) with | true=>a | false=>(zA a).1
theorem Ym:CallOk Tryz.prog 115 (K2 (aa Fr).arg kU64.arg r4.res lD) :=
 P2 aix Tryz.func115 (ac Tryz.func115 (by kernel_rfl) (by kernel_rfl)) 100 (aa Fr) kU64 r4 lD
  (T:=fun a o => .br (decide (o<b2u (zA a).2)) (.leaf (some a)) (.leaf (some (zA a).1))) (by intro a o;kernel_rfl)
  (by intro a o;exact ⟨fun h=>congrArg some (by unfold lD;rw [h]),fun h=>congrArg some (by unfold lD;rw [h])⟩)
noncomputable def T2r:cQ:=(115,K2 (aa Fr).arg kU64.arg r4.res lD) :: (69,K2 kU64.arg kU64.arg (kU64.rs2 kU64).res fun x y=>(fD x y,x*y)) :: T1r
theorem air:TableOk Tryz.prog T2r := .cons Ym (.cons rO abg)
noncomputable def E2r:Env:=wS Tryz.prog T2r []
theorem qX:EnvOk E2r:=jU cT air
def aja:UInt64:=0xfffffffeffffffff
def C0 (t0 t1 t2 t3 top:UInt64) (more:Bool):L5 :=
 let x:=t0*aja
 let d0:=fD x rLimbs.l0+b2u (ci (x*rLimbs.l0) t0 false)
 let d1:=fg x rLimbs.l1 t1 d0
 let d2:=fg x rLimbs.l2 t2 d1
 let d3:=fg x rLimbs.l3 t3 d2
 ⟨jd x rLimbs.l1 t1 d0,jd x rLimbs.l2 t2 d1,jd x rLimbs.l3 t3 d2,eg top d3 false,b2u more+b2u (ci top d3 false)⟩
def iO (a:Fr) (b:UInt64) (t:L5):L5 :=
 let c0:=fg a.l0 b t.t0 0
 let c1:=fg a.l1 b t.t1 c0
 let c2:=fg a.l2 b t.t2 c1
 let c3:=fg a.l3 b t.t3 c2
 C0 (jd a.l0 b t.t0 0) (jd a.l1 b t.t1 c0) (jd a.l2 b t.t2 c1) (jd a.l3 b t.t3 c2) (eg t.t4 c3 false) (ci t.t4 c3 false)
def ML (a b:Fr):L5:=iO a b.l0 ⟨0,0,0,0,0⟩
def MK (a b:Fr):L5:=iO a b.l1 (ML a b)
def MJ (a b:Fr):L5:=iO a b.l2 (MK a b)
def kF (a b:Fr):L5:=iO a b.l3 (MJ a b)
def l8 (a b:Fr):Fr:=lD (kF a b).low (kF a b).t4
def sD (a b:Fr) (k:Nat) (t:List Cell):St :=
 aw 139 [(2,bv 0),(3,bv 1),(4,bv 2),(5,bv 3),(6,bv 4),(18,aaA k)] [own 24 (Row.cs a),own 24 (Row.cs b),own 24 (bO 4),own 24 (Row.cs rLimbs),own 148 t]
noncomputable def h4Code:List Code:=flat (af Tryz.f60)
noncomputable def uW:Code:=bk Tryz.f60 0
theorem FA (a b:Fr):b8 E2r 100 (h4Code.take 4) (ah Tryz.f60 [v4 a,v4 b] []) [2,3,4,5,6,18] [0,1,2,3,4] = .leaf (sD a b 0 (bO 5)):=by kernel_rfl
theorem Cn (a b:Fr):bm E2r 100 uW (sD a b 0 (bO 5)) ma = .leaf (.normal,sD a b 1 (iO a b.l0 ⟨0,0,0,0,0⟩).cs):=by kernel_rfl
theorem Cm (a b:Fr) (t:L5):bm E2r 100 uW (sD a b 1 t.cs) ma = .leaf (.normal,sD a b 2 (iO a b.l1 t).cs):=by kernel_rfl
theorem Cl (a b:Fr) (t:L5):bm E2r 100 uW (sD a b 2 t.cs) ma = .leaf (.normal,sD a b 3 (iO a b.l2 t).cs):=by kernel_rfl
theorem Ck (a b:Fr) (t:L5):bm E2r 100 uW (sD a b 3 t.cs) ma = .leaf (.normal,sD a b 4 (iO a b.l3 t).cs):=by kernel_rfl
theorem Tf (a b:Fr) (t:L5):bm E2r 100 uW (sD a b 4 t.cs) ma = .leaf (.exit 0,sD a b 4 t.cs):=by kernel_rfl
theorem Tg (a b:Fr) (t:L5):af0 E2r r4 100 Tryz.f60 (h4Code.drop 5) (sD a b 4 t.cs) = .leaf (some (lD t.low t.t4)):=by kernel_rfl
theorem FB:h4Code.drop 4 = .block 0 (.loop uW) :: h4Code.drop 5:=by kernel_rfl
def Ld (a b:Fr) (k:Fin 5):St :=
 match k with
 | 0=>sD a b 0 (bO 5)
 | 1=>sD a b 1 (ML a b).cs
 | 2=>sD a b 2 (MK a b).cs
 | 3=>sD a b 3 (MJ a b).cs
 | 4=>sD a b 4 (kF a b).cs
theorem HQ:CallOk Tryz.prog 60 (Kr2 l8):=by
 refine Q2 (E:=E2r) Tryz.func60 (c:=af Tryz.f60) (by kernel_rfl) (ac Tryz.func60 (by kernel_rfl) (by kernel_rfl)) (aa Fr) (aa Fr) r4 l8 fun a b => ?_
 refine DoesL.stageTo qX 100 4 [2,3,4,5,6,18] [0,1,2,3,4] (FA a b) ?_
 refine DoesL.blockLoop FB (Ld a b) (fun k=>4-k.1) 0 fun k => ?_
 match k with
 | 0=>exact Does.round qX 100 ma (Cn a b) ⟨1,by decide,by simp only [Ld,ML]⟩
 | 1=>exact Does.round qX 100 ma (Cm a b _) ⟨2,by decide,by simp only [Ld,MK]⟩
 | 2=>exact Does.round qX 100 ma (Cl a b _) ⟨3,by decide,by simp only [Ld,MJ]⟩
 | 3=>exact Does.round qX 100 ma (Ck a b _) ⟨4,by decide,by simp only [Ld,kF]⟩
 | 4=>exact Does.round qX 100 ma (Tf a b _) ⟨rfl,DoesL.fin qX 100 (Tg a b _) (Tree.sat_leaf (by simp only [l8]))⟩
theorem Jb:CallOk Tryz.prog 113 (Kr0 sq4Limbs):=P0 L6 Tryz.func113 (ac Tryz.func113 (by kernel_rfl) (by kernel_rfl)) 100 r4 sq4Limbs (T := .leaf (some sq4Limbs)) (by kernel_rfl) rfl
def yS (a:Fr):Fr:=l8 a sq4Limbs
theorem IN (hF:Fr->Fr->Fr) (q a:Fr):ab (En [(60,Kr2 hF),(113,Kr0 q)]) r4 100 Tryz.f59 [v4 a] = .leaf (some (hF a q)):=by kernel_rfl
theorem Pz:CallOk Tryz.prog 59 (Kr1 yS):=P1 (ag (.cons HQ (.cons Jb .nil))) Tryz.func59 (ac Tryz.func59 (by kernel_rfl) (by kernel_rfl)) 100 (aa Fr) r4 yS (IN l8 sq4Limbs) (fun _=>Tree.sat_leaf (by simp only [yS]))
def k6 (a b:Fr):Fr:=yS (l8 a b)
theorem Sb (hF:Fr->Fr->Fr) (wF:Fr->Fr) (a b:Fr):ab (En [(60,Kr2 hF),(59,Kr1 wF)]) r4 100 Tryz.f31 [v4 a,v4 b] = .leaf (some (wF (hF a b))):=by kernel_rfl
theorem XM:CallOk Tryz.prog 31 (Kr2 k6):=P2 (ag (.cons HQ (.cons Pz .nil))) Tryz.func31 (ac Tryz.func31 (by kernel_rfl) (by kernel_rfl)) 100 (aa Fr) (aa Fr) r4 k6 (Sb l8 yS) (fun _ _=>Tree.sat_leaf (by simp only [k6]))
def zt (n:UInt64):Fr:=⟨n,0,0,0⟩
theorem Xq (n:UInt64):ab (En []) r4 100 Tryz.f28 [vU n] = .leaf (some (zt n)):=by kernel_rfl
theorem adJ:CallOk Tryz.prog 28 (K1 kU64.arg r4.res zt):=P1 (ag .nil) Tryz.func28 (ac Tryz.func28 (by kernel_rfl) (by kernel_rfl)) 100 kU64 r4 zt Xq (fun _=>Tree.sat_leaf (by simp only [zt]))
end
set_option maxRecDepth 100000
section
def frZ:Fr:=⟨UInt64.ofNat 0,UInt64.ofNat 0,UInt64.ofNat 0,UInt64.ofNat 0⟩
section
variable (aF mF : Fr -> Fr -> Fr)
end
end
set_option maxRecDepth 100000
section
theorem Uw (m:Nat) (h:m<4294967296):IntKind.i64.wrap ((m:Int)+1)=((m+1:Nat):Int):=(IntWalk.i64_in _ (by omega)).trans (by omega)
theorem up (m:Nat):0+((m:Nat):Int).toNat=m:=by omega
section
variable {aF mF : Fr -> Fr -> Fr}
end
end
section
def sy (f0:Fp->Bool) (a:Fp2):Bool:=(match (f0 a.c0) with | true=>((f0 a.c1)) | false=>((false)))
def Ov (f0:Fp->Bool) (a:Fp2):Tree (Option (Bool)) :=
 (.br (f0 a.c0)
  (.leaf (some ((f0 a.c1))))
  (.leaf (some ((false)))))
theorem SE (f0:Fp->Bool) (a:Fp2):ab (En [(147,Kfb f0)]) kBool.rs 300 Tryz.f166 [.one ((aa Fp2).av a)]=Ov f0 a:=by kernel_rfl
theorem SD (f0:Fp->Bool) (a:Fp2):(Ov f0 a).sat fun q=>q=some (sy f0 a):=⟨fun h0=>(show some _=some _ from congrArg some (by unfold sy;rw [h0])),fun h0=>(show some _=some _ from congrArg some (by unfold sy;rw [h0]))⟩
def Ad (a:Fp2):Bool:=sy qG a
theorem Yc:CallOk Tryz.prog 166 (K1 (aa Fp2).arg kBool.rs.res Ad) :=
 P1 (ag (.cons MA .nil)) Tryz.func166 (ac Tryz.func166 (by kernel_rfl) (by kernel_rfl)) 300 (aa Fp2) kBool.rs Ad (SE qG) (SD qG)
def DF (f0:Fp->Fp->Fp) (a:Fp2) (b:Fp2):Fp2:=({ c0:=f0 a.c0 b.c0,c1:=f0 a.c1 b.c1 })
def Ph (f0:Fp->Fp->Fp) (a:Fp2) (b:Fp2):Tree (Option (Fp2)) :=
 (.leaf (some ({ c0:=f0 a.c0 b.c0,c1:=f0 a.c1 b.c1 })))
theorem Uq (f0:Fp->Fp->Fp) (a:Fp2) (b:Fp2):ab (En [(90,Kff f0)]) (aa Fp2).rs 300 Tryz.f94 [.one ((aa Fp2).av a),.one ((aa Fp2).av b)]=Ph f0 a b:=by kernel_rfl
theorem Up (f0:Fp->Fp->Fp) (a:Fp2) (b:Fp2):(Ph f0 a b).sat fun q=>q=some (DF f0 a b):=(show some _=some _ from rfl)
def az (a:Fp2) (b:Fp2):Fp2:=DF cP a b
theorem eH:CallOk Tryz.prog 94 (K2 (aa Fp2).arg (aa Fp2).arg (aa Fp2).rs.res az) :=
 P2 (ag (.cons m8 .nil)) Tryz.func94 (ac Tryz.func94 (by kernel_rfl) (by kernel_rfl)) 300 (aa Fp2) (aa Fp2) (aa Fp2).rs az (Uq cP) (Up cP)
def CT (f0:Fp->Fp->Fp) (a:Fp2) (b:Fp2):Fp2:=({ c0:=f0 a.c0 b.c0,c1:=f0 a.c1 b.c1 })
def Nx (f0:Fp->Fp->Fp) (a:Fp2) (b:Fp2):Tree (Option (Fp2)) :=
 (.leaf (some ({ c0:=f0 a.c0 b.c0,c1:=f0 a.c1 b.c1 })))
theorem Qg (f0:Fp->Fp->Fp) (a:Fp2) (b:Fp2):ab (En [(131,Kff f0)]) (aa Fp2).rs 300 Tryz.f163 [.one ((aa Fp2).av a),.one ((aa Fp2).av b)]=Nx f0 a b:=by kernel_rfl
theorem Qf (f0:Fp->Fp->Fp) (a:Fp2) (b:Fp2):(Nx f0 a b).sat fun q=>q=some (CT f0 a b):=(show some _=some _ from rfl)
def aG (a:Fp2) (b:Fp2):Fp2:=CT dM a b
theorem fm:CallOk Tryz.prog 163 (K2 (aa Fp2).arg (aa Fp2).arg (aa Fp2).rs.res aG) :=
 P2 (ag (.cons sub_ok .nil)) Tryz.func163 (ac Tryz.func163 (by kernel_rfl) (by kernel_rfl)) 300 (aa Fp2) (aa Fp2) (aa Fp2).rs aG (Qg dM) (Qf dM)
def De (f0:Fp->Fp) (a:Fp2):Fp2:=({ c0:=f0 a.c0,c1:=f0 a.c1 })
def Oj (f0:Fp->Fp) (a:Fp2):Tree (Option (Fp2)) :=
 (.leaf (some ({ c0:=f0 a.c0,c1:=f0 a.c1 })))
theorem R7 (f0:Fp->Fp) (a:Fp2):ab (En [(68,Kf f0)]) (aa Fp2).rs 300 Tryz.f156 [.one ((aa Fp2).av a)]=Oj f0 a:=by kernel_rfl
theorem R6 (f0:Fp->Fp) (a:Fp2):(Oj f0 a).sat fun q=>q=some (De f0 a):=(show some _=some _ from rfl)
def b9 (a:Fp2):Fp2:=De dV a
theorem yo:CallOk Tryz.prog 156 (K1 (aa Fp2).arg (aa Fp2).rs.res b9) :=
 P1 (ag (.cons zx .nil)) Tryz.func156 (ac Tryz.func156 (by kernel_rfl) (by kernel_rfl)) 300 (aa Fp2) (aa Fp2).rs b9 (R7 dV) (R6 dV)
def yG (f0:Fp->Fp->Fp) (f1:Fp->Fp->Fp) (f2:Fp->Fp->Fp) (a:Fp2) (b:Fp2):Fp2:=({ c0:=f2 (f0 a.c0 b.c0) (f0 a.c1 b.c1),c1:=f2 (f0 (f1 a.c0 a.c1) (f1 b.c0 b.c1)) (f1 (f0 a.c0 b.c0) (f0 a.c1 b.c1)) })
def HS (f0:Fp->Fp->Fp) (f1:Fp->Fp->Fp) (f2:Fp->Fp->Fp) (a:Fp2) (b:Fp2):Tree (Option (Fp2)) :=
 (.leaf (some ({ c0:=f2 (f0 a.c0 b.c0) (f0 a.c1 b.c1),c1:=f2 (f0 (f1 a.c0 a.c1) (f1 b.c0 b.c1)) (f1 (f0 a.c0 b.c0) (f0 a.c1 b.c1)) })))
theorem Lb (f0:Fp->Fp->Fp) (f1:Fp->Fp->Fp) (f2:Fp->Fp->Fp) (a:Fp2) (b:Fp2):ab (En [(152,Kff f0),(90,Kff f1),(131,Kff f2)]) (aa Fp2).rs 300 Tryz.f157 [.one ((aa Fp2).av a),.one ((aa Fp2).av b)]=HS f0 f1 f2 a b:=by kernel_rfl
theorem La (f0:Fp->Fp->Fp) (f1:Fp->Fp->Fp) (f2:Fp->Fp->Fp) (a:Fp2) (b:Fp2):(HS f0 f1 f2 a b).sat fun q=>q=some (yG f0 f1 f2 a b):=(show some _=some _ from rfl)
def ad (a:Fp2) (b:Fp2):Fp2:=yG aP cP dM a b
theorem cw:CallOk Tryz.prog 157 (K2 (aa Fp2).arg (aa Fp2).arg (aa Fp2).rs.res ad) :=
 P2 (ag (.cons mw (.cons m8 (.cons sub_ok .nil)))) Tryz.func157 (ac Tryz.func157 (by kernel_rfl) (by kernel_rfl)) 300 (aa Fp2) (aa Fp2) (aa Fp2).rs ad (Lb aP cP dM) (La aP cP dM)
def sP (f0:Fp->Fp) (a:Fp2):Fp2:=({ c0:=f0 a.c0,c1:=f0 a.c1 })
def Aq (f0:Fp->Fp) (a:Fp2):Tree (Option (Fp2)) :=
 (.leaf (some ({ c0:=f0 a.c0,c1:=f0 a.c1 })))
theorem EJ (f0:Fp->Fp) (a:Fp2):ab (En [(112,Kf f0)]) (aa Fp2).rs 300 Tryz.f107 [.one ((aa Fp2).av a)]=Aq f0 a:=by kernel_rfl
theorem EI (f0:Fp->Fp) (a:Fp2):(Aq f0 a).sat fun q=>q=some (sP f0 a):=(show some _=some _ from rfl)
def ax (a:Fp2):Fp2:=sP bf a
theorem fv:CallOk Tryz.prog 107 (K1 (aa Fp2).arg (aa Fp2).rs.res ax) :=
 P1 (ag (.cons np .nil)) Tryz.func107 (ac Tryz.func107 (by kernel_rfl) (by kernel_rfl)) 300 (aa Fp2) (aa Fp2).rs ax (EJ bf) (EI bf)
def Do (f0:Fp->Fp) (a:Fp2):Fp2:=({ c0:=f0 a.c0,c1:=f0 a.c1 })
def Oz (f0:Fp->Fp) (a:Fp2):Tree (Option (Fp2)) :=
 (.leaf (some ({ c0:=f0 a.c0,c1:=f0 a.c1 })))
theorem SO (f0:Fp->Fp) (a:Fp2):ab (En [(109,Kf f0)]) (aa Fp2).rs 300 Tryz.f104 [.one ((aa Fp2).av a)]=Oz f0 a:=by kernel_rfl
theorem SN (f0:Fp->Fp) (a:Fp2):(Oz f0 a).sat fun q=>q=some (Do f0 a):=(show some _=some _ from rfl)
def cM (a:Fp2):Fp2:=Do iR a
theorem rR:CallOk Tryz.prog 104 (K1 (aa Fp2).arg (aa Fp2).rs.res cM) :=
 P1 (ag (.cons MD .nil)) Tryz.func104 (ac Tryz.func104 (by kernel_rfl) (by kernel_rfl)) 300 (aa Fp2) (aa Fp2).rs cM (SO iR) (SN iR)
def Dj (f0:Fp2->Fp2->Fp2) (f1:Fp2->Fp2) (a:Fp2) (b:Fp2):Fp2:=(f1 (f0 a b))
def Oq (f0:Fp2->Fp2->Fp2) (f1:Fp2->Fp2) (a:Fp2) (b:Fp2):Tree (Option (Fp2)) :=
 (.leaf (some (f1 (f0 a b))))
theorem Sm (f0:Fp2->Fp2->Fp2) (f1:Fp2->Fp2) (a:Fp2) (b:Fp2):ab (En [(157,K2 (aa Fp2).arg (aa Fp2).arg (aa Fp2).rs.res f0),(107,K1 (aa Fp2).arg (aa Fp2).rs.res f1)]) (aa Fp2).rs 300 Tryz.f95 [.one ((aa Fp2).av a),.one ((aa Fp2).av b)]=Oq f0 f1 a b:=by kernel_rfl
theorem Sl (f0:Fp2->Fp2->Fp2) (f1:Fp2->Fp2) (a:Fp2) (b:Fp2):(Oq f0 f1 a b).sat fun q=>q=some (Dj f0 f1 a b):=(show some _=some _ from rfl)
def aR (a:Fp2) (b:Fp2):Fp2:=Dj ad ax a b
theorem lA:CallOk Tryz.prog 95 (K2 (aa Fp2).arg (aa Fp2).arg (aa Fp2).rs.res aR) :=
 P2 (ag (.cons cw (.cons fv .nil))) Tryz.func95 (ac Tryz.func95 (by kernel_rfl) (by kernel_rfl)) 300 (aa Fp2) (aa Fp2) (aa Fp2).rs aR (Sm ad ax) (Sl ad ax)
def yM (f0:Fp->Fp) (a:Fp2):Fp2:=({ c0:=a.c0,c1:=f0 a.c1 })
def Ib (f0:Fp->Fp) (a:Fp2):Tree (Option (Fp2)) :=
 (.leaf (some ({ c0:=a.c0,c1:=f0 a.c1 })))
theorem LF (f0:Fp->Fp) (a:Fp2):ab (En [(68,Kf f0)]) (aa Fp2).rs 300 Tryz.f162 [.one ((aa Fp2).av a)]=Ib f0 a:=by kernel_rfl
theorem LD (f0:Fp->Fp) (a:Fp2):(Ib f0 a).sat fun q=>q=some (yM f0 a):=(show some _=some _ from rfl)
def cU (a:Fp2):Fp2:=yM dV a
theorem BB:CallOk Tryz.prog 162 (K1 (aa Fp2).arg (aa Fp2).rs.res cU) :=
 P1 (ag (.cons zx .nil)) Tryz.func162 (ac Tryz.func162 (by kernel_rfl) (by kernel_rfl)) 300 (aa Fp2) (aa Fp2).rs cU (LF dV) (LD dV)
def Mg (f0:Fp->Fp->Fp) (f1:Fp->Fp->Fp) (a:Fp2):Fp2:=({ c0:=f1 a.c0 a.c1,c1:=f0 a.c0 a.c1 })
def ZI (f0:Fp->Fp->Fp) (f1:Fp->Fp->Fp) (a:Fp2):Tree (Option (Fp2)) :=
 (.leaf (some ({ c0:=f1 a.c0 a.c1,c1:=f0 a.c0 a.c1 })))
theorem Ve (f0:Fp->Fp->Fp) (f1:Fp->Fp->Fp) (a:Fp2):ab (En [(90,Kff f0),(131,Kff f1)]) (aa Fp2).rs 300 Tryz.f187 [.one ((aa Fp2).av a)]=ZI f0 f1 a:=by kernel_rfl
theorem Vd (f0:Fp->Fp->Fp) (f1:Fp->Fp->Fp) (a:Fp2):(ZI f0 f1 a).sat fun q=>q=some (Mg f0 f1 a):=(show some _=some _ from rfl)
def iv (a:Fp2):Fp2:=Mg cP dM a
theorem vE:CallOk Tryz.prog 187 (K1 (aa Fp2).arg (aa Fp2).rs.res iv) :=
 P1 (ag (.cons m8 (.cons sub_ok .nil))) Tryz.func187 (ac Tryz.func187 (by kernel_rfl) (by kernel_rfl)) 300 (aa Fp2) (aa Fp2).rs iv (Ve cP dM) (Vd cP dM)
def ym (f0:Fp->Fp->Fp) (f1:Fp->Fp->Fp) (a:Fp2):Fp:=(f0 (f1 a.c0 a.c0) (f1 a.c1 a.c1))
def Ho (f0:Fp->Fp->Fp) (f1:Fp->Fp->Fp) (a:Fp2):Tree (Option (Fp)) :=
 (.leaf (some (f0 (f1 a.c0 a.c0) (f1 a.c1 a.c1))))
theorem Km (f0:Fp->Fp->Fp) (f1:Fp->Fp->Fp) (a:Fp2):ab (En [(90,Kff f0),(91,Kff f1)]) (aa Fp).rs 300 Tryz.f154 [.one ((aa Fp2).av a)]=Ho f0 f1 a:=by kernel_rfl
theorem Kl (f0:Fp->Fp->Fp) (f1:Fp->Fp->Fp) (a:Fp2):(Ho f0 f1 a).sat fun q=>q=some (ym f0 f1 a):=(show some _=some _ from rfl)
def eS (a:Fp2):Fp:=ym cP bT a
theorem AZ:CallOk Tryz.prog 154 (K1 (aa Fp2).arg (aa Fp).rs.res eS) :=
 P1 (ag (.cons m8 (.cons pf .nil))) Tryz.func154 (ac Tryz.func154 (by kernel_rfl) (by kernel_rfl)) 300 (aa Fp2) (aa Fp).rs eS (Km cP bT) (Kl cP bT)
def pS (f0:Fp->Fp->Fp) (a:Fp2) (k:Fp):Fp2:=({ c0:=f0 a.c0 k,c1:=f0 a.c1 k })
def wb (f0:Fp->Fp->Fp) (a:Fp2) (k:Fp):Tree (Option (Fp2)) :=
 (.leaf (some ({ c0:=f0 a.c0 k,c1:=f0 a.c1 k })))
theorem BX (f0:Fp->Fp->Fp) (a:Fp2) (k:Fp):ab (En [(91,Kff f0)]) (aa Fp2).rs 300 Tryz.f161 [.one ((aa Fp2).av a),.one ((aa Fp).av k)]=wb f0 a k:=by kernel_rfl
theorem BW (f0:Fp->Fp->Fp) (a:Fp2) (k:Fp):(wb f0 a k).sat fun q=>q=some (pS f0 a k):=(show some _=some _ from rfl)
def gB (a:Fp2) (k:Fp):Fp2:=pS bT a k
theorem E5:CallOk Tryz.prog 161 (K2 (aa Fp2).arg (aa Fp).arg (aa Fp2).rs.res gB) :=
 P2 (ag (.cons pf .nil)) Tryz.func161 (ac Tryz.func161 (by kernel_rfl) (by kernel_rfl)) 300 (aa Fp2) (aa Fp) (aa Fp2).rs gB (BX bT) (BW bT)
def kT (f0:Fp->Fp × Int) (f1:Fp2->Fp) (f2:Fp2->Fp->Fp2) (f3:Fp2->Fp2) (a:Fp2):Fp2 × Int:=(match ((f0 (f1 a)).snd != 0) with | true=>((zeroFp2,(f0 (f1 a)).snd)) | false=>((f2 (f3 a) (f0 (f1 a)).fst,0)))
def OG (f0:Fp->Fp × Int) (f1:Fp2->Fp) (f2:Fp2->Fp->Fp2) (f3:Fp2->Fp2) (a:Fp2):Tree (Option (Fp2 × Int)) :=
 (.br ((f0 (f1 a)).snd != 0)
  (.leaf (some ((zeroFp2,(f0 (f1 a)).snd))))
  (.leaf (some ((f2 (f3 a) (f0 (f1 a)).fst,0)))))
theorem S9 (f0:Fp->Fp × Int) (f1:Fp2->Fp) (f2:Fp2->Fp->Fp2) (f3:Fp2->Fp2) (a:Fp2):ab (En [(108,afd f0),(154,K1 (aa Fp2).arg (aa Fp).rs.res f1),(161,K2 (aa Fp2).arg (aa Fp).arg (aa Fp2).rs.res f2),(162,K1 (aa Fp2).arg (aa Fp2).rs.res f3)]) ((aa Fp2).rs2 kInt) 300 Tryz.f103 [.one ((aa Fp2).av a)]=OG f0 f1 f2 f3 a:=by kernel_rfl
theorem S8 (f0:Fp->Fp × Int) (f1:Fp2->Fp) (f2:Fp2->Fp->Fp2) (f3:Fp2->Fp2) (a:Fp2):(OG f0 f1 f2 f3 a).sat fun q=>q=some (kT f0 f1 f2 f3 a):=⟨fun h0=>(show some _=some _ from congrArg some (by unfold kT;rw [h0])),fun h0=>(show some _=some _ from congrArg some (by unfold kT;rw [h0]))⟩
def d7 (a:Fp2):Fp2 × Int:=kT dc eS gB cU a
theorem yD:CallOk Tryz.prog 103 (K1 (aa Fp2).arg ((aa Fp2).rs2 kInt).res d7) :=
 P1 (ag (.cons MG (.cons AZ (.cons E5 (.cons BB .nil))))) Tryz.func103 (ac Tryz.func103 (by kernel_rfl) (by kernel_rfl)) 300 (aa Fp2) ((aa Fp2).rs2 kInt) d7 (S9 dc eS gB cU) (S8 dc eS gB cU)
def jr (f0:Fp->Bool) (a:Fp2):Bool:=(match (cH (a.c1) (zeroFp)) with | true=>((f0 a.c0)) | false=>((f0 a.c1)))
def Bm (f0:Fp->Bool) (a:Fp2):Tree (Option (Bool)) :=
 (.br (cH (a.c1) (zeroFp))
  (.leaf (some ((f0 a.c0))))
  (.leaf (some ((f0 a.c1)))))
theorem FN (f0:Fp->Bool) (a:Fp2):ab (En [(101,Kfb f0)]) kBool.rs 300 Tryz.f102 [.one ((aa Fp2).av a)]=Bm f0 a:=by kernel_rfl
theorem FM (f0:Fp->Bool) (a:Fp2):(Bm f0 a).sat fun q=>q=some (jr f0 a):=⟨fun h0=>(show some _=some _ from congrArg some (by unfold jr;rw [h0])),fun h0=>(show some _=some _ from congrArg some (by unfold jr;rw [h0]))⟩
def bX (a:Fp2):Bool:=jr bB a
theorem Lg:CallOk Tryz.prog 102 (K1 (aa Fp2).arg kBool.rs.res bX) :=
 P1 (ag (.cons HT .nil)) Tryz.func102 (ac Tryz.func102 (by kernel_rfl) (by kernel_rfl)) 300 (aa Fp2) kBool.rs bX (FN bB) (FM bB)
def ed (f0:Fp->Fp × Bool) (f1:Fp->Fp) (a:Fp):Fp2:=(match ((f0 a).snd) with | true=>({ c0:=(f0 a).fst,c1:=zeroFp }) | false=>({ c0:=zeroFp,c1:=(f0 (f1 a)).fst }))
def v7 (f0:Fp->Fp × Bool) (f1:Fp->Fp) (a:Fp):Tree (Option (Fp2)) :=
 (.br ((f0 a).snd)
  (.leaf (some ({ c0:=(f0 a).fst,c1:=zeroFp })))
  (.leaf (some ({ c0:=zeroFp,c1:=(f0 (f1 a)).fst }))))
theorem BV (f0:Fp->Fp × Bool) (f1:Fp->Fp) (a:Fp):ab (En [(89,EE f0),(68,Kf f1)]) (aa Fp2).rs 300 Tryz.f153 [.one ((aa Fp).av a)]=v7 f0 f1 a:=by kernel_rfl
theorem BU (f0:Fp->Fp × Bool) (f1:Fp->Fp) (a:Fp):(v7 f0 f1 a).sat fun q=>q=some (ed f0 f1 a):=⟨fun h0=>(show some _=some _ from congrArg some (by unfold ed;rw [h0])),fun h0=>(show some _=some _ from congrArg some (by unfold ed;rw [h0]))⟩
def ez (a:Fp):Fp2:=ed aT dV a
theorem E4:CallOk Tryz.prog 153 (K1 (aa Fp).arg (aa Fp2).rs.res ez) :=
 P1 (ag (.cons vY (.cons zx .nil))) Tryz.func153 (ac Tryz.func153 (by kernel_rfl) (by kernel_rfl)) 300 (aa Fp) (aa Fp2).rs ez (BV aT dV) (BU aT dV)
def i6 (f0:Fp->Fp × Int) (f1:UInt64->Fp) (f2:Fp->Fp × Bool) (f3:Fp->Fp->Fp) (f4:Fp->Fp->Fp) (f5:Fp->Fp->Fp) (a:Fp2) (n:Fp):Fp2:=(match (!((f2 (f5 (f3 a.c0 n) (f0 (f1 (2:UInt64))).fst)).snd)) with | true=>({ c0:=(f2 (f5 (f4 a.c0 n) (f0 (f1 (2:UInt64))).fst)).fst,c1:=f5 (f5 a.c1 (f0 (f1 (2:UInt64))).fst) (f0 (f2 (f5 (f4 a.c0 n) (f0 (f1 (2:UInt64))).fst)).fst).fst }) | false=>({ c0:=(f2 (f5 (f3 a.c0 n) (f0 (f1 (2:UInt64))).fst)).fst,c1:=f5 (f5 a.c1 (f0 (f1 (2:UInt64))).fst) (f0 (f2 (f5 (f3 a.c0 n) (f0 (f1 (2:UInt64))).fst)).fst).fst }))
def In (f0:Fp->Fp × Int) (f1:UInt64->Fp) (f2:Fp->Fp × Bool) (f3:Fp->Fp->Fp) (f4:Fp->Fp->Fp) (f5:Fp->Fp->Fp) (a:Fp2) (n:Fp):Tree (Option (Fp2)):=letI za':=(f0 (f1 (2:UInt64)));letI zb':=f2 (f5 (f3 a.c0 n) za'.fst);letI zc':=f2 (f5 (f4 a.c0 n) za'.fst);
 (.br (!(zb'.snd)) (.leaf (some ({ c0:=zc'.fst,c1:=f5 (f5 a.c1 za'.fst) (f0 zc'.fst).fst }))) (.leaf (some ({ c0:=zb'.fst,c1:=f5 (f5 a.c1 za'.fst) (f0 zb'.fst).fst }))))
theorem LO (f0:Fp->Fp × Int) (f1:UInt64->Fp) (f2:Fp->Fp × Bool) (f3:Fp->Fp->Fp) (f4:Fp->Fp->Fp) (f5:Fp->Fp->Fp) (a:Fp2) (n:Fp):ab (En [(108,afd f0),(92,Kof f1),(89,EE f2),(90,Kff f3),(131,Kff f4),(91,Kff f5)]) (aa Fp2).rs 300 Tryz.f155 [.one ((aa Fp2).av a),.one ((aa Fp).av n)]=In f0 f1 f2 f3 f4 f5 a n:=by kernel_rfl
theorem LN (f0:Fp->Fp × Int) (f1:UInt64->Fp) (f2:Fp->Fp × Bool) (f3:Fp->Fp->Fp) (f4:Fp->Fp->Fp) (f5:Fp->Fp->Fp) (a:Fp2) (n:Fp):(In f0 f1 f2 f3 f4 f5 a n).sat fun q=>q=some (i6 f0 f1 f2 f3 f4 f5 a n):=⟨fun h0=>(show some _=some _ from congrArg some (by unfold i6;rw [h0])),fun h0=>(show some _=some _ from congrArg some (by unfold i6;rw [h0]))⟩
def m6 (a:Fp2) (n:Fp):Fp2:=i6 dc ofF aT cP dM bT a n
theorem T7:CallOk Tryz.prog 155 (K2 (aa Fp2).arg (aa Fp).arg (aa Fp2).rs.res m6) :=
 P2 (ag (.cons MG (.cons of_ok (.cons vY (.cons m8 (.cons sub_ok (.cons pf .nil))))))) Tryz.func155 (ac Tryz.func155 (by kernel_rfl) (by kernel_rfl)) 300 (aa Fp2) (aa Fp) (aa Fp2).rs m6 (LO dc ofF aT cP dM bT) (LN dc ofF aT cP dM bT)
def cJ (f0:Fp->Fp2) (f1:Fp2->Fp) (f2:Fp->Fp × Bool) (f3:Fp2->Fp->Fp2) (f4:Fp2->Fp2->Fp2) (f5:Fp2->Bool) (f6:Fp2->Fp2) (a:Fp2):Fp2 × Bool:=(match (!(cH (a.c1) (zeroFp))) with | true=>(match (!((f2 (f1 a)).snd)) with | true=>((zeroFp2,false)) | false=>(match (!(dj (f4 (f3 a (f2 (f1 a)).fst) (f3 a (f2 (f1 a)).fst)) (a))) with | true=>((zeroFp2,false)) | false=>(match (f5 (f3 a (f2 (f1 a)).fst)) with | true=>((f6 (f3 a (f2 (f1 a)).fst),true)) | false=>((f3 a (f2 (f1 a)).fst,true))))) | false=>(match (!(dj (f4 (f0 a.c0) (f0 a.c0)) (a))) with | true=>((zeroFp2,false)) | false=>(match (f5 (f0 a.c0)) with | true=>((f6 (f0 a.c0),true)) | false=>((f0 a.c0,true)))))
def GA (f0:Fp->Fp2) (f1:Fp2->Fp) (f2:Fp->Fp × Bool) (f3:Fp2->Fp->Fp2) (f4:Fp2->Fp2->Fp2) (f5:Fp2->Bool) (f6:Fp2->Fp2) (a:Fp2):Tree (Option (Fp2 × Bool)):=letI za':=f3 a (f2 (f1 a)).fst;letI zb':=some ((zeroFp2,false));
 (.br (!(cH (a.c1) (zeroFp))) (.br (!((f2 (f1 a)).snd)) (.leaf zb') (.br (!(dj (f4 za' za') (a))) (.leaf zb') (.br (f5 za') (.leaf (some ((f6 za',true)))) (.leaf (some ((f3 a (f2 (f1 a)).fst,true))))))) (.br (!(dj (f4 (f0 a.c0) (f0 a.c0)) (a))) (.leaf zb') (.br (f5 (f0 a.c0)) (.leaf (some ((f6 (f0 a.c0),true)))) (.leaf (some ((f0 a.c0,true)))))))
theorem Jf (f0:Fp->Fp2) (f1:Fp2->Fp) (f2:Fp->Fp × Bool) (f3:Fp2->Fp->Fp2) (f4:Fp2->Fp2->Fp2) (f5:Fp2->Bool) (f6:Fp2->Fp2) (a:Fp2):ab (En [(153,K1 (aa Fp).arg (aa Fp2).rs.res f0),(154,K1 (aa Fp2).arg (aa Fp).rs.res f1),(89,EE f2),(155,K2 (aa Fp2).arg (aa Fp).arg (aa Fp2).rs.res f3),(95,K2 (aa Fp2).arg (aa Fp2).arg (aa Fp2).rs.res f4),(102,K1 (aa Fp2).arg kBool.rs.res f5),(156,K1 (aa Fp2).arg (aa Fp2).rs.res f6)]) ((aa Fp2).rs2 kBool) 300 Tryz.f93 [.one ((aa Fp2).av a)]=GA f0 f1 f2 f3 f4 f5 f6 a:=by kernel_rfl
theorem Je (f0:Fp->Fp2) (f1:Fp2->Fp) (f2:Fp->Fp × Bool) (f3:Fp2->Fp->Fp2) (f4:Fp2->Fp2->Fp2) (f5:Fp2->Bool) (f6:Fp2->Fp2) (a:Fp2):(GA f0 f1 f2 f3 f4 f5 f6 a).sat fun q=>q=some (cJ f0 f1 f2 f3 f4 f5 f6 a):=⟨fun h0=>⟨fun h1=>(show some _=some _ from congrArg some (by unfold cJ;rw [h0,h1])),fun h1=>⟨fun h2=>(show some _=some _ from congrArg some (by unfold cJ;rw [h0,h1,h2])),fun h2=>⟨fun h3=>(show some _=some _ from congrArg some (by unfold cJ;rw [h0,h1,h2,h3])),fun h3=>(show some _=some _ from congrArg some (by unfold cJ;rw [h0,h1,h2,h3]))⟩⟩⟩,fun h0=>⟨fun h1=>(show some _=some _ from congrArg some (by unfold cJ;rw [h0,h1])),fun h1=>⟨fun h2=>(show some _=some _ from congrArg some (by unfold cJ;rw [h0,h1,h2])),fun h2=>(show some _=some _ from congrArg some (by unfold cJ;rw [h0,h1,h2]))⟩⟩⟩
def cj (a:Fp2):Fp2 × Bool:=cJ ez eS aT m6 aR bX b9 a
theorem Qp:CallOk Tryz.prog 93 (K1 (aa Fp2).arg ((aa Fp2).rs2 kBool).res cj) :=
 P1 (ag (.cons E4 (.cons AZ (.cons vY (.cons T7 (.cons lA (.cons Lg (.cons yo .nil)))))))) Tryz.func93 (ac Tryz.func93 (by kernel_rfl) (by kernel_rfl)) 300 (aa Fp2) ((aa Fp2).rs2 kBool) cj (Jf ez eS aT m6 aR bX b9) (Je ez eS aT m6 aR bX b9)
end
section
def DG (f0:Fp->Fp->Fp) (a:Fp2) (b:Fp2):Fp2:=({ c0:=f0 a.c0 b.c0,c1:=f0 a.c1 b.c1 })
def Pi (f0:Fp->Fp->Fp) (a:Fp2) (b:Fp2):Tree (Option (Fp2)) :=
 (.leaf (some ({ c0:=f0 a.c0 b.c0,c1:=f0 a.c1 b.c1 })))
theorem Us (f0:Fp->Fp->Fp) (a:Fp2) (b:Fp2):ab (En [(42,Kff f0)]) (aa Fp2).rs 300 Tryz.f143 [.one ((aa Fp2).av a),.one ((aa Fp2).av b)]=Pi f0 a b:=by kernel_rfl
theorem Ur (f0:Fp->Fp->Fp) (a:Fp2) (b:Fp2):(Pi f0 a b).sat fun q=>q=some (DG f0 a b):=(show some _=some _ from rfl)
def ml (a:Fp2) (b:Fp2):Fp2:=DG mi a b
theorem Iz:CallOk Tryz.prog 143 (K2 (aa Fp2).arg (aa Fp2).arg (aa Fp2).rs.res ml) :=
 P2 (ag (.cons DD .nil)) Tryz.func143 (ac Tryz.func143 (by kernel_rfl) (by kernel_rfl)) 300 (aa Fp2) (aa Fp2) (aa Fp2).rs ml (Us mi) (Ur mi)
def CU (f0:Fp->Fp->Fp) (a:Fp2) (b:Fp2):Fp2:=({ c0:=f0 a.c0 b.c0,c1:=f0 a.c1 b.c1 })
def Ny (f0:Fp->Fp->Fp) (a:Fp2) (b:Fp2):Tree (Option (Fp2)) :=
 (.leaf (some ({ c0:=f0 a.c0 b.c0,c1:=f0 a.c1 b.c1 })))
theorem Qi (f0:Fp->Fp->Fp) (a:Fp2) (b:Fp2):ab (En [(139,Kff f0)]) (aa Fp2).rs 300 Tryz.f142 [.one ((aa Fp2).av a),.one ((aa Fp2).av b)]=Ny f0 a b:=by kernel_rfl
theorem Qh (f0:Fp->Fp->Fp) (a:Fp2) (b:Fp2):(Ny f0 a b).sat fun q=>q=some (CU f0 a b):=(show some _=some _ from rfl)
def pQ (a:Fp2) (b:Fp2):Fp2:=CU mG a b
theorem VF:CallOk Tryz.prog 142 (K2 (aa Fp2).arg (aa Fp2).arg (aa Fp2).rs.res pQ) :=
 P2 (ag (.cons CQ .nil)) Tryz.func142 (ac Tryz.func142 (by kernel_rfl) (by kernel_rfl)) 300 (aa Fp2) (aa Fp2) (aa Fp2).rs pQ (Qi mG) (Qh mG)
def Dk (f0:Fp->Fp->Fp) (f1:Fp->Fp->Fp) (f2:Fp->Fp->Fp) (a:Fp2) (b:Fp2):Fp2:=({ c0:=f0 (f1 a.c0 b.c0) (f1 a.c1 b.c1),c1:=f2 (f1 a.c0 b.c1) (f1 a.c1 b.c0) })
def Ot (f0:Fp->Fp->Fp) (f1:Fp->Fp->Fp) (f2:Fp->Fp->Fp) (a:Fp2) (b:Fp2):Tree (Option (Fp2)) :=
 (.leaf (some ({ c0:=f0 (f1 a.c0 b.c0) (f1 a.c1 b.c1),c1:=f2 (f1 a.c0 b.c1) (f1 a.c1 b.c0) })))
theorem So (f0:Fp->Fp->Fp) (f1:Fp->Fp->Fp) (f2:Fp->Fp->Fp) (a:Fp2) (b:Fp2):ab (En [(139,Kff f0),(43,Kff f1),(42,Kff f2)]) (aa Fp2).rs 300 Tryz.f134 [.one ((aa Fp2).av a),.one ((aa Fp2).av b)]=Ot f0 f1 f2 a b:=by kernel_rfl
theorem Sn (f0:Fp->Fp->Fp) (f1:Fp->Fp->Fp) (f2:Fp->Fp->Fp) (a:Fp2) (b:Fp2):(Ot f0 f1 f2 a b).sat fun q=>q=some (Dk f0 f1 f2 a b):=(show some _=some _ from rfl)
def je (a:Fp2) (b:Fp2):Fp2:=Dk mG cL mi a b
theorem rP:CallOk Tryz.prog 134 (K2 (aa Fp2).arg (aa Fp2).arg (aa Fp2).rs.res je) :=
 P2 (ag (.cons CQ (.cons pg (.cons DD .nil)))) Tryz.func134 (ac Tryz.func134 (by kernel_rfl) (by kernel_rfl)) 300 (aa Fp2) (aa Fp2) (aa Fp2).rs je (So mG cL mi) (Sn mG cL mi)
def yN (f0:Fp->Fp) (a:Fp2):Fp2:=({ c0:=a.c0,c1:=f0 a.c1 })
def Ic (f0:Fp->Fp) (a:Fp2):Tree (Option (Fp2)) :=
 (.leaf (some ({ c0:=a.c0,c1:=f0 a.c1 })))
theorem LI (f0:Fp->Fp) (a:Fp2):ab (En [(79,Kf f0)]) (aa Fp2).rs 300 Tryz.f181 [.one ((aa Fp2).av a)]=Ic f0 a:=by kernel_rfl
theorem LH (f0:Fp->Fp) (a:Fp2):(Ic f0 a).sat fun q=>q=some (yN f0 a):=(show some _=some _ from rfl)
def mY (a:Fp2):Fp2:=yN qc a
theorem TL:CallOk Tryz.prog 181 (K1 (aa Fp2).arg (aa Fp2).rs.res mY) :=
 P1 (ag (.cons Of .nil)) Tryz.func181 (ac Tryz.func181 (by kernel_rfl) (by kernel_rfl)) 300 (aa Fp2) (aa Fp2).rs mY (LI qc) (LH qc)
def Dc (f0:UInt64->Fp):Fp2:=({ c0:=f0 (1:UInt64),c1:=zeroFp })
def N6 (f0:UInt64->Fp):Tree (Option (Fp2)) :=
 (.leaf (some ({ c0:=f0 (1:UInt64),c1:=zeroFp })))
theorem RS (f0:UInt64->Fp):ab (En [(40,Kof f0)]) (aa Fp2).rs 300 Tryz.f86 []=N6 f0:=by kernel_rfl
theorem RR (f0:UInt64->Fp):(N6 f0).sat fun q=>q=some (Dc f0):=(show some _=some _ from rfl)
def mM  : Fp2:=Dc ofF
theorem yf:CallOk Tryz.prog 86 (K0 (aa Fp2).rs.res mM) :=
 P0 (ag (.cons D5 .nil)) Tryz.func86 (ac Tryz.func86 (by kernel_rfl) (by kernel_rfl)) 300  (aa Fp2).rs mM (RS ofF) (RR ofF)
def L9 (f0:UInt64->Fp):Fp2:=({ c0:=f0 (1:UInt64),c1:=f0 (1:UInt64) })
def ZB (f0:UInt64->Fp):Tree (Option (Fp2)) :=
 (.leaf (some ({ c0:=f0 (1:UInt64),c1:=f0 (1:UInt64) })))
theorem U5 (f0:UInt64->Fp):ab (En [(40,Kof f0)]) (aa Fp2).rs 300 Tryz.f183 []=ZB f0:=by kernel_rfl
theorem U4 (f0:UInt64->Fp):(ZB f0).sat fun q=>q=some (L9 f0):=(show some _=some _ from rfl)
def xi2R  : Fp2:=L9 ofF
theorem abY:CallOk Tryz.prog 183 (K0 (aa Fp2).rs.res xi2R) :=
 P0 (ag (.cons D5 .nil)) Tryz.func183 (ac Tryz.func183 (by kernel_rfl) (by kernel_rfl)) 300  (aa Fp2).rs xi2R (U5 ofF) (U4 ofF)
def kU (f0:Fp2->Fp2->Fp2) (f1:Fp2->Fp2) (f2:Fp->Fp × Int) (a:Fp2):Fp2 × Int:=(match ((f2 (f0 a (f1 a)).c0).snd != 0) with | true=>((zeroFp2,(f2 (f0 a (f1 a)).c0).snd)) | false=>((f0 (f1 a) { c0:=(f2 (f0 a (f1 a)).c0).fst,c1:=zeroFp },0)))
def OH (f0:Fp2->Fp2->Fp2) (f1:Fp2->Fp2) (f2:Fp->Fp × Int) (a:Fp2):Tree (Option (Fp2 × Int)) :=
 (.br ((f2 (f0 a (f1 a)).c0).snd != 0)
  (.leaf (some ((zeroFp2,(f2 (f0 a (f1 a)).c0).snd))))
  (.leaf (some ((f0 (f1 a) { c0:=(f2 (f0 a (f1 a)).c0).fst,c1:=zeroFp },0)))))
theorem Te (f0:Fp2->Fp2->Fp2) (f1:Fp2->Fp2) (f2:Fp->Fp × Int) (a:Fp2):ab (En [(134,K2 (aa Fp2).arg (aa Fp2).arg (aa Fp2).rs.res f0),(181,K1 (aa Fp2).arg (aa Fp2).rs.res f1),(82,afd f2)]) ((aa Fp2).rs2 kInt) 300 Tryz.f133 [.one ((aa Fp2).av a)]=OH f0 f1 f2 a:=by kernel_rfl
theorem Td (f0:Fp2->Fp2->Fp2) (f1:Fp2->Fp2) (f2:Fp->Fp × Int) (a:Fp2):(OH f0 f1 f2 a).sat fun q=>q=some (kU f0 f1 f2 a):=⟨fun h0=>(show some _=some _ from congrArg some (by unfold kU;rw [h0])),fun h0=>(show some _=some _ from congrArg some (by unfold kU;rw [h0]))⟩
def uy (a:Fp2):Fp2 × Int:=kU je mY oe a
theorem Ys:CallOk Tryz.prog 133 (K1 (aa Fp2).arg ((aa Fp2).rs2 kInt).res uy) :=
 P1 (ag (.cons rP (.cons TL (.cons OE .nil)))) Tryz.func133 (ac Tryz.func133 (by kernel_rfl) (by kernel_rfl)) 300 (aa Fp2) ((aa Fp2).rs2 kInt) uy (Te je mY oe) (Td je mY oe)
def js (f0:Fp->Bool) (a:Fp2):Bool:=(match (!(cH (a.c1) (zeroFp))) with | true=>((f0 a.c1)) | false=>((f0 a.c0)))
def Bn (f0:Fp->Bool) (a:Fp2):Tree (Option (Bool)) :=
 (.br (!(cH (a.c1) (zeroFp)))
  (.leaf (some ((f0 a.c1))))
  (.leaf (some ((f0 a.c0)))))
theorem FP (f0:Fp->Bool) (a:Fp2):ab (En [(78,Kfb f0)]) kBool.rs 300 Tryz.f98 [.one ((aa Fp2).av a)]=Bn f0 a:=by kernel_rfl
theorem FO (f0:Fp->Bool) (a:Fp2):(Bn f0 a).sat fun q=>q=some (js f0 a):=⟨fun h0=>(show some _=some _ from congrArg some (by unfold js;rw [h0])),fun h0=>(show some _=some _ from congrArg some (by unfold js;rw [h0]))⟩
def ee (a:Fp2):Bool:=js cf a
theorem Lh:CallOk Tryz.prog 98 (K1 (aa Fp2).arg kBool.rs.res ee) :=
 P1 (ag (.cons tm .nil)) Tryz.func98 (ac Tryz.func98 (by kernel_rfl) (by kernel_rfl)) 300 (aa Fp2) kBool.rs ee (FP cf) (FO cf)
end
section
def xG (f0:Fp2->Fp2->Fp2) (a:Fp6) (b:Fp6) (f:Unit):Fp6:=({ c0:=f0 a.c0 b.c0,c1:=f0 a.c1 b.c1,c2:=f0 a.c2 b.c2 })
def Gh (f0:Fp2->Fp2->Fp2) (a:Fp6) (b:Fp6) (f:Unit):Tree (Option (Fp6)) :=
 (.leaf (some ({ c0:=f0 a.c0 b.c0,c1:=f0 a.c1 b.c1,c2:=f0 a.c2 b.c2 })))
theorem IL (f0:Fp2->Fp2->Fp2) (a:Fp6) (b:Fp6) (f:Unit):ab (En [(94,K2 (aa Fp2).arg (aa Fp2).arg (aa Fp2).rs.res f0)]) (aa Fp6).rs 300 Tryz.f186 [.one ((aa Fp6).av a),.one ((aa Fp6).av b),.one ((kFn 94).av f)]=Gh f0 a b f:=by kernel_rfl
theorem IK (f0:Fp2->Fp2->Fp2) (a:Fp6) (b:Fp6) (f:Unit):(Gh f0 a b f).sat fun q=>q=some (xG f0 a b f):=(show some _=some _ from rfl)
def uI (a:Fp6) (b:Fp6) (f:Unit):Fp6:=xG az a b f
theorem Px:CallOk Tryz.prog 186 (K3 (aa Fp6).arg (aa Fp6).arg (kFn 94).arg (aa Fp6).rs.res uI) :=
 P3 (ag (.cons eH .nil)) Tryz.func186 (ac Tryz.func186 (by kernel_rfl) (by kernel_rfl)) 300 (aa Fp6) (aa Fp6) (kFn 94) (aa Fp6).rs uI (IL az) (IK az)
def xF (f0:Fp2->Fp2->Fp2) (a:Fp6) (b:Fp6) (f:Unit):Fp6:=({ c0:=f0 a.c0 b.c0,c1:=f0 a.c1 b.c1,c2:=f0 a.c2 b.c2 })
def Gg (f0:Fp2->Fp2->Fp2) (a:Fp6) (b:Fp6) (f:Unit):Tree (Option (Fp6)) :=
 (.leaf (some ({ c0:=f0 a.c0 b.c0,c1:=f0 a.c1 b.c1,c2:=f0 a.c2 b.c2 })))
theorem IJ (f0:Fp2->Fp2->Fp2) (a:Fp6) (b:Fp6) (f:Unit):ab (En [(163,K2 (aa Fp2).arg (aa Fp2).arg (aa Fp2).rs.res f0)]) (aa Fp6).rs 300 Tryz.f186 [.one ((aa Fp6).av a),.one ((aa Fp6).av b),.one ((kFn 163).av f)]=Gg f0 a b f:=by kernel_rfl
theorem II (f0:Fp2->Fp2->Fp2) (a:Fp6) (b:Fp6) (f:Unit):(Gg f0 a b f).sat fun q=>q=some (xF f0 a b f):=(show some _=some _ from rfl)
def uH (a:Fp6) (b:Fp6) (f:Unit):Fp6:=xF aG a b f
theorem Pw:CallOk Tryz.prog 186 (K3 (aa Fp6).arg (aa Fp6).arg (kFn 163).arg (aa Fp6).rs.res uH) :=
 P3 (ag (.cons fm .nil)) Tryz.func186 (ac Tryz.func186 (by kernel_rfl) (by kernel_rfl)) 300 (aa Fp6) (aa Fp6) (kFn 163) (aa Fp6).rs uH (IJ aG) (II aG)
def DE (f0:Fp6->Fp6->Unit->Fp6) (a:Fp6) (b:Fp6):Fp6:=(f0 a b ())
def Pg (f0:Fp6->Fp6->Unit->Fp6) (a:Fp6) (b:Fp6):Tree (Option (Fp6)) :=
 (.leaf (some (f0 a b ())))
theorem Uo (f0:Fp6->Fp6->Unit->Fp6) (a:Fp6) (b:Fp6):ab (En [(186,K3 (aa Fp6).arg (aa Fp6).arg (kFn 94).arg (aa Fp6).rs.res f0)]) (aa Fp6).rs 300 Tryz.f174 [.one ((aa Fp6).av a),.one ((aa Fp6).av b)]=Pg f0 a b:=by kernel_rfl
theorem Un (f0:Fp6->Fp6->Unit->Fp6) (a:Fp6) (b:Fp6):(Pg f0 a b).sat fun q=>q=some (DE f0 a b):=(show some _=some _ from rfl)
def mj (a:Fp6) (b:Fp6):Fp6:=DE uI a b
theorem ZA:CallOk Tryz.prog 174 (K2 (aa Fp6).arg (aa Fp6).arg (aa Fp6).rs.res mj) :=
 P2 (ag (.cons Px .nil)) Tryz.func174 (ac Tryz.func174 (by kernel_rfl) (by kernel_rfl)) 300 (aa Fp6) (aa Fp6) (aa Fp6).rs mj (Uo uI) (Un uI)
def CS (f0:Fp6->Fp6->Unit->Fp6) (a:Fp6) (b:Fp6):Fp6:=(f0 a b ())
def Nw (f0:Fp6->Fp6->Unit->Fp6) (a:Fp6) (b:Fp6):Tree (Option (Fp6)) :=
 (.leaf (some (f0 a b ())))
theorem Qe (f0:Fp6->Fp6->Unit->Fp6) (a:Fp6) (b:Fp6):ab (En [(186,K3 (aa Fp6).arg (aa Fp6).arg (kFn 163).arg (aa Fp6).rs.res f0)]) (aa Fp6).rs 300 Tryz.f168 [.one ((aa Fp6).av a),.one ((aa Fp6).av b)]=Nw f0 a b:=by kernel_rfl
theorem Qc (f0:Fp6->Fp6->Unit->Fp6) (a:Fp6) (b:Fp6):(Nw f0 a b).sat fun q=>q=some (CS f0 a b):=(show some _=some _ from rfl)
def gT (a:Fp6) (b:Fp6):Fp6:=CS uH a b
theorem xU:CallOk Tryz.prog 168 (K2 (aa Fp6).arg (aa Fp6).arg (aa Fp6).rs.res gT) :=
 P2 (ag (.cons Pw .nil)) Tryz.func168 (ac Tryz.func168 (by kernel_rfl) (by kernel_rfl)) 300 (aa Fp6) (aa Fp6) (aa Fp6).rs gT (Qe uH) (Qc uH)
def Dd (f0:Fp6->Fp6->Fp6) (a:Fp6):Fp6:=(f0 zeroFp6 a)
def Oi (f0:Fp6->Fp6->Fp6) (a:Fp6):Tree (Option (Fp6)) :=
 (.leaf (some (f0 zeroFp6 a)))
theorem R5 (f0:Fp6->Fp6->Fp6) (a:Fp6):ab (En [(168,K2 (aa Fp6).arg (aa Fp6).arg (aa Fp6).rs.res f0)]) (aa Fp6).rs 300 Tryz.f172 [.one ((aa Fp6).av a)]=Oi f0 a:=by kernel_rfl
theorem R4 (f0:Fp6->Fp6->Fp6) (a:Fp6):(Oi f0 a).sat fun q=>q=some (Dd f0 a):=(show some _=some _ from rfl)
def mN (a:Fp6):Fp6:=Dd gT a
theorem Hs:CallOk Tryz.prog 172 (K1 (aa Fp6).arg (aa Fp6).rs.res mN) :=
 P1 (ag (.cons xU .nil)) Tryz.func172 (ac Tryz.func172 (by kernel_rfl) (by kernel_rfl)) 300 (aa Fp6) (aa Fp6).rs mN (R5 gT) (R4 gT)
def Mf (f0:Fp2->Fp2) (a:Fp6):Fp6:=({ c0:=f0 a.c2,c1:=a.c0,c2:=a.c1 })
def ZH (f0:Fp2->Fp2) (a:Fp6):Tree (Option (Fp6)) :=
 (.leaf (some ({ c0:=f0 a.c2,c1:=a.c0,c2:=a.c1 })))
theorem Vc (f0:Fp2->Fp2) (a:Fp6):ab (En [(187,K1 (aa Fp2).arg (aa Fp2).rs.res f0)]) (aa Fp6).rs 300 Tryz.f170 [.one ((aa Fp6).av a)]=ZH f0 a:=by kernel_rfl
theorem Vb (f0:Fp2->Fp2) (a:Fp6):(ZH f0 a).sat fun q=>q=some (Mf f0 a):=(show some _=some _ from rfl)
def tQ (a:Fp6):Fp6:=Mf iv a
theorem Nc:CallOk Tryz.prog 170 (K1 (aa Fp6).arg (aa Fp6).rs.res tQ) :=
 P1 (ag (.cons vE .nil)) Tryz.func170 (ac Tryz.func170 (by kernel_rfl) (by kernel_rfl)) 300 (aa Fp6) (aa Fp6).rs tQ (Vc iv) (Vb iv)
def sO (f0:Fp2->Fp2) (a:Fp6):Fp6:=({ c0:=f0 a.c0,c1:=f0 a.c1,c2:=f0 a.c2 })
def Ap (f0:Fp2->Fp2) (a:Fp6):Tree (Option (Fp6)) :=
 (.leaf (some ({ c0:=f0 a.c0,c1:=f0 a.c1,c2:=f0 a.c2 })))
theorem EH (f0:Fp2->Fp2) (a:Fp6):ab (En [(107,K1 (aa Fp2).arg (aa Fp2).rs.res f0)]) (aa Fp6).rs 300 Tryz.f175 [.one ((aa Fp6).av a)]=Ap f0 a:=by kernel_rfl
theorem EG (f0:Fp2->Fp2) (a:Fp6):(Ap f0 a).sat fun q=>q=some (sO f0 a):=(show some _=some _ from rfl)
def dL (a:Fp6):Fp6:=sO ax a
theorem vt:CallOk Tryz.prog 175 (K1 (aa Fp6).arg (aa Fp6).rs.res dL) :=
 P1 (ag (.cons fv .nil)) Tryz.func175 (ac Tryz.func175 (by kernel_rfl) (by kernel_rfl)) 300 (aa Fp6) (aa Fp6).rs dL (EH ax) (EG ax)
def Dn (f0:Fp2->Fp2) (a:Fp6):Fp6:=({ c0:=f0 a.c0,c1:=f0 a.c1,c2:=f0 a.c2 })
def Oy (f0:Fp2->Fp2) (a:Fp6):Tree (Option (Fp6)) :=
 (.leaf (some ({ c0:=f0 a.c0,c1:=f0 a.c1,c2:=f0 a.c2 })))
theorem SM (f0:Fp2->Fp2) (a:Fp6):ab (En [(104,K1 (aa Fp2).arg (aa Fp2).rs.res f0)]) (aa Fp6).rs 300 Tryz.f121 [.one ((aa Fp6).av a)]=Oy f0 a:=by kernel_rfl
theorem SL (f0:Fp2->Fp2) (a:Fp6):(Oy f0 a).sat fun q=>q=some (Dn f0 a):=(show some _=some _ from rfl)
def qi (a:Fp6):Fp6:=Dn cM a
theorem Yf:CallOk Tryz.prog 121 (K1 (aa Fp6).arg (aa Fp6).rs.res qi) :=
 P1 (ag (.cons rR .nil)) Tryz.func121 (ac Tryz.func121 (by kernel_rfl) (by kernel_rfl)) 300 (aa Fp6) (aa Fp6).rs qi (SM cM) (SL cM)
def Bz (f0:Fp2->Fp2->Fp2) (f1:Fp2->Fp2->Fp2) (f2:Fp2->Fp2->Fp2) (a:Fp6) (b:Fp6) (i:Unit) (j:Unit) (x:Fp2) (y:Fp2):Fp2:=(f2 (f0 (f1 a.c0 a.c1) (f1 b.c0 b.c1)) (f1 x y))
def tA (f0:Fp2->Fp2->Fp2) (f1:Fp2->Fp2->Fp2) (f2:Fp2->Fp2->Fp2) (a:Fp6) (b:Fp6) (i:Unit) (j:Unit) (x:Fp2) (y:Fp2):Tree (Option (Fp2)) :=
 (.leaf (some (f2 (f0 (f1 a.c0 a.c1) (f1 b.c0 b.c1)) (f1 x y))))
theorem FX (f0:Fp2->Fp2->Fp2) (f1:Fp2->Fp2->Fp2) (f2:Fp2->Fp2->Fp2) (a:Fp6) (b:Fp6) (i:Unit) (j:Unit) (x:Fp2) (y:Fp2):ab (En [(157,K2 (aa Fp2).arg (aa Fp2).arg (aa Fp2).rs.res f0),(94,K2 (aa Fp2).arg (aa Fp2).arg (aa Fp2).rs.res f1),(163,K2 (aa Fp2).arg (aa Fp2).arg (aa Fp2).rs.res f2)]) (aa Fp2).rs 300 Tryz.f188 [.one ((aa Fp6).av a),.one ((aa Fp6).av b),.one ((l7 0).av i),.one ((l7 1).av j),.one ((aa Fp2).av x),.one ((aa Fp2).av y)]=tA f0 f1 f2 a b i j x y:=by kernel_rfl
theorem FW (f0:Fp2->Fp2->Fp2) (f1:Fp2->Fp2->Fp2) (f2:Fp2->Fp2->Fp2) (a:Fp6) (b:Fp6) (i:Unit) (j:Unit) (x:Fp2) (y:Fp2):(tA f0 f1 f2 a b i j x y).sat fun q=>q=some (Bz f0 f1 f2 a b i j x y):=(show some _=some _ from rfl)
def O1 (a:Fp6) (b:Fp6) (i:Unit) (j:Unit) (x:Fp2) (y:Fp2):Fp2:=Bz ad az aG a b i j x y
theorem LB:CallOk Tryz.prog 188 (KN (KdL.cons (aa Fp6) (KdL.cons (aa Fp6) (KdL.cons (l7 0) (KdL.cons (l7 1) (KdL.cons (aa Fp2) (KdL.cons (aa Fp2) KdL.nil)))))) (aa Fp2).rs.res (fun x=>O1 x.1 x.2.1 x.2.2.1 x.2.2.2.1 x.2.2.2.2.1 x.2.2.2.2.2.1)) :=
 PN (ag (.cons cw (.cons eH (.cons fm .nil)))) Tryz.func188 (ac Tryz.func188 (by kernel_rfl) (by kernel_rfl)) 300 (KdL.cons (aa Fp6) (KdL.cons (aa Fp6) (KdL.cons (l7 0) (KdL.cons (l7 1) (KdL.cons (aa Fp2) (KdL.cons (aa Fp2) KdL.nil)))))) (aa Fp2).rs (fun x=>O1 x.1 x.2.1 x.2.2.1 x.2.2.2.1 x.2.2.2.2.1 x.2.2.2.2.2.1) (T:=fun x=>tA ad az aG x.1 x.2.1 x.2.2.1 x.2.2.2.1 x.2.2.2.2.1 x.2.2.2.2.2.1) (fun x=>FX ad az aG x.1 x.2.1 x.2.2.1 x.2.2.2.1 x.2.2.2.2.1 x.2.2.2.2.2.1) (fun x=>FW ad az aG x.1 x.2.1 x.2.2.1 x.2.2.2.1 x.2.2.2.2.1 x.2.2.2.2.2.1)
def By (f0:Fp2->Fp2->Fp2) (f1:Fp2->Fp2->Fp2) (f2:Fp2->Fp2->Fp2) (a:Fp6) (b:Fp6) (i:Unit) (j:Unit) (x:Fp2) (y:Fp2):Fp2:=(f2 (f0 (f1 a.c0 a.c2) (f1 b.c0 b.c2)) (f1 x y))
def tz (f0:Fp2->Fp2->Fp2) (f1:Fp2->Fp2->Fp2) (f2:Fp2->Fp2->Fp2) (a:Fp6) (b:Fp6) (i:Unit) (j:Unit) (x:Fp2) (y:Fp2):Tree (Option (Fp2)) :=
 (.leaf (some (f2 (f0 (f1 a.c0 a.c2) (f1 b.c0 b.c2)) (f1 x y))))
theorem FV (f0:Fp2->Fp2->Fp2) (f1:Fp2->Fp2->Fp2) (f2:Fp2->Fp2->Fp2) (a:Fp6) (b:Fp6) (i:Unit) (j:Unit) (x:Fp2) (y:Fp2):ab (En [(157,K2 (aa Fp2).arg (aa Fp2).arg (aa Fp2).rs.res f0),(94,K2 (aa Fp2).arg (aa Fp2).arg (aa Fp2).rs.res f1),(163,K2 (aa Fp2).arg (aa Fp2).arg (aa Fp2).rs.res f2)]) (aa Fp2).rs 300 Tryz.f188 [.one ((aa Fp6).av a),.one ((aa Fp6).av b),.one ((l7 0).av i),.one ((l7 2).av j),.one ((aa Fp2).av x),.one ((aa Fp2).av y)]=tz f0 f1 f2 a b i j x y:=by kernel_rfl
theorem FU (f0:Fp2->Fp2->Fp2) (f1:Fp2->Fp2->Fp2) (f2:Fp2->Fp2->Fp2) (a:Fp6) (b:Fp6) (i:Unit) (j:Unit) (x:Fp2) (y:Fp2):(tz f0 f1 f2 a b i j x y).sat fun q=>q=some (By f0 f1 f2 a b i j x y):=(show some _=some _ from rfl)
def O0 (a:Fp6) (b:Fp6) (i:Unit) (j:Unit) (x:Fp2) (y:Fp2):Fp2:=By ad az aG a b i j x y
theorem LA:CallOk Tryz.prog 188 (KN (KdL.cons (aa Fp6) (KdL.cons (aa Fp6) (KdL.cons (l7 0) (KdL.cons (l7 2) (KdL.cons (aa Fp2) (KdL.cons (aa Fp2) KdL.nil)))))) (aa Fp2).rs.res (fun x=>O0 x.1 x.2.1 x.2.2.1 x.2.2.2.1 x.2.2.2.2.1 x.2.2.2.2.2.1)) :=
 PN (ag (.cons cw (.cons eH (.cons fm .nil)))) Tryz.func188 (ac Tryz.func188 (by kernel_rfl) (by kernel_rfl)) 300 (KdL.cons (aa Fp6) (KdL.cons (aa Fp6) (KdL.cons (l7 0) (KdL.cons (l7 2) (KdL.cons (aa Fp2) (KdL.cons (aa Fp2) KdL.nil)))))) (aa Fp2).rs (fun x=>O0 x.1 x.2.1 x.2.2.1 x.2.2.2.1 x.2.2.2.2.1 x.2.2.2.2.2.1) (T:=fun x=>tz ad az aG x.1 x.2.1 x.2.2.1 x.2.2.2.1 x.2.2.2.2.1 x.2.2.2.2.2.1) (fun x=>FV ad az aG x.1 x.2.1 x.2.2.1 x.2.2.2.1 x.2.2.2.2.1 x.2.2.2.2.2.1) (fun x=>FU ad az aG x.1 x.2.1 x.2.2.1 x.2.2.2.1 x.2.2.2.2.1 x.2.2.2.2.2.1)
def Bx (f0:Fp2->Fp2->Fp2) (f1:Fp2->Fp2->Fp2) (f2:Fp2->Fp2->Fp2) (a:Fp6) (b:Fp6) (i:Unit) (j:Unit) (x:Fp2) (y:Fp2):Fp2:=(f2 (f0 (f1 a.c1 a.c2) (f1 b.c1 b.c2)) (f1 x y))
def tv (f0:Fp2->Fp2->Fp2) (f1:Fp2->Fp2->Fp2) (f2:Fp2->Fp2->Fp2) (a:Fp6) (b:Fp6) (i:Unit) (j:Unit) (x:Fp2) (y:Fp2):Tree (Option (Fp2)) :=
 (.leaf (some (f2 (f0 (f1 a.c1 a.c2) (f1 b.c1 b.c2)) (f1 x y))))
theorem FT (f0:Fp2->Fp2->Fp2) (f1:Fp2->Fp2->Fp2) (f2:Fp2->Fp2->Fp2) (a:Fp6) (b:Fp6) (i:Unit) (j:Unit) (x:Fp2) (y:Fp2):ab (En [(157,K2 (aa Fp2).arg (aa Fp2).arg (aa Fp2).rs.res f0),(94,K2 (aa Fp2).arg (aa Fp2).arg (aa Fp2).rs.res f1),(163,K2 (aa Fp2).arg (aa Fp2).arg (aa Fp2).rs.res f2)]) (aa Fp2).rs 300 Tryz.f188 [.one ((aa Fp6).av a),.one ((aa Fp6).av b),.one ((l7 1).av i),.one ((l7 2).av j),.one ((aa Fp2).av x),.one ((aa Fp2).av y)]=tv f0 f1 f2 a b i j x y:=by kernel_rfl
theorem FS (f0:Fp2->Fp2->Fp2) (f1:Fp2->Fp2->Fp2) (f2:Fp2->Fp2->Fp2) (a:Fp6) (b:Fp6) (i:Unit) (j:Unit) (x:Fp2) (y:Fp2):(tv f0 f1 f2 a b i j x y).sat fun q=>q=some (Bx f0 f1 f2 a b i j x y):=(show some _=some _ from rfl)
def OZ (a:Fp6) (b:Fp6) (i:Unit) (j:Unit) (x:Fp2) (y:Fp2):Fp2:=Bx ad az aG a b i j x y
theorem Lz:CallOk Tryz.prog 188 (KN (KdL.cons (aa Fp6) (KdL.cons (aa Fp6) (KdL.cons (l7 1) (KdL.cons (l7 2) (KdL.cons (aa Fp2) (KdL.cons (aa Fp2) KdL.nil)))))) (aa Fp2).rs.res (fun x=>OZ x.1 x.2.1 x.2.2.1 x.2.2.2.1 x.2.2.2.2.1 x.2.2.2.2.2.1)) :=
 PN (ag (.cons cw (.cons eH (.cons fm .nil)))) Tryz.func188 (ac Tryz.func188 (by kernel_rfl) (by kernel_rfl)) 300 (KdL.cons (aa Fp6) (KdL.cons (aa Fp6) (KdL.cons (l7 1) (KdL.cons (l7 2) (KdL.cons (aa Fp2) (KdL.cons (aa Fp2) KdL.nil)))))) (aa Fp2).rs (fun x=>OZ x.1 x.2.1 x.2.2.1 x.2.2.2.1 x.2.2.2.2.1 x.2.2.2.2.2.1) (T:=fun x=>tv ad az aG x.1 x.2.1 x.2.2.1 x.2.2.2.1 x.2.2.2.2.1 x.2.2.2.2.2.1) (fun x=>FT ad az aG x.1 x.2.1 x.2.2.1 x.2.2.2.1 x.2.2.2.2.1 x.2.2.2.2.2.1) (fun x=>FS ad az aG x.1 x.2.1 x.2.2.1 x.2.2.2.1 x.2.2.2.2.1 x.2.2.2.2.2.1)
end
section
def kS (f0:Fp2->Fp2->Fp2) (f1:Fp2->Fp2->Fp2) (f2:Fp2->Fp2) (f3:Fp2->Fp2->Fp2) (f4:Fp2->Fp2 × Int) (a:Fp6):Fp6 × Int:=(match ((f4 (f3 (f1 a.c0 (f0 (f1 a.c0 a.c0) (f2 (f1 a.c1 a.c2)))) (f2 (f3 (f1 a.c2 (f0 (f2 (f1 a.c2 a.c2)) (f1 a.c0 a.c1))) (f1 a.c1 (f0 (f1 a.c1 a.c1) (f1 a.c0 a.c2))))))).snd != 0) with | true=>((zeroFp6,(f4 (f3 (f1 a.c0 (f0 (f1 a.c0 a.c0) (f2 (f1 a.c1 a.c2)))) (f2 (f3 (f1 a.c2 (f0 (f2 (f1 a.c2 a.c2)) (f1 a.c0 a.c1))) (f1 a.c1 (f0 (f1 a.c1 a.c1) (f1 a.c0 a.c2))))))).snd)) | false=>(({ c0:=f1 (f0 (f1 a.c0 a.c0) (f2 (f1 a.c1 a.c2))) (f4 (f3 (f1 a.c0 (f0 (f1 a.c0 a.c0) (f2 (f1 a.c1 a.c2)))) (f2 (f3 (f1 a.c2 (f0 (f2 (f1 a.c2 a.c2)) (f1 a.c0 a.c1))) (f1 a.c1 (f0 (f1 a.c1 a.c1) (f1 a.c0 a.c2))))))).fst,c1:=f1 (f0 (f2 (f1 a.c2 a.c2)) (f1 a.c0 a.c1)) (f4 (f3 (f1 a.c0 (f0 (f1 a.c0 a.c0) (f2 (f1 a.c1 a.c2)))) (f2 (f3 (f1 a.c2 (f0 (f2 (f1 a.c2 a.c2)) (f1 a.c0 a.c1))) (f1 a.c1 (f0 (f1 a.c1 a.c1) (f1 a.c0 a.c2))))))).fst,c2:=f1 (f0 (f1 a.c1 a.c1) (f1 a.c0 a.c2)) (f4 (f3 (f1 a.c0 (f0 (f1 a.c0 a.c0) (f2 (f1 a.c1 a.c2)))) (f2 (f3 (f1 a.c2 (f0 (f2 (f1 a.c2 a.c2)) (f1 a.c0 a.c1))) (f1 a.c1 (f0 (f1 a.c1 a.c1) (f1 a.c0 a.c2))))))).fst },0)))
def OF (f0:Fp2->Fp2->Fp2) (f1:Fp2->Fp2->Fp2) (f2:Fp2->Fp2) (f3:Fp2->Fp2->Fp2) (f4:Fp2->Fp2 × Int) (a:Fp6):Tree (Option (Fp6 × Int)):=letI za':=f4 (f3 (f1 a.c0 (f0 (f1 a.c0 a.c0) (f2 (f1 a.c1 a.c2)))) (f2 (f3 (f1 a.c2 (f0 (f2 (f1 a.c2 a.c2)) (f1 a.c0 a.c1))) (f1 a.c1 (f0 (f1 a.c1 a.c1) (f1 a.c0 a.c2))))));
 (.br (za'.snd != 0) (.leaf (some ((zeroFp6,za'.snd)))) (.leaf (some (({ c0:=f1 (f0 (f1 a.c0 a.c0) (f2 (f1 a.c1 a.c2))) za'.fst,c1:=f1 (f0 (f2 (f1 a.c2 a.c2)) (f1 a.c0 a.c1)) za'.fst,c2:=f1 (f0 (f1 a.c1 a.c1) (f1 a.c0 a.c2)) za'.fst },0)))))
theorem S6 (f0:Fp2->Fp2->Fp2) (f1:Fp2->Fp2->Fp2) (f2:Fp2->Fp2) (f3:Fp2->Fp2->Fp2) (f4:Fp2->Fp2 × Int) (a:Fp6):ab (En [(163,K2 (aa Fp2).arg (aa Fp2).arg (aa Fp2).rs.res f0),(95,K2 (aa Fp2).arg (aa Fp2).arg (aa Fp2).rs.res f1),(187,K1 (aa Fp2).arg (aa Fp2).rs.res f2),(94,K2 (aa Fp2).arg (aa Fp2).arg (aa Fp2).rs.res f3),(103,K1 (aa Fp2).arg ((aa Fp2).rs2 kInt).res f4)]) ((aa Fp6).rs2 kInt) 300 Tryz.f171 [.one ((aa Fp6).av a)]=OF f0 f1 f2 f3 f4 a:=by kernel_rfl
theorem S5 (f0:Fp2->Fp2->Fp2) (f1:Fp2->Fp2->Fp2) (f2:Fp2->Fp2) (f3:Fp2->Fp2->Fp2) (f4:Fp2->Fp2 × Int) (a:Fp6):(OF f0 f1 f2 f3 f4 a).sat fun q=>q=some (kS f0 f1 f2 f3 f4 a):=⟨fun h0=>(show some _=some _ from congrArg some (by unfold kS;rw [h0])),fun h0=>(show some _=some _ from congrArg some (by unfold kS;rw [h0]))⟩
def rV (a:Fp6):Fp6 × Int:=kS aG aR iv az d7 a
theorem Yp:CallOk Tryz.prog 171 (K1 (aa Fp6).arg ((aa Fp6).rs2 kInt).res rV) :=
 P1 (ag (.cons fm (.cons lA (.cons vE (.cons eH (.cons yD .nil)))))) Tryz.func171 (ac Tryz.func171 (by kernel_rfl) (by kernel_rfl)) 300 (aa Fp6) ((aa Fp6).rs2 kInt) rV (S6 aG aR iv az d7) (S5 aG aR iv az d7)
def Hm  : Fp12:=(oneFp12)
def Hl  : Tree (Option (Fp12)) :=
 (.leaf (some (oneFp12)))
theorem Kg  : ab (En []) (aa Fp12).rs 300 Tryz.f67 []=Hl  := by kernel_rfl
theorem Ke  : (Hl ).sat fun q=>q=some (Hm ):=(show some _=some _ from rfl)
def es  : Fp12:=Hm
theorem th:CallOk Tryz.prog 67 (K0 (aa Fp12).rs.res es) :=
 P0 (ag .nil) Tryz.func67 (ac Tryz.func67 (by kernel_rfl) (by kernel_rfl)) 300  (aa Fp12).rs es (Kg ) (Ke )
def pH (f0:Fp6->Fp6) (a:Fp12):Fp12:=({ c0:=f0 a.c0,c1:=f0 a.c1 })
def vx (f0:Fp6->Fp6) (a:Fp12):Tree (Option (Fp12)) :=
 (.leaf (some ({ c0:=f0 a.c0,c1:=f0 a.c1 })))
theorem BT (f0:Fp6->Fp6) (a:Fp12):ab (En [(175,K1 (aa Fp6).arg (aa Fp6).rs.res f0)]) (aa Fp12).rs 300 Tryz.f125 [.one ((aa Fp12).av a)]=vx f0 a:=by kernel_rfl
theorem BS (f0:Fp6->Fp6) (a:Fp12):(vx f0 a).sat fun q=>q=some (pH f0 a):=(show some _=some _ from rfl)
def ba (a:Fp12):Fp12:=pH dL a
theorem nf:CallOk Tryz.prog 125 (K1 (aa Fp12).arg (aa Fp12).rs.res ba) :=
 P1 (ag (.cons vt .nil)) Tryz.func125 (ac Tryz.func125 (by kernel_rfl) (by kernel_rfl)) 300 (aa Fp12) (aa Fp12).rs ba (BT dL) (BS dL)
def yz (f0:Fp6->Fp6) (a:Fp12):Fp12:=({ c0:=f0 a.c0,c1:=f0 a.c1 })
def HF (f0:Fp6->Fp6) (a:Fp12):Tree (Option (Fp12)) :=
 (.leaf (some ({ c0:=f0 a.c0,c1:=f0 a.c1 })))
theorem KD (f0:Fp6->Fp6) (a:Fp12):ab (En [(121,K1 (aa Fp6).arg (aa Fp6).rs.res f0)]) (aa Fp12).rs 300 Tryz.f64 [.one ((aa Fp12).av a)]=HF f0 a:=by kernel_rfl
theorem KC (f0:Fp6->Fp6) (a:Fp12):(HF f0 a).sat fun q=>q=some (yz f0 a):=(show some _=some _ from rfl)
def ew (a:Fp12):Fp12:=yz qi a
theorem A7:CallOk Tryz.prog 64 (K1 (aa Fp12).arg (aa Fp12).rs.res ew) :=
 P1 (ag (.cons Yf .nil)) Tryz.func64 (ac Tryz.func64 (by kernel_rfl) (by kernel_rfl)) 300 (aa Fp12) (aa Fp12).rs ew (KD qi) (KC qi)
def tD (f0:Fp6->Fp6) (a:Fp12):Fp12:=({ c0:=a.c0,c1:=f0 a.c1 })
def BC (f0:Fp6->Fp6) (a:Fp12):Tree (Option (Fp12)) :=
 (.leaf (some ({ c0:=a.c0,c1:=f0 a.c1 })))
theorem FZ (f0:Fp6->Fp6) (a:Fp12):ab (En [(172,K1 (aa Fp6).arg (aa Fp6).rs.res f0)]) (aa Fp12).rs 300 Tryz.f124 [.one ((aa Fp12).av a)]=BC f0 a:=by kernel_rfl
theorem FY (f0:Fp6->Fp6) (a:Fp12):(BC f0 a).sat fun q=>q=some (tD f0 a):=(show some _=some _ from rfl)
def cp (a:Fp12):Fp12:=tD mN a
theorem LG:CallOk Tryz.prog 124 (K1 (aa Fp12).arg (aa Fp12).rs.res cp) :=
 P1 (ag (.cons Hs .nil)) Tryz.func124 (ac Tryz.func124 (by kernel_rfl) (by kernel_rfl)) 300 (aa Fp12) (aa Fp12).rs cp (FZ mN) (FY mN)
end
section
def Fp6.nth (a:Fp6):Nat->Fp2
 | 0=>a.c0
 | 1=>a.c1
 | _=>a.c2
def kH (i j:Nat) (a b:Fp6) (x y:Fp2):Fp2:=aG (ad (az (a.nth i) (a.nth j)) (az (b.nth i) (b.nth j))) (az x y)
abbrev abh (F:Nat->Nat->Fp6->Fp6->Fp2->Fp2->Fp2):ak:=KOr (KN (KdL.cons (aa Fp6) (KdL.cons (aa Fp6) (KdL.cons (l7 0) (KdL.cons (l7 1) (KdL.cons (aa Fp2) (KdL.cons (aa Fp2) KdL.nil)))))) (aa Fp2).rs.res (fun x=>F 0 1 x.1 x.2.1 x.2.2.2.2.1 x.2.2.2.2.2.1)) (KOr (KN (KdL.cons (aa Fp6) (KdL.cons (aa Fp6) (KdL.cons (l7 0) (KdL.cons (l7 2) (KdL.cons (aa Fp2) (KdL.cons (aa Fp2) KdL.nil)))))) (aa Fp2).rs.res (fun x=>F 0 2 x.1 x.2.1 x.2.2.2.2.1 x.2.2.2.2.2.1)) (KN (KdL.cons (aa Fp6) (KdL.cons (aa Fp6) (KdL.cons (l7 1) (KdL.cons (l7 2) (KdL.cons (aa Fp2) (KdL.cons (aa Fp2) KdL.nil)))))) (aa Fp2).rs.res (fun x=>F 1 2 x.1 x.2.1 x.2.2.2.2.1 x.2.2.2.2.2.1)))
theorem Y6:CallOk Tryz.prog 188 (abh kH) :=
 abi LB (abi LA Lz (IC _ _ _)) (IC _ _ _)
def yE (f0:Fp2->Fp2->Fp2) (f1:Fp2->Fp2->Fp2) (f2:Fp2->Fp2) (f3:Nat->Nat->Fp6->Fp6->Fp2->Fp2->Fp2) (a:Fp6) (b:Fp6):Fp6:=({ c0:=f1 (f0 a.c0 b.c0) (f2 (f3 1 2 a b (f0 a.c1 b.c1) (f0 a.c2 b.c2))),c1:=f1 (f3 0 1 a b (f0 a.c0 b.c0) (f0 a.c1 b.c1)) (f2 (f0 a.c2 b.c2)),c2:=f1 (f3 0 2 a b (f0 a.c0 b.c0) (f0 a.c2 b.c2)) (f0 a.c1 b.c1) })
def HR (f0:Fp2->Fp2->Fp2) (f1:Fp2->Fp2->Fp2) (f2:Fp2->Fp2) (f3:Nat->Nat->Fp6->Fp6->Fp2->Fp2->Fp2) (a:Fp6) (b:Fp6):Tree (Option (Fp6)):=letI za':=f0 a.c0 b.c0;letI zb':=f0 a.c1 b.c1;letI zc':=f0 a.c2 b.c2;
 (.leaf (some ({ c0:=f1 za' (f2 (f3 1 2 a b zb' zc')),c1:=f1 (f3 0 1 a b za' zb') (f2 zc'),c2:=f1 (f3 0 2 a b za' zc') zb' })))
theorem K9 (f0:Fp2->Fp2->Fp2) (f1:Fp2->Fp2->Fp2) (f2:Fp2->Fp2) (f3:Nat->Nat->Fp6->Fp6->Fp2->Fp2->Fp2) (a:Fp6) (b:Fp6):ab (En [(157,K2 (aa Fp2).arg (aa Fp2).arg (aa Fp2).rs.res f0),(94,K2 (aa Fp2).arg (aa Fp2).arg (aa Fp2).rs.res f1),(187,K1 (aa Fp2).arg (aa Fp2).rs.res f2),(188,abh f3)]) (aa Fp6).rs 300 Tryz.f173 [.one ((aa Fp6).av a),.one ((aa Fp6).av b)]=HR f0 f1 f2 f3 a b:=by kernel_rfl
theorem K8 (f0:Fp2->Fp2->Fp2) (f1:Fp2->Fp2->Fp2) (f2:Fp2->Fp2) (f3:Nat->Nat->Fp6->Fp6->Fp2->Fp2->Fp2) (a:Fp6) (b:Fp6):(HR f0 f1 f2 f3 a b).sat fun q=>q=some (yE f0 f1 f2 f3 a b):=(show some _=some _ from rfl)
def dK (a:Fp6) (b:Fp6):Fp6:=yE ad az iv kH a b
theorem Bi:CallOk Tryz.prog 173 (K2 (aa Fp6).arg (aa Fp6).arg (aa Fp6).rs.res dK) :=
 P2 (ag (.cons cw (.cons eH (.cons vE (.cons Y6 .nil))))) Tryz.func173 (ac Tryz.func173 (by kernel_rfl) (by kernel_rfl)) 300 (aa Fp6) (aa Fp6) (aa Fp6).rs dK (K9 ad az iv kH) (K8 ad az iv kH)
def Di (f0:Fp6->Fp6->Fp6) (f1:Fp6->Fp6) (a:Fp6) (b:Fp6):Fp6:=(f1 (f0 a b))
def Oo (f0:Fp6->Fp6->Fp6) (f1:Fp6->Fp6) (a:Fp6) (b:Fp6):Tree (Option (Fp6)) :=
 (.leaf (some (f1 (f0 a b))))
theorem Sk (f0:Fp6->Fp6->Fp6) (f1:Fp6->Fp6) (a:Fp6) (b:Fp6):ab (En [(173,K2 (aa Fp6).arg (aa Fp6).arg (aa Fp6).rs.res f0),(175,K1 (aa Fp6).arg (aa Fp6).rs.res f1)]) (aa Fp6).rs 300 Tryz.f169 [.one ((aa Fp6).av a),.one ((aa Fp6).av b)]=Oo f0 f1 a b:=by kernel_rfl
theorem Sj (f0:Fp6->Fp6->Fp6) (f1:Fp6->Fp6) (a:Fp6) (b:Fp6):(Oo f0 f1 a b).sat fun q=>q=some (Di f0 f1 a b):=(show some _=some _ from rfl)
def mP (a:Fp6) (b:Fp6):Fp6:=Di dK dL a b
theorem XQ:CallOk Tryz.prog 169 (K2 (aa Fp6).arg (aa Fp6).arg (aa Fp6).rs.res mP) :=
 P2 (ag (.cons Bi (.cons vt .nil))) Tryz.func169 (ac Tryz.func169 (by kernel_rfl) (by kernel_rfl)) 300 (aa Fp6) (aa Fp6) (aa Fp6).rs mP (Sk dK dL) (Sj dK dL)
def tl (f0:Fp6->Fp6->Fp6) (f1:Fp6->Fp6->Fp6) (f2:Fp6->Fp6->Fp6) (f3:Fp6->Fp6) (a:Fp12) (b:Fp12):Fp12:=({ c0:=f1 (f0 a.c0 b.c0) (f3 (f0 a.c1 b.c1)),c1:=f2 (f0 (f1 a.c0 a.c1) (f1 b.c0 b.c1)) (f1 (f0 a.c0 b.c0) (f0 a.c1 b.c1)) })
def Bk (f0:Fp6->Fp6->Fp6) (f1:Fp6->Fp6->Fp6) (f2:Fp6->Fp6->Fp6) (f3:Fp6->Fp6) (a:Fp12) (b:Fp12):Tree (Option (Fp12)) :=
 (.leaf (some ({ c0:=f1 (f0 a.c0 b.c0) (f3 (f0 a.c1 b.c1)),c1:=f2 (f0 (f1 a.c0 a.c1) (f1 b.c0 b.c1)) (f1 (f0 a.c0 b.c0) (f0 a.c1 b.c1)) })))
theorem FK (f0:Fp6->Fp6->Fp6) (f1:Fp6->Fp6->Fp6) (f2:Fp6->Fp6->Fp6) (f3:Fp6->Fp6) (a:Fp12) (b:Fp12):ab (En [(173,K2 (aa Fp6).arg (aa Fp6).arg (aa Fp6).rs.res f0),(174,K2 (aa Fp6).arg (aa Fp6).arg (aa Fp6).rs.res f1),(168,K2 (aa Fp6).arg (aa Fp6).arg (aa Fp6).rs.res f2),(170,K1 (aa Fp6).arg (aa Fp6).rs.res f3)]) (aa Fp12).rs 300 Tryz.f123 [.one ((aa Fp12).av a),.one ((aa Fp12).av b)]=Bk f0 f1 f2 f3 a b:=by kernel_rfl
theorem FJ (f0:Fp6->Fp6->Fp6) (f1:Fp6->Fp6->Fp6) (f2:Fp6->Fp6->Fp6) (f3:Fp6->Fp6) (a:Fp12) (b:Fp12):(Bk f0 f1 f2 f3 a b).sat fun q=>q=some (tl f0 f1 f2 f3 a b):=(show some _=some _ from rfl)
def ar (a:Fp12) (b:Fp12):Fp12:=tl dK mj gT tQ a b
theorem l9:CallOk Tryz.prog 123 (K2 (aa Fp12).arg (aa Fp12).arg (aa Fp12).rs.res ar) :=
 P2 (ag (.cons Bi (.cons ZA (.cons xU (.cons Nc .nil))))) Tryz.func123 (ac Tryz.func123 (by kernel_rfl) (by kernel_rfl)) 300 (aa Fp12) (aa Fp12) (aa Fp12).rs ar (FK dK mj gT tQ) (FJ dK mj gT tQ)
def iX (f0:Fp6->Fp6->Fp6) (f1:Fp6->Fp6->Fp6) (f2:Fp6->Fp6) (f3:Fp6->Fp6 × Int) (f4:Fp6->Fp6) (a:Fp12):Fp12 × Int:=(match ((f3 (f0 (f1 a.c0 a.c0) (f2 (f1 a.c1 a.c1)))).snd != 0) with | true=>((qZ,(f3 (f0 (f1 a.c0 a.c0) (f2 (f1 a.c1 a.c1)))).snd)) | false=>(({ c0:=f1 a.c0 (f3 (f0 (f1 a.c0 a.c0) (f2 (f1 a.c1 a.c1)))).fst,c1:=f4 (f1 a.c1 (f3 (f0 (f1 a.c0 a.c0) (f2 (f1 a.c1 a.c1)))).fst) },0)))
def HM (f0:Fp6->Fp6->Fp6) (f1:Fp6->Fp6->Fp6) (f2:Fp6->Fp6) (f3:Fp6->Fp6 × Int) (f4:Fp6->Fp6) (a:Fp12):Tree (Option (Fp12 × Int)):=letI za':=f3 (f0 (f1 a.c0 a.c0) (f2 (f1 a.c1 a.c1)));
 (.br (za'.snd != 0) (.leaf (some ((qZ,za'.snd)))) (.leaf (some (({ c0:=f1 a.c0 za'.fst,c1:=f4 (f1 a.c1 za'.fst) },0)))))
theorem KW (f0:Fp6->Fp6->Fp6) (f1:Fp6->Fp6->Fp6) (f2:Fp6->Fp6) (f3:Fp6->Fp6 × Int) (f4:Fp6->Fp6) (a:Fp12):ab (En [(168,K2 (aa Fp6).arg (aa Fp6).arg (aa Fp6).rs.res f0),(169,K2 (aa Fp6).arg (aa Fp6).arg (aa Fp6).rs.res f1),(170,K1 (aa Fp6).arg (aa Fp6).rs.res f2),(171,K1 (aa Fp6).arg ((aa Fp6).rs2 kInt).res f3),(172,K1 (aa Fp6).arg (aa Fp6).rs.res f4)]) ((aa Fp12).rs2 kInt) 300 Tryz.f122 [.one ((aa Fp12).av a)]=HM f0 f1 f2 f3 f4 a:=by kernel_rfl
theorem KV (f0:Fp6->Fp6->Fp6) (f1:Fp6->Fp6->Fp6) (f2:Fp6->Fp6) (f3:Fp6->Fp6 × Int) (f4:Fp6->Fp6) (a:Fp12):(HM f0 f1 f2 f3 f4 a).sat fun q=>q=some (iX f0 f1 f2 f3 f4 a):=⟨fun h0=>(show some _=some _ from congrArg some (by unfold iX;rw [h0])),fun h0=>(show some _=some _ from congrArg some (by unfold iX;rw [h0]))⟩
def hH (a:Fp12):Fp12 × Int:=iX gT mP tQ rV mN a
theorem Ta:CallOk Tryz.prog 122 (K1 (aa Fp12).arg ((aa Fp12).rs2 kInt).res hH) :=
 P1 (ag (.cons xU (.cons XQ (.cons Nc (.cons Yp (.cons Hs .nil)))))) Tryz.func122 (ac Tryz.func122 (by kernel_rfl) (by kernel_rfl)) 300 (aa Fp12) ((aa Fp12).rs2 kInt) hH (KW gT mP tQ rV mN) (KV gT mP tQ rV mN)
end
section
abbrev oF2:Out Fp2:=rF2.out
theorem Zq (e:List UInt64) (i:Int):letI za':=IntKind.i64.wrap (i.tdiv 64);dx (En []) oB 100 Tryz.f85 (flat (af Tryz.f85)) (ah Tryz.f85 [iL.av 0 e,vI i] [bN eU64 e])=(.vc ((0<=IntKind.i64.wrap (i.tdiv 64)/\IntKind.i64.wrap (i.tdiv 64)<(↑e.length:Int))/\0+e.length*1<=(List.map EK.u64.cell e).length/\0<1) (.vc (0+za'.toNat*1<e.length) (.vc (0<=i.tmod 64) (.leaf (some ((gk (e.getD (0+za'.toNat*1) 0) (i.tmod 64) &&& UInt64.ofNat 1==UInt64.ofNat 1,.t))))))):=by kernel_rfl
abbrev abR (e:List UInt64) (i:Nat):Prop:=i<64*e.length
abbrev akg (F:List UInt64->Nat->Bool):ak:=K2c aL kI abR kBool.rs.res F
theorem aeV:CallOk Tryz.prog 85 (akg dH) :=
 G2c (E:=En []) Tryz.func85 (c:=af Tryz.f85) (by kernel_rfl) (ac Tryz.func85 (by kernel_rfl) (by kernel_rfl)) iL inpNat abR oB dH fun e i he _ hk=>by
  have he:e.length<1125899906842624:=he
  have hk:i<64*e.length:=hk
  have hi:i<9223372036854775808:=by omega
  have hq:i / 64<e.length:=by omega
  refine DoesL.ends (ag .nil) 100 (Zq e (i:Int)) ?_
  rw [yq i hi,yp]
  refine ⟨mC hq,fun _=>⟨mD hq,fun _=>⟨by omega,fun _=>bA ?_⟩⟩⟩
  rw [OL]
  exact CX _ _ (by omega)
def JY {α:Type} (mF:α->α->α) (a:α) (e:List UInt64):Nat->α->α
 | 0,x=>x
 | n+1,x=>JY mF a e n (match dH e n with | true=>mF (mF x x) a | false=>mF x x)
end
section
abbrev rF12:Rs Fp12:=(aa Fp12).rs
abbrev aiz (a:Fp12):AV := .one ((aa Fp12).av a)
abbrev u6:Out Fp12:=rF12.out
abbrev Ks2 (F:Fp12->Fp12->Fp12):ak:=K2 (aa Fp12).arg (aa Fp12).arg rF12.res F
end
section
def acX (e:List UInt64) (x o:Fp12) (z:Int):St:=aw 34 [(1,inV 0 e),(2,bv 1),(4,bv 2),(5,bv 3),(6,vI z)] [bN eU64 e,own 108 (Row.cs x),own 108 (bO 72),own 108 (Row.cs o)]
def tRs (o:Fp12) (wF:Fp12->Fp12) (hF:Fp12->Fp12->Fp12):cQ := [(67,K0 rF12.res o),(125,K1 (aa Fp12).arg rF12.res wF),(123,Ks2 hF)]
theorem Wl (T:cQ) (a:Fp12) (e:List UInt64):b8 (En T) 100 ((flat (af Tryz.f127)).take 1) (ah Tryz.f127 [aiz a,iL.av 0 e] [bN eU64 e]) [1,2,4] [0,1,2] = .leaf (aw 34 [(1,inV 0 e),(2,bv 1),(4,bv 2)] [bN eU64 e,own 108 (Row.cs a),own 108 (bO 72)]):=by kernel_rfl
theorem Wj (o:Fp12) (wF:Fp12->Fp12) (hF:Fp12->Fp12->Fp12) (a:Fp12) (e:List UInt64):b8 (En (tRs o wF hF)) 100 ((flat (aU Tryz.f127)).take 3) (aw 34 [(1,inV 0 e),(2,bv 1),(4,bv 2)] [bN eU64 e,own 108 (Row.cs a),own 108 (bO 72)]) [1,2,4,5,6] [0,1,2,3] = .vc (0+e.length*1<=(eU64.body e).cells.length/\0<1) (.leaf (acX e a (wF o) (IntKind.i64.wrap (64*e.length)))):=by kernel_rfl
theorem acW (o1:Fp12) (wF:Fp12->Fp12) (hF:Fp12->Fp12->Fp12) (x o:Fp12) (e:List UInt64) (z:Int):letI za':=IntKind.i64.wrap (z-1);fE (En (tRs o1 wF hF)) u6 100 Tryz.f127 ((flat (aU Tryz.f127)).drop 3) (acX e x o z) [1,2,4,5,6] [0,1,2,3] = .br (decide (IntKind.i64.wrap (z-1)<0)) (.leaf (.inr (some (o,.t)))) (.vc ((0<=jk z/\jk z<e.length)/\0+e.length*1<=(eU64.body e).cells.length/\0<1) (.vc (0+(jk z).toNat*1<e.length) (.br (DA e z) (.leaf (.inl (.goto 0,acX e x (hF (hF o o) x) za'))) (.leaf (.inl (.goto 0,acX e x (hF o o) za')))))):=by kernel_rfl
def cC (a:Fp12) (e:List UInt64):Fp12:=JY ar a e (64*e.length) (ba es)
abbrev akB (a:Fp12) (e:List UInt64):Type := { q:Int × Fp12 // 0<=q.1/\q.1<=64*e.length/\JY ar a e q.1.toNat q.2=cC a e }
def rsI (a:Fp12) (e:List UInt64) (q:akB a e):St:=acX e a q.1.2 q.1.1
theorem Rd:CallOk Tryz.prog 127 (K2 (aa Fp12).arg aL rF12.res cC) :=
 G2 (E:=En (tRs es ba ar)) Tryz.func127 (c:=af Tryz.f127) (by kernel_rfl) (ac Tryz.func127 (by kernel_rfl) (by kernel_rfl)) (aa Fp12).inp iL u6 cC fun a e _ he=>by
  have hE:EnvOk (En (tRs es ba ar)):=ag (.cons th (.cons nf (.cons l9 .nil)))
  have he:e.length<1125899906842624:=he
  have hw:IntKind.i64.wrap (64*(e.length:Int))=64*(e.length:Int):=IntWalk.i64_in _ (by omega)
  refine DoesL.stageE hE 100 1 [1,2,4] [0,1,2] (Wl _ a e) ?_
  refine DoesL.scopeFn (body:=aU Tryz.f127) (rest:=oV Tryz.f127) (tail := []) (l:=0) hE (by kernel_rfl) (by kernel_rfl) 100 3 (by kernel_rfl) [1,2,4,5,6] [0,1,2,3] (rsI a e) (fun q=>q.1.1.toNat)
   ⟨(64*(e.length:Int),ba es),by simp only [];omega,by simp only [];omega,by rw [show ((64*(e.length:Int),ba es):Int × Fp12).1.toNat=64*e.length by simp only [];omega];simp only [cC]⟩
   (Wj es ba ar a e) ⟨⟨by rw [cells_len];omega,by decide⟩,fun _=>by rw [hw];exact Tree.sat_leaf (by simp only [rsI])⟩ fun q => ?_
  obtain ⟨⟨z,o⟩,h0,h1,h2⟩:=q
  simp only [] at h0 h1 h2
  have hz:IntKind.i64.wrap (z-1)=z-1:=IntWalk.i64_in _ (by omega)
  refine DoesL.iter hE 100 [1,2,4,5,6] [0,1,2,3] (acW es ba ar a o e z) ?_
  rw [hz]
  refine ⟨fun h => ?_,fun h => ?_⟩
  ·simp only [decide_eq_true_eq] at h
   obtain rfl:z=0:=by omega
   exact ⟨.t,by rw [<- h2];rfl,trivial⟩
  ·simp only [decide_eq_false_iff_not] at h
   obtain ⟨n,rfl⟩ : ∃ n:Nat,z=(n:Int)+1:=⟨(z-1).toNat,by omega⟩
   rw [ls n (by omega),nN e n (by omega)]
   rw [show ((n:Int)+1).toNat=n+1 by omega] at h2
   simp only [JY] at h2
   refine ⟨⟨⟨by omega,by omega⟩,by rw [cells_len];omega,by decide⟩,fun _=>⟨by omega,fun _=>⟨fun h3 => ?_,fun h3 => ?_⟩⟩⟩
   all_goals
    have hn:((n:Int)+1-1).toNat=n:=by omega
    rw [h3] at h2
    simp only [] at h2
   ·refine ⟨rfl,⟨((n:Int)+1-1,ar (ar o o) a),?_,?_,?_⟩,?_,by simp only [rsI]⟩
    ·show 0<=(n:Int)+1-1;omega
    ·show (n:Int)+1-1<=64*e.length;omega
    ·simpa only [hn] using h2
    ·show ((n:Int)+1-1).toNat<((n:Int)+1).toNat;omega
   ·refine ⟨rfl,⟨((n:Int)+1-1,ar o o),?_,?_,?_⟩,?_,by simp only [rsI]⟩
    ·show 0<=(n:Int)+1-1;omega
    ·show (n:Int)+1-1<=64*e.length;omega
    ·simpa only [hn] using h2
    ·show ((n:Int)+1-1).toNat<((n:Int)+1).toNat;omega
abbrev afc (F:Fp12->List UInt64->Fp12):ak:=K2 (aa Fp12).arg aL rF12.res F
end
section
def N5  : Pg1:=({ x := { l0:=UInt64.ofNat 18103045581585958587,l1:=UInt64.ofNat 7806400890582735599,l2:=UInt64.ofNat 11623291730934869080,l3:=UInt64.ofNat 14080658508445169925,l4:=UInt64.ofNat 2780237799254240271,l5:=UInt64.ofNat 1725392847304644500 },y := { l0:=UInt64.ofNat 912580534683953121,l1:=UInt64.ofNat 15005087156090211044,l2:=UInt64.ofNat 61670280795567085,l3:=UInt64.ofNat 18227722000993880822,l4:=UInt64.ofNat 11573741888802228964,l5:=UInt64.ofNat 627113611842199793 },inf:=false })
def N4  : Tree (Option (Pg1)) :=
 (.leaf (some ({ x := { l0:=UInt64.ofNat 18103045581585958587,l1:=UInt64.ofNat 7806400890582735599,l2:=UInt64.ofNat 11623291730934869080,l3:=UInt64.ofNat 14080658508445169925,l4:=UInt64.ofNat 2780237799254240271,l5:=UInt64.ofNat 1725392847304644500 },y := { l0:=UInt64.ofNat 912580534683953121,l1:=UInt64.ofNat 15005087156090211044,l2:=UInt64.ofNat 61670280795567085,l3:=UInt64.ofNat 18227722000993880822,l4:=UInt64.ofNat 11573741888802228964,l5:=UInt64.ofNat 627113611842199793 },inf:=false })))
theorem RQ  : ab (En []) (aa Pg1).rs 300 Tryz.f30 []=N4  := by kernel_rfl
theorem RP  : (N4 ).sat fun q=>q=some (N5 ):=(show some _=some _ from rfl)
def oneG1  : Pg1:=N5
theorem Hk:CallOk Tryz.prog 30 (K0 (aa Pg1).rs.res oneG1) :=
 P0 (ag .nil) Tryz.func30 (ac Tryz.func30 (by kernel_rfl) (by kernel_rfl)) 300  (aa Pg1).rs oneG1 (RQ ) (RP )
def C2 (f0:Fp->Fp->Fp) (f1:Fp->Fp->Fp) (x:Fp):Fp:=(f0 (f1 (f1 x x) x) { l0:=UInt64.ofNat 4,l1:=UInt64.ofNat 0,l2:=UInt64.ofNat 0,l3:=UInt64.ofNat 0,l4:=UInt64.ofNat 0,l5:=UInt64.ofNat 0 })
def NJ (f0:Fp->Fp->Fp) (f1:Fp->Fp->Fp) (x:Fp):Tree (Option (Fp)) :=
 (.leaf (some (f0 (f1 (f1 x x) x) { l0:=UInt64.ofNat 4,l1:=UInt64.ofNat 0,l2:=UInt64.ofNat 0,l3:=UInt64.ofNat 0,l4:=UInt64.ofNat 0,l5:=UInt64.ofNat 0 })))
theorem Q3 (f0:Fp->Fp->Fp) (f1:Fp->Fp->Fp) (x:Fp):ab (En [(90,Kff f0),(91,Kff f1)]) (aa Fp).rs 300 Tryz.f165 [.one ((aa Fp).av x)]=NJ f0 f1 x:=by kernel_rfl
theorem Q1 (f0:Fp->Fp->Fp) (f1:Fp->Fp->Fp) (x:Fp):(NJ f0 f1 x).sat fun q=>q=some (C2 f0 f1 x):=(show some _=some _ from rfl)
def wo (x:Fp):Fp:=C2 cP bT x
theorem WD:CallOk Tryz.prog 165 (K1 (aa Fp).arg (aa Fp).rs.res wo) :=
 P1 (ag (.cons m8 (.cons pf .nil))) Tryz.func165 (ac Tryz.func165 (by kernel_rfl) (by kernel_rfl)) 300 (aa Fp) (aa Fp).rs wo (Q3 cP bT) (Q1 cP bT)
def lz (f0:Fp->Bool) (f1:Fp->Fp->Fp) (f2:Fp->Fp) (p:Pg1):Bool:=(match (p.inf) with | true=>((mL (p) (infG1))) | false=>(match (f0 p.x) with | true=>(match (f0 p.y) with | true=>((cH (f1 p.y p.y) (f2 p.x))) | false=>((false))) | false=>((false))))
def aai (f0:Fp->Bool) (f1:Fp->Fp->Fp) (f2:Fp->Fp) (p:Pg1):Tree (Option (Bool)) :=
 (.br (p.inf) (.leaf (some ((mL (p) (infG1))))) (.br (f0 p.x) (.br (f0 p.y) (.leaf (some ((cH (f1 p.y p.y) (f2 p.x))))) (.leaf (some ((false))))) (.leaf (some ((false))))))
theorem Xk (f0:Fp->Bool) (f1:Fp->Fp->Fp) (f2:Fp->Fp) (p:Pg1):ab (En [(147,Kfb f0),(91,Kff f1),(165,K1 (aa Fp).arg (aa Fp).rs.res f2)]) kBool.rs 300 Tryz.f116 [.one ((aa Pg1).av p)]=aai f0 f1 f2 p:=by kernel_rfl
theorem Xj (f0:Fp->Bool) (f1:Fp->Fp->Fp) (f2:Fp->Fp) (p:Pg1):(aai f0 f1 f2 p).sat fun q=>q=some (lz f0 f1 f2 p):=⟨fun h0=>(show some _=some _ from congrArg some (by unfold lz;rw [h0])),fun h0=>⟨fun h1=>⟨fun h2=>(show some _=some _ from congrArg some (by unfold lz;rw [h0,h1,h2])),fun h2=>(show some _=some _ from congrArg some (by unfold lz;rw [h0,h1,h2]))⟩,fun h1=>(show some _=some _ from congrArg some (by unfold lz;rw [h0,h1]))⟩⟩
def UW (p:Pg1):Bool:=lz qG bT wo p
theorem adz:CallOk Tryz.prog 116 (K1 (aa Pg1).arg kBool.rs.res UW) :=
 P1 (ag (.cons MA (.cons pf (.cons WD .nil)))) Tryz.func116 (ac Tryz.func116 (by kernel_rfl) (by kernel_rfl)) 300 (aa Pg1) kBool.rs UW (Xk qG bT wo) (Xj qG bT wo)
def iU (f0:Fp->Fp) (p:Pg1):Sp1:=(match (p.inf) with | true=>(fF) | false=>({ x:=f0 p.x,y:=f0 p.y,z:=f0 oneFp }))
def HI (f0:Fp->Fp) (p:Pg1):Tree (Option (Sp1)) :=
 (.br (p.inf)
  (.leaf (some (fF)))
  (.leaf (some ({ x:=f0 p.x,y:=f0 p.y,z:=f0 oneFp }))))
theorem KJ (f0:Fp->Fp) (p:Pg1):ab (En [(112,Kf f0)]) (aa Sp1).rs 300 Tryz.f58 [.one ((aa Pg1).av p)]=HI f0 p:=by kernel_rfl
theorem KI (f0:Fp->Fp) (p:Pg1):(HI f0 p).sat fun q=>q=some (iU f0 p):=⟨fun h0=>(show some _=some _ from congrArg some (by unfold iU;rw [h0])),fun h0=>(show some _=some _ from congrArg some (by unfold iU;rw [h0]))⟩
def kE (p:Pg1):Sp1:=iU bf p
theorem Ba:CallOk Tryz.prog 58 (K1 (aa Pg1).arg (aa Sp1).rs.res kE) :=
 P1 (ag (.cons np .nil)) Tryz.func58 (ac Tryz.func58 (by kernel_rfl) (by kernel_rfl)) 300 (aa Pg1) (aa Sp1).rs kE (KJ bf) (KI bf)
def xE (a:Fp):Bool:=((cH (a) (zeroFp)))
def Ge (a:Fp):Tree (Option (Bool)) :=
 (.leaf (some ((cH (a) (zeroFp)))))
theorem IG (a:Fp):ab (En []) kBool.rs 300 Tryz.f117 [.one ((aa Fp).av a)]=Ge a:=by kernel_rfl
theorem IF (a:Fp):(Ge a).sat fun q=>q=some (xE a):=(show some _=some _ from rfl)
def gQ (a:Fp):Bool:=xE  a
theorem Ao:CallOk Tryz.prog 117 (K1 (aa Fp).arg kBool.rs.res gQ) :=
 P1 (ag .nil) Tryz.func117 (ac Tryz.func117 (by kernel_rfl) (by kernel_rfl)) 300 (aa Fp) kBool.rs gQ (IG ) (IF )
def iW (f0:Fp->Fp × Int) (f1:Fp->Fp) (f2:Fp->Fp->Fp) (s:Sp1):Pg1:=(match ((f0 (f1 s.z)).snd != 0) with | true=>(infG1) | false=>({ x:=f2 (f1 s.x) (f2 (f0 (f1 s.z)).fst (f0 (f1 s.z)).fst),y:=f2 (f1 s.y) (f2 (f2 (f0 (f1 s.z)).fst (f0 (f1 s.z)).fst) (f0 (f1 s.z)).fst),inf:=false }))
def HL (f0:Fp->Fp × Int) (f1:Fp->Fp) (f2:Fp->Fp->Fp) (s:Sp1):Tree (Option (Pg1)):=letI za':=f2 (f0 (f1 s.z)).fst (f0 (f1 s.z)).fst;
 (.br ((f0 (f1 s.z)).snd != 0) (.leaf (some (infG1))) (.leaf (some ({ x:=f2 (f1 s.x) za',y:=f2 (f1 s.y) (f2 za' (f0 (f1 s.z)).fst),inf:=false }))))
theorem KT (f0:Fp->Fp × Int) (f1:Fp->Fp) (f2:Fp->Fp->Fp) (s:Sp1):ab (En [(108,afd f0),(109,Kf f1),(91,Kff f2)]) (aa Pg1).rs 300 Tryz.f56 [.one ((aa Sp1).av s)]=HL f0 f1 f2 s:=by kernel_rfl
theorem KS (f0:Fp->Fp × Int) (f1:Fp->Fp) (f2:Fp->Fp->Fp) (s:Sp1):(HL f0 f1 f2 s).sat fun q=>q=some (iW f0 f1 f2 s):=⟨fun h0=>(show some _=some _ from congrArg some (by unfold iW;rw [h0])),fun h0=>(show some _=some _ from congrArg some (by unfold iW;rw [h0]))⟩
def po (s:Sp1):Pg1:=iW dc iR bT s
theorem SY:CallOk Tryz.prog 56 (K1 (aa Sp1).arg (aa Pg1).rs.res po) :=
 P1 (ag (.cons MG (.cons MD (.cons pf .nil)))) Tryz.func56 (ac Tryz.func56 (by kernel_rfl) (by kernel_rfl)) 300 (aa Sp1) (aa Pg1).rs po (KT dc iR bT) (KS dc iR bT)
def sS (f0:Fp->Fp->Fp) (f1:Fp->Fp->Fp) (f2:Fp->Fp->Fp) (s:Sp1):Sp1:=({ x:=f2 (f0 (f1 (f1 (f0 s.x s.x) (f0 s.x s.x)) (f0 s.x s.x)) (f1 (f1 (f0 s.x s.x) (f0 s.x s.x)) (f0 s.x s.x))) (f1 (f1 (f1 (f0 s.x (f0 s.y s.y)) (f0 s.x (f0 s.y s.y))) (f1 (f0 s.x (f0 s.y s.y)) (f0 s.x (f0 s.y s.y)))) (f1 (f1 (f0 s.x (f0 s.y s.y)) (f0 s.x (f0 s.y s.y))) (f1 (f0 s.x (f0 s.y s.y)) (f0 s.x (f0 s.y s.y))))),y:=f2 (f0 (f1 (f1 (f0 s.x s.x) (f0 s.x s.x)) (f0 s.x s.x)) (f2 (f1 (f1 (f0 s.x (f0 s.y s.y)) (f0 s.x (f0 s.y s.y))) (f1 (f0 s.x (f0 s.y s.y)) (f0 s.x (f0 s.y s.y)))) (f2 (f0 (f1 (f1 (f0 s.x s.x) (f0 s.x s.x)) (f0 s.x s.x)) (f1 (f1 (f0 s.x s.x) (f0 s.x s.x)) (f0 s.x s.x))) (f1 (f1 (f1 (f0 s.x (f0 s.y s.y)) (f0 s.x (f0 s.y s.y))) (f1 (f0 s.x (f0 s.y s.y)) (f0 s.x (f0 s.y s.y)))) (f1 (f1 (f0 s.x (f0 s.y s.y)) (f0 s.x (f0 s.y s.y))) (f1 (f0 s.x (f0 s.y s.y)) (f0 s.x (f0 s.y s.y)))))))) (f1 (f1 (f1 (f0 (f0 s.y s.y) (f0 s.y s.y)) (f0 (f0 s.y s.y) (f0 s.y s.y))) (f1 (f0 (f0 s.y s.y) (f0 s.y s.y)) (f0 (f0 s.y s.y) (f0 s.y s.y)))) (f1 (f1 (f0 (f0 s.y s.y) (f0 s.y s.y)) (f0 (f0 s.y s.y) (f0 s.y s.y))) (f1 (f0 (f0 s.y s.y) (f0 s.y s.y)) (f0 (f0 s.y s.y) (f0 s.y s.y))))),z:=f1 (f0 s.y s.z) (f0 s.y s.z) })
def Ay (f0:Fp->Fp->Fp) (f1:Fp->Fp->Fp) (f2:Fp->Fp->Fp) (s:Sp1):Tree (Option (Sp1)):=letI za':=f1 (f0 s.x (f0 s.y s.y)) (f0 s.x (f0 s.y s.y));letI zb':=f0 (f0 s.y s.y) (f0 s.y s.y);letI zc':=f1 (f1 (f0 s.x s.x) (f0 s.x s.x)) (f0 s.x s.x);letI zd':=f1 (f1 za' za') (f1 za' za');letI ze':=f1 (f1 zb' zb') (f1 zb' zb');
 (.leaf (some ({ x:=f2 (f0 zc' zc') zd',y:=f2 (f0 zc' (f2 (f1 za' za') (f2 (f0 zc' zc') zd'))) (f1 ze' ze'),z:=f1 (f0 s.y s.z) (f0 s.y s.z) })))
theorem EP (f0:Fp->Fp->Fp) (f1:Fp->Fp->Fp) (f2:Fp->Fp->Fp) (s:Sp1):ab (En [(152,Kff f0),(90,Kff f1),(131,Kff f2)]) (aa Sp1).rs 300 Tryz.f110 [.one ((aa Sp1).av s)]=Ay f0 f1 f2 s:=by kernel_rfl
theorem EO (f0:Fp->Fp->Fp) (f1:Fp->Fp->Fp) (f2:Fp->Fp->Fp) (s:Sp1):(Ay f0 f1 f2 s).sat fun q=>q=some (sS f0 f1 f2 s):=(show some _=some _ from rfl)
def cB (s:Sp1):Sp1:=sS aP cP dM s
theorem vJ:CallOk Tryz.prog 110 (K1 (aa Sp1).arg (aa Sp1).rs.res cB) :=
 P1 (ag (.cons mw (.cons m8 (.cons sub_ok .nil)))) Tryz.func110 (ac Tryz.func110 (by kernel_rfl) (by kernel_rfl)) 300 (aa Sp1) (aa Sp1).rs cB (EP aP cP dM) (EO aP cP dM)
def cb (f0:Fp->Bool) (f1:Fp->Fp->Fp) (f2:Fp->Fp->Fp) (f3:Sp1->Sp1) (f4:Fp->Fp->Fp) (s:Sp1) (t:Sp1):Sp1:=(match (f0 s.z) with | true=>(t) | false=>(match (f0 t.z) with | true=>(s) | false=>(match (f0 (f2 (f1 t.x (f1 s.z s.z)) (f1 s.x (f1 t.z t.z)))) with | true=>(match (f0 (f2 (f1 t.y (f1 (f1 s.z s.z) s.z)) (f1 s.y (f1 (f1 t.z t.z) t.z)))) with | true=>(f3 s) | false=>(fF)) | false=>({ x:=f2 (f2 (f1 (f2 (f1 t.y (f1 (f1 s.z s.z) s.z)) (f1 s.y (f1 (f1 t.z t.z) t.z))) (f2 (f1 t.y (f1 (f1 s.z s.z) s.z)) (f1 s.y (f1 (f1 t.z t.z) t.z)))) (f1 (f1 (f2 (f1 t.x (f1 s.z s.z)) (f1 s.x (f1 t.z t.z))) (f2 (f1 t.x (f1 s.z s.z)) (f1 s.x (f1 t.z t.z)))) (f2 (f1 t.x (f1 s.z s.z)) (f1 s.x (f1 t.z t.z))))) (f4 (f1 (f1 s.x (f1 t.z t.z)) (f1 (f2 (f1 t.x (f1 s.z s.z)) (f1 s.x (f1 t.z t.z))) (f2 (f1 t.x (f1 s.z s.z)) (f1 s.x (f1 t.z t.z))))) (f1 (f1 s.x (f1 t.z t.z)) (f1 (f2 (f1 t.x (f1 s.z s.z)) (f1 s.x (f1 t.z t.z))) (f2 (f1 t.x (f1 s.z s.z)) (f1 s.x (f1 t.z t.z)))))),y:=f2 (f1 (f2 (f1 t.y (f1 (f1 s.z s.z) s.z)) (f1 s.y (f1 (f1 t.z t.z) t.z))) (f2 (f1 (f1 s.x (f1 t.z t.z)) (f1 (f2 (f1 t.x (f1 s.z s.z)) (f1 s.x (f1 t.z t.z))) (f2 (f1 t.x (f1 s.z s.z)) (f1 s.x (f1 t.z t.z))))) (f2 (f2 (f1 (f2 (f1 t.y (f1 (f1 s.z s.z) s.z)) (f1 s.y (f1 (f1 t.z t.z) t.z))) (f2 (f1 t.y (f1 (f1 s.z s.z) s.z)) (f1 s.y (f1 (f1 t.z t.z) t.z)))) (f1 (f1 (f2 (f1 t.x (f1 s.z s.z)) (f1 s.x (f1 t.z t.z))) (f2 (f1 t.x (f1 s.z s.z)) (f1 s.x (f1 t.z t.z)))) (f2 (f1 t.x (f1 s.z s.z)) (f1 s.x (f1 t.z t.z))))) (f4 (f1 (f1 s.x (f1 t.z t.z)) (f1 (f2 (f1 t.x (f1 s.z s.z)) (f1 s.x (f1 t.z t.z))) (f2 (f1 t.x (f1 s.z s.z)) (f1 s.x (f1 t.z t.z))))) (f1 (f1 s.x (f1 t.z t.z)) (f1 (f2 (f1 t.x (f1 s.z s.z)) (f1 s.x (f1 t.z t.z))) (f2 (f1 t.x (f1 s.z s.z)) (f1 s.x (f1 t.z t.z))))))))) (f1 (f1 s.y (f1 (f1 t.z t.z) t.z)) (f1 (f1 (f2 (f1 t.x (f1 s.z s.z)) (f1 s.x (f1 t.z t.z))) (f2 (f1 t.x (f1 s.z s.z)) (f1 s.x (f1 t.z t.z)))) (f2 (f1 t.x (f1 s.z s.z)) (f1 s.x (f1 t.z t.z))))),z:=f1 (f1 s.z t.z) (f2 (f1 t.x (f1 s.z s.z)) (f1 s.x (f1 t.z t.z))) }))))
def Hf (f0:Fp->Bool) (f1:Fp->Fp->Fp) (f2:Fp->Fp->Fp) (f3:Sp1->Sp1) (f4:Fp->Fp->Fp) (s:Sp1) (t:Sp1):Tree (Option (Sp1)):=letI za':=f2 (f1 t.x (f1 s.z s.z)) (f1 s.x (f1 t.z t.z));letI zb':=f2 (f1 t.y (f1 (f1 s.z s.z) s.z)) (f1 s.y (f1 (f1 t.z t.z) t.z));letI zc':=f1 (f1 s.x (f1 t.z t.z)) (f1 za' za');letI zd':=f2 (f1 zb' zb') (f1 (f1 za' za') za');letI ze':=f1 (f1 s.y (f1 (f1 t.z t.z) t.z)) (f1 (f1 za' za') za');letI zf':=f1 zb' (f2 zc' (f2 zd' (f4 zc' zc')));
 (.br (f0 s.z) (.leaf (some (t))) (.br (f0 t.z) (.leaf (some (s))) (.br (f0 za') (.br (f0 zb') (.leaf (some (f3 s))) (.br (f0 za') (.leaf (some (fF))) (.leaf (some ({ x:=f2 zd' (f4 zc' zc'),y:=f2 zf' ze',z:=f1 (f1 s.z t.z) za' }))))) (.br (f0 za') (.leaf (some (fF))) (.leaf (some ({ x:=f2 zd' (f4 zc' zc'),y:=f2 zf' ze',z:=f1 (f1 s.z t.z) za' })))))))
theorem J5 (f0:Fp->Bool) (f1:Fp->Fp->Fp) (f2:Fp->Fp->Fp) (f3:Sp1->Sp1) (f4:Fp->Fp->Fp) (s:Sp1) (t:Sp1):ab (En [(117,K1 (aa Fp).arg kBool.rs.res f0),(152,Kff f1),(131,Kff f2),(110,K1 (aa Sp1).arg (aa Sp1).rs.res f3),(90,Kff f4)]) (aa Sp1).rs 300 Tryz.f111 [.one ((aa Sp1).av s),.one ((aa Sp1).av t)]=Hf f0 f1 f2 f3 f4 s t:=by kernel_rfl
theorem J4 (f0:Fp->Bool) (f1:Fp->Fp->Fp) (f2:Fp->Fp->Fp) (f3:Sp1->Sp1) (f4:Fp->Fp->Fp) (s:Sp1) (t:Sp1):(Hf f0 f1 f2 f3 f4 s t).sat fun q=>q=some (cb f0 f1 f2 f3 f4 s t):=⟨fun h0=>(show some _=some _ from congrArg some (by unfold cb;rw [h0])),fun h0=>⟨fun h1=>(show some _=some _ from congrArg some (by unfold cb;rw [h0,h1])),fun h1=>⟨fun h2=>⟨fun h3=>(show some _=some _ from congrArg some (by unfold cb;rw [h0,h1,h2,h3])),fun h3=>⟨fun _=>(show some _=some _ from congrArg some (by unfold cb;rw [h0,h1,h2,h3])),fun h4=>absurd (h2.symm.trans h4) (by decide)⟩⟩,fun h2=>⟨fun h3=>absurd (h2.symm.trans h3) (by decide),fun _=>(show some _=some _ from congrArg some (by unfold cb;rw [h0,h1,h2]))⟩⟩⟩⟩
def gX (s:Sp1) (t:Sp1):Sp1:=cb gQ aP dM cB cP s t
theorem RG:CallOk Tryz.prog 111 (K2 (aa Sp1).arg (aa Sp1).arg (aa Sp1).rs.res gX) :=
 P2 (ag (.cons Ao (.cons mw (.cons sub_ok (.cons vJ (.cons m8 .nil)))))) Tryz.func111 (ac Tryz.func111 (by kernel_rfl) (by kernel_rfl)) 300 (aa Sp1) (aa Sp1) (aa Sp1).rs gX (J5 gQ aP dM cB cP) (J4 gQ aP dM cB cP)
def kO (f0:Fp->Fp) (p:Pg1):Pg1:=(match (p.inf) with | true=>(p) | false=>({ x:=p.x,y:=f0 p.y,inf:=false }))
def Oh (f0:Fp->Fp) (p:Pg1):Tree (Option (Pg1)) :=
 (.br (p.inf)
  (.leaf (some (p)))
  (.leaf (some ({ x:=p.x,y:=f0 p.y,inf:=false }))))
theorem R1 (f0:Fp->Fp) (p:Pg1):ab (En [(68,Kf f0)]) (aa Pg1).rs 300 Tryz.f35 [.one ((aa Pg1).av p)]=Oh f0 p:=by kernel_rfl
theorem R0 (f0:Fp->Fp) (p:Pg1):(Oh f0 p).sat fun q=>q=some (kO f0 p):=⟨fun h0=>(show some _=some _ from congrArg some (by unfold kO;rw [h0])),fun h0=>(show some _=some _ from congrArg some (by unfold kO;rw [h0]))⟩
def fB (p:Pg1):Pg1:=kO dV p
theorem Hr:CallOk Tryz.prog 35 (K1 (aa Pg1).arg (aa Pg1).rs.res fB) :=
 P1 (ag (.cons zx .nil)) Tryz.func35 (ac Tryz.func35 (by kernel_rfl) (by kernel_rfl)) 300 (aa Pg1) (aa Pg1).rs fB (R1 dV) (R0 dV)
def MP (a:Pg1) (b:Pg1):Bool:=((mL (a) (b)))
def aaX (a:Pg1) (b:Pg1):Tree (Option (Bool)) :=
 (.leaf (some ((mL (a) (b)))))
theorem YX (a:Pg1) (b:Pg1):ab (En []) kBool.rs 300 Tryz.f33 [.one ((aa Pg1).av a),.one ((aa Pg1).av b)]=aaX a b:=by kernel_rfl
theorem YW (a:Pg1) (b:Pg1):(aaX a b).sat fun q=>q=some (MP a b):=(show some _=some _ from rfl)
def OT (a:Pg1) (b:Pg1):Bool:=MP  a b
theorem aeF:CallOk Tryz.prog 33 (K2 (aa Pg1).arg (aa Pg1).arg kBool.rs.res OT) :=
 P2 (ag .nil) Tryz.func33 (ac Tryz.func33 (by kernel_rfl) (by kernel_rfl)) 300 (aa Pg1) (aa Pg1) kBool.rs OT (YX ) (YW )
end
section
def JM (e:List UInt64) (x o:Fp2) (z:Int):St:=aw 39 [(1,inV 0 e),(4,bv 1),(5,bv 2),(6,bv 3),(7,vI z)] [bN eU64 e,own 31 (bO 12),own 31 (Row.cs x),own 31 (Row.cs o)]
def afu (wF:Fp2->Fp2) (hF:Fp2->Fp2->Fp2) (lF:Fp2->Fp2):cQ := [(107,Kp1 wF),(157,Kp2 hF),(104,Kp1 lF)]
theorem Rf (T:cQ) (a:Fp2) (e:List UInt64):b8 (En T) 100 ((flat (af Tryz.f176)).take 1) (ah Tryz.f176 [vF2 a,iL.av 0 e] [bN eU64 e]) [1,2,4] [0,1,2] = .leaf (aw 39 [(1,inV 0 e),(2,bv 1),(4,bv 2)] [bN eU64 e,own 31 (Row.cs a),own 31 (bO 12)]):=by kernel_rfl
theorem Re (hF:Fp2->Fp2->Fp2) (wF lF:Fp2->Fp2) (a:Fp2) (e:List UInt64):b8 (En (afu wF hF lF)) 100 ((flat (aU Tryz.f176)).take 3) (aw 39 [(1,inV 0 e),(2,bv 1),(4,bv 2)] [bN eU64 e,own 31 (Row.cs a),own 31 (bO 12)]) [1,4,5,6,7] [0,2,3,4] = .vc (0+e.length*1<=(eU64.body e).cells.length/\0<1) (.leaf (JM e (wF a) (wF oneFp2) (IntKind.i64.wrap (64*e.length)))):=by kernel_rfl
theorem WN (hF:Fp2->Fp2->Fp2) (wF lF:Fp2->Fp2) (x o:Fp2) (e:List UInt64) (z:Int):letI za':=IntKind.i64.wrap (z-1);fE (En (afu wF hF lF)) oF2 100 Tryz.f176 ((flat (aU Tryz.f176)).drop 3) (JM e x o z) [1,4,5,6,7] [0,1,2,3] = .br (decide (IntKind.i64.wrap (z-1)<0)) (.leaf (.inr (some (lF o,.t)))) (.vc ((0<=jk z/\jk z<e.length)/\0+e.length*1<=(eU64.body e).cells.length/\0<1) (.vc (0+(jk z).toNat*1<e.length) (.br (DA e z) (.leaf (.inl (.goto 0,JM e x (hF (hF o o) x) za'))) (.leaf (.inl (.goto 0,JM e x (hF o o) za')))))):=by kernel_rfl
def DW (x:Fp2) (e:List UInt64):Nat->Fp2->Fp2
 | 0,o=>cM o
 | n+1,o=>DW x e n (match dH e n with | true=>ad (ad o o) x | false=>ad o o)
def nZ (a:Fp2) (e:List UInt64):Fp2:=DW (ax a) e (64*e.length) (ax oneFp2)
abbrev ajO (a:Fp2) (e:List UInt64):Type := { q:Int × Fp2 // 0<=q.1/\q.1<=64*e.length/\DW (ax a) e q.1.toNat q.2=nZ a e }
def afG (a:Fp2) (e:List UInt64) (q:ajO a e):St:=JM e (ax a) q.1.2 q.1.1
theorem aha:CallOk Tryz.prog 176 (K2 (aa Fp2).arg aL rF2.res nZ) :=
 G2 (E:=En (afu ax ad cM)) Tryz.func176 (c:=af Tryz.f176) (by kernel_rfl) (ac Tryz.func176 (by kernel_rfl) (by kernel_rfl)) (aa Fp2).inp iL oF2 nZ fun a e _ he=>by
  have hE:EnvOk (En (afu ax ad cM)):=ag (.cons fv (.cons cw (.cons rR .nil)))
  have he:e.length<1125899906842624:=he
  have hw:IntKind.i64.wrap (64*(e.length:Int))=64*(e.length:Int):=IntWalk.i64_in _ (by omega)
  refine DoesL.stageE hE 100 1 [1,2,4] [0,1,2] (Rf _ a e) ?_
  refine DoesL.scopeFn (body:=aU Tryz.f176) (rest:=oV Tryz.f176) (tail := []) (l:=0) hE (by kernel_rfl) (by kernel_rfl) 100 3 (by kernel_rfl) [1,4,5,6,7] [0,2,3,4] (afG a e) (fun q=>q.1.1.toNat)
   ⟨(64*(e.length:Int),ax oneFp2),by simp only [];omega,by simp only [];omega,by rw [show ((64*(e.length:Int),ax oneFp2):Int × Fp2).1.toNat=64*e.length by simp only [];omega];simp only [nZ]⟩
   (Re ad ax cM a e) ⟨⟨by rw [cells_len];omega,by decide⟩,fun _=>by rw [hw];exact Tree.sat_leaf (by simp only [afG])⟩ fun q => ?_
  obtain ⟨⟨z,o⟩,h0,h1,h2⟩:=q
  simp only [] at h0 h1 h2
  have hz:IntKind.i64.wrap (z-1)=z-1:=IntWalk.i64_in _ (by omega)
  refine DoesL.iter hE 100 [1,4,5,6,7] [0,1,2,3] (WN ad ax cM (ax a) o e z) ?_
  rw [hz]
  refine ⟨fun h => ?_,fun h => ?_⟩
  ·simp only [decide_eq_true_eq] at h
   obtain rfl:z=0:=by omega
   exact ⟨.t,by rw [<- h2];rfl,trivial⟩
  ·simp only [decide_eq_false_iff_not] at h
   obtain ⟨n,rfl⟩ : ∃ n:Nat,z=(n:Int)+1:=⟨(z-1).toNat,by omega⟩
   rw [ls n (by omega),nN e n (by omega)]
   rw [show ((n:Int)+1).toNat=n+1 by omega] at h2
   simp only [DW] at h2
   refine ⟨⟨⟨by omega,by omega⟩,by rw [cells_len];omega,by decide⟩,fun _=>⟨by omega,fun _=>⟨fun h3 => ?_,fun h3 => ?_⟩⟩⟩
   all_goals
    have hn:((n:Int)+1-1).toNat=n:=by omega
    rw [h3] at h2
    simp only [] at h2
   ·refine ⟨rfl,⟨((n:Int)+1-1,ad (ad o o) (ax a)),?_,?_,?_⟩,?_,by simp only [afG]⟩
    ·show 0<=(n:Int)+1-1;omega
    ·show (n:Int)+1-1<=64*e.length;omega
    ·simpa only [hn] using h2
    ·show ((n:Int)+1-1).toNat<((n:Int)+1).toNat;omega
   ·refine ⟨rfl,⟨((n:Int)+1-1,ad o o),?_,?_,?_⟩,?_,by simp only [afG]⟩
    ·show 0<=(n:Int)+1-1;omega
    ·show (n:Int)+1-1<=64*e.length;omega
    ·simpa only [hn] using h2
    ·show ((n:Int)+1-1).toNat<((n:Int)+1).toNat;omega
end
section
def N3  : Pg2:=({ x := { c0 := { l0:=UInt64.ofNat 15312334153293348280,l1:=UInt64.ofNat 841050694974028783,l2:=UInt64.ofNat 12993178926126977399,l3:=UInt64.ofNat 14331714969349929730,l4:=UInt64.ofNat 2740446039084699729,l5:=UInt64.ofNat 165123225776229009 },c1 := { l0:=UInt64.ofNat 16549740192668593022,l1:=UInt64.ofNat 3696594454104530263,l2:=UInt64.ofNat 13103893525273989193,l3:=UInt64.ofNat 6443473286224459290,l4:=UInt64.ofNat 9055845637167730533,l5:=UInt64.ofNat 1432192374203850592 } },y := { c0 := { l0:=UInt64.ofNat 16254428414758889473,l1:=UInt64.ofNat 10536956157198377609,l2:=UInt64.ofNat 7873024875724591404,l3:=UInt64.ofNat 12537348094477325223,l4:=UInt64.ofNat 10144865889576432922,l5:=UInt64.ofNat 929383263523139089 },c1 := { l0:=UInt64.ofNat 12297368366147926462,l1:=UInt64.ofNat 4555124010822409633,l2:=UInt64.ofNat 2771000935339432363,l3:=UInt64.ofNat 14645187562128761775,l4:=UInt64.ofNat 3651525051980876697,l5:=UInt64.ofNat 434250606344352972 } },inf:=false })
def N2  : Tree (Option (Pg2)) :=
 (.leaf (some ({ x := { c0 := { l0:=UInt64.ofNat 15312334153293348280,l1:=UInt64.ofNat 841050694974028783,l2:=UInt64.ofNat 12993178926126977399,l3:=UInt64.ofNat 14331714969349929730,l4:=UInt64.ofNat 2740446039084699729,l5:=UInt64.ofNat 165123225776229009 },c1 := { l0:=UInt64.ofNat 16549740192668593022,l1:=UInt64.ofNat 3696594454104530263,l2:=UInt64.ofNat 13103893525273989193,l3:=UInt64.ofNat 6443473286224459290,l4:=UInt64.ofNat 9055845637167730533,l5:=UInt64.ofNat 1432192374203850592 } },y := { c0 := { l0:=UInt64.ofNat 16254428414758889473,l1:=UInt64.ofNat 10536956157198377609,l2:=UInt64.ofNat 7873024875724591404,l3:=UInt64.ofNat 12537348094477325223,l4:=UInt64.ofNat 10144865889576432922,l5:=UInt64.ofNat 929383263523139089 },c1 := { l0:=UInt64.ofNat 12297368366147926462,l1:=UInt64.ofNat 4555124010822409633,l2:=UInt64.ofNat 2771000935339432363,l3:=UInt64.ofNat 14645187562128761775,l4:=UInt64.ofNat 3651525051980876697,l5:=UInt64.ofNat 434250606344352972 } },inf:=false })))
theorem RO  : ab (En []) (aa Pg2).rs 300 Tryz.f27 []=N2  := by kernel_rfl
theorem RN  : (N2 ).sat fun q=>q=some (N3 ):=(show some _=some _ from rfl)
def oneG2  : Pg2:=N3
theorem Hj:CallOk Tryz.prog 27 (K0 (aa Pg2).rs.res oneG2) :=
 P0 (ag .nil) Tryz.func27 (ac Tryz.func27 (by kernel_rfl) (by kernel_rfl)) 300  (aa Pg2).rs oneG2 (RO ) (RN )
def C1 (f0:Fp2->Fp2->Fp2) (f1:Fp2->Fp2->Fp2) (x:Fp2):Fp2:=(f0 (f1 (f1 x x) x) { c0 := { l0:=UInt64.ofNat 4,l1:=UInt64.ofNat 0,l2:=UInt64.ofNat 0,l3:=UInt64.ofNat 0,l4:=UInt64.ofNat 0,l5:=UInt64.ofNat 0 },c1 := { l0:=UInt64.ofNat 4,l1:=UInt64.ofNat 0,l2:=UInt64.ofNat 0,l3:=UInt64.ofNat 0,l4:=UInt64.ofNat 0,l5:=UInt64.ofNat 0 } })
def NI (f0:Fp2->Fp2->Fp2) (f1:Fp2->Fp2->Fp2) (x:Fp2):Tree (Option (Fp2)):=letI za':Fp := { l0:=UInt64.ofNat 4,l1:=UInt64.ofNat 0,l2:=UInt64.ofNat 0,l3:=UInt64.ofNat 0,l4:=UInt64.ofNat 0,l5:=UInt64.ofNat 0 };
 (.leaf (some (f0 (f1 (f1 x x) x) { c0:=za',c1:=za' })))
theorem Q0 (f0:Fp2->Fp2->Fp2) (f1:Fp2->Fp2->Fp2) (x:Fp2):ab (En [(94,K2 (aa Fp2).arg (aa Fp2).arg (aa Fp2).rs.res f0),(95,K2 (aa Fp2).arg (aa Fp2).arg (aa Fp2).rs.res f1)]) (aa Fp2).rs 300 Tryz.f167 [.one ((aa Fp2).av x)]=NI f0 f1 x:=by kernel_rfl
theorem QZ (f0:Fp2->Fp2->Fp2) (f1:Fp2->Fp2->Fp2) (x:Fp2):(NI f0 f1 x).sat fun q=>q=some (C1 f0 f1 x):=(show some _=some _ from rfl)
def wm (x:Fp2):Fp2:=C1 az aR x
theorem WC:CallOk Tryz.prog 167 (K1 (aa Fp2).arg (aa Fp2).rs.res wm) :=
 P1 (ag (.cons eH (.cons lA .nil))) Tryz.func167 (ac Tryz.func167 (by kernel_rfl) (by kernel_rfl)) 300 (aa Fp2) (aa Fp2).rs wm (Q0 az aR) (QZ az aR)
def lw (f0:Fp2->Bool) (f1:Fp2->Fp2->Fp2) (f2:Fp2->Fp2) (p:Pg2):Bool:=(match (p.inf) with | true=>((uw (p) (infG2))) | false=>(match (f0 p.x) with | true=>(match (f0 p.y) with | true=>((dj (f1 p.y p.y) (f2 p.x))) | false=>((false))) | false=>((false))))
def aah (f0:Fp2->Bool) (f1:Fp2->Fp2->Fp2) (f2:Fp2->Fp2) (p:Pg2):Tree (Option (Bool)) :=
 (.br (p.inf) (.leaf (some ((uw (p) (infG2))))) (.br (f0 p.x) (.br (f0 p.y) (.leaf (some ((dj (f1 p.y p.y) (f2 p.x))))) (.leaf (some ((false))))) (.leaf (some ((false))))))
theorem Xg (f0:Fp2->Bool) (f1:Fp2->Fp2->Fp2) (f2:Fp2->Fp2) (p:Pg2):ab (En [(166,K1 (aa Fp2).arg kBool.rs.res f0),(95,K2 (aa Fp2).arg (aa Fp2).arg (aa Fp2).rs.res f1),(167,K1 (aa Fp2).arg (aa Fp2).rs.res f2)]) kBool.rs 300 Tryz.f119 [.one ((aa Pg2).av p)]=aah f0 f1 f2 p:=by kernel_rfl
theorem Xf (f0:Fp2->Bool) (f1:Fp2->Fp2->Fp2) (f2:Fp2->Fp2) (p:Pg2):(aah f0 f1 f2 p).sat fun q=>q=some (lw f0 f1 f2 p):=⟨fun h0=>(show some _=some _ from congrArg some (by unfold lw;rw [h0])),fun h0=>⟨fun h1=>⟨fun h2=>(show some _=some _ from congrArg some (by unfold lw;rw [h0,h1,h2])),fun h2=>(show some _=some _ from congrArg some (by unfold lw;rw [h0,h1,h2]))⟩,fun h1=>(show some _=some _ from congrArg some (by unfold lw;rw [h0,h1]))⟩⟩
def UV (p:Pg2):Bool:=lw Ad aR wm p
theorem ady:CallOk Tryz.prog 119 (K1 (aa Pg2).arg kBool.rs.res UV) :=
 P1 (ag (.cons Yc (.cons lA (.cons WC .nil)))) Tryz.func119 (ac Tryz.func119 (by kernel_rfl) (by kernel_rfl)) 300 (aa Pg2) kBool.rs UV (Xg Ad aR wm) (Xf Ad aR wm)
def iT (f0:Fp2->Fp2) (p:Pg2):Fp6:=(match (p.inf) with | true=>(zeroFp6) | false=>({ c0:=f0 p.x,c1:=f0 p.y,c2:=f0 oneFp2 }))
def HH (f0:Fp2->Fp2) (p:Pg2):Tree (Option (Fp6)) :=
 (.br (p.inf)
  (.leaf (some (zeroFp6)))
  (.leaf (some ({ c0:=f0 p.x,c1:=f0 p.y,c2:=f0 oneFp2 }))))
theorem KF (f0:Fp2->Fp2) (p:Pg2):ab (En [(107,K1 (aa Fp2).arg (aa Fp2).rs.res f0)]) (aa Fp6).rs 300 Tryz.f55 [.one ((aa Pg2).av p)]=HH f0 p:=by kernel_rfl
theorem KE (f0:Fp2->Fp2) (p:Pg2):(HH f0 p).sat fun q=>q=some (iT f0 p):=⟨fun h0=>(show some _=some _ from congrArg some (by unfold iT;rw [h0])),fun h0=>(show some _=some _ from congrArg some (by unfold iT;rw [h0]))⟩
def kD (p:Pg2):Fp6:=iT ax p
theorem A9:CallOk Tryz.prog 55 (K1 (aa Pg2).arg (aa Fp6).rs.res kD) :=
 P1 (ag (.cons fv .nil)) Tryz.func55 (ac Tryz.func55 (by kernel_rfl) (by kernel_rfl)) 300 (aa Pg2) (aa Fp6).rs kD (KF ax) (KE ax)
def xD (a:Fp2):Bool:=((dj (a) (zeroFp2)))
def Gd (a:Fp2):Tree (Option (Bool)) :=
 (.leaf (some ((dj (a) (zeroFp2)))))
theorem IE (a:Fp2):ab (En []) kBool.rs 300 Tryz.f120 [.one ((aa Fp2).av a)]=Gd a:=by kernel_rfl
theorem ID (a:Fp2):(Gd a).sat fun q=>q=some (xD a):=(show some _=some _ from rfl)
def gP (a:Fp2):Bool:=xD  a
theorem An:CallOk Tryz.prog 120 (K1 (aa Fp2).arg kBool.rs.res gP) :=
 P1 (ag .nil) Tryz.func120 (ac Tryz.func120 (by kernel_rfl) (by kernel_rfl)) 300 (aa Fp2) kBool.rs gP (IE ) (ID )
def iV (f0:Fp2->Fp2 × Int) (f1:Fp2->Fp2) (f2:Fp2->Fp2->Fp2) (s:Fp6):Pg2:=(match ((f0 (f1 s.c2)).snd != 0) with | true=>(infG2) | false=>({ x:=f2 (f1 s.c0) (f2 (f0 (f1 s.c2)).fst (f0 (f1 s.c2)).fst),y:=f2 (f1 s.c1) (f2 (f2 (f0 (f1 s.c2)).fst (f0 (f1 s.c2)).fst) (f0 (f1 s.c2)).fst),inf:=false }))
def HK (f0:Fp2->Fp2 × Int) (f1:Fp2->Fp2) (f2:Fp2->Fp2->Fp2) (s:Fp6):Tree (Option (Pg2)):=letI za':=f0 (f1 s.c2);letI zb':=f2 za'.fst za'.fst;
 (.br (za'.snd != 0) (.leaf (some (infG2))) (.leaf (some ({ x:=f2 (f1 s.c0) zb',y:=f2 (f1 s.c1) (f2 zb' za'.fst),inf:=false }))))
theorem KQ (f0:Fp2->Fp2 × Int) (f1:Fp2->Fp2) (f2:Fp2->Fp2->Fp2) (s:Fp6):ab (En [(103,K1 (aa Fp2).arg ((aa Fp2).rs2 kInt).res f0),(104,K1 (aa Fp2).arg (aa Fp2).rs.res f1),(95,K2 (aa Fp2).arg (aa Fp2).arg (aa Fp2).rs.res f2)]) (aa Pg2).rs 300 Tryz.f53 [.one ((aa Fp6).av s)]=HK f0 f1 f2 s:=by kernel_rfl
theorem KP (f0:Fp2->Fp2 × Int) (f1:Fp2->Fp2) (f2:Fp2->Fp2->Fp2) (s:Fp6):(HK f0 f1 f2 s).sat fun q=>q=some (iV f0 f1 f2 s):=⟨fun h0=>(show some _=some _ from congrArg some (by unfold iV;rw [h0])),fun h0=>(show some _=some _ from congrArg some (by unfold iV;rw [h0]))⟩
def pn (s:Fp6):Pg2:=iV d7 cM aR s
theorem SW:CallOk Tryz.prog 53 (K1 (aa Fp6).arg (aa Pg2).rs.res pn) :=
 P1 (ag (.cons yD (.cons rR (.cons lA .nil)))) Tryz.func53 (ac Tryz.func53 (by kernel_rfl) (by kernel_rfl)) 300 (aa Fp6) (aa Pg2).rs pn (KQ d7 cM aR) (KP d7 cM aR)
def sR (f0:Fp2->Fp2->Fp2) (f1:Fp2->Fp2->Fp2) (f2:Fp2->Fp2->Fp2) (s:Fp6):Fp6:=({ c0:=f2 (f0 (f1 (f1 (f0 s.c0 s.c0) (f0 s.c0 s.c0)) (f0 s.c0 s.c0)) (f1 (f1 (f0 s.c0 s.c0) (f0 s.c0 s.c0)) (f0 s.c0 s.c0))) (f1 (f1 (f1 (f0 s.c0 (f0 s.c1 s.c1)) (f0 s.c0 (f0 s.c1 s.c1))) (f1 (f0 s.c0 (f0 s.c1 s.c1)) (f0 s.c0 (f0 s.c1 s.c1)))) (f1 (f1 (f0 s.c0 (f0 s.c1 s.c1)) (f0 s.c0 (f0 s.c1 s.c1))) (f1 (f0 s.c0 (f0 s.c1 s.c1)) (f0 s.c0 (f0 s.c1 s.c1))))),c1:=f2 (f0 (f1 (f1 (f0 s.c0 s.c0) (f0 s.c0 s.c0)) (f0 s.c0 s.c0)) (f2 (f1 (f1 (f0 s.c0 (f0 s.c1 s.c1)) (f0 s.c0 (f0 s.c1 s.c1))) (f1 (f0 s.c0 (f0 s.c1 s.c1)) (f0 s.c0 (f0 s.c1 s.c1)))) (f2 (f0 (f1 (f1 (f0 s.c0 s.c0) (f0 s.c0 s.c0)) (f0 s.c0 s.c0)) (f1 (f1 (f0 s.c0 s.c0) (f0 s.c0 s.c0)) (f0 s.c0 s.c0))) (f1 (f1 (f1 (f0 s.c0 (f0 s.c1 s.c1)) (f0 s.c0 (f0 s.c1 s.c1))) (f1 (f0 s.c0 (f0 s.c1 s.c1)) (f0 s.c0 (f0 s.c1 s.c1)))) (f1 (f1 (f0 s.c0 (f0 s.c1 s.c1)) (f0 s.c0 (f0 s.c1 s.c1))) (f1 (f0 s.c0 (f0 s.c1 s.c1)) (f0 s.c0 (f0 s.c1 s.c1)))))))) (f1 (f1 (f1 (f0 (f0 s.c1 s.c1) (f0 s.c1 s.c1)) (f0 (f0 s.c1 s.c1) (f0 s.c1 s.c1))) (f1 (f0 (f0 s.c1 s.c1) (f0 s.c1 s.c1)) (f0 (f0 s.c1 s.c1) (f0 s.c1 s.c1)))) (f1 (f1 (f0 (f0 s.c1 s.c1) (f0 s.c1 s.c1)) (f0 (f0 s.c1 s.c1) (f0 s.c1 s.c1))) (f1 (f0 (f0 s.c1 s.c1) (f0 s.c1 s.c1)) (f0 (f0 s.c1 s.c1) (f0 s.c1 s.c1))))),c2:=f1 (f0 s.c1 s.c2) (f0 s.c1 s.c2) })
def Ax (f0:Fp2->Fp2->Fp2) (f1:Fp2->Fp2->Fp2) (f2:Fp2->Fp2->Fp2) (s:Fp6):Tree (Option (Fp6)):=letI za':=f1 (f0 s.c0 (f0 s.c1 s.c1)) (f0 s.c0 (f0 s.c1 s.c1));letI zb':=f0 (f0 s.c1 s.c1) (f0 s.c1 s.c1);letI zc':=f1 (f1 (f0 s.c0 s.c0) (f0 s.c0 s.c0)) (f0 s.c0 s.c0);letI zd':=f1 (f1 za' za') (f1 za' za');letI ze':=f1 (f1 zb' zb') (f1 zb' zb');
 (.leaf (some ({ c0:=f2 (f0 zc' zc') zd',c1:=f2 (f0 zc' (f2 (f1 za' za') (f2 (f0 zc' zc') zd'))) (f1 ze' ze'),c2:=f1 (f0 s.c1 s.c2) (f0 s.c1 s.c2) })))
theorem EN (f0:Fp2->Fp2->Fp2) (f1:Fp2->Fp2->Fp2) (f2:Fp2->Fp2->Fp2) (s:Fp6):ab (En [(157,K2 (aa Fp2).arg (aa Fp2).arg (aa Fp2).rs.res f0),(94,K2 (aa Fp2).arg (aa Fp2).arg (aa Fp2).rs.res f1),(163,K2 (aa Fp2).arg (aa Fp2).arg (aa Fp2).rs.res f2)]) (aa Fp6).rs 300 Tryz.f105 [.one ((aa Fp6).av s)]=Ax f0 f1 f2 s:=by kernel_rfl
theorem EM (f0:Fp2->Fp2->Fp2) (f1:Fp2->Fp2->Fp2) (f2:Fp2->Fp2->Fp2) (s:Fp6):(Ax f0 f1 f2 s).sat fun q=>q=some (sR f0 f1 f2 s):=(show some _=some _ from rfl)
def cz (s:Fp6):Fp6:=sR ad az aG s
theorem vH:CallOk Tryz.prog 105 (K1 (aa Fp6).arg (aa Fp6).rs.res cz) :=
 P1 (ag (.cons cw (.cons eH (.cons fm .nil)))) Tryz.func105 (ac Tryz.func105 (by kernel_rfl) (by kernel_rfl)) 300 (aa Fp6) (aa Fp6).rs cz (EN ad az aG) (EM ad az aG)
def ca (f0:Fp2->Bool) (f1:Fp2->Fp2->Fp2) (f2:Fp2->Fp2->Fp2) (f3:Fp6->Fp6) (f4:Fp2->Fp2->Fp2) (s:Fp6) (t:Fp6):Fp6:=(match (f0 s.c2) with | true=>(t) | false=>(match (f0 t.c2) with | true=>(s) | false=>(match (f0 (f2 (f1 t.c0 (f1 s.c2 s.c2)) (f1 s.c0 (f1 t.c2 t.c2)))) with | true=>(match (f0 (f2 (f1 t.c1 (f1 (f1 s.c2 s.c2) s.c2)) (f1 s.c1 (f1 (f1 t.c2 t.c2) t.c2)))) with | true=>(f3 s) | false=>(zeroFp6)) | false=>({ c0:=f2 (f2 (f1 (f2 (f1 t.c1 (f1 (f1 s.c2 s.c2) s.c2)) (f1 s.c1 (f1 (f1 t.c2 t.c2) t.c2))) (f2 (f1 t.c1 (f1 (f1 s.c2 s.c2) s.c2)) (f1 s.c1 (f1 (f1 t.c2 t.c2) t.c2)))) (f1 (f1 (f2 (f1 t.c0 (f1 s.c2 s.c2)) (f1 s.c0 (f1 t.c2 t.c2))) (f2 (f1 t.c0 (f1 s.c2 s.c2)) (f1 s.c0 (f1 t.c2 t.c2)))) (f2 (f1 t.c0 (f1 s.c2 s.c2)) (f1 s.c0 (f1 t.c2 t.c2))))) (f4 (f1 (f1 s.c0 (f1 t.c2 t.c2)) (f1 (f2 (f1 t.c0 (f1 s.c2 s.c2)) (f1 s.c0 (f1 t.c2 t.c2))) (f2 (f1 t.c0 (f1 s.c2 s.c2)) (f1 s.c0 (f1 t.c2 t.c2))))) (f1 (f1 s.c0 (f1 t.c2 t.c2)) (f1 (f2 (f1 t.c0 (f1 s.c2 s.c2)) (f1 s.c0 (f1 t.c2 t.c2))) (f2 (f1 t.c0 (f1 s.c2 s.c2)) (f1 s.c0 (f1 t.c2 t.c2)))))),c1:=f2 (f1 (f2 (f1 t.c1 (f1 (f1 s.c2 s.c2) s.c2)) (f1 s.c1 (f1 (f1 t.c2 t.c2) t.c2))) (f2 (f1 (f1 s.c0 (f1 t.c2 t.c2)) (f1 (f2 (f1 t.c0 (f1 s.c2 s.c2)) (f1 s.c0 (f1 t.c2 t.c2))) (f2 (f1 t.c0 (f1 s.c2 s.c2)) (f1 s.c0 (f1 t.c2 t.c2))))) (f2 (f2 (f1 (f2 (f1 t.c1 (f1 (f1 s.c2 s.c2) s.c2)) (f1 s.c1 (f1 (f1 t.c2 t.c2) t.c2))) (f2 (f1 t.c1 (f1 (f1 s.c2 s.c2) s.c2)) (f1 s.c1 (f1 (f1 t.c2 t.c2) t.c2)))) (f1 (f1 (f2 (f1 t.c0 (f1 s.c2 s.c2)) (f1 s.c0 (f1 t.c2 t.c2))) (f2 (f1 t.c0 (f1 s.c2 s.c2)) (f1 s.c0 (f1 t.c2 t.c2)))) (f2 (f1 t.c0 (f1 s.c2 s.c2)) (f1 s.c0 (f1 t.c2 t.c2))))) (f4 (f1 (f1 s.c0 (f1 t.c2 t.c2)) (f1 (f2 (f1 t.c0 (f1 s.c2 s.c2)) (f1 s.c0 (f1 t.c2 t.c2))) (f2 (f1 t.c0 (f1 s.c2 s.c2)) (f1 s.c0 (f1 t.c2 t.c2))))) (f1 (f1 s.c0 (f1 t.c2 t.c2)) (f1 (f2 (f1 t.c0 (f1 s.c2 s.c2)) (f1 s.c0 (f1 t.c2 t.c2))) (f2 (f1 t.c0 (f1 s.c2 s.c2)) (f1 s.c0 (f1 t.c2 t.c2))))))))) (f1 (f1 s.c1 (f1 (f1 t.c2 t.c2) t.c2)) (f1 (f1 (f2 (f1 t.c0 (f1 s.c2 s.c2)) (f1 s.c0 (f1 t.c2 t.c2))) (f2 (f1 t.c0 (f1 s.c2 s.c2)) (f1 s.c0 (f1 t.c2 t.c2)))) (f2 (f1 t.c0 (f1 s.c2 s.c2)) (f1 s.c0 (f1 t.c2 t.c2))))),c2:=f1 (f1 s.c2 t.c2) (f2 (f1 t.c0 (f1 s.c2 s.c2)) (f1 s.c0 (f1 t.c2 t.c2))) }))))
def He (f0:Fp2->Bool) (f1:Fp2->Fp2->Fp2) (f2:Fp2->Fp2->Fp2) (f3:Fp6->Fp6) (f4:Fp2->Fp2->Fp2) (s:Fp6) (t:Fp6):Tree (Option (Fp6)):=letI za':=f2 (f1 t.c0 (f1 s.c2 s.c2)) (f1 s.c0 (f1 t.c2 t.c2));letI zb':=f2 (f1 t.c1 (f1 (f1 s.c2 s.c2) s.c2)) (f1 s.c1 (f1 (f1 t.c2 t.c2) t.c2));letI zc':=f1 (f1 s.c0 (f1 t.c2 t.c2)) (f1 za' za');letI zd':=f2 (f1 zb' zb') (f1 (f1 za' za') za');letI ze':=f1 (f1 s.c1 (f1 (f1 t.c2 t.c2) t.c2)) (f1 (f1 za' za') za');letI zf':=f1 zb' (f2 zc' (f2 zd' (f4 zc' zc')));
 (.br (f0 s.c2) (.leaf (some (t))) (.br (f0 t.c2) (.leaf (some (s))) (.br (f0 za') (.br (f0 zb') (.leaf (some (f3 s))) (.br (f0 za') (.leaf (some (zeroFp6))) (.leaf (some ({ c0:=f2 zd' (f4 zc' zc'),c1:=f2 zf' ze',c2:=f1 (f1 s.c2 t.c2) za' }))))) (.br (f0 za') (.leaf (some (zeroFp6))) (.leaf (some ({ c0:=f2 zd' (f4 zc' zc'),c1:=f2 zf' ze',c2:=f1 (f1 s.c2 t.c2) za' })))))))
theorem J2 (f0:Fp2->Bool) (f1:Fp2->Fp2->Fp2) (f2:Fp2->Fp2->Fp2) (f3:Fp6->Fp6) (f4:Fp2->Fp2->Fp2) (s:Fp6) (t:Fp6):ab (En [(120,K1 (aa Fp2).arg kBool.rs.res f0),(157,K2 (aa Fp2).arg (aa Fp2).arg (aa Fp2).rs.res f1),(163,K2 (aa Fp2).arg (aa Fp2).arg (aa Fp2).rs.res f2),(105,K1 (aa Fp6).arg (aa Fp6).rs.res f3),(94,K2 (aa Fp2).arg (aa Fp2).arg (aa Fp2).rs.res f4)]) (aa Fp6).rs 300 Tryz.f106 [.one ((aa Fp6).av s),.one ((aa Fp6).av t)]=He f0 f1 f2 f3 f4 s t:=by kernel_rfl
theorem J1 (f0:Fp2->Bool) (f1:Fp2->Fp2->Fp2) (f2:Fp2->Fp2->Fp2) (f3:Fp6->Fp6) (f4:Fp2->Fp2->Fp2) (s:Fp6) (t:Fp6):(He f0 f1 f2 f3 f4 s t).sat fun q=>q=some (ca f0 f1 f2 f3 f4 s t):=⟨fun h0=>(show some _=some _ from congrArg some (by unfold ca;rw [h0])),fun h0=>⟨fun h1=>(show some _=some _ from congrArg some (by unfold ca;rw [h0,h1])),fun h1=>⟨fun h2=>⟨fun h3=>(show some _=some _ from congrArg some (by unfold ca;rw [h0,h1,h2,h3])),fun h3=>⟨fun _=>(show some _=some _ from congrArg some (by unfold ca;rw [h0,h1,h2,h3])),fun h4=>absurd (h2.symm.trans h4) (by decide)⟩⟩,fun h2=>⟨fun h3=>absurd (h2.symm.trans h3) (by decide),fun _=>(show some _=some _ from congrArg some (by unfold ca;rw [h0,h1,h2]))⟩⟩⟩⟩
def gW (s:Fp6) (t:Fp6):Fp6:=ca gP ad aG cz az s t
theorem RD:CallOk Tryz.prog 106 (K2 (aa Fp6).arg (aa Fp6).arg (aa Fp6).rs.res gW) :=
 P2 (ag (.cons An (.cons cw (.cons fm (.cons vH (.cons eH .nil)))))) Tryz.func106 (ac Tryz.func106 (by kernel_rfl) (by kernel_rfl)) 300 (aa Fp6) (aa Fp6) (aa Fp6).rs gW (J2 gP ad aG cz az) (J1 gP ad aG cz az)
def kM (f0:Fp2->Fp2) (p:Pg2):Pg2:=(match (p.inf) with | true=>(p) | false=>({ x:=p.x,y:=f0 p.y,inf:=false }))
def Og (f0:Fp2->Fp2) (p:Pg2):Tree (Option (Pg2)) :=
 (.br (p.inf)
  (.leaf (some (p)))
  (.leaf (some ({ x:=p.x,y:=f0 p.y,inf:=false }))))
theorem RY (f0:Fp2->Fp2) (p:Pg2):ab (En [(156,K1 (aa Fp2).arg (aa Fp2).rs.res f0)]) (aa Pg2).rs 300 Tryz.f96 [.one ((aa Pg2).av p)]=Og f0 p:=by kernel_rfl
theorem RX (f0:Fp2->Fp2) (p:Pg2):(Og f0 p).sat fun q=>q=some (kM f0 p):=⟨fun h0=>(show some _=some _ from congrArg some (by unfold kM;rw [h0])),fun h0=>(show some _=some _ from congrArg some (by unfold kM;rw [h0]))⟩
def j9 (p:Pg2):Pg2:=kM b9 p
theorem XD:CallOk Tryz.prog 96 (K1 (aa Pg2).arg (aa Pg2).rs.res j9) :=
 P1 (ag (.cons yo .nil)) Tryz.func96 (ac Tryz.func96 (by kernel_rfl) (by kernel_rfl)) 300 (aa Pg2) (aa Pg2).rs j9 (RY b9) (RX b9)
end
end Go.Proofs.YtcbplfkeeaecgaaGreat
