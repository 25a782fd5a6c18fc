/- Texts of the proof, joined. -/
import Derived.Test.YtcbplfkeeaecgaaGreatZF7
set_option linter.unusedSectionVars false
set_option linter.unusedSimpArgs false
set_option linter.unusedVariables false
namespace Go.Proofs.YtcbplfkeeaecgaaGreat
open Go.RowKit
section
abbrev kBB:KdL (Bool × Bool × Unit) := .cons kBool (.cons kBool .nil)
def orAt (xs:List UInt8) (m:UInt8):List UInt8:=xs.set 0 (xs.getD 0 0 ||| m)
def markF (xs:List UInt8) (x:Bool × Bool × Unit):List UInt8 :=
 match x.2.1 with
 | true=>orAt (match x.1 with | true=>orAt (orAt xs 128) 64 | false=>orAt xs 128) 32
 | false=>match x.1 with | true=>orAt (orAt xs 128) 64 | false=>orAt xs 128
theorem mark_run (ty:TypeId) (xs:List UInt8) (i g:Bool):letI za':=xs.set 0 (xs.getD 0 0 ||| UInt8.ofNat 128);letI zb':=za'.set 0 (za'.getD 0 0 ||| UInt8.ofNat 64);letI zc':=0<xs.length/\0+xs.length*1<=(List.map EK.u8.cell za').length/\0<1;letI zd':=AV1.c (Cell.slc 0 0 xs.length 1 (RC.of 0) false);letI ze':=0<xs.length/\0+xs.length*1<=(List.map EK.u8.cell zb').length/\0<1;letI zf':=0<xs.length/\0+xs.length*1<=(List.map EK.u8.cell xs).length/\0<1;letI zg':=0<za'.length;wendT (En []) 100 Tryz.f99 (flat (codeOf Tryz.f99)) (startSt Tryz.f99 (slO 0 xs :: kBB.avs (i,g,())) [.live ⟨true,ty,1,.elts .u8 xs,true⟩])=(.vc zf' (.vc (0<xs.length) (.vc zf' (.vc (0<xs.length) (.br (i) (.vc zc' (.vc zg' (.vc zc' (.vc zg' (.br (g) (.vc ze' (.vc (0<zb'.length) (.vc ze' (.vc (0<zb'.length) (.leaf (some ((AV.one zd',hpS (setL (setL (setL (setL (setL (setL (setL (setL (setL (setL (setL (setL (setL (setL (setL (setL (setL (setL (setL (setL (setL (setL (setL ([HE.live { own:=true,ty:=ty,esz:=1,body:=Body.elts EK.u8 xs,pin:=true }]++unNamed 0) []++unNamed 0) []) []) []) []) []) [(0,HE.live { own:=true,ty:=ty,esz:=1,body:=Body.elts EK.u8 za',pin:=true })]++unNamed 0) []++unNamed 0) []) []) []) []) []) [(0,HE.live { own:=true,ty:=ty,esz:=1,body:=Body.elts EK.u8 zb',pin:=true })]++unNamed 0) []++unNamed 0) []) []) []) []) []) [(0,HE.live { own:=true,ty:=ty,esz:=1,body:=Body.elts EK.u8 (zb'.set 0 (zb'.getD 0 0 ||| UInt8.ofNat 32)),pin:=true })]++unNamed 0) []) []) 0)))))))) (.leaf (some ((AV.one zd',hpS (setL (setL (setL (setL (setL (setL (setL (setL (setL (setL (setL (setL (setL (setL (setL (setL (setL ([HE.live { own:=true,ty:=ty,esz:=1,body:=Body.elts EK.u8 xs,pin:=true }]++unNamed 0) []++unNamed 0) []) []) []) []) []) [(0,HE.live { own:=true,ty:=ty,esz:=1,body:=Body.elts EK.u8 za',pin:=true })]++unNamed 0) []++unNamed 0) []) []) []) []) []) [(0,HE.live { own:=true,ty:=ty,esz:=1,body:=Body.elts EK.u8 zb',pin:=true })]++unNamed 0) []++unNamed 0) []) []) 0))))))))) (.br (g) (.vc zc' (.vc zg' (.vc zc' (.vc zg' (.leaf (some ((AV.one zd',hpS (setL (setL (setL (setL (setL (setL (setL (setL (setL (setL (setL (setL (setL (setL (setL (setL (setL ([HE.live { own:=true,ty:=ty,esz:=1,body:=Body.elts EK.u8 xs,pin:=true }]++unNamed 0) []++unNamed 0) []) []) []) []) []) [(0,HE.live { own:=true,ty:=ty,esz:=1,body:=Body.elts EK.u8 za',pin:=true })]++unNamed 0) []++unNamed 0) []++unNamed 0) []) []) []) []) []) [(0,HE.live { own:=true,ty:=ty,esz:=1,body:=Body.elts EK.u8 (za'.set 0 (za'.getD 0 0 ||| UInt8.ofNat 32)),pin:=true })]++unNamed 0) []) []) 0)))))))) (.leaf (some ((AV.one zd',hpS (setL (setL (setL (setL (setL (setL (setL (setL (setL (setL (setL ([HE.live { own:=true,ty:=ty,esz:=1,body:=Body.elts EK.u8 xs,pin:=true }]++unNamed 0) []++unNamed 0) []) []) []) []) []) [(0,HE.live { own:=true,ty:=ty,esz:=1,body:=Body.elts EK.u8 za',pin:=true })]++unNamed 0) []++unNamed 0) []++unNamed 0) []) []) 0)))))))))):=by kernel_rfl
abbrev Kmark (F:List UInt8->Bool × Bool × Unit->List UInt8):Contract:=Kwb kBB F
def put1_T (mF:List UInt8->Bool × Bool × Unit->List UInt8) (pF:Fp->List UInt8) (gF:Fp->Bool) (a:Pg1):Tree (Option ((List UInt8) × Pr)):=letI za':=mF [UInt8.ofNat 0,UInt8.ofNat 0,UInt8.ofNat 0,UInt8.ofNat 0,UInt8.ofNat 0,UInt8.ofNat 0,UInt8.ofNat 0,UInt8.ofNat 0,UInt8.ofNat 0,UInt8.ofNat 0,UInt8.ofNat 0,UInt8.ofNat 0,UInt8.ofNat 0,UInt8.ofNat 0,UInt8.ofNat 0,UInt8.ofNat 0,UInt8.ofNat 0,UInt8.ofNat 0,UInt8.ofNat 0,UInt8.ofNat 0,UInt8.ofNat 0,UInt8.ofNat 0,UInt8.ofNat 0,UInt8.ofNat 0,UInt8.ofNat 0,UInt8.ofNat 0,UInt8.ofNat 0,UInt8.ofNat 0,UInt8.ofNat 0,UInt8.ofNat 0,UInt8.ofNat 0,UInt8.ofNat 0,UInt8.ofNat 0,UInt8.ofNat 0,UInt8.ofNat 0,UInt8.ofNat 0,UInt8.ofNat 0,UInt8.ofNat 0,UInt8.ofNat 0,UInt8.ofNat 0,UInt8.ofNat 0,UInt8.ofNat 0,UInt8.ofNat 0,UInt8.ofNat 0,UInt8.ofNat 0,UInt8.ofNat 0,UInt8.ofNat 0,UInt8.ofNat 0] (true,false,());letI zb':=mF (pF a.x) (false,gF a.y,());
 (.br (a.inf) (.vc (0<48/\48<4294967296) (.leaf (some ((List.take 48 za',(.p (48<=za'.length))))))) (.vc ((pF a.x).length=(pF a.x).length/\0<(pF a.x).length/\(pF a.x).length<4294967296) (.leaf (some ((List.take (pF a.x).length zb',(.p ((pF a.x).length<=zb'.length))))))))
theorem put1_run (mF:List UInt8->Bool × Bool × Unit->List UInt8) (pF:Fp->List UInt8) (gF:Fp->Bool) (a:Pg1):endT (Ens [(99,Kmark mF),(100,Kfput pF),(101,Kfb gF)] [100]) oBl 300 Tryz.f51 (flat (codeOf Tryz.f51)) (startSt Tryz.f51 [.one (kg1.av a)] [])=put1_T mF pF gF a:=by kernel_rfl
def put2_T (mF:List UInt8->Bool × Bool × Unit->List UInt8) (pF:Fp->List UInt8) (gF:Fp2->Bool) (a:Pg2):Tree (Option ((List UInt8) × Pr)):=letI za':=mF [UInt8.ofNat 0,UInt8.ofNat 0,UInt8.ofNat 0,UInt8.ofNat 0,UInt8.ofNat 0,UInt8.ofNat 0,UInt8.ofNat 0,UInt8.ofNat 0,UInt8.ofNat 0,UInt8.ofNat 0,UInt8.ofNat 0,UInt8.ofNat 0,UInt8.ofNat 0,UInt8.ofNat 0,UInt8.ofNat 0,UInt8.ofNat 0,UInt8.ofNat 0,UInt8.ofNat 0,UInt8.ofNat 0,UInt8.ofNat 0,UInt8.ofNat 0,UInt8.ofNat 0,UInt8.ofNat 0,UInt8.ofNat 0,UInt8.ofNat 0,UInt8.ofNat 0,UInt8.ofNat 0,UInt8.ofNat 0,UInt8.ofNat 0,UInt8.ofNat 0,UInt8.ofNat 0,UInt8.ofNat 0,UInt8.ofNat 0,UInt8.ofNat 0,UInt8.ofNat 0,UInt8.ofNat 0,UInt8.ofNat 0,UInt8.ofNat 0,UInt8.ofNat 0,UInt8.ofNat 0,UInt8.ofNat 0,UInt8.ofNat 0,UInt8.ofNat 0,UInt8.ofNat 0,UInt8.ofNat 0,UInt8.ofNat 0,UInt8.ofNat 0,UInt8.ofNat 0,UInt8.ofNat 0,UInt8.ofNat 0,UInt8.ofNat 0,UInt8.ofNat 0,UInt8.ofNat 0,UInt8.ofNat 0,UInt8.ofNat 0,UInt8.ofNat 0,UInt8.ofNat 0,UInt8.ofNat 0,UInt8.ofNat 0,UInt8.ofNat 0,UInt8.ofNat 0,UInt8.ofNat 0,UInt8.ofNat 0,UInt8.ofNat 0,UInt8.ofNat 0,UInt8.ofNat 0,UInt8.ofNat 0,UInt8.ofNat 0,UInt8.ofNat 0,UInt8.ofNat 0,UInt8.ofNat 0,UInt8.ofNat 0,UInt8.ofNat 0,UInt8.ofNat 0,UInt8.ofNat 0,UInt8.ofNat 0,UInt8.ofNat 0,UInt8.ofNat 0,UInt8.ofNat 0,UInt8.ofNat 0,UInt8.ofNat 0,UInt8.ofNat 0,UInt8.ofNat 0,UInt8.ofNat 0,UInt8.ofNat 0,UInt8.ofNat 0,UInt8.ofNat 0,UInt8.ofNat 0,UInt8.ofNat 0,UInt8.ofNat 0,UInt8.ofNat 0,UInt8.ofNat 0,UInt8.ofNat 0,UInt8.ofNat 0,UInt8.ofNat 0,UInt8.ofNat 0] (true,false,());letI zb':=List.drop 0 (pF a.x.c1);letI zc':=List.drop 0 (pF a.x.c0);letI zd':=(pF a.x.c1).length+(pF a.x.c0).length;
 (.br (a.inf) (.vc (0<96/\96<4294967296) (.leaf (some ((List.take 96 za',(.p (96<=za'.length))))))) (.vc ((0+(pF a.x.c1).length<=(pF a.x.c1).length/\0+(pF a.x.c0).length<=(pF a.x.c0).length)/\(pF a.x.c1).length+(pF a.x.c0).length<=9223372036854775807/\zd'*1<=140737488355328) (.vc ((pF a.x.c1).length+(pF a.x.c0).length=(List.take (pF a.x.c1).length zb'++List.take (pF a.x.c0).length zc').length/\0<(List.take (pF a.x.c1).length zb'++List.take (pF a.x.c0).length zc').length/\(List.take (pF a.x.c1).length zb'++List.take (pF a.x.c0).length zc').length<4294967296) (.leaf (some ((List.take zd' (mF (List.take (pF a.x.c1).length zb'++List.take (pF a.x.c0).length zc') (false,gF a.y,())),(.p ((pF a.x.c1).length+(pF a.x.c0).length<=(mF (List.take (pF a.x.c1).length zb'++List.take (pF a.x.c0).length zc') (false,gF a.y,())).length)))))))))
theorem put2_run (mF:List UInt8->Bool × Bool × Unit->List UInt8) (pF:Fp->List UInt8) (gF:Fp2->Bool) (a:Pg2):endT (Ens [(99,Kmark mF),(100,Kfput pF),(102,Kpb gF)] [100]) oBl 300 Tryz.f52 (flat (codeOf Tryz.f52)) (startSt Tryz.f52 [.one (kg2.av a)] [])=put2_T mF pF gF a:=by kernel_rfl
def rput1_T (pF:Fp->List UInt8) (gF:Fp->Bool) (a:Pg1):Tree (Option ((List UInt8) × Pr)):=letI za':=(pF a.x).set 0 ((pF a.x).getD 0 0+UInt8.ofNat 32);letI zb':=0<(pF a.x).length/\0+(pF a.x).length*1<=(List.map EK.u8.cell (pF a.x)).length/\0<1;letI zc':=0<(pF a.x).length/\0+(pF a.x).length*1<=(List.map EK.u8.cell za').length/\0<1;letI zd':=0<(pF a.x).length;letI ze':=(pF a.x).set 0 ((pF a.x).getD 0 0+UInt8.ofNat 128);letI zf':=za'.set 0 (za'.getD 0 0+UInt8.ofNat 128);
 (.br (a.inf) (.leaf (some (([UInt8.ofNat 192,UInt8.ofNat 0,UInt8.ofNat 0,UInt8.ofNat 0,UInt8.ofNat 0,UInt8.ofNat 0,UInt8.ofNat 0,UInt8.ofNat 0,UInt8.ofNat 0,UInt8.ofNat 0,UInt8.ofNat 0,UInt8.ofNat 0,UInt8.ofNat 0,UInt8.ofNat 0,UInt8.ofNat 0,UInt8.ofNat 0,UInt8.ofNat 0,UInt8.ofNat 0,UInt8.ofNat 0,UInt8.ofNat 0,UInt8.ofNat 0,UInt8.ofNat 0,UInt8.ofNat 0,UInt8.ofNat 0,UInt8.ofNat 0,UInt8.ofNat 0,UInt8.ofNat 0,UInt8.ofNat 0,UInt8.ofNat 0,UInt8.ofNat 0,UInt8.ofNat 0,UInt8.ofNat 0,UInt8.ofNat 0,UInt8.ofNat 0,UInt8.ofNat 0,UInt8.ofNat 0,UInt8.ofNat 0,UInt8.ofNat 0,UInt8.ofNat 0,UInt8.ofNat 0,UInt8.ofNat 0,UInt8.ofNat 0,UInt8.ofNat 0,UInt8.ofNat 0,UInt8.ofNat 0,UInt8.ofNat 0,UInt8.ofNat 0,UInt8.ofNat 0],.t)))) (.br (gF a.y) (.vc zb' (.vc zd' (.vc zb' (.vc zd' (.vc zc' (.vc (0<za'.length) (.vc zc' (.vc (0<za'.length) (.leaf (some ((List.take (pF a.x).length zf',(.p ((pF a.x).length<=zf'.length)))))))))))))) (.vc zb' (.vc zd' (.vc zb' (.vc zd' (.leaf (some ((List.take (pF a.x).length ze',(.p ((pF a.x).length<=ze'.length))))))))))))
theorem rput1_run (pF:Fp->List UInt8) (gF:Fp->Bool) (a:Pg1):endT (Ens [(97,Kfput pF),(78,Kfb gF)] [97]) oBl 300 Tryz.f49 (flat (codeOf Tryz.f49)) (startSt Tryz.f49 [.one (kg1.av a)] [])=rput1_T pF gF a:=by kernel_rfl
def rput2_T (pF:Fp->List UInt8) (gF:Fp2->Bool) (a:Pg2):Tree (Option ((List UInt8) × Pr)):=letI za':=List.drop 0 (pF a.x.c1);letI zb':=List.drop 0 (pF a.x.c0);letI zc':=(pF a.x.c1).length+(pF a.x.c0).length;
 (.vc ((0+(pF a.x.c1).length<=(pF a.x.c1).length/\0+(pF a.x.c0).length<=(pF a.x.c0).length)/\(pF a.x.c1).length+(pF a.x.c0).length<=9223372036854775807/\zc'*1<=140737488355328) (.br (a.inf) (.leaf (some (([UInt8.ofNat 192,UInt8.ofNat 0,UInt8.ofNat 0,UInt8.ofNat 0,UInt8.ofNat 0,UInt8.ofNat 0,UInt8.ofNat 0,UInt8.ofNat 0,UInt8.ofNat 0,UInt8.ofNat 0,UInt8.ofNat 0,UInt8.ofNat 0,UInt8.ofNat 0,UInt8.ofNat 0,UInt8.ofNat 0,UInt8.ofNat 0,UInt8.ofNat 0,UInt8.ofNat 0,UInt8.ofNat 0,UInt8.ofNat 0,UInt8.ofNat 0,UInt8.ofNat 0,UInt8.ofNat 0,UInt8.ofNat 0,UInt8.ofNat 0,UInt8.ofNat 0,UInt8.ofNat 0,UInt8.ofNat 0,UInt8.ofNat 0,UInt8.ofNat 0,UInt8.ofNat 0,UInt8.ofNat 0,UInt8.ofNat 0,UInt8.ofNat 0,UInt8.ofNat 0,UInt8.ofNat 0,UInt8.ofNat 0,UInt8.ofNat 0,UInt8.ofNat 0,UInt8.ofNat 0,UInt8.ofNat 0,UInt8.ofNat 0,UInt8.ofNat 0,UInt8.ofNat 0,UInt8.ofNat 0,UInt8.ofNat 0,UInt8.ofNat 0,UInt8.ofNat 0,UInt8.ofNat 0,UInt8.ofNat 0,UInt8.ofNat 0,UInt8.ofNat 0,UInt8.ofNat 0,UInt8.ofNat 0,UInt8.ofNat 0,UInt8.ofNat 0,UInt8.ofNat 0,UInt8.ofNat 0,UInt8.ofNat 0,UInt8.ofNat 0,UInt8.ofNat 0,UInt8.ofNat 0,UInt8.ofNat 0,UInt8.ofNat 0,UInt8.ofNat 0,UInt8.ofNat 0,UInt8.ofNat 0,UInt8.ofNat 0,UInt8.ofNat 0,UInt8.ofNat 0,UInt8.ofNat 0,UInt8.ofNat 0,UInt8.ofNat 0,UInt8.ofNat 0,UInt8.ofNat 0,UInt8.ofNat 0,UInt8.ofNat 0,UInt8.ofNat 0,UInt8.ofNat 0,UInt8.ofNat 0,UInt8.ofNat 0,UInt8.ofNat 0,UInt8.ofNat 0,UInt8.ofNat 0,UInt8.ofNat 0,UInt8.ofNat 0,UInt8.ofNat 0,UInt8.ofNat 0,UInt8.ofNat 0,UInt8.ofNat 0,UInt8.ofNat 0,UInt8.ofNat 0,UInt8.ofNat 0,UInt8.ofNat 0,UInt8.ofNat 0,UInt8.ofNat 0],.t)))) (.br (gF a.y) (.vc (0<(pF a.x.c1).length+(pF a.x.c0).length/\0+zc'*1<=(List.map EK.u8.cell (List.take (pF a.x.c1).length za'++List.take (pF a.x.c0).length zb')).length/\0<1) (.vc (0+0*1<(List.take (pF a.x.c1).length za'++List.take (pF a.x.c0).length zb').length) (.vc (0<(pF a.x.c1).length+(pF a.x.c0).length/\0+zc'*1<=(List.map EK.u8.cell (List.take (pF a.x.c1).length za'++List.take (pF a.x.c0).length zb')).length/\0<1) (.vc (0+0*1<(List.take (pF a.x.c1).length za'++List.take (pF a.x.c0).length zb').length) (.vc (0<(pF a.x.c1).length+(pF a.x.c0).length/\0+zc'*1<=(List.map EK.u8.cell ((List.take (pF a.x.c1).length za'++List.take (pF a.x.c0).length zb').set (0+0*1) ((List.take (pF a.x.c1).length za'++List.take (pF a.x.c0).length zb').getD (0+0*1) 0+UInt8.ofNat 32))).length/\0<1) (.vc (0+0*1<((List.take (pF a.x.c1).length za'++List.take (pF a.x.c0).length zb').set (0+0*1) ((List.take (pF a.x.c1).length za'++List.take (pF a.x.c0).length zb').getD (0+0*1) 0+UInt8.ofNat 32)).length) (.vc (0<(pF a.x.c1).length+(pF a.x.c0).length/\0+zc'*1<=(List.map EK.u8.cell ((List.take (pF a.x.c1).length za'++List.take (pF a.x.c0).length zb').set (0+0*1) ((List.take (pF a.x.c1).length za'++List.take (pF a.x.c0).length zb').getD (0+0*1) 0+UInt8.ofNat 32))).length/\0<1) (.vc (0+0*1<((List.take (pF a.x.c1).length za'++List.take (pF a.x.c0).length zb').set (0+0*1) ((List.take (pF a.x.c1).length za'++List.take (pF a.x.c0).length zb').getD (0+0*1) 0+UInt8.ofNat 32)).length) (.leaf (some ((List.take zc' (((List.take (pF a.x.c1).length za'++List.take (pF a.x.c0).length zb').set (0+0*1) ((List.take (pF a.x.c1).length za'++List.take (pF a.x.c0).length zb').getD (0+0*1) 0+UInt8.ofNat 32)).set (0+0*1) (((List.take (pF a.x.c1).length za'++List.take (pF a.x.c0).length zb').set (0+0*1) ((List.take (pF a.x.c1).length za'++List.take (pF a.x.c0).length zb').getD (0+0*1) 0+UInt8.ofNat 32)).getD (0+0*1) 0+UInt8.ofNat 128)),(.p ((pF a.x.c1).length+(pF a.x.c0).length<=(((List.take (pF a.x.c1).length za'++List.take (pF a.x.c0).length zb').set (0+0*1) ((List.take (pF a.x.c1).length za'++List.take (pF a.x.c0).length zb').getD (0+0*1) 0+UInt8.ofNat 32)).set (0+0*1) (((List.take (pF a.x.c1).length za'++List.take (pF a.x.c0).length zb').set (0+0*1) ((List.take (pF a.x.c1).length za'++List.take (pF a.x.c0).length zb').getD (0+0*1) 0+UInt8.ofNat 32)).getD (0+0*1) 0+UInt8.ofNat 128)).length)))))))))))))) (.vc (0<(pF a.x.c1).length+(pF a.x.c0).length/\0+zc'*1<=(List.map EK.u8.cell (List.take (pF a.x.c1).length za'++List.take (pF a.x.c0).length zb')).length/\0<1) (.vc (0+0*1<(List.take (pF a.x.c1).length za'++List.take (pF a.x.c0).length zb').length) (.vc (0<(pF a.x.c1).length+(pF a.x.c0).length/\0+zc'*1<=(List.map EK.u8.cell (List.take (pF a.x.c1).length za'++List.take (pF a.x.c0).length zb')).length/\0<1) (.vc (0+0*1<(List.take (pF a.x.c1).length za'++List.take (pF a.x.c0).length zb').length) (.leaf (some ((List.take zc' ((List.take (pF a.x.c1).length za'++List.take (pF a.x.c0).length zb').set (0+0*1) ((List.take (pF a.x.c1).length za'++List.take (pF a.x.c0).length zb').getD (0+0*1) 0+UInt8.ofNat 128)),(.p ((pF a.x.c1).length+(pF a.x.c0).length<=((List.take (pF a.x.c1).length za'++List.take (pF a.x.c0).length zb').set (0+0*1) ((List.take (pF a.x.c1).length za'++List.take (pF a.x.c0).length zb').getD (0+0*1) 0+UInt8.ofNat 128)).length)))))))))))))
theorem rput2_run (pF:Fp->List UInt8) (gF:Fp2->Bool) (a:Pg2):endT (Ens [(97,Kfput pF),(98,Kpb gF)] [97]) oBl 300 Tryz.f50 (flat (codeOf Tryz.f50)) (startSt Tryz.f50 [.one (kg2.av a)] [])=rput2_T pF gF a:=by kernel_rfl
theorem orAt_len (xs:List UInt8) (m:UInt8):(orAt xs m).length=xs.length:=List.length_set ..
theorem markF_len (xs:List UInt8) (x:Bool × Bool × Unit):(markF xs x).length=xs.length:=by
 obtain ⟨i,g,u⟩:=x
 cases i <;> cases g <;> simp only [markF,orAt_len]
theorem mark_ok:CallOk Tryz.prog 99 (Kmark markF) :=
 Kwb_ok (E:=En []) Tryz.func99 (c:=codeOf Tryz.f99) (by kernel_rfl) (bodied Tryz.func99 (by kernel_rfl) (by kernel_rfl)) markF_len fun ty xs x h1 h2=>by
  obtain ⟨i,g,u⟩:=x
  refine DoesL.wends (En_ok .nil) 100 (mark_run ty xs i g) ?_
  have v0:=vcHd (ys:=xs) rfl h1
  have v1 : ∀ {m:UInt8},_:=fun {m}=>vcHd (ys:=orAt xs m) (orAt_len xs m) h1
  have l1 : ∀ {m:UInt8},0<(orAt xs m).length:=fun {m}=>by rw [orAt_len];exact h1
  have v2 : ∀ {m n:UInt8},_:=fun {m n}=>vcHd (ys:=orAt (orAt xs m) n) ((orAt_len _ n).trans (orAt_len xs m)) h1
  have l2 : ∀ {m n:UInt8},0<(orAt (orAt xs m) n).length:=fun {m n}=>by rw [orAt_len,orAt_len];exact h1
  refine ⟨v0,fun _=>⟨h1,fun _=>⟨v0,fun _=>⟨h1,fun _=>⟨fun hi=>⟨v1,fun _=>⟨l1,fun _=>⟨v1,fun _=>⟨l1,fun _=>⟨fun hg=>⟨v2,fun _=>⟨l2,fun _=>⟨v2,fun _=>⟨l2,fun _ => ?_⟩⟩⟩⟩,fun hg => ?_⟩⟩⟩⟩⟩,fun hi=>⟨fun hg=>⟨v1,fun _=>⟨l1,fun _=>⟨v1,fun _=>⟨l1,fun _ => ?_⟩⟩⟩⟩,fun hg => ?_⟩⟩⟩⟩⟩⟩
  all_goals
   subst hi hg
   rfl
end
section
def bsum (c:List UInt64):Nat->Nat
 | 0=>0
 | n+1=>bsum c n+(byteAt c n).toNat*256 ^ n
theorem byteAt_nat (c:List UInt64) (j:Nat):(byteAt c j).toNat=(atF c (j / 8)).toNat / 256 ^ (j % 8) % 256:=by
 have hs:j % 8<8:=Nat.mod_lt _ (by decide)
 have hx:=(atF c (j / 8)).toNat_lt
 unfold byteAt shrU
 rw [UInt64.toNat_toUInt8,Int.toNat_natCast,Nat.min_eq_left (by omega),UInt64.toNat_ofNat',Nat.pow_mul]
 rw [Nat.mod_eq_of_lt (Nat.lt_of_le_of_lt (Nat.div_le_self _ _) hx)]
theorem bsum_in (c:List UInt64) (k:Nat) (hk:bsum c (8*k)=valAt c k) : ∀ s,s<=8->bsum c (8*k+s)=valAt c k+(atF c k).toNat % 256 ^ s*256 ^ (8*k)
 | 0,_=>by rw [Nat.add_zero,hk,Nat.pow_zero,Nat.mod_one,Nat.zero_mul,Nat.add_zero]
 | s+1,h=>by
  rw [show 8*k+(s+1)=(8*k+s)+1 from rfl]
  simp only [bsum]
  rw [bsum_in c k hk s (by omega),byteAt_nat,show (8*k+s) / 8=k by omega,show (8*k+s) % 8=s by omega,Nat.pow_succ 256 s,Nat.mod_mul,Nat.add_mul,Nat.add_assoc,Nat.pow_add 256 (8*k) s,Nat.mul_comm (256 ^ (8*k)) (256 ^ s),<- Nat.mul_assoc,Nat.mul_comm (256 ^ s) (_ % 256)]
theorem bsum_val (c:List UInt64) : ∀ k,bsum c (8*k)=valAt c k
 | 0=>rfl
 | k+1=>by
  rw [show 8*(k+1)=8*k+8 by omega,bsum_in c k (bsum_val c k) 8 (Nat.le_refl _)]
  simp only [valAt]
  rw [Nat.mod_eq_of_lt (show (atF c k).toNat<256 ^ 8 from UInt64.toNat_lt _),Nat.pow_mul]
  rfl
theorem bAt_full (c:List UInt64) {n t:Nat} (h:t<n):bAt (fullB c n) t=byteAt c (n-1-t):=by
 unfold bAt
 rw [List.getD_eq_getElem?_getD,List.getElem?_eq_getElem (by rw [fullB_len];exact h)]
 simp [fullB]
theorem bval_full (c:List UInt64) (n:Nat) : ∀ k,k<=n->bval (fullB c n) k=bsum c k
 | 0,_=>rfl
 | k+1,h=>by
  simp only [bval,bsum]
  rw [bval_full c n k (by omega),fullB_len,bAt_full c (by omega),show n-1-(n-1-k)=k by omega]
theorem fput_full (a:Fp):fputF a=fullB (cutF a.list) 48:=by
 have hl:(cutF a.list).length<=6:=Nat.le_trans (cutF_len a.list) (Nat.le_of_eq (fp_short a))
 unfold fputF putF
 rw [if_neg (by decide),if_neg (by decide)]
 show (putO (cutF a.list) 48).1=_
 rw [putO_done (overB_low (by omega))]
theorem fput_val (a:Fp):bval (fputF a) 48=a.nat:=by
 have hl:(cutF a.list).length<=6:=Nat.le_trans (cutF_len a.list) (Nat.le_of_eq (fp_short a))
 rw [fput_full,bval_full _ 48 48 (Nat.le_refl _),show (48:Nat)=8*6 from rfl,bsum_val,valAt_out _ hl,valL_cut,valL_list]
theorem fput_len' (a:Fp):(fputF a).length=48:=by rw [fput_full,fullB_len]
theorem pN_six:pN<W64 ^ 6:=by decide +kernel
theorem take_put {a:Fp} (ha:a.ok):ftakeF (fputF a)=(a,0):=by
 have hv:valL (takF (fputF a))=a.nat:=by rw [takF_val,fput_len',fput_val]
 have hlt:a.nat<pN:=ha
 have hl:(takF (fputF a)).length<=6:=normal_len (xs:=takF (fputF a)) (cutF_idem _) (by rw [hv];exact Nat.lt_trans hlt pN_six)
 have e:ofL (takF (fputF a))=a:=Fp.nat_inj (by rw [ofL_val hl,hv])
 unfold ftakeF
 rw [e,(mayF_ok a).2 ha,fput_len']
 rfl
end
section
theorem u8_map (xs:List UInt8):(List.map EK.u8.cell xs).length=xs.length:=List.length_map ..
section
variable {mF : List UInt8 -> Bool × Bool × Unit -> List UInt8} {pF : Fp -> List UInt8} (hm : ∀ xs x, (mF xs x).length = xs.length) (hp : ∀ a, (pF a).length = 48)
include hm hp in
theorem put1_all (gF:Fp->Bool) (a:Pg1):(put1_T mF pF gF a).full=true/\(put1_T mF pF gF a).okAll:=by
 refine ⟨rfl,?_⟩
 unfold put1_T
 simp only [Tree.okAll,Pr.holds,hm,hp,List.length_cons,List.length_nil]
 simp
include hm hp in
theorem put2_all (gF:Fp2->Bool) (a:Pg2):(put2_T mF pF gF a).full=true/\(put2_T mF pF gF a).okAll:=by
 refine ⟨rfl,?_⟩
 unfold put2_T
 simp only [Tree.okAll,Pr.holds,hm,List.drop_zero,List.length_append,List.length_take,hp,List.length_cons,List.length_nil]
 simp
include hp in
theorem rput1_all (gF:Fp->Bool) (a:Pg1):(rput1_T pF gF a).full=true/\(rput1_T pF gF a).okAll:=by
 refine ⟨rfl,?_⟩
 unfold rput1_T
 simp only [Tree.okAll,Pr.holds,u8_map,List.drop_zero,List.length_append,List.length_take,List.length_set,hp,List.length_cons,List.length_nil]
 simp
include hp in
theorem rput2_all (gF:Fp2->Bool) (a:Pg2):(rput2_T pF gF a).full=true/\(rput2_T pF gF a).okAll:=by
 refine ⟨rfl,?_⟩
 unfold rput2_T
 simp only [Tree.okAll,Pr.holds,u8_map,List.drop_zero,List.length_append,List.length_take,List.length_set,hp,List.length_cons,List.length_nil]
 simp
end
def put1F (a:Pg1):List UInt8:=(put1_T markF fputF greatF a).outD []
def put2F (a:Pg2):List UInt8:=(put2_T markF fputF greatF2 a).outD []
def rput1F (a:Pg1):List UInt8:=(rput1_T fputF greatPF a).outD []
def rput2F (a:Pg2):List UInt8:=(rput2_T fputF great2R a).outD []
theorem put1_ok:CallOk Tryz.prog 51 (K1 kg1.arg rB put1F) :=
 G1 (E:=Ens [(99,Kmark markF),(100,Kfput fputF),(101,Kfb greatF)] [100]) Tryz.func51 (c:=codeOf Tryz.f51) (by kernel_rfl) (bodied Tryz.func51 (by kernel_rfl) (by kernel_rfl)) kg1.inp oBl put1F fun a _ =>
  DoesL.outs (Ens_ok (.cons mark_ok (.cons fput_ok (.cons great_ok .nil)))) 300 [] (put1_run markF fputF greatF a) (put1_all markF_len fput_len' greatF a).1 (put1_all markF_len fput_len' greatF a).2
theorem put2_ok:CallOk Tryz.prog 52 (K1 kg2.arg rB put2F) :=
 G1 (E:=Ens [(99,Kmark markF),(100,Kfput fputF),(102,Kpb greatF2)] [100]) Tryz.func52 (c:=codeOf Tryz.f52) (by kernel_rfl) (bodied Tryz.func52 (by kernel_rfl) (by kernel_rfl)) kg2.inp oBl put2F fun a _ =>
  DoesL.outs (Ens_ok (.cons mark_ok (.cons fput_ok (.cons greatF2_ok .nil)))) 300 [] (put2_run markF fputF greatF2 a) (put2_all markF_len fput_len' greatF2 a).1 (put2_all markF_len fput_len' greatF2 a).2
theorem rput1_ok:CallOk Tryz.prog 49 (K1 kg1.arg rB rput1F) :=
 G1 (E:=Ens [(97,Kfput fputF),(78,Kfb greatPF)] [97]) Tryz.func49 (c:=codeOf Tryz.f49) (by kernel_rfl) (bodied Tryz.func49 (by kernel_rfl) (by kernel_rfl)) kg1.inp oBl rput1F fun a _ =>
  DoesL.outs (Ens_ok (.cons rfput_ok (.cons greatP_ok .nil))) 300 [] (rput1_run fputF greatPF a) (rput1_all fput_len' greatPF a).1 (rput1_all fput_len' greatPF a).2
theorem rput2_ok:CallOk Tryz.prog 50 (K1 kg2.arg rB rput2F) :=
 G1 (E:=Ens [(97,Kfput fputF),(98,Kpb great2R)] [97]) Tryz.func50 (c:=codeOf Tryz.f50) (by kernel_rfl) (bodied Tryz.func50 (by kernel_rfl) (by kernel_rfl)) kg2.inp oBl rput2F fun a _ =>
  DoesL.outs (Ens_ok (.cons rfput_ok (.cons great2R_ok .nil))) 300 [] (rput2_run fputF great2R a) (rput2_all fput_len' great2R a).1 (rput2_all fput_len' great2R a).2
end
section
def sizeB (n:Int):Prop:=0<n/\n<4294967296
abbrev oB4:Out (List UInt8 × Bool × Bool × Int):=outB4 5
noncomputable abbrev bareC:List Code:=flat (scopeOf Tryz.f87)
def bareSt (l:List UInt8) (n:Int) (g:Bool) (i:Int):St:=mkSt 61 [(1,vI n),(4,slB 0 l),(6,.one (.c (.bool g))),(8,vI i)] [ownB l]
def bare0 (b:List UInt8) (n:Int):St:=mkSt 61 [(0,iB.av 0 b),(1,vI n)] [inHE eU8 b]
theorem bare_front (b:List UInt8) (n:Int):stageT (En []) 100 ((flat (codeOf Tryz.f87)).take 1) (startSt Tryz.f87 [iB.av 0 b,vI n] [inHE eU8 b]) [0,1] [0] = .leaf (bare0 b n):=by kernel_rfl
theorem bare_start (b:List UInt8) (n:Int):letI za':=0<b.length/\0+b.length*1<=(List.map EK.u8.cell b).length/\0<1;letI zb':=List.drop 0 b;letI zc':=0+b.length*1<=(List.map EK.u8.cell b).length/\0<1;letI zd':=0+b.length;letI ze':=0<b.length;segP (En []) oB4 300 Tryz.f87 (bareC.take 8) (bare0 b n) (following [1,4,6,8] [] [4]) [(1,.as),(4,.as),(6,.as),(8,.int)] [.as] []=(.vc zc' (.br (decide ((↑b.length:Int)<n)) (.leaf (.inr (some ((([],false,false,2),.t))))) (.vc zc' (.br (decide ((↑b.length:Int) > n)) (.leaf (.inr (some ((([],false,false,8),.t))))) (.vc za' (.vc ze' (.br (b.getD 0 0 &&& UInt8.ofNat 128==UInt8.ofNat 0) (.leaf (.inr (some ((([],false,false,3),.t))))) (.vc (0+b.length<=b.length/\0+b.length<=9223372036854775807/\zd'*1<=140737488355328) (.vc (0<0+b.length/\0+zd'*1<=(List.map EK.u8.cell ([]++List.take b.length zb')).length/\0<1) (.vc (0<([]++List.take b.length zb').length) (.vc (0<0+b.length/\0+zd'*1<=(List.map EK.u8.cell ([]++List.take b.length zb')).length/\0<1) (.vc (0<([]++List.take b.length zb').length) (.vc za' (.vc ze' (.vc za' (.vc ze' (.br (!(b.getD 0 0 &&& UInt8.ofNat 64 != UInt8.ofNat 0)) (.leaf (.inr (some (((List.take zd' (([]++List.take b.length zb').set 0 (([]++List.take b.length zb').getD 0 0 &&& ~~~UInt8.ofNat 224)),false,b.getD 0 0 &&& UInt8.ofNat 32 != UInt8.ofNat 0,0),(.p (0+b.length<=(([]++List.take b.length zb').set 0 (([]++List.take b.length zb').getD 0 0 &&& ~~~UInt8.ofNat 224)).length))))))) (.leaf (.inl (mkSt 61 [(1,.one (.c (.int .i64 (n)))),(4,.one (.c (.slc 0 0 zd' 1 (.of 0) false))),(6,.one (.c (.bool (b.getD 0 0 &&& UInt8.ofNat 32 != UInt8.ofNat 0)))),(8,.one (.c (.int .i64 0)))] [.live ⟨true,5,1,(.elts .u8 (([]++List.take b.length zb').set 0 (([]++List.take b.length zb').getD 0 0 &&& ~~~UInt8.ofNat 224):List UInt8)),false⟩])))))))))))))))))))):=by kernel_rfl
theorem bare_round (l:List UInt8) (n:Int) (g:Bool) (i:Int):iterT (En []) oB4 300 Tryz.f87 (bareC.drop 8) (bareSt l n g i) [1,4,6,8] [0]=(.br (g) (.leaf (.inr (some ((([],false,false,3),.t))))) (.vc ((0<=i/\i<(↑l.length:Int))/\0+l.length*1<=(List.map EK.u8.cell l).length/\0<1) (.vc (0+i.toNat*1<l.length) (.br (l.getD (0+i.toNat*1) 0 != UInt8.ofNat 0) (.leaf (.inr (some ((([],false,false,3),.t))))) (.br (decide (IntKind.i64.wrap (i+1)<n)) (.leaf (.inl ((.goto 0,mkSt 61 [(1,.one (.c (.int .i64 (n)))),(4,.one (.c (.slc 0 0 (l.length) 1 (.of 0) false))),(6,.one (.c (.bool (g)))),(8,.one (.c (.int .i64 (IntKind.i64.wrap (i+1)))))] [.live ⟨true,5,1,(.elts .u8 (l:List UInt8)),false⟩])))) (.leaf (.inr (some (((List.take l.length l,true,false,0),(.p (l.length<=l.length)))))))))))):=by kernel_rfl
def bareL (b:List UInt8):List UInt8:=b.set 0 (b.getD 0 0 &&& ~~~(UInt8.ofNat 224))
def zeroTo (l:List UInt8):Nat->Bool
 | 0=>true
 | i+1=>zeroTo l i && (l.getD i 0==0)
def bit7 (b:List UInt8):Bool:=b.getD 0 0 &&& UInt8.ofNat 128==UInt8.ofNat 0
def bit6 (b:List UInt8):Bool:=b.getD 0 0 &&& UInt8.ofNat 64 != UInt8.ofNat 0
def bit5 (b:List UInt8):Bool:=b.getD 0 0 &&& UInt8.ofNat 32 != UInt8.ofNat 0
def bareG (c1 c2 c3 c4 c5 c6:Bool) (l:List UInt8):List UInt8 × Bool × Bool × Int :=
 match c1 with
 | true=>([],false,false,2)
 | false=>match c2 with
  | true=>([],false,false,8)
  | false=>match c3 with
   | true=>([],false,false,3)
   | false=>match c4 with
    | false=>(l,false,c5,0)
    | true=>match c5 || !c6 with
     | true=>([],false,false,3)
     | false=>(l,true,false,0)
def bareF (b:List UInt8) (n:Int):List UInt8 × Bool × Bool × Int:=bareG (decide ((b.length:Int)<n)) (decide ((b.length:Int) > n)) (bit7 b) (bit6 b) (bit5 b) (zeroTo (bareL b) b.length) (bareL b)
theorem bareL_len (b:List UInt8):(bareL b).length=b.length:=List.length_set ..
theorem zeroTo_false {l:List UInt8} {i:Nat} (h:zeroTo l i=false) : ∀ {n:Nat},i<=n->zeroTo l n=false
 | 0,hn=>by rw [show (0:Nat)=i by omega];exact h
 | n+1,hn=>by
  rcases Nat.lt_or_ge n i with h1 | h1
  ·rw [show n+1=i by omega];exact h
  ·unfold zeroTo
   rw [zeroTo_false h h1]
   rfl
theorem nil_whole (b:List UInt8) : []++List.take b.length (List.drop 0 b)=b:=by rw [List.nil_append,List.drop_zero,List.take_length]
abbrev BareOk (b:List UInt8) (n:Int):Type := { q:Nat // q<b.length/\zeroTo (bareL b) q=true/\(q=0 \/ bit5 b=false)/\(b.length:Int)=n/\bit7 b=false/\bit6 b=true }
def bareI (b:List UInt8) (n:Int) (q:BareOk b n):St:=bareSt (bareL b) n (bit5 b) (q.1:Int)
theorem bare_head (b:List UInt8) (n:Int) (hb:b.length<16777216) (hn:0<n) :
  DoesL (En []) (bareC.take 8) (bare0 b n) (Within (En []) Tryz.f87 oB4 (bareF b n) fun r=>match r.1 with | .normal => ∃ i0:BareOk b n,b.length-i0.1<b.length+1/\r.2=bareI b n i0 | _=>False):=by
 refine DoesL.segP (En_ok .nil) 300 8 _ _ _ _ ((congrArg (fun c=>segP _ _ 300 _ c _ _ _ _ _) (show (bareC.take 8).take 8=bareC.take 8 by kernel_rfl)).trans (bare_start b n)) ?_
 rw [nil_whole,Nat.zero_add b.length]
 refine ⟨vcLenB b,fun _=>⟨fun h1=>⟨.t,by unfold bareF bareG;rw [h1],trivial⟩,fun h1=>⟨vcLenB b,fun _=>⟨fun h2=>⟨.t,by unfold bareF bareG;rw [h1,h2],trivial⟩,fun h2 => ?_⟩⟩⟩⟩
 have e1:(b.length:Int)=n:=by
  simp only [decide_eq_false_iff_not] at h1 h2
  omega
 have h0:0<b.length:=by omega
 have v0:=vcHd (ys:=b) rfl h0
 refine ⟨v0,fun _=>⟨h0,fun _=>⟨fun h3=>⟨.t,by unfold bareF bareG;rw [h1,h2,show bit7 b=true from h3],trivial⟩,fun h3 => ?_⟩⟩⟩
 have h3:bit7 b=false:=h3
 have v1:=vcHd (ys := []++List.take b.length (List.drop 0 b)) (congrArg List.length (nil_whole b)) h0
 refine ⟨⟨Nat.le_refl _,by omega,by omega⟩,fun _=>⟨v1,fun _=>⟨h0,fun _=>⟨v1,fun _=>⟨h0,fun _=>⟨v0,fun _=>⟨h0,fun _=>⟨v0,fun _=>⟨h0,fun _=>⟨fun h4 => ?_,fun h4 => ?_⟩⟩⟩⟩⟩⟩⟩⟩⟩⟩
 ·have h4:(!bit6 b)=true:=h4
  have h4:bit6 b=false:=by cases h:bit6 b with | false=>rfl | true=>rw [h] at h4;cases h4
  refine ⟨.p (b.length<=(bareL b).length),?_,by rw [bareL_len];exact Nat.le_refl _⟩
  unfold bareF bareG
  rw [h1,h2,h3,h4]
  show some ((List.take b.length (bareL b),false,bit5 b,0),_)=some ((bareL b,false,bit5 b,0),_)
  rw [<- bareL_len b,List.take_length]
  rfl
 ·have h4:bit6 b=true:=of_not_false h4
  refine ⟨_,Wk.refl _,⟨0,h0,rfl,.inl rfl,e1,h3,h4⟩,by show b.length-0<b.length+1;omega,?_⟩
  show _=bareSt (bareL b) n (bit5 b) ((0:Nat):Int)
  unfold bareSt slB ownB
  rw [bareL_len]
  rfl
theorem bare_ok:CallOk Tryz.prog 87 (K2 aBs (kInt.arg.such sizeB) oB4.res bareF) :=
 Go.Proofs.YtcbplfkeeaecgaaGreat.G2 (E:=En []) Tryz.func87 (c:=codeOf Tryz.f87) (by kernel_rfl) (bodied Tryz.func87 (by kernel_rfl) (by kernel_rfl)) iBs (kInt.inp.such sizeB) oB4 bareF fun b n hb hn=>by
  have hE:EnvOk (En []):=En_ok .nil
  have hb:b.length<16777216:=hb.2
  obtain ⟨hn1,hn2⟩:0<n/\n<4294967296:=hn.2
  refine DoesL.stageE hE 100 1 [0,1] [0] (bare_front b n) ?_
  refine DoesL.scopeFnR (body:=scopeOf Tryz.f87) (rest:=restOf Tryz.f87) (tail := []) (l:=0) hE (by kernel_rfl) (by kernel_rfl) 8 (by kernel_rfl) (bareI b n) (fun q=>b.length-q.1) (b.length+1) (bare_head b n hb hn1) fun q => ?_
  obtain ⟨i,hi,hz,h5,e1,h7,h6⟩:=q
  show DoesL _ _ (bareSt (bareL b) n (bit5 b) (i:Int)) _
  refine DoesL.iter hE 300 _ _ (bare_round (bareL b) n (bit5 b) (i:Int)) ?_
  have hf:bareF b n=bareG false false false true (bit5 b) (zeroTo (bareL b) b.length) (bareL b):=by
   unfold bareF
   rw [h7,h6,show decide ((b.length:Int)<n)=false from decide_eq_false (by omega),show decide ((b.length:Int) > n)=false from decide_eq_false (by omega)]
  have hl:i<(bareL b).length:=by rw [bareL_len];exact hi
  rw [getB]
  refine ⟨fun h=>⟨.t,by rw [hf,h];rfl,trivial⟩,fun h=>⟨vcIdxB hl,fun _=>⟨vcGetB hl,fun _=>⟨fun h8=>⟨.t,?_,trivial⟩,fun h8 => ?_⟩⟩⟩⟩
  ·have hz1:zeroTo (bareL b) (i+1)=false:=by
    unfold zeroTo
    have h8:(bareL b).getD i 0 ≠ 0:=by simpa [bAt] using h8
    rw [hz,Bool.true_and]
    simpa using h8
   rw [hf,h,zeroTo_false hz1 (show i+1<=b.length by omega)]
   rfl
  ·have hz1:zeroTo (bareL b) (i+1)=true:=by
    unfold zeroTo
    have h8:(bareL b).getD i 0=0:=by simpa [bAt] using h8
    rw [hz,h8]
    rfl
   rw [wrap_succ i (by omega)]
   refine ⟨fun h9 => ?_,fun h9 => ?_⟩
   ·simp only [decide_eq_true_eq] at h9
    exact ⟨rfl,⟨i+1,by omega,hz1,.inr h,e1,h7,h6⟩,by show b.length-(i+1)<b.length-i;omega,rfl⟩
   ·simp only [decide_eq_false_iff_not] at h9
    have e2:i+1=b.length:=by omega
    refine ⟨.p ((bareL b).length<=(bareL b).length),?_,Nat.le_refl _⟩
    rw [hf,h,<- e2,hz1,List.take_length]
    rfl
end
section
abbrev aN:Arg Int:=kInt.arg.such sizeB
def take1F_T (f0:List UInt8->Int->List UInt8 × Bool × Bool × Int) (f1:List UInt8->Fp × Int) (f2:Fp->Fp × Bool) (f3:Fp->Fp->Fp) (f4:Fp->Fp->Fp) (f5:UInt64->Fp) (f6:Pg1->Pg1) (f7:Pg1->Bool) (b:List UInt8):Tree (Option ((Pg1 × Int) × Pr)):=letI za':=f1 (List.take (f0 (List.take b.length (List.drop 0 b)) 48).fst.length (List.drop 0 (f0 (List.take b.length (List.drop 0 b)) 48).fst));letI zb':Fp := { l0:=UInt64.ofNat 0,l1:=UInt64.ofNat 0,l2:=UInt64.ofNat 0,l3:=UInt64.ofNat 0,l4:=UInt64.ofNat 0,l5:=UInt64.ofNat 0 };letI zc':=f2 (f3 (f4 (f4 za'.fst za'.fst) za'.fst) (f5 (UInt64.ofNat 4)));letI zd':=f0 (List.take b.length (List.drop 0 b)) 48;letI ze':=zd'.snd.snd.fst;letI zf':=fpEq (zc'.fst) (zb');
 (.vc (((0+b.length<=b.length/\b.length<1125899906842624/\0=0/\1=1)/\littleB (List.take b.length (List.drop 0 b)))/\sizeB 48) (.br (zd'.snd.snd.snd != 0) (.leaf (some ((({ x:=zb',y:=zb',inf:=false },zd'.snd.snd.snd),.t)))) (.br (zd'.snd.fst) (.leaf (some ((({ x:=zb',y:=zb',inf:=true },0),.t)))) (.vc ((0+zd'.fst.length<=zd'.fst.length/\zd'.fst.length<1125899906842624/\0=0/\1=1)/\littleB (List.take zd'.fst.length (List.drop 0 zd'.fst))) (.br (za'.snd != 0) (.leaf (some ((({ x:=zb',y:=zb',inf:=false },za'.snd),.t)))) (.br ze' (.br (!(zc'.snd)) (.leaf (some ((({ x:=zb',y:=zb',inf:=false },5),.t)))) (.br ze' (.br zf' (.leaf (some ((({ x:=zb',y:=zb',inf:=false },3),.t)))) (.br (!(f7 (f6 { x:=za'.fst,y:=zc'.fst,inf:=false }))) (.leaf (some ((({ x:=zb',y:=zb',inf:=false },6),.t)))) (.leaf (some (((f6 { x:=za'.fst,y:=zc'.fst,inf:=false },0),.t)))))) (.br (!(f7 (f6 { x:=za'.fst,y:=zc'.fst,inf:=false }))) (.leaf (some ((({ x:=zb',y:=zb',inf:=false },6),.t)))) (.leaf (some (((f6 { x:=za'.fst,y:=zc'.fst,inf:=false },0),.t))))))) (.br (!(zc'.snd)) (.leaf (some ((({ x:=zb',y:=zb',inf:=false },5),.t)))) (.br ze' (.br zf' (.leaf (some ((({ x:=zb',y:=zb',inf:=false },3),.t)))) (.br (!(f7 { x:=za'.fst,y:=zc'.fst,inf:=false })) (.leaf (some ((({ x:=zb',y:=zb',inf:=false },6),.t)))) (.leaf (some ((({ x:=za'.fst,y:=zc'.fst,inf:=false },0),.t)))))) (.br (!(f7 { x:=za'.fst,y:=zc'.fst,inf:=false })) (.leaf (some ((({ x:=zb',y:=zb',inf:=false },6),.t)))) (.leaf (some ((({ x:=za'.fst,y:=zc'.fst,inf:=false },0),.t)))))))))))))
theorem take1F_run (f0:List UInt8->Int->List UInt8 × Bool × Bool × Int) (f1:List UInt8->Fp × Int) (f2:Fp->Fp × Bool) (f3:Fp->Fp->Fp) (f4:Fp->Fp->Fp) (f5:UInt64->Fp) (f6:Pg1->Pg1) (f7:Pg1->Bool) (b:List UInt8):endT (Ens [(87,K2 aBs aN oB4.res f0),(88,Kftake f1),(89,Ksqrt f2),(90,Kff f3),(91,Kff f4),(92,Kof f5),(35,K1 (kRow Pg1).arg (kRow Pg1).rs.res f6),(61,K1 (kRow Pg1).arg kBool.rs.res f7)] [87]) ((kRow Pg1).rs2 kInt).out 300 Tryz.f47 (flat (codeOf Tryz.f47)) (startSt Tryz.f47 [iBs.av 0 b] [inHE eU8 b])=take1F_T f0 f1 f2 f3 f4 f5 f6 f7 b:=by kernel_rfl
def take1F (b:List UInt8):Pg1 × Int:=(take1F_T bareF ftakeF sqrtF addF mulF ofF negG1 inG1 b).outD (pg10,0)
theorem take1F_ok' (h : ∀ (b:List UInt8),iBs.fact b->(take1F_T bareF ftakeF sqrtF addF mulF ofF negG1 inG1 b).full=true/\(take1F_T bareF ftakeF sqrtF addF mulF ofF negG1 inG1 b).okAll):CallOk Tryz.prog 47 (K1 aBs ((kRow Pg1).rs2 kInt).out.res take1F) :=
 Go.Proofs.YtcbplfkeeaecgaaGreat.G1 (E:=Ens [(87,K2 aBs aN oB4.res bareF),(88,Kftake ftakeF),(89,Ksqrt sqrtF),(90,Kff addF),(91,Kff mulF),(92,Kof ofF),(35,K1 (kRow Pg1).arg (kRow Pg1).rs.res negG1),(61,K1 (kRow Pg1).arg kBool.rs.res inG1)] [87]) Tryz.func47 (c:=codeOf Tryz.f47) (by kernel_rfl) (bodied Tryz.func47 (by kernel_rfl) (by kernel_rfl)) iBs ((kRow Pg1).rs2 kInt).out take1F fun b hb=>DoesL.outs (Ens_ok (.cons bare_ok (.cons ftake_ok (.cons sqrt_ok (.cons add_ok (.cons mul_ok (.cons of_ok (.cons negG1_ok (.cons inG1_ok .nil))))))))) 300 (pg10,0) (take1F_run bareF ftakeF sqrtF addF mulF ofF negG1 inG1 b) (h b hb).1 (h b hb).2
def take2F_T (f0:List UInt8->Int->List UInt8 × Bool × Bool × Int) (f1:List UInt8->Fp × Int) (f2:Fp2->Fp2 × Bool) (f3:Fp2->Fp2->Fp2) (f4:Fp2->Fp2->Fp2) (f5:Pg2->Pg2) (f6:Pg2->Bool) (b:List UInt8):Tree (Option ((Pg2 × Int) × Pr)):=letI za':Fp := { l0:=UInt64.ofNat 0,l1:=UInt64.ofNat 0,l2:=UInt64.ofNat 0,l3:=UInt64.ofNat 0,l4:=UInt64.ofNat 0,l5:=UInt64.ofNat 0 };letI zb':=f0 (List.take b.length (List.drop 0 b)) 96;letI zc':Fp := { l0:=UInt64.ofNat 4,l1:=UInt64.ofNat 0,l2:=UInt64.ofNat 0,l3:=UInt64.ofNat 0,l4:=UInt64.ofNat 0,l5:=UInt64.ofNat 0 };letI zd':=f1 (List.take (zb'.fst.length-48) (List.drop 48 zb'.fst));letI ze':=f1 (List.take 48 (List.drop 0 zb'.fst));letI zf':=zb'.snd.snd.fst;letI zg':=List.map EK.u8.cell zb'.fst;letI zh':=zb'.fst.length-48;
 (.vc (((0+b.length<=b.length/\b.length<1125899906842624/\0=0/\1=1)/\littleB (List.take b.length (List.drop 0 b)))/\sizeB 96) (.br (zb'.snd.snd.snd != 0) (.leaf (some ((({ x := { c0:=za',c1:=za' },y := { c0:=za',c1:=za' },inf:=false },zb'.snd.snd.snd),.t)))) (.br (zb'.snd.fst) (.leaf (some ((({ x := { c0:=za',c1:=za' },y := { c0:=za',c1:=za' },inf:=true },0),.t)))) (.vc (0<=48/\48<=zb'.fst.length/\0+zb'.fst.length*1<=zg'.length/\0<1/\(0=0 \/ 0<48)/\0=0/\1=1) (.vc ((48<=zb'.fst.length/\48<1125899906842624/\0=0/\1=1)/\littleB (List.take 48 (List.drop 0 zb'.fst))) (.br (ze'.snd != 0) (.leaf (some ((({ x := { c0:=za',c1:=za' },y := { c0:=za',c1:=za' },inf:=false },ze'.snd),.t)))) (.vc (48<=zb'.fst.length/\zb'.fst.length<=zb'.fst.length/\0+zb'.fst.length*1<=zg'.length/\0<1/\(48=0 \/ 48<zb'.fst.length)/\0=0/\1=1) (.vc ((48+zh'<=zb'.fst.length/\zb'.fst.length-48<1125899906842624/\48=48/\1=1)/\littleB (List.take zh' (List.drop 48 zb'.fst))) (.br (zd'.snd != 0) (.leaf (some ((({ x := { c0:=za',c1:=za' },y := { c0:=za',c1:=za' },inf:=false },zd'.snd),.t)))) (.br zf' (.br (!((f2 (f3 (f4 (f4 { c0:=zd'.fst,c1:=ze'.fst } { c0:=zd'.fst,c1:=ze'.fst }) { c0:=zd'.fst,c1:=ze'.fst }) { c0:=zc',c1:=zc' })).snd)) (.leaf (some ((({ x := { c0:=za',c1:=za' },y := { c0:=za',c1:=za' },inf:=false },5),.t)))) (.br zf' (.br (fp2Eq ((f2 (f3 (f4 (f4 { c0:=zd'.fst,c1:=ze'.fst } { c0:=zd'.fst,c1:=ze'.fst }) { c0:=zd'.fst,c1:=ze'.fst }) { c0:=zc',c1:=zc' })).fst) ({ c0:=za',c1:=za' })) (.leaf (some ((({ x := { c0:=za',c1:=za' },y := { c0:=za',c1:=za' },inf:=false },3),.t)))) (.br (!(f6 (f5 { x := { c0:=zd'.fst,c1:=ze'.fst },y:=(f2 (f3 (f4 (f4 { c0:=zd'.fst,c1:=ze'.fst } { c0:=zd'.fst,c1:=ze'.fst }) { c0:=zd'.fst,c1:=ze'.fst }) { c0:=zc',c1:=zc' })).fst,inf:=false }))) (.leaf (some ((({ x := { c0:=za',c1:=za' },y := { c0:=za',c1:=za' },inf:=false },6),.t)))) (.leaf (some (((f5 { x := { c0:=zd'.fst,c1:=ze'.fst },y:=(f2 (f3 (f4 (f4 { c0:=zd'.fst,c1:=ze'.fst } { c0:=zd'.fst,c1:=ze'.fst }) { c0:=zd'.fst,c1:=ze'.fst }) { c0:=zc',c1:=zc' })).fst,inf:=false },0),.t)))))) (.br (!(f6 (f5 { x := { c0:=zd'.fst,c1:=ze'.fst },y:=(f2 (f3 (f4 (f4 { c0:=zd'.fst,c1:=ze'.fst } { c0:=zd'.fst,c1:=ze'.fst }) { c0:=zd'.fst,c1:=ze'.fst }) { c0:=zc',c1:=zc' })).fst,inf:=false }))) (.leaf (some ((({ x := { c0:=za',c1:=za' },y := { c0:=za',c1:=za' },inf:=false },6),.t)))) (.leaf (some (((f5 { x := { c0:=zd'.fst,c1:=ze'.fst },y:=(f2 (f3 (f4 (f4 { c0:=zd'.fst,c1:=ze'.fst } { c0:=zd'.fst,c1:=ze'.fst }) { c0:=zd'.fst,c1:=ze'.fst }) { c0:=zc',c1:=zc' })).fst,inf:=false },0),.t))))))) (.br (!((f2 (f3 (f4 (f4 { c0:=zd'.fst,c1:=ze'.fst } { c0:=zd'.fst,c1:=ze'.fst }) { c0:=zd'.fst,c1:=ze'.fst }) { c0:=zc',c1:=zc' })).snd)) (.leaf (some ((({ x := { c0:=za',c1:=za' },y := { c0:=za',c1:=za' },inf:=false },5),.t)))) (.br zf' (.br (fp2Eq ((f2 (f3 (f4 (f4 { c0:=zd'.fst,c1:=ze'.fst } { c0:=zd'.fst,c1:=ze'.fst }) { c0:=zd'.fst,c1:=ze'.fst }) { c0:=zc',c1:=zc' })).fst) ({ c0:=za',c1:=za' })) (.leaf (some ((({ x := { c0:=za',c1:=za' },y := { c0:=za',c1:=za' },inf:=false },3),.t)))) (.br (!(f6 { x := { c0:=zd'.fst,c1:=ze'.fst },y:=(f2 (f3 (f4 (f4 { c0:=zd'.fst,c1:=ze'.fst } { c0:=zd'.fst,c1:=ze'.fst }) { c0:=zd'.fst,c1:=ze'.fst }) { c0:=zc',c1:=zc' })).fst,inf:=false })) (.leaf (some ((({ x := { c0:=za',c1:=za' },y := { c0:=za',c1:=za' },inf:=false },6),.t)))) (.leaf (some ((({ x := { c0:=zd'.fst,c1:=ze'.fst },y:=(f2 (f3 (f4 (f4 { c0:=zd'.fst,c1:=ze'.fst } { c0:=zd'.fst,c1:=ze'.fst }) { c0:=zd'.fst,c1:=ze'.fst }) { c0:=zc',c1:=zc' })).fst,inf:=false },0),.t)))))) (.br (!(f6 { x := { c0:=zd'.fst,c1:=ze'.fst },y:=(f2 (f3 (f4 (f4 { c0:=zd'.fst,c1:=ze'.fst } { c0:=zd'.fst,c1:=ze'.fst }) { c0:=zd'.fst,c1:=ze'.fst }) { c0:=zc',c1:=zc' })).fst,inf:=false })) (.leaf (some ((({ x := { c0:=za',c1:=za' },y := { c0:=za',c1:=za' },inf:=false },6),.t)))) (.leaf (some ((({ x := { c0:=zd'.fst,c1:=ze'.fst },y:=(f2 (f3 (f4 (f4 { c0:=zd'.fst,c1:=ze'.fst } { c0:=zd'.fst,c1:=ze'.fst }) { c0:=zd'.fst,c1:=ze'.fst }) { c0:=zc',c1:=zc' })).fst,inf:=false },0),.t)))))))))))))))))
theorem take2F_run (f0:List UInt8->Int->List UInt8 × Bool × Bool × Int) (f1:List UInt8->Fp × Int) (f2:Fp2->Fp2 × Bool) (f3:Fp2->Fp2->Fp2) (f4:Fp2->Fp2->Fp2) (f5:Pg2->Pg2) (f6:Pg2->Bool) (b:List UInt8):endT (Ens [(87,K2 aBs aN oB4.res f0),(88,Kftake f1),(93,K1 (kRow Fp2).arg ((kRow Fp2).rs2 kBool).res f2),(94,K2 (kRow Fp2).arg (kRow Fp2).arg (kRow Fp2).rs.res f3),(95,K2 (kRow Fp2).arg (kRow Fp2).arg (kRow Fp2).rs.res f4),(96,K1 (kRow Pg2).arg (kRow Pg2).rs.res f5),(62,K1 (kRow Pg2).arg kBool.rs.res f6)] [87]) ((kRow Pg2).rs2 kInt).out 300 Tryz.f48 (flat (codeOf Tryz.f48)) (startSt Tryz.f48 [iBs.av 0 b] [inHE eU8 b])=take2F_T f0 f1 f2 f3 f4 f5 f6 b:=by kernel_rfl
def take2F (b:List UInt8):Pg2 × Int:=(take2F_T bareF ftakeF sqrtF2 addF2 mulF2 negG2 inG2 b).outD (pg20,0)
theorem take2F_ok' (h : ∀ (b:List UInt8),iBs.fact b->(take2F_T bareF ftakeF sqrtF2 addF2 mulF2 negG2 inG2 b).full=true/\(take2F_T bareF ftakeF sqrtF2 addF2 mulF2 negG2 inG2 b).okAll):CallOk Tryz.prog 48 (K1 aBs ((kRow Pg2).rs2 kInt).out.res take2F) :=
 Go.Proofs.YtcbplfkeeaecgaaGreat.G1 (E:=Ens [(87,K2 aBs aN oB4.res bareF),(88,Kftake ftakeF),(93,K1 (kRow Fp2).arg ((kRow Fp2).rs2 kBool).res sqrtF2),(94,K2 (kRow Fp2).arg (kRow Fp2).arg (kRow Fp2).rs.res addF2),(95,K2 (kRow Fp2).arg (kRow Fp2).arg (kRow Fp2).rs.res mulF2),(96,K1 (kRow Pg2).arg (kRow Pg2).rs.res negG2),(62,K1 (kRow Pg2).arg kBool.rs.res inG2)] [87]) Tryz.func48 (c:=codeOf Tryz.f48) (by kernel_rfl) (bodied Tryz.func48 (by kernel_rfl) (by kernel_rfl)) iBs ((kRow Pg2).rs2 kInt).out take2F fun b hb=>DoesL.outs (Ens_ok (.cons bare_ok (.cons ftake_ok (.cons sqrtF2_ok (.cons addF2_ok (.cons mulF2_ok (.cons negG2_ok (.cons inG2_ok .nil)))))))) 300 (pg20,0) (take2F_run bareF ftakeF sqrtF2 addF2 mulF2 negG2 inG2 b) (h b hb).1 (h b hb).2
end
section
abbrev okF (f:List UInt8->Int->List UInt8 × Bool × Bool × Int) (b:List UInt8) (n:Int):Prop:=(f b n).1.length<=b.length/\((f b n).2.2.2=0->(f b n).2.1=false->((f b n).1.length:Int)=n)
theorem int2 : ¬ ((2:Int)=0):=by decide
theorem int3 : ¬ ((3:Int)=0):=by decide
theorem int8 : ¬ ((8:Int)=0):=by decide
theorem bareG_ok (c1 c2 c3 c4 c5 c6:Bool) (l:List UInt8) {m:Nat} {n:Int} (hl:l.length<=m) (h:c1=false->c2=false->(l.length:Int)=n):(bareG c1 c2 c3 c4 c5 c6 l).1.length<=m/\((bareG c1 c2 c3 c4 c5 c6 l).2.2.2=0->(bareG c1 c2 c3 c4 c5 c6 l).2.1=false->((bareG c1 c2 c3 c4 c5 c6 l).1.length:Int)=n):=by
 cases c1 <;> cases c2 <;> cases c3 <;> cases c4 <;> cases c5 <;> cases c6 <;> first
  | exact ⟨hl,fun _ _=>h rfl rfl⟩
  | exact ⟨hl,fun _ h=>Bool.noConfusion h⟩
  | exact ⟨Nat.zero_le _,fun h=>absurd h int2⟩
  | exact ⟨Nat.zero_le _,fun h=>absurd h int3⟩
  | exact ⟨Nat.zero_le _,fun h=>absurd h int8⟩
theorem bare_okF (b:List UInt8) (n:Int):okF bareF b n :=
 bareG_ok _ _ _ _ _ _ (bareL b) (Nat.le_of_eq (bareL_len b)) fun h1 h2=>by
  have h1:=of_decide_eq_false h1
  have h2:=of_decide_eq_false h2
  have hl:=bareL_len b
  omega
theorem int_zero {n:Int} (h:(n != 0)=false):n=0:=by simpa using h
theorem size48:sizeB 48:=⟨by decide,by decide⟩
theorem size96:sizeB 96:=⟨by decide,by decide⟩
theorem takes_b {l:List UInt8} {s n:Nat} (h:n<16777216):littleB (List.take n (List.drop s l)):=by show (List.take n (List.drop s l)).length<_;rw [List.length_take];omega
theorem map_b (l:List UInt8):(List.map EK.u8.cell l).length=l.length:=u8_map l
theorem take1_all {f0:List UInt8->Int->List UInt8 × Bool × Bool × Int} {f1 f2 f3 f4 f5 f6 f7} (b:List UInt8) (hF:okF f0 b 48) (hb:b.length<16777216):(take1F_T f0 f1 f2 f3 f4 f5 f6 f7 b).full=true/\(take1F_T f0 f1 f2 f3 f4 f5 f6 f7 b).okAll:=by
 refine ⟨rfl,?_⟩
 obtain ⟨h1,h2⟩:=hF
 unfold take1F_T
 simp only [Tree.okAll,whole8,Pr.holds,implies_true,and_true,true_and]
 have h3:=Nat.lt_of_le_of_lt h1 hb
 refine ⟨⟨⟨?_,hb⟩,size48⟩,fun _ _=>⟨?_,h3⟩⟩ <;> omega
theorem take2_all {f0:List UInt8->Int->List UInt8 × Bool × Bool × Int} {f1 f2 f3 f4 f5 f6} (b:List UInt8) (hF:okF f0 b 96) (hb:b.length<16777216):(take2F_T f0 f1 f2 f3 f4 f5 f6 b).full=true/\(take2F_T f0 f1 f2 f3 f4 f5 f6 b).okAll:=by
 refine ⟨rfl,?_⟩
 obtain ⟨h1,h2⟩:=hF
 unfold take2F_T
 simp only [Tree.okAll,whole8,Pr.holds,implies_true,and_true,true_and]
 refine ⟨⟨⟨by omega,hb⟩,size96⟩,fun a1 a2 => ?_⟩
 have hl:(f0 b 96).1.length=96:=by have:=h2 (int_zero a1) a2;omega
 have hm:=map_b (f0 b 96).1
 refine ⟨?_,⟨?_,takes_b (by omega)⟩,fun _=>⟨?_,?_,takes_b (by omega)⟩⟩ <;> omega
theorem take1F_ok:CallOk Tryz.prog 47 (K1 aBs ((kRow Pg1).rs2 kInt).out.res take1F):=take1F_ok' fun b hb=>take1_all b (bare_okF b 48) hb.2
theorem take2F_ok:CallOk Tryz.prog 48 (K1 aBs ((kRow Pg2).rs2 kInt).out.res take2F):=take2F_ok' fun b hb=>take2_all b (bare_okF b 96) hb.2
end
section
def hdB (l:List UInt8) (t:UInt8):List UInt8:=l.set 0 (l.getD 0 0+t)
theorem hdB_len (l:List UInt8) (t:UInt8):(hdB l t).length=l.length:=List.length_set ..
def inf1B:List UInt8:=hdB (List.replicate 48 0) 192
def inf2B:List UInt8:=hdB (List.replicate 96 0) 192
theorem put1F_val (a:Pg1):put1F a=cond a.inf inf1B (markF (fputF a.x) (false,greatF a.y,())):=by
 unfold put1F put1_T
 simp only [outD_br,outD_vc,outD_leaf]
 rw [show ∀ x,List.take (fputF a.x).length (markF (fputF a.x) x)=markF (fputF a.x) x from fun x=>List.take_of_length_le (Nat.le_of_eq (markF_len _ _))]
 rfl
theorem put2F_val (a:Pg2):put2F a=cond a.inf inf2B (markF (fputF a.x.c1++fputF a.x.c0) (false,greatF2 a.y,())):=by
 unfold put2F put2_T
 simp only [outD_br,outD_vc,outD_leaf,whole8]
 rw [<- List.length_append,show ∀ x,List.take (fputF a.x.c1++fputF a.x.c0).length (markF (fputF a.x.c1++fputF a.x.c0) x)=markF (fputF a.x.c1++fputF a.x.c0) x from fun x=>List.take_of_length_le (Nat.le_of_eq (markF_len _ _))]
 rfl
theorem rput1F_val (a:Pg1):rput1F a=cond a.inf inf1B (cond (greatPF a.y) (hdB (hdB (fputF a.x) 32) 128) (hdB (fputF a.x) 128)):=by
 unfold rput1F rput1_T
 simp only [outD_br,outD_vc,outD_leaf]
 cases a.inf <;> cases greatPF a.y <;> first
  | rfl
  | exact List.take_of_length_le (by simp only [List.length_set];exact Nat.le_refl _)
theorem rput2F_val (a:Pg2):rput2F a=cond a.inf inf2B (cond (great2R a.y) (hdB (hdB (fputF a.x.c1++fputF a.x.c0) 32) 128) (hdB (fputF a.x.c1++fputF a.x.c0) 128)):=by
 unfold rput2F rput2_T
 simp only [outD_br,outD_vc,outD_leaf,whole8]
 cases a.inf <;> cases great2R a.y <;> first
  | rfl
  | exact List.take_of_length_le (by simp only [List.length_set,List.length_append];exact Nat.le_refl _)
theorem put1F_len (a:Pg1):(put1F a).length=48:=by
 rw [put1F_val]
 cases a.inf
 ·exact (markF_len _ _).trans (fput_len' _)
 ·rfl
theorem put2F_len (a:Pg2):(put2F a).length=96:=by
 rw [put2F_val]
 cases a.inf
 ·exact (markF_len _ _).trans (by rw [List.length_append,fput_len',fput_len'])
 ·rfl
end
set_option maxRecDepth 100000
section
def slY (i c:Nat):AV := .one (.c (.slc i 0 c 1 (.of 0) false))
def ownY (l:List UInt8):HE := .live ⟨true,5,1,.elts .u8 l,false⟩
noncomputable abbrev puC:List Code:=flat (codeOf Tryz.f20)
noncomputable abbrev puE (f1:Pg1->List UInt8) (f2:Pg2->List UInt8):Env:=Ens [(51,K1 kg1.arg rB f1),(52,K1 kg2.arg rB f2)] [51,52]
def puS (p:List Pg1 × Pg2) (z:Int) (c:Nat) (l:List UInt8):St:=mkSt 33 [(1,ptrV 1),(3,slY 2 c),(17,rwV .g1 0 p.1),(18,vI (p.1.length:Int)),(19,vI z)] [rwHE .g1 p.1,ownPw 0 p,ownY l]
theorem pu_start (f1:Pg1->List UInt8) (f2:Pg2->List UInt8) (p:List Pg1 × Pg2):letI za':=0+p.fst.length*13<=(rowsC RK.g1 p.fst).length/\0<13;letI zb':=(↑p.fst.length:Int);stageG (puE f1 f2) 100 (puC.take 3) (startSt Tryz.f20 [pwV 0 p] [rwHE .g1 p.1]) [1,3,17,18,19] [0,1,2] [(1,.as),(3,.slc),(17,.as),(18,.as),(19,.int)] [.as,.as,.lst .u8] []=(.vc za' (.vc za' (.vc za' (.leaf (mkSt 33 [(1,.one (.c (.ptr 1 0))),(3,.one (.c (.slc 2 0 2 1 (.of 0) false))),(17,.one (.c (.slc 0 0 (p.fst.length) 13 (.of 0) false))),(18,.one (.c (.int .i64 (zb')))),(19,.one (.c (.int .i64 0)))] [.live ⟨false,0,13,(.rows .g1 (p.fst:List Pg1)),false⟩,.live ⟨true,35,0,(.row [(.slc 0 0 (p.fst.length) 13 (.of 0) false),(.u64 (p.snd.x.c0.l0)),(.u64 (p.snd.x.c0.l1)),(.u64 (p.snd.x.c0.l2)),(.u64 (p.snd.x.c0.l3)),(.u64 (p.snd.x.c0.l4)),(.u64 (p.snd.x.c0.l5)),(.u64 (p.snd.x.c1.l0)),(.u64 (p.snd.x.c1.l1)),(.u64 (p.snd.x.c1.l2)),(.u64 (p.snd.x.c1.l3)),(.u64 (p.snd.x.c1.l4)),(.u64 (p.snd.x.c1.l5)),(.u64 (p.snd.y.c0.l0)),(.u64 (p.snd.y.c0.l1)),(.u64 (p.snd.y.c0.l2)),(.u64 (p.snd.y.c0.l3)),(.u64 (p.snd.y.c0.l4)),(.u64 (p.snd.y.c0.l5)),(.u64 (p.snd.y.c1.l0)),(.u64 (p.snd.y.c1.l1)),(.u64 (p.snd.y.c1.l2)),(.u64 (p.snd.y.c1.l3)),(.u64 (p.snd.y.c1.l4)),(.u64 (p.snd.y.c1.l5)),(.bool (p.snd.inf))]),false⟩,.live ⟨true,5,1,(.elts .u8 ([UInt8.ofNat (shrI IntKind.i64 zb' 8 % 256).toNat,UInt8.ofNat (zb' % 256).toNat]:List UInt8)),false⟩]))))):=by kernel_rfl
theorem pu_round (f1:Pg1->List UInt8) (f2:Pg2->List UInt8) (p:List Pg1 × Pg2) (z:Int) (c:Nat) (l:List UInt8):letI za':=f1 (p.fst.getD (0+z.toNat) pg10);letI zb':=(↑p.fst.length:Int);letI zc':=p.fst.length;roundP (puE f1 f2) 300 (loopAt Tryz.f20 0) (puS p z c l) (following [1,3,17,18,19] [0,1] [3])=(.br (decide (z<zb')) (.vc ((0<=z/\z<zb')/\0+p.fst.length*13<=(rowsC RK.g1 p.fst).length/\0<13/\0=0) (.vc (0+z.toNat<p.fst.length) (.vc ((0+c<=l.length/\0+za'.length<=za'.length)/\c+za'.length<=9223372036854775807/\(c+za'.length)*1<=140737488355328) (.leaf ((.normal,mkSt 33 [(1,.one (.c (.ptr 1 0))),(3,.one (.c (.slc 2 0 (c+za'.length) 1 (.of 0) false))),(17,.one (.c (.slc 0 0 zc' 13 (.of 0) false))),(18,.one (.c (.int .i64 (zb')))),(19,.one (.c (.int .i64 (IntKind.i64.wrap (z+1)))))] [.live ⟨false,0,13,(.rows .g1 (p.fst:List Pg1)),false⟩,.live ⟨true,35,0,(.row [(.slc 0 0 zc' 13 (.of 0) false),(.u64 (p.snd.x.c0.l0)),(.u64 (p.snd.x.c0.l1)),(.u64 (p.snd.x.c0.l2)),(.u64 (p.snd.x.c0.l3)),(.u64 (p.snd.x.c0.l4)),(.u64 (p.snd.x.c0.l5)),(.u64 (p.snd.x.c1.l0)),(.u64 (p.snd.x.c1.l1)),(.u64 (p.snd.x.c1.l2)),(.u64 (p.snd.x.c1.l3)),(.u64 (p.snd.x.c1.l4)),(.u64 (p.snd.x.c1.l5)),(.u64 (p.snd.y.c0.l0)),(.u64 (p.snd.y.c0.l1)),(.u64 (p.snd.y.c0.l2)),(.u64 (p.snd.y.c0.l3)),(.u64 (p.snd.y.c0.l4)),(.u64 (p.snd.y.c0.l5)),(.u64 (p.snd.y.c1.l0)),(.u64 (p.snd.y.c1.l1)),(.u64 (p.snd.y.c1.l2)),(.u64 (p.snd.y.c1.l3)),(.u64 (p.snd.y.c1.l4)),(.u64 (p.snd.y.c1.l5)),(.bool (p.snd.inf))]),false⟩,.live ⟨true,5,1,(.elts .u8 (List.take c (List.drop 0 l)++List.take za'.length (List.drop 0 za'):List UInt8)),false⟩])))))) (.leaf ((.exit 0,mkSt 33 [(1,.one (.c (.ptr 1 0))),(3,.one (.c (.slc 2 0 (c) 1 (.of 0) false))),(17,.one (.c (.slc 0 0 zc' 13 (.of 0) false))),(18,.one (.c (.int .i64 (zb')))),(19,.one (.c (.int .i64 (z))))] [.live ⟨false,0,13,(.rows .g1 (p.fst:List Pg1)),false⟩,.live ⟨true,35,0,(.row [(.slc 0 0 zc' 13 (.of 0) false),(.u64 (p.snd.x.c0.l0)),(.u64 (p.snd.x.c0.l1)),(.u64 (p.snd.x.c0.l2)),(.u64 (p.snd.x.c0.l3)),(.u64 (p.snd.x.c0.l4)),(.u64 (p.snd.x.c0.l5)),(.u64 (p.snd.x.c1.l0)),(.u64 (p.snd.x.c1.l1)),(.u64 (p.snd.x.c1.l2)),(.u64 (p.snd.x.c1.l3)),(.u64 (p.snd.x.c1.l4)),(.u64 (p.snd.x.c1.l5)),(.u64 (p.snd.y.c0.l0)),(.u64 (p.snd.y.c0.l1)),(.u64 (p.snd.y.c0.l2)),(.u64 (p.snd.y.c0.l3)),(.u64 (p.snd.y.c0.l4)),(.u64 (p.snd.y.c0.l5)),(.u64 (p.snd.y.c1.l0)),(.u64 (p.snd.y.c1.l1)),(.u64 (p.snd.y.c1.l2)),(.u64 (p.snd.y.c1.l3)),(.u64 (p.snd.y.c1.l4)),(.u64 (p.snd.y.c1.l5)),(.bool (p.snd.inf))]),false⟩,.live ⟨true,5,1,(.elts .u8 (l:List UInt8)),false⟩])))):=by kernel_rfl
theorem pu_end (f1:Pg1->List UInt8) (f2:Pg2->List UInt8) (p:List Pg1 × Pg2) (z:Int) (c:Nat) (l:List UInt8):letI za':=List.drop 0 (f2 p.snd);letI zb':=c+(f2 p.snd).length;endT (puE f1 f2) oBl 100 Tryz.f20 (puC.drop 4) (puS p z c l)=(.vc ((0+c<=l.length/\0+(f2 p.snd).length<=(f2 p.snd).length)/\c+(f2 p.snd).length<=9223372036854775807/\zb'*1<=140737488355328) (.leaf (some ((List.take zb' (List.take c (List.drop 0 l)++List.take (f2 p.snd).length za'),(.p (c+(f2 p.snd).length<=(List.take c (List.drop 0 l)++List.take (f2 p.snd).length za').length))))))):=by kernel_rfl
noncomputable abbrev byC:List Code:=flat (codeOf Tryz.f19)
noncomputable abbrev byE (f1:Pg1->List UInt8) (f2:Pg2->List UInt8):Env:=Ens [(49,K1 kg1.arg rB f1),(50,K1 kg2.arg rB f2)] [49,50]
def byS (p:List Pg1 × Pg2) (z:Int) (c:Nat) (l:List UInt8):St:=mkSt 35 [(1,ptrV 1),(3,slY 2 c),(4,vI z)] [rwHE .g1 p.1,ownPw 0 p,ownY l]
theorem by_start (f1:Pg1->List UInt8) (f2:Pg2->List UInt8) (p:List Pg1 × Pg2):letI za':=0+p.fst.length*13<=(rowsC RK.g1 p.fst).length/\0<13;letI zb':=(↑p.fst.length:Int);stageG (byE f1 f2) 100 (byC.take 3) (startSt Tryz.f19 [pwV 0 p] [rwHE .g1 p.1]) [1,3,4] [0,1,2] [(1,.as),(3,.slc),(4,.int)] [.as,.as,.lst .u8] []=(.vc za' (.vc za' (.leaf (mkSt 35 [(1,.one (.c (.ptr 1 0))),(3,.one (.c (.slc 2 0 2 1 (.of 0) false))),(4,.one (.c (.int .i64 0)))] [.live ⟨false,0,13,(.rows .g1 (p.fst:List Pg1)),false⟩,.live ⟨true,35,0,(.row [(.slc 0 0 (p.fst.length) 13 (.of 0) false),(.u64 (p.snd.x.c0.l0)),(.u64 (p.snd.x.c0.l1)),(.u64 (p.snd.x.c0.l2)),(.u64 (p.snd.x.c0.l3)),(.u64 (p.snd.x.c0.l4)),(.u64 (p.snd.x.c0.l5)),(.u64 (p.snd.x.c1.l0)),(.u64 (p.snd.x.c1.l1)),(.u64 (p.snd.x.c1.l2)),(.u64 (p.snd.x.c1.l3)),(.u64 (p.snd.x.c1.l4)),(.u64 (p.snd.x.c1.l5)),(.u64 (p.snd.y.c0.l0)),(.u64 (p.snd.y.c0.l1)),(.u64 (p.snd.y.c0.l2)),(.u64 (p.snd.y.c0.l3)),(.u64 (p.snd.y.c0.l4)),(.u64 (p.snd.y.c0.l5)),(.u64 (p.snd.y.c1.l0)),(.u64 (p.snd.y.c1.l1)),(.u64 (p.snd.y.c1.l2)),(.u64 (p.snd.y.c1.l3)),(.u64 (p.snd.y.c1.l4)),(.u64 (p.snd.y.c1.l5)),(.bool (p.snd.inf))]),false⟩,.live ⟨true,5,1,(.elts .u8 ([UInt8.ofNat (IntKind.i64.wrap (zb'.tdiv 256) % 256).toNat,UInt8.ofNat (zb' % 256).toNat]:List UInt8)),false⟩])))):=by kernel_rfl
theorem by_round (f1:Pg1->List UInt8) (f2:Pg2->List UInt8) (p:List Pg1 × Pg2) (z:Int) (c:Nat) (l:List UInt8):letI za':=f1 (p.fst.getD (0+z.toNat) pg10);letI zb':=(↑p.fst.length:Int);roundP (byE f1 f2) 300 (loopAt Tryz.f19 0) (byS p z c l) (following [1,3,4] [0,1] [3])=(.vc (0+p.fst.length*13<=(rowsC RK.g1 p.fst).length/\0<13) (.br (decide (z<zb')) (.vc ((0<=z/\z<zb')/\0+p.fst.length*13<=(rowsC RK.g1 p.fst).length/\0<13/\0=0) (.vc (0+z.toNat<p.fst.length) (.vc ((0+c<=l.length/\0+za'.length<=za'.length)/\c+za'.length<=9223372036854775807/\(c+za'.length)*1<=140737488355328) (.leaf ((.normal,mkSt 35 [(1,.one (.c (.ptr 1 0))),(3,.one (.c (.slc 2 0 (c+za'.length) 1 (.of 0) false))),(4,.one (.c (.int .i64 (IntKind.i64.wrap (z+1)))))] [.live ⟨false,0,13,(.rows .g1 (p.fst:List Pg1)),false⟩,.live ⟨true,35,0,(.row [(.slc 0 0 (p.fst.length) 13 (.of 0) false),(.u64 (p.snd.x.c0.l0)),(.u64 (p.snd.x.c0.l1)),(.u64 (p.snd.x.c0.l2)),(.u64 (p.snd.x.c0.l3)),(.u64 (p.snd.x.c0.l4)),(.u64 (p.snd.x.c0.l5)),(.u64 (p.snd.x.c1.l0)),(.u64 (p.snd.x.c1.l1)),(.u64 (p.snd.x.c1.l2)),(.u64 (p.snd.x.c1.l3)),(.u64 (p.snd.x.c1.l4)),(.u64 (p.snd.x.c1.l5)),(.u64 (p.snd.y.c0.l0)),(.u64 (p.snd.y.c0.l1)),(.u64 (p.snd.y.c0.l2)),(.u64 (p.snd.y.c0.l3)),(.u64 (p.snd.y.c0.l4)),(.u64 (p.snd.y.c0.l5)),(.u64 (p.snd.y.c1.l0)),(.u64 (p.snd.y.c1.l1)),(.u64 (p.snd.y.c1.l2)),(.u64 (p.snd.y.c1.l3)),(.u64 (p.snd.y.c1.l4)),(.u64 (p.snd.y.c1.l5)),(.bool (p.snd.inf))]),false⟩,.live ⟨true,5,1,(.elts .u8 (List.take c (List.drop 0 l)++List.take za'.length (List.drop 0 za'):List UInt8)),false⟩])))))) (.leaf ((.exit 0,mkSt 35 [(1,.one (.c (.ptr 1 0))),(3,.one (.c (.slc 2 0 (c) 1 (.of 0) false))),(4,.one (.c (.int .i64 (z))))] [.live ⟨false,0,13,(.rows .g1 (p.fst:List Pg1)),false⟩,.live ⟨true,35,0,(.row [(.slc 0 0 (p.fst.length) 13 (.of 0) false),(.u64 (p.snd.x.c0.l0)),(.u64 (p.snd.x.c0.l1)),(.u64 (p.snd.x.c0.l2)),(.u64 (p.snd.x.c0.l3)),(.u64 (p.snd.x.c0.l4)),(.u64 (p.snd.x.c0.l5)),(.u64 (p.snd.x.c1.l0)),(.u64 (p.snd.x.c1.l1)),(.u64 (p.snd.x.c1.l2)),(.u64 (p.snd.x.c1.l3)),(.u64 (p.snd.x.c1.l4)),(.u64 (p.snd.x.c1.l5)),(.u64 (p.snd.y.c0.l0)),(.u64 (p.snd.y.c0.l1)),(.u64 (p.snd.y.c0.l2)),(.u64 (p.snd.y.c0.l3)),(.u64 (p.snd.y.c0.l4)),(.u64 (p.snd.y.c0.l5)),(.u64 (p.snd.y.c1.l0)),(.u64 (p.snd.y.c1.l1)),(.u64 (p.snd.y.c1.l2)),(.u64 (p.snd.y.c1.l3)),(.u64 (p.snd.y.c1.l4)),(.u64 (p.snd.y.c1.l5)),(.bool (p.snd.inf))]),false⟩,.live ⟨true,5,1,(.elts .u8 (l:List UInt8)),false⟩]))))):=by kernel_rfl
theorem by_end (f1:Pg1->List UInt8) (f2:Pg2->List UInt8) (p:List Pg1 × Pg2) (z:Int) (c:Nat) (l:List UInt8):letI za':=List.drop 0 (f2 p.snd);letI zb':=c+(f2 p.snd).length;endT (byE f1 f2) oBl 100 Tryz.f19 (byC.drop 4) (byS p z c l)=(.vc ((0+c<=l.length/\0+(f2 p.snd).length<=(f2 p.snd).length)/\c+(f2 p.snd).length<=9223372036854775807/\zb'*1<=140737488355328) (.leaf (some ((List.take zb' (List.take c (List.drop 0 l)++List.take (f2 p.snd).length za'),(.p (c+(f2 p.snd).length<=(List.take c (List.drop 0 l)++List.take (f2 p.snd).length za').length))))))):=by kernel_rfl
noncomputable abbrev tkC:List Code:=flat (codeOf Tryz.f18)
noncomputable abbrev tkE (t1:List UInt8->Pg1 × Int) (t2:List UInt8->Pg2 × Int) (cF:List Pg1 × Pg2->Int):Env:=En [(47,K1 aBs ((kRow Pg1).rs2 kInt).out.res t1),(48,K1 aBs ((kRow Pg2).rs2 kInt).out.res t2),(11,K1 aPow kInt.rs.res cF)]
def tkS (b:List UInt8) (n z:Int) (off len c:Nat) (l:List Pg1):St:=mkSt 93 [(2,ptrV 1),(3,vI 0),(6,ptrV 2),(7,.one (.c (.slc 0 off len 1 (.of off) false))),(53,vI n),(54,vI z)] [inHE eU8 b,own 35 powZ,own 35 (.slc 3 0 c 13 (.of 0) false :: (zeros 24 ++ [.ff])),.live ⟨true,46,13,.rows .g1 l,false⟩]
theorem tk_start (t1:List UInt8->Pg1 × Int) (t2:List UInt8->Pg2 × Int) (cF:List Pg1 × Pg2->Int) (b:List UInt8):letI za':Fp := { l0:=UInt64.ofNat 0,l1:=UInt64.ofNat 0,l2:=UInt64.ofNat 0,l3:=UInt64.ofNat 0,l4:=UInt64.ofNat 0,l5:=UInt64.ofNat 0 };letI zb':=(shlI IntKind.i64 (↑(b.getD 0 0).toNat:Int) 8);letI zc':=0+b.length*1<=(List.map EK.u8.cell b).length/\0<1;letI zd':=(IntKind.i64.wrap (2+IntKind.i64.wrap (bits BinOp.or IntKind.i64 zb' (↑(b.getD 1 0).toNat:Int)*48))+96);letI ze':=(↑(b.getD 1 0).toNat:Int);letI zf':=List.map EK.u8.cell b;letI zg':=(↑b.length:Int);segN (tkE t1 t2 cF) oMk 300 Tryz.f18 (tkC.take 9) (startSt Tryz.f18 [iBs.av 0 b] [inHE eU8 b]) [2,3,6,7,53,54] [0,1,2] [(2,.as),(3,.int),(6,.as),(7,.slc),(53,.as),(54,.int)] [] [] [(2,0,46,.rows .g1)]=(.vc zc' (.br (decide (zg'<2)) (.leaf (.inr (some (((([],{ x := { c0:=za',c1:=za' },y := { c0:=za',c1:=za' },inf:=false }),2),.t))))) (.vc (0<b.length/\0+b.length*1<=zf'.length/\0<1) (.vc (0<b.length) (.vc (1<b.length/\0+b.length*1<=zf'.length/\0<1) (.vc (1<b.length) (.br (decide (bits BinOp.or IntKind.i64 zb' ze'<2)) (.leaf (.inr (some (((([],{ x := { c0:=za',c1:=za' },y := { c0:=za',c1:=za' },inf:=false }),1),.t))))) (.br (decide (bits BinOp.or IntKind.i64 zb' ze' > 80)) (.leaf (.inr (some (((([],{ x := { c0:=za',c1:=za' },y := { c0:=za',c1:=za' },inf:=false }),1),.t))))) (.vc zc' (.br (decide (zg'<IntKind.i64.wrap zd')) (.leaf (.inr (some (((([],{ x := { c0:=za',c1:=za' },y := { c0:=za',c1:=za' },inf:=false }),2),.t))))) (.vc zc' (.br (decide (zg' > IntKind.i64.wrap zd')) (.leaf (.inr (some (((([],{ x := { c0:=za',c1:=za' },y := { c0:=za',c1:=za' },inf:=false }),8),.t))))) (.vc (2<=b.length/\b.length<=b.length/\0+b.length*1<=zf'.length/\0<1/\(2=0 \/ 2<b.length)/\0=0/\1=1) (.leaf (.inl (mkSt 93 [(2,.one (.c (.ptr 1 0))),(3,.one (.c (.int .i64 0))),(6,.one (.c (.ptr 2 0))),(7,.one (.c (.slc 0 2 (b.length-2) 1 (.of 2) false))),(53,.one (.c (.int .i64 (bits BinOp.or IntKind.i64 zb' ze')))),(54,.one (.c (.int .i64 0)))] [.live ⟨false,0,1,(.elts .u8 (b:List UInt8)),false⟩,.live ⟨true,35,0,(.row [.nils,(.lit .u64 0),(.lit .u64 0),(.lit .u64 0),(.lit .u64 0),(.lit .u64 0),(.lit .u64 0),(.lit .u64 0),(.lit .u64 0),(.lit .u64 0),(.lit .u64 0),(.lit .u64 0),(.lit .u64 0),(.lit .u64 0),(.lit .u64 0),(.lit .u64 0),(.lit .u64 0),(.lit .u64 0),(.lit .u64 0),(.lit .u64 0),(.lit .u64 0),(.lit .u64 0),(.lit .u64 0),(.lit .u64 0),(.lit .u64 0),.ff]),false⟩,.live ⟨true,35,0,(.row [(.slc 3 0 0 13 (.of 0) false),(.lit .u64 0),(.lit .u64 0),(.lit .u64 0),(.lit .u64 0),(.lit .u64 0),(.lit .u64 0),(.lit .u64 0),(.lit .u64 0),(.lit .u64 0),(.lit .u64 0),(.lit .u64 0),(.lit .u64 0),(.lit .u64 0),(.lit .u64 0),(.lit .u64 0),(.lit .u64 0),(.lit .u64 0),(.lit .u64 0),(.lit .u64 0),(.lit .u64 0),(.lit .u64 0),(.lit .u64 0),(.lit .u64 0),(.lit .u64 0),.ff]),false⟩,.live ⟨true,46,13,(.rows .g1 ([]:List Pg1)),false⟩])))))))))))))))):=by kernel_rfl
theorem tk_round (t1:List UInt8->Pg1 × Int) (t2:List UInt8->Pg2 × Int) (cF:List Pg1 × Pg2->Int) (b:List UInt8) (n z:Int) (off len c:Nat) (l:List Pg1):letI za':Fp := { l0:=UInt64.ofNat 0,l1:=UInt64.ofNat 0,l2:=UInt64.ofNat 0,l3:=UInt64.ofNat 0,l4:=UInt64.ofNat 0,l5:=UInt64.ofNat 0 };letI zb':=List.take 48 (List.drop (off+0) b);letI zc':=List.map EK.u8.cell b;iterP (tkE t1 t2 cF) oMk 300 Tryz.f18 [loopAt Tryz.f18 0] (tkS b n z off len c l) (followingB [2,3,6,7,53,54] [0,1,2] [] [2])=(.br (decide (z<n)) (.vc (0<=48/\48<=len/\off+len*1<=zc'.length/\0<1/\(0=0 \/ 0<48)/\off*1=off/\1=1) (.vc ((off+0+48<=b.length/\48<1125899906842624/\(off+0)*1=off+0/\1=1)/\littleB zb') (.br ((t1 zb').snd != 0) (.leaf (.inr (some (((([],{ x := { c0:=za',c1:=za' },y := { c0:=za',c1:=za' },inf:=false }),(t1 zb').snd),.t))))) (.vc ((0+c*13<=(rowsC RK.g1 l).length/\0=0)/\c+1<=9223372036854775807/\(c+1)*104<=140737488355328) (.vc (48<=len/\len<=len/\off+len*1<=zc'.length/\0<1/\(48=0 \/ 48<len)/\off*1=off/\1=1) (.leaf (.inl ((.normal,mkSt 93 [(2,.one (.c (.ptr 1 0))),(3,.one (.c (.int .i64 0))),(6,.one (.c (.ptr 2 0))),(7,.one (.c (.slc 0 (off+48) (len-48) 1 (.of (off+48)) false))),(53,.one (.c (.int .i64 (n)))),(54,.one (.c (.int .i64 (IntKind.i64.wrap (z+1)))))] [.live ⟨false,0,1,(.elts .u8 (b:List UInt8)),false⟩,.live ⟨true,35,0,(.row [.nils,(.lit .u64 0),(.lit .u64 0),(.lit .u64 0),(.lit .u64 0),(.lit .u64 0),(.lit .u64 0),(.lit .u64 0),(.lit .u64 0),(.lit .u64 0),(.lit .u64 0),(.lit .u64 0),(.lit .u64 0),(.lit .u64 0),(.lit .u64 0),(.lit .u64 0),(.lit .u64 0),(.lit .u64 0),(.lit .u64 0),(.lit .u64 0),(.lit .u64 0),(.lit .u64 0),(.lit .u64 0),(.lit .u64 0),(.lit .u64 0),.ff]),false⟩,.live ⟨true,35,0,(.row [(.slc 3 0 (c+1) 13 (.of 0) false),(.lit .u64 0),(.lit .u64 0),(.lit .u64 0),(.lit .u64 0),(.lit .u64 0),(.lit .u64 0),(.lit .u64 0),(.lit .u64 0),(.lit .u64 0),(.lit .u64 0),(.lit .u64 0),(.lit .u64 0),(.lit .u64 0),(.lit .u64 0),(.lit .u64 0),(.lit .u64 0),(.lit .u64 0),(.lit .u64 0),(.lit .u64 0),(.lit .u64 0),(.lit .u64 0),(.lit .u64 0),(.lit .u64 0),(.lit .u64 0),.ff]),false⟩,.live ⟨true,46,13,(.rows .g1 (List.take (mulNn c (13 / 13)) (List.drop 0 l) ++ [(t1 zb').fst]:List Pg1)),false⟩]))))))))) (.leaf (.inl ((.exit 1,mkSt 93 [(2,.one (.c (.ptr 1 0))),(3,.one (.c (.int .i64 0))),(6,.one (.c (.ptr 2 0))),(7,.one (.c (.slc 0 (off) (len) 1 (.of (off)) false))),(53,.one (.c (.int .i64 (n)))),(54,.one (.c (.int .i64 (z))))] [.live ⟨false,0,1,(.elts .u8 (b:List UInt8)),false⟩,.live ⟨true,35,0,(.row [.nils,(.lit .u64 0),(.lit .u64 0),(.lit .u64 0),(.lit .u64 0),(.lit .u64 0),(.lit .u64 0),(.lit .u64 0),(.lit .u64 0),(.lit .u64 0),(.lit .u64 0),(.lit .u64 0),(.lit .u64 0),(.lit .u64 0),(.lit .u64 0),(.lit .u64 0),(.lit .u64 0),(.lit .u64 0),(.lit .u64 0),(.lit .u64 0),(.lit .u64 0),(.lit .u64 0),(.lit .u64 0),(.lit .u64 0),(.lit .u64 0),.ff]),false⟩,.live ⟨true,35,0,(.row [(.slc 3 0 (c) 13 (.of 0) false),(.lit .u64 0),(.lit .u64 0),(.lit .u64 0),(.lit .u64 0),(.lit .u64 0),(.lit .u64 0),(.lit .u64 0),(.lit .u64 0),(.lit .u64 0),(.lit .u64 0),(.lit .u64 0),(.lit .u64 0),(.lit .u64 0),(.lit .u64 0),(.lit .u64 0),(.lit .u64 0),(.lit .u64 0),(.lit .u64 0),(.lit .u64 0),(.lit .u64 0),(.lit .u64 0),(.lit .u64 0),(.lit .u64 0),(.lit .u64 0),.ff]),false⟩,.live ⟨true,46,13,(.rows .g1 (l:List Pg1)),false⟩]))))):=by kernel_rfl
theorem tk_end (t1:List UInt8->Pg1 × Int) (t2:List UInt8->Pg2 × Int) (cF:List Pg1 × Pg2->Int) (b:List UInt8) (n z:Int) (off len c:Nat) (l:List Pg1):letI za':Fp := { l0:=UInt64.ofNat 0,l1:=UInt64.ofNat 0,l2:=UInt64.ofNat 0,l3:=UInt64.ofNat 0,l4:=UInt64.ofNat 0,l5:=UInt64.ofNat 0 };letI zb':=List.take len (List.drop off b);letI zc':=List.drop 0 l;endT (tkE t1 t2 cF) oMk 300 Tryz.f18 (tkC.drop 10) (tkS b n z off len c l)=(.vc ((off+len<=b.length/\len<1125899906842624/\off*1=off/\1=1)/\littleB zb') (.br ((t2 zb').snd != 0) (.leaf (some (((([],{ x := { c0:=za',c1:=za' },y := { c0:=za',c1:=za' },inf:=false }),(t2 zb').snd),.t)))) (.vc ((0+c*13<=(rowsC RK.g1 l).length/\0=0/\c<1125899906842624/\0=0/\13=13)/\fewP (List.take c zc',(t2 zb').fst)) (.br (cF (List.take c zc',(t2 zb').fst) != 0) (.leaf (some (((([],{ x := { c0:=za',c1:=za' },y := { c0:=za',c1:=za' },inf:=false }),cF (List.take c zc',(t2 zb').fst)),.t)))) (.leaf (some ((((List.take c l,(t2 zb').fst),0),(.p (c<=l.length)))))))))):=by kernel_rfl
end
set_option maxRecDepth 100000
section
theorem wholeT8 {xs:List UInt8} {c:Nat} (h:xs.length=c):List.take c (List.drop 0 xs)=xs:=by rw [List.drop_zero,<- h,List.take_length]
theorem flat_len {α:Type} {f:α->List UInt8} {k:Nat} (h : ∀ x,(f x).length=k) : ∀ l:List α,(l.flatMap f).length=l.length*k
 | []=>by rw [List.flatMap_nil,List.length_nil,List.length_nil,Nat.zero_mul]
 | x :: l=>by rw [List.flatMap_cons,List.length_append,h x,flat_len h l,List.length_cons,Nat.add_mul,Nat.one_mul,Nat.add_comm]
theorem take_snocD {α:Type} (l:List α) (d:α) {i:Nat} (h:i<l.length):l.take (i+1)=l.take i ++ [l.getD i d]:=by
 rw [List.take_succ_eq_append_getElem h,List.getD_eq_getElem?_getD,List.getElem?_eq_getElem h]
 rfl
def putH (p:List Pg1 × Pg2):List UInt8 := [UInt8.ofNat (shrI IntKind.i64 (p.1.length:Int) 8 % 256).toNat,UInt8.ofNat ((p.1.length:Int) % 256).toNat]
def bytH (p:List Pg1 × Pg2):List UInt8 := [UInt8.ofNat (IntKind.i64.wrap ((p.1.length:Int).tdiv 256) % 256).toNat,UInt8.ofNat ((p.1.length:Int) % 256).toNat]
def putG (f1:Pg1->List UInt8) (f2:Pg2->List UInt8) (p:List Pg1 × Pg2):List UInt8:=putH p++p.1.flatMap f1++f2 p.2
def bytG (f1:Pg1->List UInt8) (f2:Pg2->List UInt8) (p:List Pg1 × Pg2):List UInt8:=bytH p++p.1.flatMap f1++f2 p.2
section
variable {f1 : Pg1 -> List UInt8} {f2 : Pg2 -> List UInt8} (h1 : ∀ x, (f1 x).length = 48) (h2 : ∀ x, (f2 x).length = 96)
include h1 h2
theorem pu_does (hE:EnvOk (puE f1 f2)) (p:List Pg1 × Pg2) (hl:few p.1):DoesL (puE f1 f2) (flat (codeOf Tryz.f20)) (startSt Tryz.f20 [pwV 0 p] [rwHE .g1 p.1])
  (EndsAs (puE f1 f2) Tryz.f20 (Reads oBl (putG f1 f2 p))):=by
 have hl:p.1.length<4294967296:=hl
 refine DoesL.stageG hE 100 3 _ _ _ _ _ (pu_start f1 f2 p) ⟨vcLenG1 _,fun _=>⟨vcLenG1 _,fun _=>⟨vcLenG1 _,fun _ => ?_⟩⟩⟩
 refine (?_:DoesL _ _ (puS p ((0:Nat):Int) (2+0*48) (putH p++(p.1.take 0).flatMap f1)) _)
 refine DoesL.blockLoop (B:=loopAt Tryz.f20 0) (rest:=puC.drop 4) (id:=0) (by kernel_rfl) (fun i : { i:Nat // i<=p.1.length }=>puS p (i.1:Int) (2+i.1*48) (putH p++(p.1.take i.1).flatMap f1)) (fun i=>p.1.length-i.1) ⟨0,Nat.zero_le _⟩ fun i => ?_
 obtain ⟨i,hi⟩:=i
 refine (?_:Does _ _ (puS p (i:Int) (2+i*48) (putH p++(p.1.take i).flatMap f1)) _)
 have hc:(putH p++(p.1.take i).flatMap f1).length=2+i*48:=by
  rw [List.length_append,flat_len h1,List.length_take,Nat.min_eq_left hi]
  rfl
 refine Does.roundP hE 300 _ (pu_round f1 f2 p (i:Int) (2+i*48) (putH p++(p.1.take i).flatMap f1)) ⟨fun h => ?_,fun h => ?_⟩
 ·simp only [decide_eq_true_eq] at h
  have hi':i<p.1.length:=by omega
  have hx:=h1 (p.1.getD i pg10)
  rw [zeroN,wrapU i (by omega),whole8,wholeT8 hc,hx]
  refine ⟨vcIdxG1 hi',fun _=>⟨hi',fun _=>⟨⟨⟨by omega,by omega⟩,by omega,by omega⟩,fun _ => ?_⟩⟩⟩
  refine ⟨⟨i+1,hi'⟩,by show p.1.length-(i+1)<p.1.length-i;omega,?_⟩
  show _=puS p ((i+1:Nat):Int) (2+(i+1)*48) (putH p++(p.1.take (i+1)).flatMap f1)
  rw [take_snocD p.1 pg10 hi',List.flatMap_append,List.flatMap_cons,List.flatMap_nil,List.append_nil,<- List.append_assoc,show 2+(i+1)*48=2+i*48+48 by omega]
  rfl
 ·simp only [decide_eq_false_iff_not] at h
  obtain rfl:i=p.1.length:=by omega
  rw [List.take_length] at hc ⊢
  refine ⟨rfl,DoesL.ends hE 100 (pu_end f1 f2 p _ _ _) ?_⟩
  have hx:=h2 p.2
  rw [whole8,wholeT8 hc,hx]
  refine ⟨⟨⟨by omega,by omega⟩,by omega,by omega⟩,fun _ => ?_⟩
  have hz:(putH p++List.flatMap f1 p.1++f2 p.2).length=2+p.1.length*48+96:=by rw [List.length_append,hc,hx]
  exact reads_p (by rw [<- hz,List.take_length];rfl) (Nat.le_of_eq hz.symm)
theorem by_does (hE:EnvOk (byE f1 f2)) (p:List Pg1 × Pg2) (hl:few p.1):DoesL (byE f1 f2) (flat (codeOf Tryz.f19)) (startSt Tryz.f19 [pwV 0 p] [rwHE .g1 p.1])
  (EndsAs (byE f1 f2) Tryz.f19 (Reads oBl (bytG f1 f2 p))):=by
 have hl:p.1.length<4294967296:=hl
 refine DoesL.stageG hE 100 3 _ _ _ _ _ (by_start f1 f2 p) ⟨vcLenG1 _,fun _=>⟨vcLenG1 _,fun _ => ?_⟩⟩
 refine (?_:DoesL _ _ (byS p ((0:Nat):Int) (2+0*48) (bytH p++(p.1.take 0).flatMap f1)) _)
 refine DoesL.blockLoop (B:=loopAt Tryz.f19 0) (rest:=byC.drop 4) (id:=0) (by kernel_rfl) (fun i : { i:Nat // i<=p.1.length }=>byS p (i.1:Int) (2+i.1*48) (bytH p++(p.1.take i.1).flatMap f1)) (fun i=>p.1.length-i.1) ⟨0,Nat.zero_le _⟩ fun i => ?_
 obtain ⟨i,hi⟩:=i
 refine (?_:Does _ _ (byS p (i:Int) (2+i*48) (bytH p++(p.1.take i).flatMap f1)) _)
 have hc:(bytH p++(p.1.take i).flatMap f1).length=2+i*48:=by
  rw [List.length_append,flat_len h1,List.length_take,Nat.min_eq_left hi]
  rfl
 refine Does.roundP hE 300 _ (by_round f1 f2 p (i:Int) (2+i*48) (bytH p++(p.1.take i).flatMap f1)) ⟨vcLenG1 _,fun _=>⟨fun h => ?_,fun h => ?_⟩⟩
 ·simp only [decide_eq_true_eq] at h
  have hi':i<p.1.length:=by omega
  have hx:=h1 (p.1.getD i pg10)
  rw [zeroN,wrapU i (by omega),whole8,wholeT8 hc,hx]
  refine ⟨vcIdxG1 hi',fun _=>⟨hi',fun _=>⟨⟨⟨by omega,by omega⟩,by omega,by omega⟩,fun _ => ?_⟩⟩⟩
  refine ⟨⟨i+1,hi'⟩,by show p.1.length-(i+1)<p.1.length-i;omega,?_⟩
  show _=byS p ((i+1:Nat):Int) (2+(i+1)*48) (bytH p++(p.1.take (i+1)).flatMap f1)
  rw [take_snocD p.1 pg10 hi',List.flatMap_append,List.flatMap_cons,List.flatMap_nil,List.append_nil,<- List.append_assoc,show 2+(i+1)*48=2+i*48+48 by omega]
  rfl
 ·simp only [decide_eq_false_iff_not] at h
  obtain rfl:i=p.1.length:=by omega
  rw [List.take_length] at hc ⊢
  refine ⟨rfl,DoesL.ends hE 100 (by_end f1 f2 p _ _ _) ?_⟩
  have hx:=h2 p.2
  rw [whole8,wholeT8 hc,hx]
  refine ⟨⟨⟨by omega,by omega⟩,by omega,by omega⟩,fun _ => ?_⟩
  have hz:(bytH p++List.flatMap f1 p.1++f2 p.2).length=2+p.1.length*48+96:=by rw [List.length_append,hc,hx]
  exact reads_p (by rw [<- hz,List.take_length];rfl) (Nat.le_of_eq hz.symm)
end
theorem hdB_len' (l:List UInt8) (c:UInt8):(hdB l c).length=l.length:=by
 unfold hdB
 rw [List.length_set]
theorem rput1F_len (a:Pg1):(rput1F a).length=48:=by
 rw [rput1F_val]
 cases a.inf
 ·cases greatPF a.y
  ·exact (hdB_len' _ _).trans (fput_len' _)
  ·exact (hdB_len' _ _).trans ((hdB_len' _ _).trans (fput_len' _))
 ·rfl
theorem rput2F_len (a:Pg2):(rput2F a).length=96:=by
 rw [rput2F_val]
 have h:(fputF a.x.c1++fputF a.x.c0).length=96:=by rw [List.length_append,fput_len',fput_len']
 cases a.inf
 ·cases great2R a.y
  ·exact (hdB_len' _ _).trans h
  ·exact (hdB_len' _ _).trans ((hdB_len' _ _).trans h)
 ·rfl
def putS (p:List Pg1 × Pg2):List UInt8:=putG put1F put2F p
def bytS (p:List Pg1 × Pg2):List UInt8:=bytG rput1F rput2F p
theorem putS_ok:CallOk Tryz.prog 20 (K1 aPow rB putS) :=
 G1 (E:=puE put1F put2F) Tryz.func20 (c:=codeOf Tryz.f20) (by kernel_rfl) (bodied Tryz.func20 (by kernel_rfl) (by kernel_rfl)) iPow oBl putS fun p hp =>
  pu_does put1F_len put2F_len (Ens_ok (.cons put1_ok (.cons put2_ok .nil))) p hp.2
theorem bytS_ok:CallOk Tryz.prog 19 (K1 aPow rB bytS) :=
 G1 (E:=byE rput1F rput2F) Tryz.func19 (c:=codeOf Tryz.f19) (by kernel_rfl) (bodied Tryz.func19 (by kernel_rfl) (by kernel_rfl)) iPow oBl bytS fun p hp =>
  by_does rput1F_len rput2F_len (Ens_ok (.cons rput1_ok (.cons rput2_ok .nil))) p hp.2
def tkN (b:List UInt8):Int:=bits BinOp.or IntKind.i64 (shlI IntKind.i64 ((b.getD 0 0).toNat:Int) 8) ((b.getD 1 0).toNat:Int)
def tkA (b:List UInt8):Int:=IntKind.i64.wrap (IntKind.i64.wrap (2+IntKind.i64.wrap (tkN b*48))+96)
def tkL (t1:List UInt8->Pg1 × Int) (b:List UInt8):Nat->Nat->List Pg1->Int × List Pg1
 | _,0,l=>(0,l)
 | off,n+1,l=>match (t1 (List.take 48 (List.drop off b))).2 != 0 with
  | true=>((t1 (List.take 48 (List.drop off b))).2,l)
  | false=>tkL t1 b (off+48) n (l ++ [(t1 (List.take 48 (List.drop off b))).1])
theorem tkL_zero (t1:List UInt8->Pg1 × Int) (b:List UInt8) (off:Nat) (l:List Pg1):tkL t1 b off 0 l=(0,l):=rfl
theorem tkL_succ (t1:List UInt8->Pg1 × Int) (b:List UInt8) (off n:Nat) (l:List Pg1):tkL t1 b off (n+1) l=match (t1 (List.take 48 (List.drop off b))).2 != 0 with
  | true=>((t1 (List.take 48 (List.drop off b))).2,l)
  | false=>tkL t1 b (off+48) n (l ++ [(t1 (List.take 48 (List.drop off b))).1]):=rfl
def tkT (t2:List UInt8->Pg2 × Int) (cF:List Pg1 × Pg2->Int) (r:List UInt8) (l:List Pg1):(List Pg1 × Pg2) × Int :=
 match (t2 r).2 != 0 with
 | true=>(([],pg20),(t2 r).2)
 | false=>match cF (l,(t2 r).1) != 0 with
  | true=>(([],pg20),cF (l,(t2 r).1))
  | false=>((l,(t2 r).1),0)
def tkG (t1:List UInt8->Pg1 × Int) (t2:List UInt8->Pg2 × Int) (cF:List Pg1 × Pg2->Int) (b:List UInt8):(List Pg1 × Pg2) × Int :=
 match decide ((b.length:Int)<2) with
 | true=>(([],pg20),2)
 | false=>match decide (tkN b<2) with
  | true=>(([],pg20),1)
  | false=>match decide (tkN b > 80) with
   | true=>(([],pg20),1)
   | false=>match decide ((b.length:Int)<tkA b) with
    | true=>(([],pg20),2)
    | false=>match decide ((b.length:Int) > tkA b) with
     | true=>(([],pg20),8)
     | false=>match (tkL t1 b 2 (tkN b).toNat []).1 != 0 with
      | true=>(([],pg20),(tkL t1 b 2 (tkN b).toNat []).1)
      | false=>tkT t2 cF (List.drop (2+(tkN b).toNat*48) b) (tkL t1 b 2 (tkN b).toNat []).2
theorem vcAtB {xs:List UInt8} {n:Nat} (h:n<xs.length):n<xs.length/\0+xs.length*1<=(List.map EK.u8.cell xs).length/\0<1:=⟨h,(vcLenB xs).1,by decide⟩
theorem tkN_nat (b:List UInt8):tkN b=(((b.getD 0 0).toNat*256+(b.getD 1 0).toNat:Nat):Int):=by
 have h : ∀ x y:UInt8,bits BinOp.or IntKind.i64 (shlI IntKind.i64 (x.toNat:Int) 8) (y.toNat:Int)=((x.toNat*256+y.toNat:Nat):Int):=by
  intro x y
  have hx:=x.toNat_lt
  have hy:=y.toNat_lt
  have e1:shlI IntKind.i64 (x.toNat:Int) 8=((x.toNat*256:Nat):Int):=by
   unfold shlI
   rw [show (2:Int) ^ (min (8:Int).toNat IntKind.i64.bits)=256 by decide,IntWalk.i64_in _ (by omega)]
   omega
  rw [e1]
  show IntKind.i64.wrap ((BitVec.ofInt 64 ((x.toNat*256:Nat):Int) ||| BitVec.ofInt 64 (y.toNat:Int)).toNat:Int)=_
  rw [ofInt_nat,ofInt_nat]
  have e2:(BitVec.ofNat 64 (x.toNat*256) ||| BitVec.ofNat 64 y.toNat).toNat=x.toNat*256+y.toNat:=by
   rw [BitVec.toNat_or,BitVec.toNat_ofNat,BitVec.toNat_ofNat,Nat.mod_eq_of_lt (by omega),Nat.mod_eq_of_lt (by omega)]
   rw [Nat.mul_comm,show 256=2 ^ 8 from rfl,Nat.two_pow_add_eq_or_of_lt (by omega)]
  rw [e2,IntWalk.i64_in _ (by omega)]
 exact h _ _
theorem tkN_pos (b:List UInt8):0<=tkN b:=by rw [tkN_nat];omega
section
variable {t1 : List UInt8 -> Pg1 × Int} {t2 : List UInt8 -> Pg2 × Int} {cF : List Pg1 × Pg2 -> Int}
abbrev TkQ (t1:List UInt8->Pg1 × Int) (b:List UInt8) (n:Nat):Type := { q:Nat × List Pg1 // q.1<=n/\q.2.length=q.1/\tkL t1 b (2+q.1*48) (n-q.1) q.2=tkL t1 b 2 n [] }
theorem tk_loop (hE:EnvOk (tkE t1 t2 cF)) (b:List UInt8) (n:Nat) (hn:n<=80) (hb:b.length=2+n*48+96) {x:(List Pg1 × Pg2) × Int} (hx:x=match (tkL t1 b 2 n []).1 != 0 with
   | true=>(([],pg20),(tkL t1 b 2 n []).1)
   | false=>tkT t2 cF (List.drop (2+n*48) b) (tkL t1 b 2 n []).2) :
  DoesL (tkE t1 t2 cF) (tkC.drop 9) (tkS b (n:Int) ((0:Nat):Int) (2+0*48) (b.length-2) 0 []) (EndsAs (tkE t1 t2 cF) Tryz.f18 (Reads oMk x)):=by
 refine (?_:DoesL _ _ (tkS b (n:Int) ((0:Nat):Int) (2+0*48) (b.length-(2+0*48)) 0 []) _)
 refine DoesL.blockLoopR (B:=loopAt Tryz.f18 0) (rest:=tkC.drop 10) (id:=1) (by kernel_rfl) (fun q:TkQ t1 b n=>tkS b (n:Int) (q.1.1:Int) (2+q.1.1*48) (b.length-(2+q.1.1*48)) q.1.1 q.1.2) (fun q=>n-q.1.1) ⟨(0,[]),Nat.zero_le _,rfl,rfl⟩ fun q => ?_
 obtain ⟨⟨i,l⟩,h0,h1,h2⟩:=q
 have h0:i<=n:=h0
 have h1:l.length=i:=h1
 have h2:tkL t1 b (2+i*48) (n-i) l=tkL t1 b 2 n []:=h2
 refine (?_:DoesL _ _ (tkS b (n:Int) (i:Int) (2+i*48) (b.length-(2+i*48)) i l) _)
 have rd:=tk_round t1 t2 cF b (n:Int) (i:Int) (2+i*48) (b.length-(2+i*48)) i l
 simp only [Nat.add_zero] at rd
 refine DoesL.iterP hE 300 _ rd ⟨fun h => ?_,fun h => ?_⟩
 ·simp only [decide_eq_true_eq] at h
  have hi:i<n:=by omega
  have hlen:(List.map EK.u8.cell b).length=b.length:=List.length_map _
  rw [wrapU i (by omega)]
  obtain ⟨m,hm⟩ : ∃ m,n-i=m+1:=⟨n-i-1,by omega⟩
  rw [hm,tkL_succ] at h2
  refine ⟨⟨by omega,by omega,by omega,by decide,.inl trivial,by omega,trivial⟩,fun _=>⟨⟨⟨by omega,by decide,by omega,trivial⟩,?_⟩,fun _=>⟨fun h3 => ?_,fun h3 => ?_⟩⟩⟩
  ·show (List.take 48 _).length<16777216
   rw [List.length_take]
   omega
  ·rw [h3] at h2
   have h2:((t1 (List.take 48 (List.drop (2+i*48) b))).2,l)=tkL t1 b 2 n []:=h2
   rw [<- h2] at hx
   refine ⟨.t,?_,trivial⟩
   rw [hx]
   show _=some ((match (t1 (List.take 48 (List.drop (2+i*48) b))).2 != 0 with | true=>(([],pg20),(t1 (List.take 48 (List.drop (2+i*48) b))).2) | false=>tkT t2 cF (List.drop (2+n*48) b) l),Pr.t)
   rw [h3]
   rfl
  ·rw [h3] at h2
   have h2:tkL t1 b (2+i*48+48) m (l ++ [(t1 (List.take 48 (List.drop (2+i*48) b))).1])=tkL t1 b 2 n []:=h2
   refine ⟨⟨⟨by rw [rowsC_g1,h1];omega,trivial⟩,by omega,by omega⟩,fun _=>⟨⟨by omega,by omega,by omega,by decide,.inr (by omega),by omega,trivial⟩,fun _ => ?_⟩⟩
   refine ⟨⟨(i+1,l ++ [(t1 (List.take 48 (List.drop (2+i*48) b))).1]),hi,?_,?_⟩,by show n-(i+1)<n-i;omega,?_⟩
   ·show (l ++ [_]).length=i+1
    rw [List.length_append,h1]
    rfl
   ·show tkL t1 b (2+(i+1)*48) (n-(i+1)) _=_
    rw [show 2+(i+1)*48=2+i*48+48 by omega,show n-(i+1)=m by omega]
    exact h2
   ·rw [wholeAppG1 h1]
    show _=tkS b (n:Int) ((i+1:Nat):Int) (2+(i+1)*48) (b.length-(2+(i+1)*48)) (i+1) (l ++ [(t1 (List.take 48 (List.drop (2+i*48) b))).1])
    rw [show 2+(i+1)*48=2+i*48+48 by omega,show b.length-(2+i*48+48)=b.length-(2+i*48)-48 by omega]
    rfl
 ·simp only [decide_eq_false_iff_not] at h
  obtain rfl:i=n:=by omega
  rw [Nat.sub_self,tkL_zero] at h2
  rw [<- h2] at hx
  have hx:x=tkT t2 cF (List.drop (2+i*48) b) l:=hx
  refine ⟨rfl,DoesL.ends hE 300 (tk_end t1 t2 cF b (i:Int) (i:Int) (2+i*48) (b.length-(2+i*48)) i l) ?_⟩
  have hr:List.take (b.length-(2+i*48)) (List.drop (2+i*48) b)=List.drop (2+i*48) b:=List.take_of_length_le (by rw [List.length_drop];exact Nat.le_refl _)
  have hl:List.take i (List.drop 0 l)=l:=by rw [List.drop_zero,<- h1,List.take_length]
  rw [hr,hl,hx]
  refine ⟨⟨⟨by omega,by omega,by omega,rfl⟩,by show (List.drop _ b).length<16777216;rw [List.length_drop];omega⟩,fun _=>⟨fun h3 => ?_,fun h3=>⟨⟨⟨by rw [rowsC_g1,h1];omega,rfl,by omega,rfl,rfl⟩,by show l.length<4294967296;omega⟩,fun _=>⟨fun h4 => ?_,fun h4 => ?_⟩⟩⟩⟩
  ·exact ⟨.t,by unfold tkT;rw [h3];rfl,trivial⟩
  ·exact ⟨.t,by unfold tkT;rw [h3,h4];rfl,trivial⟩
  ·exact reads_p (by unfold tkT;rw [h3,h4,<- h1,List.take_length]) (by omega)
end
theorem tk_does {t1:List UInt8->Pg1 × Int} {t2:List UInt8->Pg2 × Int} {cF:List Pg1 × Pg2->Int} (hE:EnvOk (tkE t1 t2 cF)) (b:List UInt8):DoesL (tkE t1 t2 cF) (flat (codeOf Tryz.f18)) (startSt Tryz.f18 [iBs.av 0 b] [inHE eU8 b])
  (EndsAs (tkE t1 t2 cF) Tryz.f18 (Reads oMk (tkG t1 t2 cF b))):=by
 have st:=tk_start t1 t2 cF b
 rw [show bits BinOp.or IntKind.i64 (shlI IntKind.i64 ((b.getD 0 0).toNat:Int) 8) ((b.getD 1 0).toNat:Int)=tkN b from rfl] at st
 refine DoesL.segN hE 300 9 _ _ _ _ _ _ st ⟨vcLenB b,fun _=>⟨fun h => ?_,fun h => ?_⟩⟩
 ·exact ⟨.t,by unfold tkG;rw [h];rfl,trivial⟩
 ·have h':=h
  simp only [decide_eq_false_iff_not] at h'
  refine ⟨vcAtB (by omega),fun _=>⟨by omega,fun _=>⟨vcAtB (by omega),fun _=>⟨by omega,fun _=>⟨fun h1 => ?_,fun h1=>⟨fun h2 => ?_,fun h2=>⟨vcLenB b,fun _=>⟨fun h3 => ?_,fun h3=>⟨vcLenB b,fun _=>⟨fun h4 => ?_,fun h4 => ?_⟩⟩⟩⟩⟩⟩⟩⟩⟩⟩
  ·exact ⟨.t,by unfold tkG;rw [h,h1];rfl,trivial⟩
  ·exact ⟨.t,by unfold tkG;rw [h,h1,h2];rfl,trivial⟩
  ·have h3:decide ((b.length:Int)<tkA b)=true:=h3
   exact ⟨.t,by unfold tkG;rw [h,h1,h2,h3];rfl,trivial⟩
  ·have h3:decide ((b.length:Int)<tkA b)=false:=h3
   have h4:decide ((b.length:Int) > tkA b)=true:=h4
   exact ⟨.t,by unfold tkG;rw [h,h1,h2,h3,h4];rfl,trivial⟩
  ·have h3:decide ((b.length:Int)<tkA b)=false:=h3
   have h4:decide ((b.length:Int) > tkA b)=false:=h4
   have hx:tkG t1 t2 cF b=match (tkL t1 b 2 (tkN b).toNat []).1 != 0 with
      | true=>(([],pg20),(tkL t1 b 2 (tkN b).toNat []).1)
      | false=>tkT t2 cF (List.drop (2+(tkN b).toNat*48) b) (tkL t1 b 2 (tkN b).toNat []).2:=by
    unfold tkG
    rw [h,h1,h2,h3,h4]
   simp only [decide_eq_false_iff_not] at h1 h2 h3 h4
   have hp:=tkN_pos b
   clear st
   obtain ⟨n,hN⟩ : ∃ n:Nat,tkN b=(n:Int):=⟨(tkN b).toNat,by omega⟩
   rw [hN] at h1 h2 hx ⊢
   rw [Int.toNat_natCast] at hx
   have hA:tkA b=((2+n*48+96:Nat):Int):=by
    unfold tkA
    rw [hN,IntWalk.i64_in ((n:Int)*48) (by omega),IntWalk.i64_in (2+(n:Int)*48) (by omega),IntWalk.i64_in _ (by omega)]
    omega
   rw [hA] at h3 h4
   have hlen:(List.map EK.u8.cell b).length=b.length:=List.length_map _
   refine ⟨⟨by omega,by omega,by omega,by decide,.inr (by omega),rfl,rfl⟩,fun _ => ?_⟩
   exact tk_loop hE b n (by omega) (by omega) hx
def takeS (b:List UInt8):(List Pg1 × Pg2) × Int:=tkG take1F take2F checkF b
theorem takeS_ok:CallOk Tryz.prog 18 (K1 aBs oMk.res takeS) :=
 G1 (E:=tkE take1F take2F checkF) Tryz.func18 (c:=codeOf Tryz.f18) (by kernel_rfl) (bodied Tryz.func18 (by kernel_rfl) (by kernel_rfl)) iBs oMk takeS fun b _ =>
  tk_does (En_ok (.cons take1F_ok (.cons take2F_ok (.cons checkF_ok .nil)))) b
end
set_option maxRecDepth 100000
section
def kU16:Kd UInt16 where
 rd:=fun v=>match v with
  | .c (.int .u16 n)=>match decide (0<=n),decide (n<65536) with
   | true,true=>some (UInt16.ofNat n.toNat)
   | _,_=>none
  | _=>none
 av:=fun x => .c (.int .u16 (x.toNat:Int))
 val:=fun x => .int .u16 (x.toNat:Int)
 rd_ok:=fun v x e β=>by
  split at e
  ·rename_i n
   split at e
   ·rename_i h0 h1
    cases e
    simp only [decide_eq_true_eq] at h0 h1
    have h2:(UInt16.ofNat n.toNat).toNat=n.toNat:=by
     rw [UInt16.toNat_ofNat']
     omega
    rw [h2]
    show Value.int .u16 n=_
    rw [Int.toNat_of_nonneg h0]
   ·cases e
  ·cases e
 av_ok:=fun x β=>rfl
 av_id:=fun x h=>okc_none rfl
def srsMakes_T (f0:Bool) (f1:Fr->Bool) (f2:Fr->Int->(List Pg1 × Pg2) × Int) (f3:List Pg1 × Pg2->List UInt8) (f4:List UInt8->(List Pg1 × Pg2) × Int) (f5:List Pg1 × Pg2->List Pg1 × Pg2->Bool) (f6:Fr->Int->List Pg1 × Pg2) (f7:List Pg1 × Pg2->List UInt8) (tau:Fr) (n:Int) (more:UInt8) (cut:UInt16):Tree (Option ((Bool) × Pr)):=letI za':=f3 (List.take (f2 tau n).fst.fst.length (List.drop 0 (f2 tau n).fst.fst),(f2 tau n).fst.snd);letI zb':=(0+(f2 tau n).fst.fst.length*13<=(rowsC RK.g1 (f2 tau n).fst.fst).length/\0=0/\(f2 tau n).fst.fst.length<1125899906842624/\0=0/\13=13)/\fewP (List.take (f2 tau n).fst.fst.length (List.drop 0 (f2 tau n).fst.fst),(f2 tau n).fst.snd);letI zc':=((IntKind.i64.wrap (↑cut.toNat:Int)).tmod (↑za'.length:Int));letI zd':=f4 (List.take za'.length (List.drop 0 za'));letI ze':=f7 (List.take (f2 tau n).fst.fst.length (List.drop 0 (f2 tau n).fst.fst),(f2 tau n).fst.snd);letI zf':=0+(f2 tau n).fst.fst.length*13<=(rowsC RK.g1 (f2 tau n).fst.fst).length/\0<13;letI zg':=zb'/\(0+(f6 tau n).fst.length*13<=(rowsC RK.g1 (f6 tau n).fst).length/\0=0/\(f6 tau n).fst.length<1125899906842624/\0=0/\13=13)/\fewP (List.take (f6 tau n).fst.length (List.drop 0 (f6 tau n).fst),(f6 tau n).snd);letI zh':=(0<=(IntKind.i64.wrap (↑cut.toNat:Int)).tmod (↑za'.length:Int)/\0<=zc'.toNat/\zc'.toNat<=za'.length/\0+za'.length*1<=(List.map EK.u8.cell za').length/\0<1/\(0=0 \/ 0<zc'.toNat)/\0=0/\1=1);letI zi':=zb'/\(0+zd'.fst.fst.length*13<=(rowsC RK.g1 zd'.fst.fst).length/\0=0/\zd'.fst.fst.length<1125899906842624/\0=0/\13=13)/\fewP (List.take zd'.fst.fst.length (List.drop 0 zd'.fst.fst),zd'.fst.snd);letI zj':=List.drop 0 za';letI zk':=0+za'.length*1<=(List.map EK.u8.cell za').length/\0<1;letI zl':=f5 (List.take (f2 tau n).fst.fst.length (List.drop 0 (f2 tau n).fst.fst),(f2 tau n).fst.snd) (List.take (f6 tau n).fst.length (List.drop 0 (f6 tau n).fst),(f6 tau n).snd);letI zm':=(↑(f2 tau n).fst.fst.length:Int);letI zn':=f5 (List.take (f2 tau n).fst.fst.length (List.drop 0 (f2 tau n).fst.fst),(f2 tau n).fst.snd) (List.take zd'.fst.fst.length (List.drop 0 zd'.fst.fst),zd'.fst.snd);letI zo':=(0+(zc'.toNat-0)<=za'.length/\zc'.toNat-0<1125899906842624/\0=0/\1=1)/\littleB (List.take (zc'.toNat-0) zj');letI zp':=(0+za'.length<=za'.length/\za'.length<1125899906842624/\0=0/\1=1)/\littleB (List.take za'.length zj');letI zq':=0+za'.length+1;letI zr':=0+za'.length;letI zs':=0+za'.length<=za'.length/\0+za'.length<=9223372036854775807/\zr'*1<=140737488355328;letI zt':=(frEq (tau) ({ l0:=UInt64.ofNat 0,l1:=UInt64.ofNat 0,l2:=UInt64.ofNat 0,l3:=UInt64.ofNat 0 }));letI zu':=List.take za'.length zj'==List.take ze'.length (List.drop 0 ze');letI zv':=(f2 tau n).snd==1;letI zw':=(↑za'.length:Int);letI zx':=(f4 (List.take (zc'.toNat-0) zj')).snd==2;letI zy':=0+za'.length<=za'.length;letI zz':=0+ze'.length<=ze'.length;letI z0':=(f2 tau n).snd==7;letI z1':=(f2 tau n).snd != 0;letI z2':=(f2 tau n).snd==0;
 (.br (!(f0)) (.leaf (some ((false,.t)))) (.br (!(f1 tau)) (.leaf (some ((true,.t)))) (.br (decide (n > 6)) (.br (decide (n<=80)) (.leaf (some ((true,.t)))) (.br (decide (n<2)) (.br zv' (.vc zf' (.leaf (some ((zm'==0,.t))))) (.leaf (some ((false,.t))))) (.br (decide (n > 80)) (.br zv' (.vc zf' (.leaf (some ((zm'==0,.t))))) (.leaf (some ((false,.t))))) (.br zt' (.br z0' (.vc zf' (.leaf (some ((zm'==0,.t))))) (.leaf (some ((false,.t))))) (.vc zb' (.br z1' (.leaf (some ((false,.t)))) (.vc zk' (.br (zw'==0) (.leaf (some ((false,.t)))) (.vc zp' (.vc zk' (.vc (zw' ≠ 0) (.vc zh' (.vc zo' (.vc zs' (.vc (0+zr'<=([]++List.take za'.length zj').length/\0+za'.length+1<=9223372036854775807/\zq'*1<=140737488355328) (.vc ((0+zq'<=(List.take zr' (List.drop 0 ([]++List.take za'.length zj')) ++ [more]).length/\0+za'.length+1<1125899906842624/\0=0/\1=1)/\littleB (List.take zq' (List.drop 0 (List.take zr' (List.drop 0 ([]++List.take za'.length zj')) ++ [more])))) (.br z2' (.vc (fewI n) (.vc zg' (.br zl' (.vc zy' (.vc zb' (.vc zz' (.br zu' (.br (zd'.snd==0) (.vc zi' (.br zn' (.br zx' (.leaf (some (((f4 (List.take zq' (List.drop 0 (List.take zr' (List.drop 0 ([]++List.take za'.length zj')) ++ [more])))).snd==8,.t)))) (.leaf (some ((false,.t))))) (.leaf (some ((false,.t)))))) (.leaf (some ((false,.t))))) (.leaf (some ((false,.t)))))))) (.leaf (some ((false,.t))))))) (.leaf (some ((false,.t))))))))))))))))))))) (.br (decide (n<2)) (.br zv' (.vc zf' (.leaf (some ((zm'==0,.t))))) (.leaf (some ((false,.t))))) (.br (decide (n > 80)) (.br zv' (.vc zf' (.leaf (some ((zm'==0,.t))))) (.leaf (some ((false,.t))))) (.br zt' (.br z0' (.vc zf' (.leaf (some ((zm'==0,.t))))) (.leaf (some ((false,.t))))) (.vc zb' (.br z1' (.leaf (some ((false,.t)))) (.vc zk' (.br (zw'==0) (.leaf (some ((false,.t)))) (.vc zp' (.vc zk' (.vc (zw' ≠ 0) (.vc zh' (.vc zo' (.vc zs' (.vc (0+zr'<=([]++List.take za'.length zj').length/\0+za'.length+1<=9223372036854775807/\zq'*1<=140737488355328) (.vc ((0+zq'<=(List.take zr' (List.drop 0 ([]++List.take za'.length zj')) ++ [more]).length/\0+za'.length+1<1125899906842624/\0=0/\1=1)/\littleB (List.take zq' (List.drop 0 (List.take zr' (List.drop 0 ([]++List.take za'.length zj')) ++ [more])))) (.br z2' (.vc (fewI n) (.vc zg' (.br zl' (.vc zy' (.vc zb' (.vc zz' (.br zu' (.br (zd'.snd==0) (.vc zi' (.br zn' (.br zx' (.leaf (some (((f4 (List.take zq' (List.drop 0 (List.take zr' (List.drop 0 ([]++List.take za'.length zj')) ++ [more])))).snd==8,.t)))) (.leaf (some ((false,.t))))) (.leaf (some ((false,.t)))))) (.leaf (some ((false,.t))))) (.leaf (some ((false,.t)))))))) (.leaf (some ((false,.t))))))) (.leaf (some ((false,.t)))))))))))))))))))))))
theorem srsMakes_run (f0:Bool) (f1:Fr->Bool) (f2:Fr->Int->(List Pg1 × Pg2) × Int) (f3:List Pg1 × Pg2->List UInt8) (f4:List UInt8->(List Pg1 × Pg2) × Int) (f5:List Pg1 × Pg2->List Pg1 × Pg2->Bool) (f6:Fr->Int->List Pg1 × Pg2) (f7:List Pg1 × Pg2->List UInt8) (tau:Fr) (n:Int) (more:UInt8) (cut:UInt16):endT (Ens [(7,K0  kBool.rs.out.res f0),(8,Krb f1),(9,K2 (kRow Fr).arg kInt.arg oMk.res f2),(20,K1 aPow rB f3),(18,K1 aBs oMk.res f4),(10,K2 aPow aPow kBool.rs.res f5),(21,K2 (kRow Fr).arg (kInt.arg.such fewI) oPow.res f6),(19,K1 aPow rB f7)] [9,20,18,21,19]) kBool.rs.out 300 Tryz.f5 (flat (codeOf Tryz.f5)) (startSt Tryz.f5 [.one ((kRow Fr).av tau),.one (kInt.av n),.one (kU8.av more),.one (kU16.av cut)] [])=srsMakes_T f0 f1 f2 f3 f4 f5 f6 f7 tau n more cut:=by kernel_rfl
def srsMakes (tau:Fr) (n:Int) (more:UInt8) (cut:UInt16):Bool:=(srsMakes_T begun17 mayRF makeF putS takeS sameF powsF bytS tau n more cut).outD false
theorem srsMakes_gives' (tau:Fr) (n:Int) (more:UInt8) (cut:UInt16) (h:(srsMakes_T begun17 mayRF makeF putS takeS sameF powsF bytS tau n more cut).full=true/\(srsMakes_T begun17 mayRF makeF putS takeS sameF powsF bytS tau n more cut).okAll) (w:World):Gives Tryz.prog 5 ((KdL.cons (kRow Fr) (KdL.cons kInt (KdL.cons kU8 (KdL.cons kU16 KdL.nil)))).vals (tau,n,more,cut,())).toArray w kBool.rs.out.res (srsMakes tau n more cut) :=
 ends_gives3 (E:=Ens [(7,K0  kBool.rs.out.res begun17),(8,Krb mayRF),(9,K2 (kRow Fr).arg kInt.arg oMk.res makeF),(20,K1 aPow rB putS),(18,K1 aBs oMk.res takeS),(10,K2 aPow aPow kBool.rs.res sameF),(21,K2 (kRow Fr).arg (kInt.arg.such fewI) oPow.res powsF),(19,K1 aPow rB bytS)] [9,20,18,21,19]) Tryz.func5 (c:=codeOf Tryz.f5) (by kernel_rfl) (KdL.cons (kRow Fr) (KdL.cons kInt (KdL.cons kU8 (KdL.cons kU16 KdL.nil)))) (tau,n,more,cut,()) kBool.rs.out w
  (DoesL.outs (Ens_ok (.cons begun17_ok (.cons mayR_ok (.cons makeF_ok (.cons putS_ok (.cons takeS_ok (.cons sameF_ok (.cons powsF_ok (.cons bytS_ok .nil))))))))) 300 false (srsMakes_run begun17 mayRF makeF putS takeS sameF powsF bytS tau n more cut) h.1 h.2)
end
section
def coreG {X P:Type} (xo:X × Int) (sF:X->X × Bool) (cub:X->X) (isz:X->Bool) (fin:Bool->X->X->P) (inF:P->Bool) (z:P) (high:Bool):P × Int :=
 cond (xo.2 != 0) (z,xo.2) (cond (!(sF (cub xo.1)).2) (z,5) (cond (high && isz (sF (cub xo.1)).1) (z,3) (cond (!inF (fin high xo.1 (sF (cub xo.1)).1)) (z,6) (fin high xo.1 (sF (cub xo.1)).1,0))))
def takeV {P:Type} (r:List UInt8 × Bool × Bool × Int) (z i:P) (c:P × Int):P × Int:=cond (r.2.2.2 != 0) (z,r.2.2.2) (cond r.2.1 (i,0) c)
def twoG (f1:List UInt8->Fp × Int) (l:List UInt8):Fp2 × Int:=cond ((f1 (List.take 48 l)).2 != 0) (zeroFp2,(f1 (List.take 48 l)).2) (cond ((f1 (List.drop 48 l)).2 != 0) (zeroFp2,(f1 (List.drop 48 l)).2) (⟨(f1 (List.drop 48 l)).1,(f1 (List.take 48 l)).1⟩,0))
theorem take1_val (f0:List UInt8->Int->List UInt8 × Bool × Bool × Int) (f1:List UInt8->Fp × Int) (f2:Fp->Fp × Bool) (f3 f4:Fp->Fp->Fp) (f5:UInt64->Fp) (f6:Pg1->Pg1) (f7:Pg1->Bool) (b:List UInt8) :
  (take1F_T f0 f1 f2 f3 f4 f5 f6 f7 b).outD (pg10,0)=takeV (f0 b 48) pg10 infG1 (coreG (f1 (f0 b 48).1) f2 (fun x=>f3 (f4 (f4 x x) x) (f5 4)) (fun y=>fpEq y zeroFp) (fun h x y=>cond h (f6 ⟨x,y,false⟩) ⟨x,y,false⟩) f7 pg10 (f0 b 48).2.2.1):=by
 unfold take1F_T takeV coreG
 simp only [outD_br,outD_vc,outD_leaf,whole8]
 generalize f0 b 48=r
 obtain ⟨l,i,h,e⟩:=r
 generalize f1 l=x
 obtain ⟨x,o⟩:=x
 have e4:f5 (UInt64.ofNat 4)=f5 4:=rfl
 rw [e4]
 generalize f2 (f3 (f4 (f4 x x) x) (f5 4))=s
 obtain ⟨y,is⟩:=s
 cases h <;> cases is <;> first
  | rfl
  | (cases hz:fpEq y zeroFp <;> rfl)
theorem dropTail (l:List UInt8):List.take (l.length-48) (List.drop 48 l)=List.drop 48 l:=List.take_of_length_le (by rw [List.length_drop];exact Nat.le_refl _)
theorem take2_val (f0:List UInt8->Int->List UInt8 × Bool × Bool × Int) (f1:List UInt8->Fp × Int) (f2:Fp2->Fp2 × Bool) (f3 f4:Fp2->Fp2->Fp2) (f6:Pg2->Pg2) (f7:Pg2->Bool) (b:List UInt8) :
  (take2F_T f0 f1 f2 f3 f4 f6 f7 b).outD (pg20,0)=takeV (f0 b 96) pg20 infG2 (coreG (twoG f1 (f0 b 96).1) f2 (fun x=>f3 (f4 (f4 x x) x) bFp2) (fun y=>fp2Eq y zeroFp2) (fun h x y=>cond h (f6 ⟨x,y,false⟩) ⟨x,y,false⟩) f7 pg20 (f0 b 96).2.2.1):=by
 unfold take2F_T takeV coreG twoG
 simp only [outD_br,outD_vc,outD_leaf,dropTail,List.drop_zero,List.take_length]
 generalize f0 b 96=r
 obtain ⟨l,i,h,e⟩:=r
 simp only
 generalize f1 (List.take 48 l)=x
 obtain ⟨x,o⟩:=x
 generalize f1 (List.drop 48 l)=z
 obtain ⟨z,o2⟩:=z
 simp only
 cases hx:(o != 0) with
 | true=>simp only [cond_true,hx];rfl
 | false =>
  cases hz:(o2 != 0) with
  | true=>simp only [cond_true,cond_false,hz];rfl
  | false =>
   simp only [cond_false]
   have e4:({ c0 := { l0:=UInt64.ofNat 4,l1:=UInt64.ofNat 0,l2:=UInt64.ofNat 0,l3:=UInt64.ofNat 0,l4:=UInt64.ofNat 0,l5:=UInt64.ofNat 0 },c1 := { l0:=UInt64.ofNat 4,l1:=UInt64.ofNat 0,l2:=UInt64.ofNat 0,l3:=UInt64.ofNat 0,l4:=UInt64.ofNat 0,l5:=UInt64.ofNat 0 } }:Fp2)=bFp2:=rfl
   rw [e4]
   generalize f2 (f3 (f4 (f4 ⟨z,x⟩ ⟨z,x⟩) ⟨z,x⟩) bFp2)=s
   obtain ⟨y,is⟩:=s
   cases h <;> cases is <;> first
    | rfl
    | (cases hz:fp2Eq y zeroFp2 <;> rfl)
end
section
theorem u8_all {p:UInt8->Bool} (h:(List.range 256).all (fun n=>p (UInt8.ofNat n))=true) (b:UInt8):p b=true:=by
 have:=List.all_eq_true.1 h b.toNat (List.mem_range.2 b.toNat_lt)
 rwa [UInt8.ofNat_toNat] at this
abbrev cub1 (x:Fp):Fp:=addF (mulF (mulF x x) x) (ofF 4)
abbrev cub2 (x:Fp2):Fp2:=addF2 (mulF2 (mulF2 x x) x) bFp2
theorem of4:ofF 4=bFp1:=(fpEq_iff _ _).1 (by decide +kernel)
theorem cub1_v {x:Fp} (hx:x.ok):(cub1 x).ok/\(cub1 x).v=x.v*x.v*x.v+Crv.b:=by
 have h1:(mulF x x).ok:=mul_ok' hx
 have h2:(mulF (mulF x x) x).ok:=mul_ok' h1
 have hb:=bFp1_v
 unfold cub1
 rw [of4]
 exact ⟨add_ok' h2 hb.1,by rw [v_add h2 hb.1,v_mul h1 hx,v_mul hx hx,hb.2]⟩
theorem cub2_v {x:Fp2} (hx:x.ok):(cub2 x).ok/\(cub2 x).v=x.v*x.v*x.v+Crv.b:=by
 have h1:(mulF2 x x).ok:=mul_ok2 hx hx
 have h2:(mulF2 (mulF2 x x) x).ok:=mul_ok2 h1 hx
 have hb:=bFp2_v
 unfold cub2
 exact ⟨add_ok2 h2 hb.1,by rw [v_add2 h2 hb.1,v_mul2 h1 hx,v_mul2 hx hx,hb.2]⟩
abbrev fin1 (h:Bool) (x y:Fp):Pg1:=cond h (negG1 ⟨x,y,false⟩) ⟨x,y,false⟩
abbrev fin2 (h:Bool) (x y:Fp2):Pg2:=cond h (negG2 ⟨x,y,false⟩) ⟨x,y,false⟩
abbrev core1 (l:List UInt8) (h:Bool):Pg1 × Int:=coreG (ftakeF l) sqrtF cub1 (fun y=>fpEq y zeroFp) fin1 inG1 pg10 h
abbrev core2 (l:List UInt8) (h:Bool):Pg2 × Int:=coreG (twoG ftakeF l) sqrtF2 cub2 (fun y=>fp2Eq y zeroFp2) fin2 inG2 pg20 h
theorem take1F_val (b:List UInt8):take1F b=takeV (bareF b 48) pg10 infG1 (core1 (bareF b 48).1 (bareF b 48).2.2.1):=take1_val bareF ftakeF sqrtF addF mulF ofF negG1 inG1 b
theorem take2F_val (b:List UInt8):take2F b=takeV (bareF b 96) pg20 infG2 (core2 (bareF b 96).1 (bareF b 96).2.2.1):=take2_val bareF ftakeF sqrtF2 addF2 mulF2 negG2 inG2 b
end
section
theorem getD_hd (l:List UInt8) (h:0<l.length) (v:UInt8):(l.set 0 v).getD 0 0=v:=by
 cases l with
 | nil=>cases h
 | cons a l=>rfl
theorem set_hd (l:List UInt8):l.set 0 (l.getD 0 0)=l:=by
 cases l with
 | nil=>rfl
 | cons a l=>rfl
theorem set_set_hd (l:List UInt8) (v w:UInt8):(l.set 0 v).set 0 w=l.set 0 w:=by
 cases l with
 | nil=>rfl
 | cons a l=>rfl
theorem getD_hdB (l:List UInt8) (h:0<l.length) (t:UInt8):(hdB l t).getD 0 0=l.getD 0 0+t:=getD_hd l h _
theorem hd_hd (l:List UInt8) (h:0<l.length):hdB (hdB l 32) 128=hdB l 160:=by
 unfold hdB
 rw [getD_hd l h,set_set_hd,UInt8.add_assoc]
 rfl
abbrev hiB (g:Bool):UInt8:=cond g 160 128
theorem b_or (c:UInt8):(!decide (c<32) || (c ||| 128==c+128 && (c ||| 128 ||| 32==c+160)))=true:=u8_all (p:=fun c => !decide (c<32) || (c ||| 128==c+128 && (c ||| 128 ||| 32==c+160))) (by decide +kernel) c
theorem b_hi (c:UInt8):(!decide (c<32) || (((c+128) &&& UInt8.ofNat 128==UInt8.ofNat 0)==false && ((c+160) &&& UInt8.ofNat 128==UInt8.ofNat 0)==false && ((c+128) &&& UInt8.ofNat 64 != UInt8.ofNat 0)==false && ((c+160) &&& UInt8.ofNat 64 != UInt8.ofNat 0)==false && ((c+128) &&& UInt8.ofNat 32 != UInt8.ofNat 0)==false && ((c+160) &&& UInt8.ofNat 32 != UInt8.ofNat 0)==true && (c+128) &&& ~~~(UInt8.ofNat 224)==c && (c+160) &&& ~~~(UInt8.ofNat 224)==c))=true:=u8_all (p:=fun c => !decide (c<32) || (((c+128) &&& UInt8.ofNat 128==UInt8.ofNat 0)==false && ((c+160) &&& UInt8.ofNat 128==UInt8.ofNat 0)==false && ((c+128) &&& UInt8.ofNat 64 != UInt8.ofNat 0)==false && ((c+160) &&& UInt8.ofNat 64 != UInt8.ofNat 0)==false && ((c+128) &&& UInt8.ofNat 32 != UInt8.ofNat 0)==false && ((c+160) &&& UInt8.ofNat 32 != UInt8.ofNat 0)==true && (c+128) &&& ~~~(UInt8.ofNat 224)==c && (c+160) &&& ~~~(UInt8.ofNat 224)==c)) (by decide +kernel) c
theorem rput_gen2 {l:List UInt8} {g h:Bool} (e:g=h) (h0:0<l.length):cond false inf2B (cond g (hdB (hdB l 32) 128) (hdB l 128))=hdB l (hiB h):=by
 subst e
 rw [hd_hd _ h0]
 cases g <;> rfl
theorem rput_gen1 {l:List UInt8} {g h:Bool} (e:g=h) (h0:0<l.length):cond false inf1B (cond g (hdB (hdB l 32) 128) (hdB l 128))=hdB l (hiB h):=by
 subst e
 rw [hd_hd _ h0]
 cases g <;> rfl
theorem mark_hd {l:List UInt8} (h0:0<l.length) (hc:l.getD 0 0<32) (g:Bool):markF l (false,g,())=hdB l (hiB g):=by
 have h:=b_or (l.getD 0 0)
 rw [decide_eq_true hc,Bool.not_true,Bool.false_or,Bool.and_eq_true] at h
 have h1:=eq_of_beq h.1
 have h2:=eq_of_beq h.2
 cases g with
 | false =>
  show l.set 0 (l.getD 0 0 ||| 128)=_
  rw [h1]
  rfl
 | true =>
  show (l.set 0 (l.getD 0 0 ||| 128)).set 0 ((l.set 0 (l.getD 0 0 ||| 128)).getD 0 0 ||| 32)=_
  rw [getD_hd l h0,set_set_hd,h2]
  rfl
theorem bare_hd {l:List UInt8} {n:Int} (hl:(l.length:Int)=n) (h0:0<l.length) (hc:l.getD 0 0<32) (g:Bool):bareF (hdB l (hiB g)) n=(l,false,g,0):=by
 have h:=b_hi (l.getD 0 0)
 rw [decide_eq_true hc,Bool.not_true,Bool.false_or] at h
 simp only [Bool.and_eq_true] at h
 obtain ⟨⟨⟨⟨⟨⟨⟨a1,a2⟩,a3⟩,a4⟩,a5⟩,a6⟩,a7⟩,a8⟩:=h
 have e1:bit7 (hdB l (hiB g))=false:=by
  unfold bit7
  rw [getD_hdB l h0]
  cases g
  ·exact eq_of_beq a1
  ·exact eq_of_beq a2
 have e2:bit6 (hdB l (hiB g))=false:=by
  unfold bit6
  rw [getD_hdB l h0]
  cases g
  ·exact eq_of_beq a3
  ·exact eq_of_beq a4
 have e3:bit5 (hdB l (hiB g))=g:=by
  unfold bit5
  rw [getD_hdB l h0]
  cases g
  ·exact eq_of_beq a5
  ·exact eq_of_beq a6
 have e4:bareL (hdB l (hiB g))=l:=by
  unfold bareL
  rw [getD_hdB l h0]
  unfold hdB
  rw [set_set_hd]
  cases g
  ·exact (congrArg (l.set 0) (eq_of_beq a7)).trans (set_hd l)
  ·exact (congrArg (l.set 0) (eq_of_beq a8)).trans (set_hd l)
 unfold bareF
 rw [e1,e2,e3,e4,hdB_len,decide_eq_false (show ¬ (l.length:Int)<n by omega),decide_eq_false (show ¬ (l.length:Int) > n by omega)]
 rfl
theorem pN_top:pN<32*256 ^ 47:=by decide +kernel
theorem top_low {x:Fp} (hx:x.ok):(fputF x).getD 0 0<32:=by
 have hl:(cutF x.list).length<=6:=Nat.le_trans (cutF_len x.list) (Nat.le_of_eq (fp_short x))
 have hv:bsum (cutF x.list) 48=x.nat:=by rw [show (48:Nat)=8*6 from rfl,bsum_val,valAt_out _ hl,valL_cut,valL_list]
 have hh:(fputF x).getD 0 0=byteAt (cutF x.list) 47:=by
  rw [fput_full]
  exact bAt_full (cutF x.list) (n:=48) (t:=0) (by decide)
 have hs:bsum (cutF x.list) 48=bsum (cutF x.list) 47+(byteAt (cutF x.list) 47).toNat*256 ^ 47:=rfl
 rw [hh]
 show (byteAt (cutF x.list) 47).toNat<32
 have hx:x.nat<pN:=hx
 have hp:=pN_top
 generalize (256:Nat) ^ 47=q at *
 generalize (byteAt (cutF x.list) 47).toNat=c at *
 rcases Nat.lt_or_ge c 32 with h | h
 ·exact h
 ·have:=Nat.mul_le_mul_right q h
  omega
theorem fput_pos (x:Fp):0<(fputF x).length:=by rw [fput_len'];decide
theorem two_top {x:Fp2} (hx:x.ok):(fputF x.c1++fputF x.c0).getD 0 0<32:=by
 have h:=top_low hx.2
 have h0:=fput_pos x.c1
 generalize fputF x.c1=l at *
 cases l with
 | nil=>cases h0
 | cons a l=>exact h
theorem two_len (x:Fp2):(fputF x.c1++fputF x.c0).length=96:=by rw [List.length_append,fput_len',fput_len']
theorem two_pos (x:Fp2):0<(fputF x.c1++fputF x.c0).length:=by rw [two_len];decide
theorem twoG_put {x:Fp2} (hx:x.ok):twoG ftakeF (fputF x.c1++fputF x.c0)=(x,0):=by
 unfold twoG
 rw [List.take_left' (fput_len' x.c1),List.drop_left' (fput_len' x.c1),take_put hx.1,take_put hx.2]
 rfl
abbrev put1B (x:Fp):List UInt8:=fputF x
abbrev put2B (x:Fp2):List UInt8:=fputF x.c1++fputF x.c0
theorem put1B_ok {x:Fp} (hx:x.ok):((put1B x).length:Int)=48/\0<(put1B x).length/\(put1B x).getD 0 0<32/\ftakeF (put1B x)=(x,0):=⟨by rw [show (put1B x).length=48 from fput_len' x];rfl,fput_pos x,top_low hx,take_put hx⟩
theorem put2B_ok {x:Fp2} (hx:x.ok):((put2B x).length:Int)=96/\0<(put2B x).length/\(put2B x).getD 0 0<32/\twoG ftakeF (put2B x)=(x,0):=⟨by rw [show (put2B x).length=96 from two_len x];rfl,two_pos x,two_top hx,twoG_put hx⟩
theorem great1_eq (a:Fp):greatPF a=greatF a:=greatPF_eq a
theorem great2_eq (a:Fp2):great2R a=greatF2 a:=great2R_eq a
theorem fr1 {a:Fp} (ha:a.ok) (h:a.v ≠ 0):greatF (negF a) = !greatF a:=great_neg ha h
theorem fr2 {a:Fp2} (ha:a.ok) (h:a.v ≠ 0):greatF2 (negF2 a) = !greatF2 a:=by rw [greatF2_eq,greatF2_eq];exact great_neg2 ha h
theorem isz1 {a:Fp} (ha:a.ok) (h:a.v ≠ 0):fpEq a zeroFp=false:=(fpEq_nonzero ha).2 h
theorem isz2 {a:Fp2} (ha:a.ok) (h:a.v ≠ 0):fp2Eq a zeroFp2=false:=by
 cases h2:fp2Eq a zeroFp2 with
 | false=>rfl
 | true=>exact absurd ((v_eq_zero2 ha).2 ((fp2Eq_iff _ _).1 h2)) h
theorem rt1 {a:Fp} (ha:a.ok) (h : ∃ y:V1,y*y=a.v):(sqrtF a).2=true/\(sqrtF a).1.ok/\(sqrtF a).1.v*(sqrtF a).1.v=a.v/\greatF (sqrtF a).1=false:=(sqrt_law ha).1 h
theorem rt2 {a:Fp2} (ha:a.ok) (h : ∃ y:V2,y*y=a.v):(sqrtF2 a).2=true/\(sqrtF2 a).1.ok/\(sqrtF2 a).1.v*(sqrtF2 a).1.v=a.v/\greatF2 (sqrtF2 a).1=false:=by
 rcases sqrt_root2 ha with ⟨_,h0,h1,h2,h3⟩ | ⟨h1,_⟩
 ·exact ⟨h0,h1,h2,by rw [greatF2_eq];exact h3⟩
 ·exact absurd h h1
theorem ng1 {a:Fp} (ha:a.ok):(negF a).ok/\(negF a).v = -a.v:=⟨neg_ok' ha,v_neg ha⟩
theorem ng2 {a:Fp2} (ha:a.ok):(negF2 a).ok/\(negF2 a).v = -a.v:=⟨neg_ok2 ha,v_neg2 ha⟩
theorem inj1 {a b:Fp} (ha:a.ok) (hb:b.ok) (h:a.v=b.v):a=b:=Fp.v_inj ha hb h
theorem inj2 {a b:Fp2} (ha:a.ok) (hb:b.ok) (h:a.v=b.v):a=b:=Fp2.v_inj ha hb h
theorem sq_eq {K:Type} [Fld K] {a b:K} (h:a*a=b*b):a=b \/ a = -b:=by
 by_cases h1:a=b
 ·exact .inl h1
 ·right
  have h2:(a-b)*(a+b)=0:=by grind
  have h3:a-b ≠ 0:=fun e=>h1 (by grind)
  have h4:=mul_eq_zero' h2
  rcases h4 with h4 | h4
  ·exact absurd h4 h3
  ·grind
theorem takeV_inf {P:Type} (l:List UInt8) (g:Bool) (z i:P) (c:P × Int):takeV (l,true,g,0) z i c=(i,0):=rfl
theorem takeV_go {P:Type} (l:List UInt8) (g:Bool) (z i:P) (c:P × Int):takeV (l,false,g,0) z i c=c:=rfl
theorem ff_beq:(false==false)=true:=rfl
theorem ft_beq:(false==true)=false:=rfl
theorem tf_beq:(true==false)=false:=rfl
theorem tt_beq:(true==true)=true:=rfl
theorem pair_eq {X:Type} {s:X × Bool} {y:X} (h1:s.1=y) (h2:s.2=true):s=(y,true):=by
 obtain ⟨a,b⟩:=s
 obtain rfl:a=y:=h1
 obtain rfl:b=true:=h2
 rfl
theorem coreG_at {X P:Type} {xo:X × Int} {sF:X->X × Bool} {cub:X->X} {isz:X->Bool} {fin:Bool->X->X->P} {inF:P->Bool} {z:P} {high:Bool} {x s:X} {p:P} (hx:xo=(x,0)) (hs:sF (cub x)=(s,true)) (hz:isz s=false) (hf:fin high x s=p) (hin:inF p=true):coreG xo sF cub isz fin inF z high=(p,0):=by
 subst hx
 unfold coreG
 simp only
 rw [hs]
 simp only
 rw [hz,hf,hin,Bool.and_false]
 rfl
theorem neg_aff1 (x y:Fp):negG1 ⟨x,y,false⟩=⟨x,negF y,false⟩:=by
 unfold negG1
 exact negG1_aff rfl
theorem neg_aff2 (x y:Fp2):negG2 ⟨x,y,false⟩=⟨x,negF2 y,false⟩:=by
 unfold negG2
 exact negG2_aff rfl
theorem y_ne1 {x y:Fp} (h:(⟨x,y,false⟩:Pg1).good):y.v ≠ 0:=fun e=>by
 have h1:y.v*y.v=x.v*x.v*x.v+Crv.b:=h.2
 rw [e] at h1
 exact Crv.no x.v (by rw [<- h1];exact CR.zero_mul _)
theorem oks1 {x y:Fp} (h:(⟨x,y,false⟩:Pg1).good):x.ok/\y.ok:=by
 rcases h.1 with e | e
 ·cases e
 ·exact e.2
theorem negneg1 {y:Fp} (hy:y.ok):negF (negF y)=y:=by
 have h1:=ng1 hy
 have h2:=ng1 h1.1
 exact inj1 h2.1 hy (by rw [h2.2,h1.2];grind)
theorem root_of1 {x y:Fp} (h:(⟨x,y,false⟩:Pg1).good):(sqrtF (cub1 x)).2=true/\(sqrtF (cub1 x)).1=cond (greatF y) (negF y) y:=by
 obtain ⟨hx,hy⟩:=oks1 h
 have h0:=y_ne1 h
 have h1:y.v*y.v=x.v*x.v*x.v+Crv.b:=h.2
 obtain ⟨c1,c2⟩:=cub1_v hx
 obtain ⟨r1,r2,r3,r4⟩:=rt1 c1 ⟨y.v,by rw [h1,c2]⟩
 refine ⟨r1,?_⟩
 rw [c2,<- h1] at r3
 have hn:=ng1 hy
 rcases sq_eq r3 with e | e
 ·have e:=inj1 r2 hy e
  rw [e] at r4
  rw [r4,e,cond_false]
 ·have e:=inj1 r2 hn.1 (by rw [e,hn.2])
  rw [e,fr1 hy h0] at r4
  have r4:greatF y=true:=by
   cases hg:greatF y with
   | true=>rfl
   | false=>rw [hg] at r4;cases r4
  rw [r4,e,cond_true]
theorem finAt1 (g h:Bool) (x:Fp) {y:Fp} (hy:y.ok):fin1 g x (cond h (negF y) y)=cond (g==h) ⟨x,y,false⟩ ⟨x,negF y,false⟩:=by
 unfold fin1
 cases g <;> cases h
 ·rw [ff_beq,cond_true,cond_false,cond_false]
 ·rw [ft_beq,cond_true,cond_false,cond_false]
 ·rw [tf_beq,cond_false,cond_false,cond_true,neg_aff1]
 ·rw [tt_beq,cond_true,cond_true,cond_true,neg_aff1,negneg1 hy]
theorem in_of1 {p:Pg1} (h:p.good) (hi:p.pt.mul qN = .inf):inG1 p=true:=(in1_iff _).2 ⟨h,hi⟩
theorem neg_sub1 {p:Pg1} (h:p.good) (hi:p.pt.mul qN = .inf):(negG1 p).good/\(negG1 p).pt.mul qN = .inf:=by
 obtain ⟨n1,n2⟩:=neg1_pt h
 exact ⟨n1,by rw [n2,neg_mul_pt h.2,hi];rfl⟩
theorem in_cond1 {x y:Fp} (h:(⟨x,y,false⟩:Pg1).good) (hi:(⟨x,y,false⟩:Pg1).pt.mul qN = .inf) (c:Bool):inG1 (cond c ⟨x,y,false⟩ ⟨x,negF y,false⟩)=true:=by
 cases c
 ·rw [cond_false,<- neg_aff1]
  obtain ⟨h1,h2⟩:=neg_sub1 h hi
  exact in_of1 h1 h2
 ·rw [cond_true]
  exact in_of1 h hi
theorem isz_cond1 {y:Fp} (hy:y.ok) (h0:y.v ≠ 0) (c:Bool):fpEq (cond c (negF y) y) zeroFp=false:=by
 have hn:=ng1 hy
 cases c
 ·rw [cond_false]
  exact isz1 hy h0
 ·rw [cond_true]
  exact isz1 hn.1 fun e=>h0 (by rw [hn.2] at e;grind)
theorem core_at1 {x y:Fp} (h:(⟨x,y,false⟩:Pg1).good) (hi:(⟨x,y,false⟩:Pg1).pt.mul qN = .inf) {l:List UInt8} (hl:ftakeF l=(x,0)) (g:Bool):core1 l g=(cond (g==greatF y) ⟨x,y,false⟩ ⟨x,negF y,false⟩,0):=by
 obtain ⟨r1,r2⟩:=root_of1 h
 exact coreG_at hl (pair_eq r2 r1) (isz_cond1 (oks1 h).2 (y_ne1 h) _) (finAt1 g _ x (oks1 h).2) (in_cond1 h hi _)
theorem put1_hd {x y:Fp} (hx:x.ok):put1F ⟨x,y,false⟩=hdB (put1B x) (hiB (greatF y)):=by
 obtain ⟨h1,h2,h3,h4⟩:=put1B_ok hx
 rw [put1F_val]
 exact mark_hd h2 h3 _
theorem rput1_hd (x y:Fp):rput1F ⟨x,y,false⟩=hdB (put1B x) (hiB (greatF y)):=by
 rw [rput1F_val]
 exact rput_gen1 (great1_eq y) (fput_pos x)
theorem put1_eq {p:Pg1} (hp:p.good):put1F p=rput1F p:=by
 cases hi:p.inf with
 | true=>rw [put1F_val,rput1F_val,hi];rfl
 | false =>
  obtain ⟨x,y,i⟩:=p
  obtain rfl:i=false:=hi
  rw [put1_hd (oks1 hp).1,rput1_hd]
theorem bare_inf1:bareF inf1B 48=(List.replicate 48 0,true,false,0):=by decide +kernel
theorem take_inf1:take1F inf1B=(infG1,0):=by
 rw [take1F_val,bare_inf1]
 exact takeV_inf _ _ _ _ _
theorem read1 {p:Pg1} (hp:p.good) (hi:p.pt.mul qN = .inf):take1F (put1F p)=(p,0):=by
 cases hj:p.inf with
 | true =>
  obtain rfl:=ok_inf1 hp.1 hj
  exact take_inf1
 | false =>
  obtain ⟨x,y,i⟩:=p
  obtain rfl:i=false:=hj
  have hx:=(oks1 hp).1
  obtain ⟨h1,h2,h3,h4⟩:=put1B_ok hx
  rw [put1_hd hx,take1F_val,bare_hd h1 h2 h3]
  refine (takeV_go _ _ _ _ _).trans ?_
  rw [core_at1 hp hi h4,beq_self_eq_true,cond_true]
theorem y_ne2 {x y:Fp2} (h:(⟨x,y,false⟩:Pg2).good):y.v ≠ 0:=fun e=>by
 have h1:y.v*y.v=x.v*x.v*x.v+Crv.b:=h.2
 rw [e] at h1
 exact Crv.no x.v (by rw [<- h1];exact CR.zero_mul _)
theorem oks2 {x y:Fp2} (h:(⟨x,y,false⟩:Pg2).good):x.ok/\y.ok:=by
 rcases h.1 with e | e
 ·cases e
 ·exact e.2
theorem negneg2 {y:Fp2} (hy:y.ok):negF2 (negF2 y)=y:=by
 have h1:=ng2 hy
 have h2:=ng2 h1.1
 exact inj2 h2.1 hy (by rw [h2.2,h1.2];grind)
theorem root_of2 {x y:Fp2} (h:(⟨x,y,false⟩:Pg2).good):(sqrtF2 (cub2 x)).2=true/\(sqrtF2 (cub2 x)).1=cond (greatF2 y) (negF2 y) y:=by
 obtain ⟨hx,hy⟩:=oks2 h
 have h0:=y_ne2 h
 have h1:y.v*y.v=x.v*x.v*x.v+Crv.b:=h.2
 obtain ⟨c1,c2⟩:=cub2_v hx
 obtain ⟨r1,r2,r3,r4⟩:=rt2 c1 ⟨y.v,by rw [h1,c2]⟩
 refine ⟨r1,?_⟩
 rw [c2,<- h1] at r3
 have hn:=ng2 hy
 rcases sq_eq r3 with e | e
 ·have e:=inj2 r2 hy e
  rw [e] at r4
  rw [r4,e,cond_false]
 ·have e:=inj2 r2 hn.1 (by rw [e,hn.2])
  rw [e,fr2 hy h0] at r4
  have r4:greatF2 y=true:=by
   cases hg:greatF2 y with
   | true=>rfl
   | false=>rw [hg] at r4;cases r4
  rw [r4,e,cond_true]
theorem finAt2 (g h:Bool) (x:Fp2) {y:Fp2} (hy:y.ok):fin2 g x (cond h (negF2 y) y)=cond (g==h) ⟨x,y,false⟩ ⟨x,negF2 y,false⟩:=by
 unfold fin2
 cases g <;> cases h
 ·rw [ff_beq,cond_true,cond_false,cond_false]
 ·rw [ft_beq,cond_true,cond_false,cond_false]
 ·rw [tf_beq,cond_false,cond_false,cond_true,neg_aff2]
 ·rw [tt_beq,cond_true,cond_true,cond_true,neg_aff2,negneg2 hy]
theorem in_of2 {p:Pg2} (h:p.good) (hi:p.pt.mul qN = .inf):inG2 p=true:=(in2_iff _).2 ⟨h,hi⟩
theorem neg_sub2 {p:Pg2} (h:p.good) (hi:p.pt.mul qN = .inf):(negG2 p).good/\(negG2 p).pt.mul qN = .inf:=by
 obtain ⟨n1,n2⟩:=neg2_pt h
 exact ⟨n1,by rw [n2,neg_mul_pt h.2,hi];rfl⟩
theorem in_cond2 {x y:Fp2} (h:(⟨x,y,false⟩:Pg2).good) (hi:(⟨x,y,false⟩:Pg2).pt.mul qN = .inf) (c:Bool):inG2 (cond c ⟨x,y,false⟩ ⟨x,negF2 y,false⟩)=true:=by
 cases c
 ·rw [cond_false,<- neg_aff2]
  obtain ⟨h1,h2⟩:=neg_sub2 h hi
  exact in_of2 h1 h2
 ·rw [cond_true]
  exact in_of2 h hi
theorem isz_cond2 {y:Fp2} (hy:y.ok) (h0:y.v ≠ 0) (c:Bool):fp2Eq (cond c (negF2 y) y) zeroFp2=false:=by
 have hn:=ng2 hy
 cases c
 ·rw [cond_false]
  exact isz2 hy h0
 ·rw [cond_true]
  exact isz2 hn.1 fun e=>h0 (by rw [hn.2] at e;grind)
theorem core_at2 {x y:Fp2} (h:(⟨x,y,false⟩:Pg2).good) (hi:(⟨x,y,false⟩:Pg2).pt.mul qN = .inf) {l:List UInt8} (hl:twoG ftakeF l=(x,0)) (g:Bool):core2 l g=(cond (g==greatF2 y) ⟨x,y,false⟩ ⟨x,negF2 y,false⟩,0):=by
 obtain ⟨r1,r2⟩:=root_of2 h
 exact coreG_at hl (pair_eq r2 r1) (isz_cond2 (oks2 h).2 (y_ne2 h) _) (finAt2 g _ x (oks2 h).2) (in_cond2 h hi _)
theorem put2_hd {x y:Fp2} (hx:x.ok):put2F ⟨x,y,false⟩=hdB (put2B x) (hiB (greatF2 y)):=by
 obtain ⟨h1,h2,h3,h4⟩:=put2B_ok hx
 rw [put2F_val]
 exact mark_hd h2 h3 _
theorem rput2_hd (x y:Fp2):rput2F ⟨x,y,false⟩=hdB (put2B x) (hiB (greatF2 y)):=by
 rw [rput2F_val]
 exact rput_gen2 (great2_eq y) (two_pos x)
theorem put2_eq {p:Pg2} (hp:p.good):put2F p=rput2F p:=by
 cases hi:p.inf with
 | true=>rw [put2F_val,rput2F_val,hi];rfl
 | false =>
  obtain ⟨x,y,i⟩:=p
  obtain rfl:i=false:=hi
  rw [put2_hd (oks2 hp).1,rput2_hd]
theorem bare_inf2:bareF inf2B 96=(List.replicate 96 0,true,false,0):=by decide +kernel
theorem take_inf2:take2F inf2B=(infG2,0):=by
 rw [take2F_val,bare_inf2]
 exact takeV_inf _ _ _ _ _
theorem read2 {p:Pg2} (hp:p.good) (hi:p.pt.mul qN = .inf):take2F (put2F p)=(p,0):=by
 cases hj:p.inf with
 | true =>
  obtain rfl:=ok_inf2 hp.1 hj
  exact take_inf2
 | false =>
  obtain ⟨x,y,i⟩:=p
  obtain rfl:i=false:=hj
  have hx:=(oks2 hp).1
  obtain ⟨h1,h2,h3,h4⟩:=put2B_ok hx
  rw [put2_hd hx,take2F_val,bare_hd h1 h2 h3]
  refine (takeV_go _ _ _ _ _).trans ?_
  rw [core_at2 hp hi h4,beq_self_eq_true,cond_true]
end
set_option maxRecDepth 100000
section
theorem putH_eq {p:List Pg1 × Pg2} (h:p.1.length<=80):putH p = [0,UInt8.ofNat p.1.length]:=by
 have e1:shrI IntKind.i64 (p.1.length:Int) 8=0:=by
  unfold shrI
  rw [show (2:Int) ^ (min (8:Int).toNat IntKind.i64.bits)=256 by decide]
  omega
 unfold putH
 rw [e1,show ((p.1.length:Int) % 256).toNat=p.1.length by omega]
 rfl
theorem bytH_eq {p:List Pg1 × Pg2} (h:p.1.length<=80):bytH p = [0,UInt8.ofNat p.1.length]:=by
 have e1:IntKind.i64.wrap ((p.1.length:Int).tdiv 256)=0:=by
  rw [Int.tdiv_eq_ediv_of_nonneg (by omega),show (p.1.length:Int) / 256=0 by omega]
  rfl
 unfold bytH
 rw [e1,show ((p.1.length:Int) % 256).toNat=p.1.length by omega]
 rfl
structure OkP (p : List Pg1 × Pg2) : Prop where
 g : ∀ x ∈ p.1,x.good/\x.pt.mul qN = .inf
 t:p.2.good/\p.2.pt.mul qN = .inf
theorem flat_congr {α:Type} {f g:α->List UInt8} : ∀ {l:List α},(∀ x ∈ l,f x=g x)->l.flatMap f=l.flatMap g
 | [],_=>rfl
 | x :: l,h=>by
  rw [List.flatMap_cons,List.flatMap_cons,h x (List.mem_cons_self ..),flat_congr fun y hy=>h y (List.mem_cons_of_mem _ hy)]
theorem bytS_eq {p:List Pg1 × Pg2} (hp:OkP p) (h:p.1.length<=80):bytS p=putS p:=by
 show bytH p++p.1.flatMap rput1F++rput2F p.2=putH p++p.1.flatMap put1F++put2F p.2
 rw [putH_eq h,bytH_eq h,put2_eq hp.t.1,flat_congr fun x hx=>(put1_eq (hp.g x hx).1).symm]
theorem putS_eq {p:List Pg1 × Pg2} (h:p.1.length<=80):putS p=0 :: UInt8.ofNat p.1.length :: (p.1.flatMap put1F++put2F p.2):=by
 show putH p++p.1.flatMap put1F++put2F p.2=_
 rw [putH_eq h,List.append_assoc]
 rfl
theorem putS_len {p:List Pg1 × Pg2} (h:p.1.length<=80):(putS p).length=2+p.1.length*48+96:=by
 rw [putS_eq h,List.length_cons,List.length_cons,List.length_append,flat_len put1F_len,put2F_len]
 omega
theorem tkL_put {b:List UInt8} {r:List UInt8} : ∀ (L:List Pg1) (off:Nat) (l:List Pg1),(∀ x ∈ L,x.good/\x.pt.mul qN = .inf)->List.drop off b=L.flatMap put1F++r->tkL take1F b off L.length l=(0,l++L)
 | [],off,l,_,_=>by rw [List.append_nil];rfl
 | x :: L,off,l,h,hb=>by
  obtain ⟨h1,h2⟩:=h x (List.mem_cons_self ..)
  rw [List.flatMap_cons,List.append_assoc] at hb
  have e:List.take 48 (List.drop off b)=put1F x:=by
   rw [hb,List.take_append_of_le_length (by rw [put1F_len];exact Nat.le_refl _),List.take_of_length_le (by rw [put1F_len];exact Nat.le_refl _)]
  have e2:List.drop (off+48) b=L.flatMap put1F++r:=by
   rw [<- List.drop_drop,hb,<- put1F_len x,List.drop_left]
  rw [List.length_cons,tkL_succ,e,read1 h1 h2]
  have ih:=tkL_put L (off+48) (l ++ [x]) (fun y hy=>h y (List.mem_cons_of_mem _ hy)) e2
  show tkL take1F b (off+48) L.length (l ++ [x])=_
  rw [ih,List.append_assoc]
  rfl
theorem tkN_cons (n:Nat) (h:n<=80) (r:List UInt8):tkN (0 :: UInt8.ofNat n :: r)=(n:Int):=by
 rw [tkN_nat]
 show (((0:UInt8).toNat*256+(UInt8.ofNat n).toNat:Nat):Int)=(n:Int)
 rw [UInt8.toNat_ofNat',Nat.mod_eq_of_lt (by omega)]
 simp
theorem tkA_nat {b:List UInt8} {n:Nat} (h:tkN b=(n:Int)) (hn:n<=80):tkA b=((2+n*48+96:Nat):Int):=by
 unfold tkA
 rw [h,IntWalk.i64_in ((n:Int)*48) (by omega),IntWalk.i64_in (2+(n:Int)*48) (by omega),IntWalk.i64_in _ (by omega)]
 omega
theorem tkG_all {t1:List UInt8->Pg1 × Int} {t2:List UInt8->Pg2 × Int} {cF:List Pg1 × Pg2->Int} {b:List UInt8} {n:Nat} (hN:tkN b=(n:Int)) (h2:2<=n) (h80:n<=80) (hl:b.length=2+n*48+96):tkG t1 t2 cF b=match (tkL t1 b 2 n []).1 != 0 with
  | true=>(([],pg20),(tkL t1 b 2 n []).1)
  | false=>tkT t2 cF (List.drop (2+n*48) b) (tkL t1 b 2 n []).2:=by
 have hA:=tkA_nat hN h80
 have a1:decide ((b.length:Int)<2)=false:=decide_eq_false (by omega)
 have a2:decide (tkN b<2)=false:=decide_eq_false (by omega)
 have a3:decide (tkN b > 80)=false:=decide_eq_false (by omega)
 have a4:decide ((b.length:Int)<tkA b)=false:=decide_eq_false (by omega)
 have a5:decide ((b.length:Int) > tkA b)=false:=decide_eq_false (by omega)
 have a6:(tkN b).toNat=n:=by omega
 unfold tkG
 rw [a1,a2,a3,a4,a5,a6]
 all_goals rfl
theorem takeS_put {p:List Pg1 × Pg2} (hp:OkP p) (h2:2<=p.1.length) (h80:p.1.length<=80):takeS (putS p)=match checkF p != 0 with
  | true=>(([],pg20),checkF p)
  | false=>(p,0):=by
 have hl:=putS_len h80
 have e:=putS_eq h80
 have hN:tkN (putS p)=(p.1.length:Int):=by rw [e];exact tkN_cons _ h80 _
 have hA:=tkA_nat hN h80
 have hd:List.drop 2 (putS p)=p.1.flatMap put1F++put2F p.2:=by rw [e];rfl
 have hL:=tkL_put p.1 2 [] hp.g hd
 have hd2:List.drop (2+p.1.length*48) (putS p)=put2F p.2:=by
  rw [<- List.drop_drop,hd]
  have:=flat_len put1F_len p.1
  rw [<- this,List.drop_left]
 have hT:=read2 hp.t.1 hp.t.2
 unfold takeS
 rw [tkG_all hN h2 h80 hl,hL,hd2]
 show tkT take2F checkF (put2F p.2) ([]++p.1)=_
 unfold tkT
 rw [hT]
 rfl
theorem takeS_long {p:List Pg1 × Pg2} (h2:2<=p.1.length) (h80:p.1.length<=80) (m:UInt8):(takeS (putS p ++ [m])).2=8:=by
 have hl:(putS p ++ [m]).length=2+p.1.length*48+97:=by rw [List.length_append,putS_len h80];rfl
 have hN:tkN (putS p ++ [m])=(p.1.length:Int):=by rw [putS_eq h80];exact tkN_cons _ h80 _
 have hA:=tkA_nat hN h80
 have a1:decide (((putS p ++ [m]).length:Int)<2)=false:=decide_eq_false (by omega)
 have a2:decide (tkN (putS p ++ [m])<2)=false:=decide_eq_false (by omega)
 have a3:decide (tkN (putS p ++ [m]) > 80)=false:=decide_eq_false (by omega)
 have a4:decide (((putS p ++ [m]).length:Int)<tkA (putS p ++ [m]))=false:=decide_eq_false (by omega)
 have a5:decide (((putS p ++ [m]).length:Int) > tkA (putS p ++ [m]))=true:=decide_eq_true (by omega)
 unfold takeS tkG
 rw [a1,a2,a3,a4,a5]
theorem take_shortS {p:List Pg1 × Pg2} (h2:2<=p.1.length) (h80:p.1.length<=80) {k:Nat} (hk:k<(putS p).length):(takeS (List.take k (putS p))).2=2:=by
 have hl:(List.take k (putS p)).length=k:=by rw [List.length_take];omega
 rw [putS_len h80] at hk
 by_cases h:k<2
 ·have a1:decide (((List.take k (putS p)).length:Int)<2)=true:=decide_eq_true (by omega)
  unfold takeS tkG
  rw [a1]
 ·have hN:tkN (List.take k (putS p))=(p.1.length:Int):=by
   rw [putS_eq h80]
   obtain ⟨m,rfl⟩ : ∃ m,k=m+2:=⟨k-2,by omega⟩
   exact tkN_cons _ h80 _
  have hA:=tkA_nat hN h80
  have a1:decide (((List.take k (putS p)).length:Int)<2)=false:=decide_eq_false (by omega)
  have a2:decide (tkN (List.take k (putS p))<2)=false:=decide_eq_false (by omega)
  have a3:decide (tkN (List.take k (putS p)) > 80)=false:=decide_eq_false (by omega)
  have a4:decide (((List.take k (putS p)).length:Int)<tkA (List.take k (putS p)))=true:=decide_eq_true (by omega)
  unfold takeS tkG
  rw [a1,a2,a3,a4]
end
set_option maxRecDepth 100000
section
def mkA (mk:(List Pg1 × Pg2) × Int) (c:Int):Bool:=mk.2==c && ((mk.1.1.length:Int)==0)
def cutI (put:List UInt8) (cut:UInt16):Int:=(IntKind.i64.wrap (cut.toNat:Int)).tmod (put.length:Int)
def mkM (S:List Pg1 × Pg2->List Pg1 × Pg2->Bool) (T:List UInt8->(List Pg1 × Pg2) × Int) (e:Int) (p q:List Pg1 × Pg2) (put byt:List UInt8) (more:UInt8) (cut:UInt16):Bool :=
 cond (e != 0) false (cond ((put.length:Int)==0) false (e==0 && (S p q && ((List.take put.length (List.drop 0 put)==List.take byt.length (List.drop 0 byt)) && ((T (List.take put.length (List.drop 0 put))).2==0 && (S p (List.take (T (List.take put.length (List.drop 0 put))).1.1.length (List.drop 0 (T (List.take put.length (List.drop 0 put))).1.1),(T (List.take put.length (List.drop 0 put))).1.2) &&
  ((T (List.take ((cutI put cut).toNat-0) (List.drop 0 put))).2==2 && (T (List.take (0+put.length+1) (List.drop 0 (List.take (0+put.length) (List.drop 0 ([]++List.take put.length (List.drop 0 put))) ++ [more])))).2==8)))))))
def rawP (p:List Pg1 × Pg2):List Pg1 × Pg2:=(List.take p.1.length (List.drop 0 p.1),p.2)
theorem rawP_eq (p:List Pg1 × Pg2):rawP p=p:=powEta p
def mkR (P:(List Pg1 × Pg2) × Int) (W:List Pg1 × Pg2->List UInt8) (T:List UInt8->(List Pg1 × Pg2) × Int) (S:List Pg1 × Pg2->List Pg1 × Pg2->Bool) (O:List Pg1 × Pg2) (Y:List Pg1 × Pg2->List UInt8) (tau:Fr) (n:Int) (more:UInt8) (cut:UInt16):Bool :=
 cond (decide (n<2)) (mkA P 1) (cond (decide (n > 80)) (mkA P 1) (cond (frEq tau frZ) (mkA P 7) (mkM S T P.2 (rawP P.1) (rawP O) (W (rawP P.1)) (Y (rawP P.1)) more cut)))
theorem srsMakes_G (b:Bool) (M:Fr->Bool) (P:Fr->Int->(List Pg1 × Pg2) × Int) (W:List Pg1 × Pg2->List UInt8) (T:List UInt8->(List Pg1 × Pg2) × Int) (S:List Pg1 × Pg2->List Pg1 × Pg2->Bool) (O:Fr->Int->List Pg1 × Pg2) (Y:List Pg1 × Pg2->List UInt8) (tau:Fr) (n:Int) (more:UInt8) (cut:UInt16):(srsMakes_T b M P W T S O Y tau n more cut).outD false =
  cond (!b) false (cond (!M tau) true (cond (decide (n > 6)) (cond (decide (n<=80)) true (mkR (P tau n) W T S (O tau n) Y tau n more cut)) (mkR (P tau n) W T S (O tau n) Y tau n more cut))):=by
 unfold srsMakes_T
 simp only [outD_br,outD_vc,outD_leaf,cond_and7]
 rfl
theorem okP_mkP {x:Fr} (hx:x.ok) (n:Nat):OkP (mkP x n):=by
 refine ⟨fun y hy => ?_,?_⟩
 ·obtain ⟨i,hi,rfl⟩:=mem_getD pg10 hy
  rw [mkP_len] at hi
  have h:At1 ((mkP x n).1.getD i pg10) (x.v ^ i):=by
   rw [mkP_eq hx]
   exact powsF_at hx n hi
  exact ⟨h.good,h.in1.sub⟩
 ·have h:=at2_mulp hx
  rw [mkP_snd]
  exact ⟨h.good,h.in2.sub⟩
theorem makeF_few {x:Fr} {n:Int} (h:n<2):makeF x n=(([],pg20),1):=by
 unfold makeF mkG
 rw [decide_eq_true h]
theorem makeF_many {x:Fr} {n:Int} (h:n > 80):makeF x n=(([],pg20),1):=by
 unfold makeF mkG
 rw [decide_eq_false (show ¬ n<2 by omega),decide_eq_true h]
theorem makeF_zero {x:Fr} {n:Int} (h : ¬ n<2) (h2 : ¬ n > 80) (h3:frEq x frZ=true):makeF x n=(([],pg20),7):=by
 unfold makeF mkG
 rw [decide_eq_false h,decide_eq_false h2,h3]
theorem cutI_nat {put:List UInt8} {cut:UInt16} (h:0<put.length) (hb:put.length<65536):cutI put cut=((cut.toNat % put.length:Nat):Int)/\cut.toNat % put.length<put.length:=by
 have hc:=cut.toNat_lt
 refine ⟨?_,Nat.mod_lt _ h⟩
 unfold cutI
 rw [IntWalk.i64_in _ (by omega),Int.tmod_eq_emod_of_nonneg (by omega)]
 exact (Int.natCast_emod _ _).symm
theorem moreB {put:List UInt8} {m:UInt8}:List.take (0+put.length+1) (List.drop 0 (List.take (0+put.length) (List.drop 0 ([]++List.take put.length (List.drop 0 put))) ++ [m]))=put ++ [m]:=by
 rw [List.nil_append,whole8,Nat.zero_add,whole8,List.drop_zero]
 refine List.take_of_length_le ?_
 rw [List.length_append]
 exact Nat.le_refl _
theorem mkM_true {p:List Pg1 × Pg2} (hp:OkP p) (h2:2<=p.1.length) (h80:p.1.length<=80) (hc:checkF p=0) (more:UInt8) (cut:UInt16):mkM sameF takeS 0 p p (putS p) (bytS p) more cut=true:=by
 have hl:=putS_len h80
 obtain ⟨c1,c2⟩:=cutI_nat (put:=putS p) (cut:=cut) (by omega) (by omega)
 have ht:=takeS_put hp h2 h80
 rw [hc] at ht
 have ht:takeS (putS p)=(p,0):=ht
 have hs:=take_shortS h2 h80 c2
 have hm:=takeS_long h2 h80 more
 unfold mkM
 have e1:List.take ((cutI (putS p) cut).toNat-0) (List.drop 0 (putS p))=List.take (cut.toNat % (putS p).length) (putS p):=by rw [c1,Int.toNat_natCast,Nat.sub_zero,List.drop_zero]
 rw [e1,moreB,whole8,whole8,bytS_eq hp h80,ht,hs,hm,sameF_self]
 dsimp only
 rw [powEta,sameF_self,show (putS p==putS p)=true from beq_self_eq_true _,show (((putS p).length:Int)==0)=false from by rw [beq_eq_false_iff_ne];omega]
 rfl
theorem mkR_true {tau:Fr} (ht:tau.ok) {n:Int} (hn:n<=6 \/ n > 80) (more:UInt8) (cut:UInt16):mkR (makeF tau n) putS takeS sameF (powsF tau n) bytS tau n more cut=true:=by
 unfold mkR
 by_cases h2:n<2
 ·rw [decide_eq_true h2,makeF_few h2]
  rfl
 ·rw [decide_eq_false h2]
  by_cases h80:n > 80
  ·rw [decide_eq_true h80,makeF_many h80]
   rfl
  ·rw [decide_eq_false h80]
   cases e:frEq tau frZ with
   | true =>
    rw [makeF_zero h2 h80 e]
    rfl
   | false =>
    obtain ⟨m,rfl⟩ : ∃ m:Nat,n=(m:Int):=⟨n.toNat,by omega⟩
    rw [makeF_pow e (by omega) (by omega),rawP_eq,rawP_eq,<- mkP_eq ht m]
    have hl:=mkP_len tau m
    have hc:=check_mkP ht e (n:=m) (by omega) (by omega)
    have:=okP_mkP ht m
    show mkM sameF takeS 0 (mkP tau m) (mkP tau m) (putS (mkP tau m)) (bytS (mkP tau m)) more cut=true
    generalize mkP tau m=p at *
    exact mkM_true this (by omega) (by omega) hc more cut
theorem srsMakes_law (tau:Fr) (n:Int) (more:UInt8) (cut:UInt16):srsMakes tau n more cut=true:=by
 unfold srsMakes
 rw [srsMakes_G,begun17_true]
 cases e:mayRF tau with
 | false=>rfl
 | true =>
  have ht:=mayR_ok' e
  by_cases h6:n > 6
  ·rw [decide_eq_true h6]
   by_cases h80:n<=80
   ·rw [decide_eq_true h80]
    rfl
   ·rw [decide_eq_false h80]
    exact mkR_true ht (.inr (by omega)) more cut
  ·rw [decide_eq_false h6]
   exact mkR_true ht (.inl (by omega)) more cut
theorem vcSlB {xs:List UInt8} (h:xs.length<16777216):(0+xs.length<=xs.length/\xs.length<1125899906842624/\0=0/\1=1)/\littleB (List.take xs.length (List.drop 0 xs)):=by
 rw [whole8]
 exact ⟨⟨by omega,by omega,rfl,rfl⟩,h⟩
theorem vcCutB {xs:List UInt8} {k:Nat} (h:xs.length<16777216) (hk:k<=xs.length):(0+(((k:Nat):Int).toNat-0)<=xs.length/\((k:Nat):Int).toNat-0<1125899906842624/\0=0/\1=1)/\littleB (List.take (((k:Nat):Int).toNat-0) (List.drop 0 xs)):=by
 rw [Int.toNat_natCast]
 refine ⟨⟨by omega,by omega,rfl,rfl⟩,?_⟩
 show (List.take _ _).length<16777216
 rw [List.length_take]
 omega
theorem vcMoreB {xs:List UInt8} {m:UInt8} (h:xs.length<65536):(0+(0+xs.length+1)<=(List.take (0+xs.length) (List.drop 0 ([]++List.take xs.length (List.drop 0 xs))) ++ [m]).length/\0+xs.length+1<1125899906842624/\0=0/\1=1)/\littleB (List.take (0+xs.length+1) (List.drop 0 (List.take (0+xs.length) (List.drop 0 ([]++List.take xs.length (List.drop 0 xs))) ++ [m]))):=by
 rw [moreB]
 have e:List.take (0+xs.length) (List.drop 0 ([]++List.take xs.length (List.drop 0 xs)))=xs:=by rw [List.nil_append,whole8,Nat.zero_add,whole8]
 rw [e]
 refine ⟨⟨?_,by omega,rfl,rfl⟩,?_⟩
 ·rw [List.length_append]
  show 0+(0+xs.length+1)<=xs.length+1
  omega
 ·show (xs ++ [m]).length<16777216
  rw [List.length_append]
  show xs.length+1<16777216
  omega
theorem srsMakes_ok (tau:Fr) (n:Int) (more:UInt8) (cut:UInt16):(srsMakes_T begun17 mayRF makeF putS takeS sameF powsF bytS tau n more cut).full=true/\(srsMakes_T begun17 mayRF makeF putS takeS sameF powsF bytS tau n more cut).okAll:=by
 refine ⟨rfl,fun _=>trivial,fun _=>⟨fun _=>trivial,fun hm=>⟨fun h6=>⟨fun _=>trivial,fun h80 => ?_⟩,fun h6 => ?_⟩⟩⟩
 ·refine ⟨fun _=>⟨fun _=>⟨vcLenG1 _,trivial⟩,fun _=>trivial⟩,fun _=>⟨fun _=>⟨fun _=>⟨vcLenG1 _,trivial⟩,fun _=>trivial⟩,fun k80 => ?_⟩⟩
  exfalso
  simp only [decide_eq_false_iff_not,decide_eq_true_eq] at h6 h80 k80
  omega
 ·refine ⟨fun _=>⟨fun _=>⟨vcLenG1 _,trivial⟩,fun _=>trivial⟩,fun k2=>⟨fun _=>⟨fun _=>⟨vcLenG1 _,trivial⟩,fun _=>trivial⟩,fun k80=>⟨fun _=>⟨fun _=>⟨vcLenG1 _,trivial⟩,fun _=>trivial⟩,fun e => ?_⟩⟩⟩
  simp only [decide_eq_false_iff_not] at h6 k2 k80
  have e:frEq tau frZ=false:=e
  have ht:tau.ok:=mayR_ok' (of_not_false hm)
  obtain ⟨m,rfl⟩ : ∃ m:Nat,n=(m:Int):=⟨n.toNat,by omega⟩
  have hP:=makeF_pow e (n:=m) (by omega) (by omega)
  have hO:=mkP_eq ht m
  have hk:=okP_mkP ht m
  have hl:=mkP_len tau m
  rw [hP,<- hO]
  dsimp only
  generalize mkP tau m=p at *
  have hfew:few p.1:=by show p.1.length<4294967296;omega
  have hput:=putS_len (p:=p) (by omega)
  have hbyt:=bytS_eq hk (by omega)
  have htake:=takeS_put hk (by omega) (by omega)
  rw [powEta]
  obtain ⟨c1,c2⟩:=cutI_nat (put:=putS p) (cut:=cut) (by omega) (by omega)
  unfold cutI at c1
  rw [c1,hbyt]
  have hT:few (takeS (putS p)).1.1:=by
   rw [htake]
   cases checkF p != 0 with
   | true=>show 0<4294967296;decide
   | false=>exact hfew
  generalize putS p=w at *
  have vP:=vcFewG hfew
  rw [wholeG1] at vP
  refine ⟨vP,fun _=>trivial,fun _=>⟨vcLenB w,fun _=>trivial,fun h0=>⟨vcSlB (by omega),vcLenB w,?_,⟨by omega,Nat.zero_le _,by omega,(vcLenB w).1,by decide,.inl rfl,rfl,rfl⟩,vcCutB (by omega) (by omega),⟨by omega,by omega,by omega⟩,⟨?_,by omega,by omega⟩,vcMoreB (by omega),?_⟩⟩⟩
  ·have h0:((w.length:Int)==0)=false:=h0
   rw [beq_eq_false_iff_ne] at h0
   exact h0
  ·rw [whole8,List.nil_append]
   omega
  ·rw [whole8]
   exact ⟨fun _=>⟨⟨by omega,by omega⟩,⟨vP,vP⟩,fun _=>⟨by omega,vP,by omega,fun _=>⟨fun _=>⟨⟨vP,vcFewG hT⟩,fun _=>⟨fun _=>trivial,fun _=>trivial⟩,fun _=>trivial⟩,fun _=>trivial⟩,fun _=>trivial⟩,fun _=>trivial⟩,fun _=>trivial⟩
theorem srsMakes_gives (tau:Fr) (n:Int) (more:UInt8) (cut:UInt16) (w:World):Gives Tryz.prog 5 ((KdL.cons (kRow Fr) (KdL.cons kInt (KdL.cons kU8 (KdL.cons kU16 KdL.nil)))).vals (tau,n,more,cut,())).toArray w kBool.rs.res true:=by
 have:=srsMakes_gives' tau n more cut (srsMakes_ok tau n more cut) w
 rw [srsMakes_law] at this
 exact this
end
end Go.Proofs.YtcbplfkeeaecgaaGreat
