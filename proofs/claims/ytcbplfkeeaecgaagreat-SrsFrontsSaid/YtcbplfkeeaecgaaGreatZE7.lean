/- Texts of the proof, joined. -/
import Derived.Test.YtcbplfkeeaecgaaGreatZE6
set_option linter.unusedSectionVars false
set_option linter.unusedSimpArgs false
set_option linter.unusedVariables false
namespace Go.Proofs.YtcbplfkeeaecgaaGreat
open Go.RowKit
set_option maxRecDepth 100000
section
abbrev oMk:Out ((List Pg1 × Pg2) × Int):=outHdT .g1 Pg2 kInt 46
def pwV (i:Nat) (p:List Pg1 × Pg2):AV := .one (.agg (.slc i 0 p.1.length 13 (.of 0) false :: Row.cs p.2))
def ownPw (i:Nat) (p:List Pg1 × Pg2):HE:=own 35 (.slc i 0 p.1.length 13 (.of 0) false :: Row.cs p.2)
noncomputable abbrev mkC:List Code:=flat (codeOf Tryz.f9)
noncomputable abbrev mkE (o2:Pg2) (m2:Pg2->Fr->Pg2) (oF:UInt64->Fr) (o1:Pg1) (m1:Pg1->Fr->Pg1) (mF:Fr->Fr->Fr):Env:=En [(27,K0 kg2.rs.res o2),(26,K2 kg2.arg (kRow Fr).arg kg2.rs.res m2),(28,K1 kU64.arg r4.res oF),(30,K0 kg1.rs.res o1),(29,K2 kg1.arg (kRow Fr).arg kg1.rs.res m1),(31,Kr2 mF)]
def mkS1 (x:Fr) (n:Int):St:=mkSt 40 [(1,vI n),(2,ptrV 0),(4,ptrV 1),(5,vI 0)] [own 24 (Row.cs x),own 35 powZ]
def mkS (x k:Fr) (t:Pg2) (n z:Int) (c:Nat) (l:List Pg1):St:=mkSt 40 [(2,ptrV 0),(4,ptrV 1),(5,vI 0),(6,ptrV 2),(7,ptrV 3),(24,vI n),(25,vI z)] [own 24 (Row.cs x),own 35 powZ,own 35 (.slc 4 0 c 13 (.of 0) false :: Row.cs t),own 24 (Row.cs k),.live ⟨true,46,13,.rows .g1 l,false⟩]
theorem mk_seg (o2:Pg2) (m2:Pg2->Fr->Pg2) (oF:UInt64->Fr) (o1:Pg1) (m1:Pg1->Fr->Pg1) (mF:Fr->Fr->Fr) (x:Fr) (n:Int):letI za':Fp := { l0:=UInt64.ofNat 0,l1:=UInt64.ofNat 0,l2:=UInt64.ofNat 0,l3:=UInt64.ofNat 0,l4:=UInt64.ofNat 0,l5:=UInt64.ofNat 0 };segT (mkE o2 m2 oF o1 m1 mF) oMk 300 Tryz.f9 (mkC.take 2) (startSt Tryz.f9 [v4 x,vI n] []) [1,2,4,5] [0,1] [(1,.as),(2,.as),(4,.as),(5,.int)] [] []=(.br (decide (n<2)) (.leaf (.inr (some (((([],{ x := { c0:=za',c1:=za' },y := { c0:=za',c1:=za' },inf:=false }),1),.t))))) (.br (decide (n > 80)) (.leaf (.inr (some (((([],{ x := { c0:=za',c1:=za' },y := { c0:=za',c1:=za' },inf:=false }),1),.t))))) (.br (frEq (x) ({ l0:=UInt64.ofNat 0,l1:=UInt64.ofNat 0,l2:=UInt64.ofNat 0,l3:=UInt64.ofNat 0 })) (.leaf (.inr (some (((([],{ x := { c0:=za',c1:=za' },y := { c0:=za',c1:=za' },inf:=false }),7),.t))))) (.leaf (.inl (mkSt 40 [(1,.one (.c (.int .i64 (n)))),(2,.one (.c (.ptr 0 0))),(4,.one (.c (.ptr 1 0))),(5,.one (.c (.int .i64 0)))] [.live ⟨true,24,0,(.row (Row.cs (x:Fr))),false⟩,.live ⟨true,35,0,(.row [.nils,(.lit .u64 0),(.lit .u64 0),(.lit .u64 0),(.lit .u64 0),(.lit .u64 0),(.lit .u64 0),(.lit .u64 0),(.lit .u64 0),(.lit .u64 0),(.lit .u64 0),(.lit .u64 0),(.lit .u64 0),(.lit .u64 0),(.lit .u64 0),(.lit .u64 0),(.lit .u64 0),(.lit .u64 0),(.lit .u64 0),(.lit .u64 0),(.lit .u64 0),(.lit .u64 0),(.lit .u64 0),(.lit .u64 0),(.lit .u64 0),.ff]),false⟩])))))):=by kernel_rfl
theorem mk_start (o2:Pg2) (m2:Pg2->Fr->Pg2) (oF:UInt64->Fr) (o1:Pg1) (m1:Pg1->Fr->Pg1) (mF:Fr->Fr->Fr) (x:Fr) (n:Int):stageN (mkE o2 m2 oF o1 m1 mF) 100 ((mkC.drop 2).take 3) (mkS1 x n) [2,4,5,6,7,24,25] [0,1,2,3] [(2,.as),(4,.as),(5,.as),(6,.as),(7,.as),(24,.as),(25,.int)] [] [] [(2,0,46,.rows .g1)]=(.leaf (mkSt 40 [(2,.one (.c (.ptr 0 0))),(4,.one (.c (.ptr 1 0))),(5,.one (.c (.int .i64 0))),(6,.one (.c (.ptr 2 0))),(7,.one (.c (.ptr 3 0))),(24,.one (.c (.int .i64 (n)))),(25,.one (.c (.int .i64 0)))] [.live ⟨true,24,0,(.row (Row.cs (x:Fr))),false⟩,.live ⟨true,35,0,(.row [.nils,(.lit .u64 0),(.lit .u64 0),(.lit .u64 0),(.lit .u64 0),(.lit .u64 0),(.lit .u64 0),(.lit .u64 0),(.lit .u64 0),(.lit .u64 0),(.lit .u64 0),(.lit .u64 0),(.lit .u64 0),(.lit .u64 0),(.lit .u64 0),(.lit .u64 0),(.lit .u64 0),(.lit .u64 0),(.lit .u64 0),(.lit .u64 0),(.lit .u64 0),(.lit .u64 0),(.lit .u64 0),(.lit .u64 0),(.lit .u64 0),.ff]),false⟩,.live ⟨true,35,0,(.row [(.slc 4 0 0 13 (.of 0) false),(.u64 ((m2 o2 x).x.c0.l0)),(.u64 ((m2 o2 x).x.c0.l1)),(.u64 ((m2 o2 x).x.c0.l2)),(.u64 ((m2 o2 x).x.c0.l3)),(.u64 ((m2 o2 x).x.c0.l4)),(.u64 ((m2 o2 x).x.c0.l5)),(.u64 ((m2 o2 x).x.c1.l0)),(.u64 ((m2 o2 x).x.c1.l1)),(.u64 ((m2 o2 x).x.c1.l2)),(.u64 ((m2 o2 x).x.c1.l3)),(.u64 ((m2 o2 x).x.c1.l4)),(.u64 ((m2 o2 x).x.c1.l5)),(.u64 ((m2 o2 x).y.c0.l0)),(.u64 ((m2 o2 x).y.c0.l1)),(.u64 ((m2 o2 x).y.c0.l2)),(.u64 ((m2 o2 x).y.c0.l3)),(.u64 ((m2 o2 x).y.c0.l4)),(.u64 ((m2 o2 x).y.c0.l5)),(.u64 ((m2 o2 x).y.c1.l0)),(.u64 ((m2 o2 x).y.c1.l1)),(.u64 ((m2 o2 x).y.c1.l2)),(.u64 ((m2 o2 x).y.c1.l3)),(.u64 ((m2 o2 x).y.c1.l4)),(.u64 ((m2 o2 x).y.c1.l5)),(.bool ((m2 o2 x).inf))]),false⟩,.live ⟨true,24,0,(.row (Row.cs (oF (UInt64.ofNat 1):Fr))),false⟩,.live ⟨true,46,13,(.rows .g1 ([]:List Pg1)),false⟩])):=by kernel_rfl
theorem mk_round (o2:Pg2) (m2:Pg2->Fr->Pg2) (oF:UInt64->Fr) (o1:Pg1) (m1:Pg1->Fr->Pg1) (mF:Fr->Fr->Fr) (x k:Fr) (t:Pg2) (n z:Int) (c:Nat) (l:List Pg1):roundP (mkE o2 m2 oF o1 m1 mF) 300 (loopAt Tryz.f9 0) (mkS x k t n z c l) (followingB [2,4,5,6,7,24,25] [0,1,2,3] [] [2])=(.br (decide (z<n)) (.vc ((0+c*13<=(rowsC RK.g1 l).length/\0=0)/\c+1<=9223372036854775807/\(c+1)*104<=140737488355328) (.leaf ((.normal,mkSt 40 [(2,.one (.c (.ptr 0 0))),(4,.one (.c (.ptr 1 0))),(5,.one (.c (.int .i64 0))),(6,.one (.c (.ptr 2 0))),(7,.one (.c (.ptr 3 0))),(24,.one (.c (.int .i64 (n)))),(25,.one (.c (.int .i64 (IntKind.i64.wrap (z+1)))))] [.live ⟨true,24,0,(.row (Row.cs (x:Fr))),false⟩,.live ⟨true,35,0,(.row [.nils,(.lit .u64 0),(.lit .u64 0),(.lit .u64 0),(.lit .u64 0),(.lit .u64 0),(.lit .u64 0),(.lit .u64 0),(.lit .u64 0),(.lit .u64 0),(.lit .u64 0),(.lit .u64 0),(.lit .u64 0),(.lit .u64 0),(.lit .u64 0),(.lit .u64 0),(.lit .u64 0),(.lit .u64 0),(.lit .u64 0),(.lit .u64 0),(.lit .u64 0),(.lit .u64 0),(.lit .u64 0),(.lit .u64 0),(.lit .u64 0),.ff]),false⟩,.live ⟨true,35,0,(.row [(.slc 4 0 (c+1) 13 (.of 0) false),(.u64 (t.x.c0.l0)),(.u64 (t.x.c0.l1)),(.u64 (t.x.c0.l2)),(.u64 (t.x.c0.l3)),(.u64 (t.x.c0.l4)),(.u64 (t.x.c0.l5)),(.u64 (t.x.c1.l0)),(.u64 (t.x.c1.l1)),(.u64 (t.x.c1.l2)),(.u64 (t.x.c1.l3)),(.u64 (t.x.c1.l4)),(.u64 (t.x.c1.l5)),(.u64 (t.y.c0.l0)),(.u64 (t.y.c0.l1)),(.u64 (t.y.c0.l2)),(.u64 (t.y.c0.l3)),(.u64 (t.y.c0.l4)),(.u64 (t.y.c0.l5)),(.u64 (t.y.c1.l0)),(.u64 (t.y.c1.l1)),(.u64 (t.y.c1.l2)),(.u64 (t.y.c1.l3)),(.u64 (t.y.c1.l4)),(.u64 (t.y.c1.l5)),(.bool (t.inf))]),false⟩,.live ⟨true,24,0,(.row (Row.cs (mF k x:Fr))),false⟩,.live ⟨true,46,13,(.rows .g1 (List.take (mulNn c (13 / 13)) (List.drop 0 l) ++ [m1 o1 k]:List Pg1)),false⟩])))) (.leaf ((.exit 1,mkSt 40 [(2,.one (.c (.ptr 0 0))),(4,.one (.c (.ptr 1 0))),(5,.one (.c (.int .i64 0))),(6,.one (.c (.ptr 2 0))),(7,.one (.c (.ptr 3 0))),(24,.one (.c (.int .i64 (n)))),(25,.one (.c (.int .i64 (z))))] [.live ⟨true,24,0,(.row (Row.cs (x:Fr))),false⟩,.live ⟨true,35,0,(.row [.nils,(.lit .u64 0),(.lit .u64 0),(.lit .u64 0),(.lit .u64 0),(.lit .u64 0),(.lit .u64 0),(.lit .u64 0),(.lit .u64 0),(.lit .u64 0),(.lit .u64 0),(.lit .u64 0),(.lit .u64 0),(.lit .u64 0),(.lit .u64 0),(.lit .u64 0),(.lit .u64 0),(.lit .u64 0),(.lit .u64 0),(.lit .u64 0),(.lit .u64 0),(.lit .u64 0),(.lit .u64 0),(.lit .u64 0),(.lit .u64 0),.ff]),false⟩,.live ⟨true,35,0,(.row [(.slc 4 0 (c) 13 (.of 0) false),(.u64 (t.x.c0.l0)),(.u64 (t.x.c0.l1)),(.u64 (t.x.c0.l2)),(.u64 (t.x.c0.l3)),(.u64 (t.x.c0.l4)),(.u64 (t.x.c0.l5)),(.u64 (t.x.c1.l0)),(.u64 (t.x.c1.l1)),(.u64 (t.x.c1.l2)),(.u64 (t.x.c1.l3)),(.u64 (t.x.c1.l4)),(.u64 (t.x.c1.l5)),(.u64 (t.y.c0.l0)),(.u64 (t.y.c0.l1)),(.u64 (t.y.c0.l2)),(.u64 (t.y.c0.l3)),(.u64 (t.y.c0.l4)),(.u64 (t.y.c0.l5)),(.u64 (t.y.c1.l0)),(.u64 (t.y.c1.l1)),(.u64 (t.y.c1.l2)),(.u64 (t.y.c1.l3)),(.u64 (t.y.c1.l4)),(.u64 (t.y.c1.l5)),(.bool (t.inf))]),false⟩,.live ⟨true,24,0,(.row (Row.cs (k:Fr))),false⟩,.live ⟨true,46,13,(.rows .g1 (l:List Pg1)),false⟩])))):=by kernel_rfl
theorem mk_end (o2:Pg2) (m2:Pg2->Fr->Pg2) (oF:UInt64->Fr) (o1:Pg1) (m1:Pg1->Fr->Pg1) (mF:Fr->Fr->Fr) (x k:Fr) (t:Pg2) (n z:Int) (c:Nat) (l:List Pg1):endT (mkE o2 m2 oF o1 m1 mF) oMk 100 Tryz.f9 (mkC.drop 6) (mkS x k t n z c l)=(.leaf (some ((((List.take c l,t),0),(.p (c<=l.length)))))):=by kernel_rfl
noncomputable abbrev sdC:List Code:=flat (codeOf Tryz.f32)
noncomputable abbrev sdE (i1:Pg1->Bool) (i2:Pg2->Bool):Env:=En [(61,K1 kg1.arg kBool.rs.res i1),(62,K1 kg2.arg kBool.rs.res i2)]
def sdS (p:List Pg1 × Pg2) (b:Bool) (z:Int):St:=mkSt 32 [(1,ptrV 1),(2,vI 0),(3,.one (kBool.av b)),(10,rwV .g1 0 p.1),(11,vI (p.1.length:Int)),(12,vI z)] [rwHE .g1 p.1,ownPw 0 p]
theorem sd_start (i1:Pg1->Bool) (i2:Pg2->Bool) (p:List Pg1 × Pg2):stageG (sdE i1 i2) 100 (sdC.take 3) (startSt Tryz.f32 [pwV 0 p] [rwHE .g1 p.1]) [1,2,3,10,11,12] [0,1] [(1,.as),(2,.int),(3,.bool),(10,.as),(11,.as),(12,.int)] [.as,.as] []=(.vc (0+p.fst.length*13<=(rowsC RK.g1 p.fst).length/\0<13) (.leaf (mkSt 32 [(1,.one (.c (.ptr 1 0))),(2,.one (.c (.int .i64 0))),(3,.one (.c (.bool (p.snd.inf)))),(10,.one (.c (.slc 0 0 (p.fst.length) 13 (.of 0) false))),(11,.one (.c (.int .i64 ((↑p.fst.length:Int))))),(12,.one (.c (.int .i64 0)))] [.live ⟨false,0,13,(.rows .g1 (p.fst:List Pg1)),false⟩,.live ⟨true,35,0,(.row [(.slc 0 0 (p.fst.length) 13 (.of 0) false),(.u64 (p.snd.x.c0.l0)),(.u64 (p.snd.x.c0.l1)),(.u64 (p.snd.x.c0.l2)),(.u64 (p.snd.x.c0.l3)),(.u64 (p.snd.x.c0.l4)),(.u64 (p.snd.x.c0.l5)),(.u64 (p.snd.x.c1.l0)),(.u64 (p.snd.x.c1.l1)),(.u64 (p.snd.x.c1.l2)),(.u64 (p.snd.x.c1.l3)),(.u64 (p.snd.x.c1.l4)),(.u64 (p.snd.x.c1.l5)),(.u64 (p.snd.y.c0.l0)),(.u64 (p.snd.y.c0.l1)),(.u64 (p.snd.y.c0.l2)),(.u64 (p.snd.y.c0.l3)),(.u64 (p.snd.y.c0.l4)),(.u64 (p.snd.y.c0.l5)),(.u64 (p.snd.y.c1.l0)),(.u64 (p.snd.y.c1.l1)),(.u64 (p.snd.y.c1.l2)),(.u64 (p.snd.y.c1.l3)),(.u64 (p.snd.y.c1.l4)),(.u64 (p.snd.y.c1.l5)),(.bool (p.snd.inf))]),false⟩]))):=by kernel_rfl
theorem sd_round (i1:Pg1->Bool) (i2:Pg2->Bool) (p:List Pg1 × Pg2) (b:Bool) (z:Int):letI za':=(↑p.fst.length:Int);letI zb':=p.fst.length;letI zc':=p.fst.getD (0+z.toNat) pg10;letI zd':=p.snd.x.c0.l0;letI ze':=p.snd.x.c0.l1;letI zf':=p.snd.x.c0.l2;letI zg':=p.snd.x.c0.l3;letI zh':=p.snd.x.c0.l4;letI zi':=p.snd.x.c0.l5;letI zj':=p.snd.x.c1.l0;letI zk':=p.snd.x.c1.l1;letI zl':=p.snd.x.c1.l2;letI zm':=p.snd.x.c1.l3;letI zn':=p.snd.x.c1.l4;letI zo':=p.snd.x.c1.l5;letI zp':=p.snd.y.c0.l0;letI zq':=p.snd.y.c0.l1;letI zr':=p.snd.y.c0.l2;letI zs':=p.snd.y.c0.l3;letI zt':=p.snd.y.c0.l4;letI zu':=p.snd.y.c0.l5;letI zv':=p.snd.y.c1.l0;letI zw':=p.snd.y.c1.l1;letI zx':=p.snd.y.c1.l2;letI zy':=p.snd.y.c1.l3;letI zz':=p.snd.y.c1.l4;letI z0':=p.snd.y.c1.l5;letI z1':=IntKind.i64.wrap (z+1);iterL (sdE i1 i2) oI 300 Tryz.f32 [loopAt Tryz.f32 0] (sdS p b z) [1,2,3,10,11,12] [0,1] [(1,.as),(2,.as),(3,.bool),(10,.as),(11,.as),(12,.as)] [.as,.as]=(.br (decide (z<za')) (.vc ((0<=z/\z<za')/\0+p.fst.length*13<=(rowsC RK.g1 p.fst).length/\0<13/\0=0) (.vc (0+z.toNat<p.fst.length) (.br (!(i1 zc')) (.leaf (.inr (some ((6,.t))))) (.br (b) (.leaf (.inl ((.normal,mkSt 32 [(1,.one (.c (.ptr 1 0))),(2,.one (.c (.int .i64 0))),(3,.one (.c (.bool (true)))),(10,.one (.c (.slc 0 0 zb' 13 (.of 0) false))),(11,.one (.c (.int .i64 (za')))),(12,.one (.c (.int .i64 z1')))] [.live ⟨false,0,13,(.rows .g1 (p.fst:List Pg1)),false⟩,.live ⟨true,35,0,(.row [(.slc 0 0 zb' 13 (.of 0) false),(.u64 zd'),(.u64 ze'),(.u64 zf'),(.u64 zg'),(.u64 zh'),(.u64 zi'),(.u64 zj'),(.u64 zk'),(.u64 zl'),(.u64 zm'),(.u64 zn'),(.u64 zo'),(.u64 zp'),(.u64 zq'),(.u64 zr'),(.u64 zs'),(.u64 zt'),(.u64 zu'),(.u64 zv'),(.u64 zw'),(.u64 zx'),(.u64 zy'),(.u64 zz'),(.u64 z0'),(.bool (p.snd.inf))]),false⟩])))) (.leaf (.inl ((.normal,mkSt 32 [(1,.one (.c (.ptr 1 0))),(2,.one (.c (.int .i64 0))),(3,.one (.c (.bool (zc'.inf)))),(10,.one (.c (.slc 0 0 zb' 13 (.of 0) false))),(11,.one (.c (.int .i64 (za')))),(12,.one (.c (.int .i64 z1')))] [.live ⟨false,0,13,(.rows .g1 (p.fst:List Pg1)),false⟩,.live ⟨true,35,0,(.row [(.slc 0 0 zb' 13 (.of 0) false),(.u64 zd'),(.u64 ze'),(.u64 zf'),(.u64 zg'),(.u64 zh'),(.u64 zi'),(.u64 zj'),(.u64 zk'),(.u64 zl'),(.u64 zm'),(.u64 zn'),(.u64 zo'),(.u64 zp'),(.u64 zq'),(.u64 zr'),(.u64 zs'),(.u64 zt'),(.u64 zu'),(.u64 zv'),(.u64 zw'),(.u64 zx'),(.u64 zy'),(.u64 zz'),(.u64 z0'),(.bool (p.snd.inf))]),false⟩])))))))) (.leaf (.inl ((.exit 0,mkSt 32 [(1,.one (.c (.ptr 1 0))),(2,.one (.c (.int .i64 0))),(3,.one (.c (.bool (b)))),(10,.one (.c (.slc 0 0 zb' 13 (.of 0) false))),(11,.one (.c (.int .i64 (za')))),(12,.one (.c (.int .i64 (z))))] [.live ⟨false,0,13,(.rows .g1 (p.fst:List Pg1)),false⟩,.live ⟨true,35,0,(.row [(.slc 0 0 zb' 13 (.of 0) false),(.u64 zd'),(.u64 ze'),(.u64 zf'),(.u64 zg'),(.u64 zh'),(.u64 zi'),(.u64 zj'),(.u64 zk'),(.u64 zl'),(.u64 zm'),(.u64 zn'),(.u64 zo'),(.u64 zp'),(.u64 zq'),(.u64 zr'),(.u64 zs'),(.u64 zt'),(.u64 zu'),(.u64 zv'),(.u64 zw'),(.u64 zx'),(.u64 zy'),(.u64 zz'),(.u64 z0'),(.bool (p.snd.inf))]),false⟩]))))):=by kernel_rfl
theorem sd_end (i1:Pg1->Bool) (i2:Pg2->Bool) (p:List Pg1 × Pg2) (b:Bool) (z:Int):endT (sdE i1 i2) oI 100 Tryz.f32 (sdC.drop 4) (sdS p b z) =
 (.br (!(i2 p.snd))
  (.leaf (some ((6,.t))))
  (.br (b)
   (.leaf (some ((7,.t))))
   (.leaf (some ((0,.t)))))):=by kernel_rfl
noncomputable abbrev sckC:List Code:=flat (codeOf Tryz.f11)
noncomputable abbrev sckE (sF:List Pg1 × Pg2->Int) (o1:Pg1) (eF:Pg1->Pg1->Bool) (o2:Pg2) (nF:Pg1->Pg1) (cF:List Duo->Bool):Env:=En [(32,K1 aPow kInt.rs.res sF),(30,K0 kg1.rs.res o1),(33,K2 kg1.arg kg1.arg kBool.rs.res eF),(27,K0 kg2.rs.res o2),(35,K1 kg1.arg kg1.rs.res nF),(34,K1 (argRw .duo) kBool.rs.res cF)]
def sckS (p:List Pg1 × Pg2) (z:Int):St:=mkSt 54 [(1,ptrV 1),(2,vI 0),(4,vI z)] [rwHE .g1 p.1,ownPw 0 p]
theorem sck_start (sF:List Pg1 × Pg2->Int) (o1:Pg1) (eF:Pg1->Pg1->Bool) (o2:Pg2) (nF:Pg1->Pg1) (cF:List Duo->Bool) (p:List Pg1 × Pg2):letI za':=0+p.fst.length*13<=(rowsC RK.g1 p.fst).length/\0<13;letI zb':=List.drop 0 p.fst;letI zc':=(↑p.fst.length:Int);segT (sckE sF o1 eF o2 nF cF) oI 300 Tryz.f11 (sckC.take 9) (startSt Tryz.f11 [pwV 0 p] [rwHE .g1 p.1]) [1,2,4] [0,1] [(1,.as),(2,.int),(4,.int)] [.as,.as] []=(.vc za' (.br (decide (zc'<2)) (.leaf (.inr (some ((1,.t))))) (.vc za' (.br (decide (zc' > 80)) (.leaf (.inr (some ((1,.t))))) (.vc ((0+p.fst.length*13<=(rowsC RK.g1 p.fst).length/\0=0/\p.fst.length<1125899906842624/\0=0/\13=13)/\fewP (List.take p.fst.length zb',p.snd)) (.br (sF (List.take p.fst.length zb',p.snd) != 0) (.leaf (.inr (some ((sF (List.take p.fst.length zb',p.snd),.t))))) (.vc (0<p.fst.length/\0+p.fst.length*13<=(rowsC RK.g1 p.fst).length/\0<13/\0=0) (.vc (0<p.fst.length) (.br (!(eF (p.fst.getD 0 pg10) o1)) (.leaf (.inr (some ((9,.t))))) (.leaf (.inl (mkSt 54 [(1,.one (.c (.ptr 1 0))),(2,.one (.c (.int .i64 0))),(4,.one (.c (.int .i64 1)))] [.live ⟨false,0,13,(.rows .g1 (p.fst:List Pg1)),false⟩,.live ⟨true,35,0,(.row [(.slc 0 0 (p.fst.length) 13 (.of 0) false),(.u64 (p.snd.x.c0.l0)),(.u64 (p.snd.x.c0.l1)),(.u64 (p.snd.x.c0.l2)),(.u64 (p.snd.x.c0.l3)),(.u64 (p.snd.x.c0.l4)),(.u64 (p.snd.x.c0.l5)),(.u64 (p.snd.x.c1.l0)),(.u64 (p.snd.x.c1.l1)),(.u64 (p.snd.x.c1.l2)),(.u64 (p.snd.x.c1.l3)),(.u64 (p.snd.x.c1.l4)),(.u64 (p.snd.x.c1.l5)),(.u64 (p.snd.y.c0.l0)),(.u64 (p.snd.y.c0.l1)),(.u64 (p.snd.y.c0.l2)),(.u64 (p.snd.y.c0.l3)),(.u64 (p.snd.y.c0.l4)),(.u64 (p.snd.y.c0.l5)),(.u64 (p.snd.y.c1.l0)),(.u64 (p.snd.y.c1.l1)),(.u64 (p.snd.y.c1.l2)),(.u64 (p.snd.y.c1.l3)),(.u64 (p.snd.y.c1.l4)),(.u64 (p.snd.y.c1.l5)),(.bool (p.snd.inf))]),false⟩])))))))))))):=by kernel_rfl
theorem sck_round (sF:List Pg1 × Pg2->Int) (o1:Pg1) (eF:Pg1->Pg1->Bool) (o2:Pg2) (nF:Pg1->Pg1) (cF:List Duo->Bool) (p:List Pg1 × Pg2) (z:Int):letI za':=(↑p.fst.length:Int);letI zb':=rowsC RK.g1 p.fst;letI zc':=IntKind.i64.wrap (z-1);iterT (sckE sF o1 eF o2 nF cF) oI 300 Tryz.f11 [loopAt Tryz.f11 0] (sckS p z) [1,2,4] [0,1]=(.vc (0+p.fst.length*13<=zb'.length/\0<13) (.br (decide (z<za')) (.vc ((0<=z/\z<za')/\0+p.fst.length*13<=zb'.length/\0<13/\0=0) (.vc (0+z.toNat<p.fst.length) (.vc ((0<=IntKind.i64.wrap (z-1)/\IntKind.i64.wrap (z-1)<za')/\0+p.fst.length*13<=zb'.length/\0<13/\0=0) (.vc (0+zc'.toNat<p.fst.length) (.br (!(cF [{ p:=p.fst.getD (0+z.toNat) pg10,q:=o2 },{ p:=nF (p.fst.getD (0+zc'.toNat) pg10),q:=p.snd }])) (.leaf (.inr (some ((9,.t))))) (.leaf (.inl ((.normal,mkSt 54 [(1,.one (.c (.ptr 1 0))),(2,.one (.c (.int .i64 0))),(4,.one (.c (.int .i64 (IntKind.i64.wrap (z+1)))))] [.live ⟨false,0,13,(.rows .g1 (p.fst:List Pg1)),false⟩,.live ⟨true,35,0,(.row [(.slc 0 0 (p.fst.length) 13 (.of 0) false),(.u64 (p.snd.x.c0.l0)),(.u64 (p.snd.x.c0.l1)),(.u64 (p.snd.x.c0.l2)),(.u64 (p.snd.x.c0.l3)),(.u64 (p.snd.x.c0.l4)),(.u64 (p.snd.x.c0.l5)),(.u64 (p.snd.x.c1.l0)),(.u64 (p.snd.x.c1.l1)),(.u64 (p.snd.x.c1.l2)),(.u64 (p.snd.x.c1.l3)),(.u64 (p.snd.x.c1.l4)),(.u64 (p.snd.x.c1.l5)),(.u64 (p.snd.y.c0.l0)),(.u64 (p.snd.y.c0.l1)),(.u64 (p.snd.y.c0.l2)),(.u64 (p.snd.y.c0.l3)),(.u64 (p.snd.y.c0.l4)),(.u64 (p.snd.y.c0.l5)),(.u64 (p.snd.y.c1.l0)),(.u64 (p.snd.y.c1.l1)),(.u64 (p.snd.y.c1.l2)),(.u64 (p.snd.y.c1.l3)),(.u64 (p.snd.y.c1.l4)),(.u64 (p.snd.y.c1.l5)),(.bool (p.snd.inf))]),false⟩]))))))))) (.leaf (.inl ((.exit 0,mkSt 54 [(1,.one (.c (.ptr 1 0))),(2,.one (.c (.int .i64 0))),(4,.one (.c (.int .i64 (z))))] [.live ⟨false,0,13,(.rows .g1 (p.fst:List Pg1)),false⟩,.live ⟨true,35,0,(.row [(.slc 0 0 (p.fst.length) 13 (.of 0) false),(.u64 (p.snd.x.c0.l0)),(.u64 (p.snd.x.c0.l1)),(.u64 (p.snd.x.c0.l2)),(.u64 (p.snd.x.c0.l3)),(.u64 (p.snd.x.c0.l4)),(.u64 (p.snd.x.c0.l5)),(.u64 (p.snd.x.c1.l0)),(.u64 (p.snd.x.c1.l1)),(.u64 (p.snd.x.c1.l2)),(.u64 (p.snd.x.c1.l3)),(.u64 (p.snd.x.c1.l4)),(.u64 (p.snd.x.c1.l5)),(.u64 (p.snd.y.c0.l0)),(.u64 (p.snd.y.c0.l1)),(.u64 (p.snd.y.c0.l2)),(.u64 (p.snd.y.c0.l3)),(.u64 (p.snd.y.c0.l4)),(.u64 (p.snd.y.c0.l5)),(.u64 (p.snd.y.c1.l0)),(.u64 (p.snd.y.c1.l1)),(.u64 (p.snd.y.c1.l2)),(.u64 (p.snd.y.c1.l3)),(.u64 (p.snd.y.c1.l4)),(.u64 (p.snd.y.c1.l5)),(.bool (p.snd.inf))]),false⟩])))))):=by kernel_rfl
theorem sck_end (sF:List Pg1 × Pg2->Int) (o1:Pg1) (eF:Pg1->Pg1->Bool) (o2:Pg2) (nF:Pg1->Pg1) (cF:List Duo->Bool) (p:List Pg1 × Pg2) (z:Int):endT (sckE sF o1 eF o2 nF cF) oI 100 Tryz.f11 (sckC.drop 10) (sckS p z) =
 (.leaf (some ((0,.t)))):=by kernel_rfl
noncomputable abbrev smeC:List Code:=flat (codeOf Tryz.f10)
def smeS (p q:List Pg1 × Pg2) (z:Int):St:=mkSt 38 [(2,ptrV 2),(3,ptrV 3),(4,.one (kBool.av false)),(5,vI z)] [rwHE .g1 p.1,rwHE .g1 q.1,ownPw 0 p,ownPw 1 q]
theorem sme_start (p q:List Pg1 × Pg2):segT (En []) oB 300 Tryz.f10 (smeC.take 4) (startSt Tryz.f10 [pwV 0 p,pwV 1 q] [rwHE .g1 p.1,rwHE .g1 q.1]) [2,3,4,5] [0,1,2,3] [(2,.as),(3,.as),(4,.bool),(5,.int)] [.as,.as,.as,.as] []=(.vc (0+p.fst.length*13<=(rowsC RK.g1 p.fst).length/\0<13) (.vc (0+q.fst.length*13<=(rowsC RK.g1 q.fst).length/\0<13) (.br ((↑p.fst.length:Int) != (↑q.fst.length:Int)) (.leaf (.inr (some ((false,.t))))) (.br (!(pg2Eq (p.snd) (q.snd))) (.leaf (.inr (some ((false,.t))))) (.leaf (.inl (mkSt 38 [(2,.one (.c (.ptr 2 0))),(3,.one (.c (.ptr 3 0))),(4,.one (.c (.bool (false)))),(5,.one (.c (.int .i64 0)))] [.live ⟨false,0,13,(.rows .g1 (p.fst:List Pg1)),false⟩,.live ⟨false,0,13,(.rows .g1 (q.fst:List Pg1)),false⟩,.live ⟨true,35,0,(.row [(.slc 0 0 (p.fst.length) 13 (.of 0) false),(.u64 (p.snd.x.c0.l0)),(.u64 (p.snd.x.c0.l1)),(.u64 (p.snd.x.c0.l2)),(.u64 (p.snd.x.c0.l3)),(.u64 (p.snd.x.c0.l4)),(.u64 (p.snd.x.c0.l5)),(.u64 (p.snd.x.c1.l0)),(.u64 (p.snd.x.c1.l1)),(.u64 (p.snd.x.c1.l2)),(.u64 (p.snd.x.c1.l3)),(.u64 (p.snd.x.c1.l4)),(.u64 (p.snd.x.c1.l5)),(.u64 (p.snd.y.c0.l0)),(.u64 (p.snd.y.c0.l1)),(.u64 (p.snd.y.c0.l2)),(.u64 (p.snd.y.c0.l3)),(.u64 (p.snd.y.c0.l4)),(.u64 (p.snd.y.c0.l5)),(.u64 (p.snd.y.c1.l0)),(.u64 (p.snd.y.c1.l1)),(.u64 (p.snd.y.c1.l2)),(.u64 (p.snd.y.c1.l3)),(.u64 (p.snd.y.c1.l4)),(.u64 (p.snd.y.c1.l5)),(.bool (p.snd.inf))]),false⟩,.live ⟨true,35,0,(.row [(.slc 1 0 (q.fst.length) 13 (.of 0) false),(.u64 (q.snd.x.c0.l0)),(.u64 (q.snd.x.c0.l1)),(.u64 (q.snd.x.c0.l2)),(.u64 (q.snd.x.c0.l3)),(.u64 (q.snd.x.c0.l4)),(.u64 (q.snd.x.c0.l5)),(.u64 (q.snd.x.c1.l0)),(.u64 (q.snd.x.c1.l1)),(.u64 (q.snd.x.c1.l2)),(.u64 (q.snd.x.c1.l3)),(.u64 (q.snd.x.c1.l4)),(.u64 (q.snd.x.c1.l5)),(.u64 (q.snd.y.c0.l0)),(.u64 (q.snd.y.c0.l1)),(.u64 (q.snd.y.c0.l2)),(.u64 (q.snd.y.c0.l3)),(.u64 (q.snd.y.c0.l4)),(.u64 (q.snd.y.c0.l5)),(.u64 (q.snd.y.c1.l0)),(.u64 (q.snd.y.c1.l1)),(.u64 (q.snd.y.c1.l2)),(.u64 (q.snd.y.c1.l3)),(.u64 (q.snd.y.c1.l4)),(.u64 (q.snd.y.c1.l5)),(.bool (q.snd.inf))]),false⟩]))))))):=by kernel_rfl
theorem sme_round (p q:List Pg1 × Pg2) (z:Int):letI za':=(↑p.fst.length:Int);iterT (En []) oB 300 Tryz.f10 [loopAt Tryz.f10 0] (smeS p q z) [2,3,4,5] [0,1,2,3]=(.vc (0+p.fst.length*13<=(rowsC RK.g1 p.fst).length/\0<13) (.br (decide (z<za')) (.vc ((0<=z/\z<za')/\0+p.fst.length*13<=(rowsC RK.g1 p.fst).length/\0<13/\0=0) (.vc (0+z.toNat<p.fst.length) (.vc ((0<=z/\z<(↑q.fst.length:Int))/\0+q.fst.length*13<=(rowsC RK.g1 q.fst).length/\0<13/\0=0) (.vc (0+z.toNat<q.fst.length) (.br (!(pg1Eq (p.fst.getD (0+z.toNat) pg10) (q.fst.getD (0+z.toNat) pg10))) (.leaf (.inr (some ((false,.t))))) (.leaf (.inl ((.normal,mkSt 38 [(2,.one (.c (.ptr 2 0))),(3,.one (.c (.ptr 3 0))),(4,.one (.c (.bool (false)))),(5,.one (.c (.int .i64 (IntKind.i64.wrap (z+1)))))] [.live ⟨false,0,13,(.rows .g1 (p.fst:List Pg1)),false⟩,.live ⟨false,0,13,(.rows .g1 (q.fst:List Pg1)),false⟩,.live ⟨true,35,0,(.row [(.slc 0 0 (p.fst.length) 13 (.of 0) false),(.u64 (p.snd.x.c0.l0)),(.u64 (p.snd.x.c0.l1)),(.u64 (p.snd.x.c0.l2)),(.u64 (p.snd.x.c0.l3)),(.u64 (p.snd.x.c0.l4)),(.u64 (p.snd.x.c0.l5)),(.u64 (p.snd.x.c1.l0)),(.u64 (p.snd.x.c1.l1)),(.u64 (p.snd.x.c1.l2)),(.u64 (p.snd.x.c1.l3)),(.u64 (p.snd.x.c1.l4)),(.u64 (p.snd.x.c1.l5)),(.u64 (p.snd.y.c0.l0)),(.u64 (p.snd.y.c0.l1)),(.u64 (p.snd.y.c0.l2)),(.u64 (p.snd.y.c0.l3)),(.u64 (p.snd.y.c0.l4)),(.u64 (p.snd.y.c0.l5)),(.u64 (p.snd.y.c1.l0)),(.u64 (p.snd.y.c1.l1)),(.u64 (p.snd.y.c1.l2)),(.u64 (p.snd.y.c1.l3)),(.u64 (p.snd.y.c1.l4)),(.u64 (p.snd.y.c1.l5)),(.bool (p.snd.inf))]),false⟩,.live ⟨true,35,0,(.row [(.slc 1 0 (q.fst.length) 13 (.of 0) false),(.u64 (q.snd.x.c0.l0)),(.u64 (q.snd.x.c0.l1)),(.u64 (q.snd.x.c0.l2)),(.u64 (q.snd.x.c0.l3)),(.u64 (q.snd.x.c0.l4)),(.u64 (q.snd.x.c0.l5)),(.u64 (q.snd.x.c1.l0)),(.u64 (q.snd.x.c1.l1)),(.u64 (q.snd.x.c1.l2)),(.u64 (q.snd.x.c1.l3)),(.u64 (q.snd.x.c1.l4)),(.u64 (q.snd.x.c1.l5)),(.u64 (q.snd.y.c0.l0)),(.u64 (q.snd.y.c0.l1)),(.u64 (q.snd.y.c0.l2)),(.u64 (q.snd.y.c0.l3)),(.u64 (q.snd.y.c0.l4)),(.u64 (q.snd.y.c0.l5)),(.u64 (q.snd.y.c1.l0)),(.u64 (q.snd.y.c1.l1)),(.u64 (q.snd.y.c1.l2)),(.u64 (q.snd.y.c1.l3)),(.u64 (q.snd.y.c1.l4)),(.u64 (q.snd.y.c1.l5)),(.bool (q.snd.inf))]),false⟩]))))))))) (.leaf (.inl ((.exit 0,mkSt 38 [(2,.one (.c (.ptr 2 0))),(3,.one (.c (.ptr 3 0))),(4,.one (.c (.bool (false)))),(5,.one (.c (.int .i64 (z))))] [.live ⟨false,0,13,(.rows .g1 (p.fst:List Pg1)),false⟩,.live ⟨false,0,13,(.rows .g1 (q.fst:List Pg1)),false⟩,.live ⟨true,35,0,(.row [(.slc 0 0 (p.fst.length) 13 (.of 0) false),(.u64 (p.snd.x.c0.l0)),(.u64 (p.snd.x.c0.l1)),(.u64 (p.snd.x.c0.l2)),(.u64 (p.snd.x.c0.l3)),(.u64 (p.snd.x.c0.l4)),(.u64 (p.snd.x.c0.l5)),(.u64 (p.snd.x.c1.l0)),(.u64 (p.snd.x.c1.l1)),(.u64 (p.snd.x.c1.l2)),(.u64 (p.snd.x.c1.l3)),(.u64 (p.snd.x.c1.l4)),(.u64 (p.snd.x.c1.l5)),(.u64 (p.snd.y.c0.l0)),(.u64 (p.snd.y.c0.l1)),(.u64 (p.snd.y.c0.l2)),(.u64 (p.snd.y.c0.l3)),(.u64 (p.snd.y.c0.l4)),(.u64 (p.snd.y.c0.l5)),(.u64 (p.snd.y.c1.l0)),(.u64 (p.snd.y.c1.l1)),(.u64 (p.snd.y.c1.l2)),(.u64 (p.snd.y.c1.l3)),(.u64 (p.snd.y.c1.l4)),(.u64 (p.snd.y.c1.l5)),(.bool (p.snd.inf))]),false⟩,.live ⟨true,35,0,(.row [(.slc 1 0 (q.fst.length) 13 (.of 0) false),(.u64 (q.snd.x.c0.l0)),(.u64 (q.snd.x.c0.l1)),(.u64 (q.snd.x.c0.l2)),(.u64 (q.snd.x.c0.l3)),(.u64 (q.snd.x.c0.l4)),(.u64 (q.snd.x.c0.l5)),(.u64 (q.snd.x.c1.l0)),(.u64 (q.snd.x.c1.l1)),(.u64 (q.snd.x.c1.l2)),(.u64 (q.snd.x.c1.l3)),(.u64 (q.snd.x.c1.l4)),(.u64 (q.snd.x.c1.l5)),(.u64 (q.snd.y.c0.l0)),(.u64 (q.snd.y.c0.l1)),(.u64 (q.snd.y.c0.l2)),(.u64 (q.snd.y.c0.l3)),(.u64 (q.snd.y.c0.l4)),(.u64 (q.snd.y.c0.l5)),(.u64 (q.snd.y.c1.l0)),(.u64 (q.snd.y.c1.l1)),(.u64 (q.snd.y.c1.l2)),(.u64 (q.snd.y.c1.l3)),(.u64 (q.snd.y.c1.l4)),(.u64 (q.snd.y.c1.l5)),(.bool (q.snd.inf))]),false⟩])))))):=by kernel_rfl
theorem sme_end (p q:List Pg1 × Pg2) (z:Int):endT (En []) oB 100 Tryz.f10 (smeC.drop 5) (smeS p q z) =
 (.leaf (some ((true,.t)))):=by kernel_rfl
end
set_option maxRecDepth 100000
section
section
variable {o2 : Pg2} {m2 : Pg2 -> Fr -> Pg2} {oF : UInt64 -> Fr} {o1 : Pg1} {m1 : Pg1 -> Fr -> Pg1} {mF : Fr -> Fr -> Fr}
theorem mk_loop (hE:EnvOk (mkE o2 m2 oF o1 m1 mF)) (x:Fr) (n:Nat) (hn:n<65536):DoesL (mkE o2 m2 oF o1 m1 mF) (mkC.drop 2) (mkS1 x n)
  (EndsAs (mkE o2 m2 oF o1 m1 mF) Tryz.f9 (Reads oMk ((powL (oF 1) (m1 o1) mF x n,m2 o2 x),0))):=by
 have st:=mk_start o2 m2 oF o1 m1 mF x n
 generalize m2 o2 x=t at *
 refine DoesL.stageN hE 100 3 _ _ _ _ _ _ st ?_
 refine (?_:DoesL _ _ (mkS x (powK (oF 1) mF x 0) t n ((0:Nat):Int) 0 (powL (oF 1) (m1 o1) mF x 0)) _)
 refine DoesL.blockLoop (B:=loopAt Tryz.f9 0) (rest:=mkC.drop 6) (id:=1) (by kernel_rfl) (fun j : { j:Nat // j<=n }=>mkS x (powK (oF 1) mF x j.1) t n (j.1:Int) j.1 (powL (oF 1) (m1 o1) mF x j.1)) (fun j=>n-j.1) ⟨0,Nat.zero_le _⟩ fun j => ?_
 obtain ⟨j,hj⟩:=j
 refine (?_:Does _ _ (mkS x (powK (oF 1) mF x j) t n (j:Int) j (powL (oF 1) (m1 o1) mF x j)) _)
 have hlen:=powL_len (oF 1) (m1 o1) mF x j
 refine Does.roundP hE 300 _ (mk_round o2 m2 oF o1 m1 mF x (powK (oF 1) mF x j) t n (j:Int) j (powL (oF 1) (m1 o1) mF x j)) ⟨fun h => ?_,fun h => ?_⟩
 ·simp only [decide_eq_true_eq] at h
  refine ⟨⟨⟨by rw [rowsC_g1,hlen];omega,rfl⟩,by omega,by omega⟩,fun _ => ?_⟩
  refine ⟨⟨j+1,by omega⟩,by show n-(j+1)<n-j;omega,?_⟩
  rw [wrapU j (by omega),wholeAppG1 hlen]
  show _=mkS x (powK (oF 1) mF x (j+1)) t n ((j+1:Nat):Int) (j+1) (powL (oF 1) (m1 o1) mF x (j+1))
  rw [powL_succ,powK_succ (oF 1) mF x j]
  rfl
 ·simp only [decide_eq_false_iff_not] at h
  obtain rfl:j=n:=by omega
  refine ⟨rfl,DoesL.ends hE 100 (mk_end o2 m2 oF o1 m1 mF x _ t _ _ _ _) ?_⟩
  rw [List.take_of_length_le (Nat.le_of_eq hlen)]
  exact ⟨_,rfl,Nat.le_of_eq hlen.symm⟩
end
def mkG (o2:Pg2) (m2:Pg2->Fr->Pg2) (oF:UInt64->Fr) (o1:Pg1) (m1:Pg1->Fr->Pg1) (mF:Fr->Fr->Fr) (x:Fr) (n:Int):(List Pg1 × Pg2) × Int :=
 match decide (n<2) with
 | true=>(([],pg20),1)
 | false=>match decide (n > 80) with
  | true=>(([],pg20),1)
  | false=>match frEq x frZ with
   | true=>(([],pg20),7)
   | false=>((powL (oF 1) (m1 o1) mF x n.toNat,m2 o2 x),0)
def makeF (x:Fr) (n:Int):(List Pg1 × Pg2) × Int:=mkG oneG2 mulG2 ofPR oneG1 mulG1 mulPR x n
theorem mk_does {o2:Pg2} {m2:Pg2->Fr->Pg2} {oF:UInt64->Fr} {o1:Pg1} {m1:Pg1->Fr->Pg1} {mF:Fr->Fr->Fr} (hE:EnvOk (mkE o2 m2 oF o1 m1 mF)) (x:Fr) (n:Int):DoesL (mkE o2 m2 oF o1 m1 mF) (flat (codeOf Tryz.f9)) (startSt Tryz.f9 [v4 x,vI n] [])
  (EndsAs (mkE o2 m2 oF o1 m1 mF) Tryz.f9 (Reads oMk (mkG o2 m2 oF o1 m1 mF x n))):=by
 refine DoesL.seg hE 300 2 _ _ _ _ _ (mk_seg o2 m2 oF o1 m1 mF x n) ⟨fun h => ?_,fun h=>⟨fun h2 => ?_,fun h2=>⟨fun h3 => ?_,fun h3 => ?_⟩⟩⟩
 ·exact ⟨.t,by unfold mkG;rw [h];rfl,trivial⟩
 ·exact ⟨.t,by unfold mkG;rw [h,h2];rfl,trivial⟩
 ·exact ⟨.t,by unfold mkG;rw [h,h2,show frEq x frZ=true from h3];rfl,trivial⟩
 ·have e:mkG o2 m2 oF o1 m1 mF x n=((powL (oF 1) (m1 o1) mF x n.toNat,m2 o2 x),0):=by unfold mkG;rw [h,h2,show frEq x frZ=false from h3]
  rw [e]
  simp only [decide_eq_false_iff_not] at h h2
  obtain ⟨m,rfl⟩ : ∃ m:Nat,n=(m:Int):=⟨n.toNat,by omega⟩
  exact mk_loop hE x m (by omega)
theorem makeF_ok:CallOk Tryz.prog 9 (K2 (kRow Fr).arg kInt.arg oMk.res makeF) :=
 G2 (E:=mkE oneG2 mulG2 ofPR oneG1 mulG1 mulPR) Tryz.func9 (c:=codeOf Tryz.f9) (by kernel_rfl) (bodied Tryz.func9 (by kernel_rfl) (by kernel_rfl)) (kRow Fr).inp kInt.inp oMk makeF fun x n _ _ =>
  mk_does (En_ok (.cons oneG2_ok (.cons mulG2_ok (.cons ofPR_ok (.cons oneG1_ok (.cons mulG1_ok (.cons mulPR_ok .nil))))))) x n
def sdL (i1:Pg1->Bool):List Pg1->Bool->Option Bool
 | [],b=>some b
 | x :: l,b=>match !(i1 x) with
  | true=>none
  | false=>sdL i1 l (match b with | true=>true | false=>x.inf)
theorem sdL_cons (i1:Pg1->Bool) (x:Pg1) (l:List Pg1) (b:Bool):sdL i1 (x :: l) b=match !(i1 x) with
  | true=>none
  | false=>sdL i1 l (match b with | true=>true | false=>x.inf):=rfl
def sdK (x b:Bool):Int:=match x with
 | true=>6
 | false=>match b with
  | true=>7
  | false=>0
def sdG (i1:Pg1->Bool) (i2:Pg2->Bool) (p:List Pg1 × Pg2):Int :=
 match sdL i1 p.1 p.2.inf with
 | none=>6
 | some b=>sdK (!(i2 p.2)) b
theorem sdG_of {i1:Pg1->Bool} {i2:Pg2->Bool} {p:List Pg1 × Pg2} {b:Bool} (h:sdL i1 p.1 p.2.inf=some b):sdG i1 i2 p=sdK (!(i2 p.2)) b:=by
 unfold sdG
 rw [h]
def sidesF (p:List Pg1 × Pg2):Int:=sdG inG1 inG2 p
abbrev SdQ (i1:Pg1->Bool) (p:List Pg1 × Pg2):Type := { q:Nat × Bool // q.1<=p.1.length/\sdL i1 p.1 p.2.inf=sdL i1 (p.1.drop q.1) q.2 }
theorem sd_does {i1:Pg1->Bool} {i2:Pg2->Bool} (hE:EnvOk (sdE i1 i2)) (p:List Pg1 × Pg2) (hl:p.1.length<1125899906842624):DoesL (sdE i1 i2) (flat (codeOf Tryz.f32)) (startSt Tryz.f32 [pwV 0 p] [rwHE .g1 p.1])
  (EndsAs (sdE i1 i2) Tryz.f32 (Reads oI (sdG i1 i2 p))):=by
 refine DoesL.stageG hE 100 3 _ _ _ _ _ (sd_start i1 i2 p) ⟨vcLenG1 p.1,fun _ => ?_⟩
 refine (?_:DoesL _ _ (sdS p p.2.inf ((0:Nat):Int)) _)
 refine DoesL.blockLoopR (B:=loopAt Tryz.f32 0) (rest:=sdC.drop 4) (id:=0) (by kernel_rfl) (fun i:SdQ i1 p=>sdS p i.1.2 (i.1.1:Int)) (fun i=>p.1.length-i.1.1) ⟨(0,p.2.inf),Nat.zero_le _,rfl⟩ fun s => ?_
 obtain ⟨⟨i,b⟩,h0,h1⟩:=s
 have h0:i<=p.1.length:=h0
 have h1:sdL i1 p.1 p.2.inf=sdL i1 (p.1.drop i) b:=h1
 refine (?_:DoesL _ _ (sdS p b (i:Int)) _)
 refine DoesL.iterL hE 300 _ _ _ _ (sd_round i1 i2 p b (i:Int)) ⟨fun h => ?_,fun h => ?_⟩
 ·simp only [decide_eq_true_eq] at h
  have hi:i<p.1.length:=by omega
  have hw:IntKind.i64.wrap ((i:Int)+1)=((i+1:Nat):Int):=(IntWalk.i64_in _ (by omega)).trans (by omega)
  refine ⟨vcIdxG1 hi,fun _=>⟨vcGetG1 hi,fun _=>⟨fun h2 => ?_,fun h2 => ?_⟩⟩⟩
  ·rw [zeroN] at h2
   rw [drop_getD p.1 hi pg10,sdL_cons,h2] at h1
   have h1:sdL i1 p.1 p.2.inf=none:=h1
   exact ⟨.t,by unfold sdG;rw [h1],trivial⟩
  ·rw [zeroN] at h2
   rw [drop_getD p.1 hi pg10,sdL_cons,h2] at h1
   rw [zeroN,hw]
   refine ⟨fun h3 => ?_,fun h3 => ?_⟩
   ·have h3:b=true:=h3
    subst h3
    exact ⟨⟨(i+1,true),hi,h1⟩,by show p.1.length-(i+1)<p.1.length-i;omega,rfl⟩
   ·have h3:b=false:=h3
    subst h3
    exact ⟨⟨(i+1,(p.1.getD i pg10).inf),hi,h1⟩,by show p.1.length-(i+1)<p.1.length-i;omega,rfl⟩
 ·simp only [decide_eq_false_iff_not] at h
  obtain rfl:i=p.1.length:=by omega
  rw [List.drop_length] at h1
  have h1:sdL i1 p.1 p.2.inf=some b:=h1
  refine ⟨rfl,DoesL.ends hE 100 (sd_end i1 i2 p b _) ⟨fun h2 => ?_,fun h2=>⟨fun h3 => ?_,fun h3 => ?_⟩⟩⟩
  ·exact ⟨.t,by rw [sdG_of h1,h2];rfl,trivial⟩
  ·exact ⟨.t,by rw [sdG_of h1,h2,show b=true from h3];rfl,trivial⟩
  ·exact ⟨.t,by rw [sdG_of h1,h2,show b=false from h3];rfl,trivial⟩
theorem sidesF_ok:CallOk Tryz.prog 32 (K1 aPow kInt.rs.res sidesF) :=
 G1 (E:=sdE inG1 inG2) Tryz.func32 (c:=codeOf Tryz.f32) (by kernel_rfl) (bodied Tryz.func32 (by kernel_rfl) (by kernel_rfl)) iPow oI sidesF fun p hp =>
  sd_does (En_ok (.cons inG1_ok (.cons inG2_ok .nil))) p hp.1
def sckL (o2:Pg2) (nF:Pg1->Pg1) (cF:List Duo->Bool) (t:Pg2):List Pg1->Bool
 | a :: b :: l=>match !(cF [⟨b,o2⟩,⟨nF a,t⟩]) with
  | true=>false
  | false=>sckL o2 nF cF t (b :: l)
 | _=>true
theorem sckL_cons (o2:Pg2) (nF:Pg1->Pg1) (cF:List Duo->Bool) (t:Pg2) (a b:Pg1) (l:List Pg1):sckL o2 nF cF t (a :: b :: l)=match !(cF [⟨b,o2⟩,⟨nF a,t⟩]) with
  | true=>false
  | false=>sckL o2 nF cF t (b :: l):=rfl
def sckG (sF:List Pg1 × Pg2->Int) (o1:Pg1) (eF:Pg1->Pg1->Bool) (o2:Pg2) (nF:Pg1->Pg1) (cF:List Duo->Bool) (p:List Pg1 × Pg2):Int :=
 match decide ((p.1.length:Int)<2) with
 | true=>1
 | false=>match decide ((p.1.length:Int) > 80) with
  | true=>1
  | false=>match sF p != 0 with
   | true=>sF p
   | false=>match !(eF (p.1.getD 0 pg10) o1) with
    | true=>9
    | false=>match sckL o2 nF cF p.2 p.1 with
     | true=>0
     | false=>9
def checkF (p:List Pg1 × Pg2):Int:=sckG sidesF oneG1 eqG1 oneG2 negG1 prCheck p
theorem powEta (p:List Pg1 × Pg2):(List.take p.1.length (List.drop 0 p.1),p.2)=p:=by rw [wholeG1]
theorem vcPow {p:List Pg1 × Pg2} (h:few p.1):(0+p.fst.length*13<=(rowsC RK.g1 p.fst).length/\0=0/\p.fst.length<1125899906842624/\0=0/\13=13)/\fewP (List.take p.fst.length (List.drop 0 p.fst),p.snd):=vcFewG h
abbrev SckQ (o2:Pg2) (nF:Pg1->Pg1) (cF:List Duo->Bool) (p:List Pg1 × Pg2):Type := { i:Nat // i<p.1.length/\sckL o2 nF cF p.2 p.1=sckL o2 nF cF p.2 (p.1.drop i) }
theorem sck_does {sF:List Pg1 × Pg2->Int} {o1:Pg1} {eF:Pg1->Pg1->Bool} {o2:Pg2} {nF:Pg1->Pg1} {cF:List Duo->Bool} (hE:EnvOk (sckE sF o1 eF o2 nF cF)) (p:List Pg1 × Pg2) (hl:few p.1):DoesL (sckE sF o1 eF o2 nF cF) (flat (codeOf Tryz.f11)) (startSt Tryz.f11 [pwV 0 p] [rwHE .g1 p.1])
  (EndsAs (sckE sF o1 eF o2 nF cF) Tryz.f11 (Reads oI (sckG sF o1 eF o2 nF cF p))):=by
 refine DoesL.seg hE 300 9 _ _ _ _ _ (sck_start sF o1 eF o2 nF cF p) ⟨vcLenG1 p.1,fun _=>⟨fun h => ?_,fun h=>⟨vcLenG1 p.1,fun _=>⟨fun h2 => ?_,fun h2=>⟨vcPow hl,fun _ => ?_⟩⟩⟩⟩⟩
 ·exact ⟨.t,by unfold sckG;rw [h],trivial⟩
 ·exact ⟨.t,by unfold sckG;rw [h,h2],trivial⟩
 ·rw [powEta]
  have h2':=h2
  have h':=h
  simp only [decide_eq_false_iff_not] at h' h2'
  have h0:0<p.1.length:=by omega
  refine ⟨fun h3 => ?_,fun h3=>⟨⟨h0,(vcLenG1 p.1).1,by decide,rfl⟩,fun _=>⟨h0,fun _=>⟨fun h4 => ?_,fun h4 => ?_⟩⟩⟩⟩
  ·exact ⟨.t,by unfold sckG;rw [h,h2,h3],trivial⟩
  ·exact ⟨.t,by unfold sckG;rw [h,h2,h3,h4],trivial⟩
  ·have e:sckG sF o1 eF o2 nF cF p=match sckL o2 nF cF p.2 p.1 with | true=>0 | false=>9:=by unfold sckG;rw [h,h2,h3,h4]
   rw [e]
   refine (?_:DoesL _ _ (sckS p ((0+1:Nat):Int)) _)
   refine DoesL.blockLoopR (B:=loopAt Tryz.f11 0) (rest:=sckC.drop 10) (id:=0) (by kernel_rfl) (fun i:SckQ o2 nF cF p=>sckS p ((i.1+1:Nat):Int)) (fun i=>p.1.length-i.1) ⟨0,h0,rfl⟩ fun s => ?_
   obtain ⟨i,k0,k1⟩:=s
   refine (?_:DoesL _ _ (sckS p ((i+1:Nat):Int)) _)
   refine DoesL.iter hE 300 _ _ (sck_round sF o1 eF o2 nF cF p ((i+1:Nat):Int)) ⟨vcLenG1 p.1,fun _=>⟨fun q => ?_,fun q => ?_⟩⟩
   ·simp only [decide_eq_true_eq] at q
    have hi:i+1<p.1.length:=by omega
    have hw:IntKind.i64.wrap (((i+1:Nat):Int)+1)=((i+1+1:Nat):Int):=(IntWalk.i64_in _ (by omega)).trans (by omega)
    have hw2:IntKind.i64.wrap (((i+1:Nat):Int)-1)=((i:Nat):Int):=(IntWalk.i64_in _ (by omega)).trans (by omega)
    rw [hw2,hw,zeroN,zeroN]
    rw [drop_getD p.1 k0 pg10,drop_getD p.1 hi pg10,sckL_cons] at k1
    refine ⟨vcIdxG1 hi,fun _=>⟨hi,fun _=>⟨vcIdxG1 k0,fun _=>⟨k0,fun _=>⟨fun q2 => ?_,fun q2 => ?_⟩⟩⟩⟩⟩
    ·rw [q2] at k1
     have k1:sckL o2 nF cF p.2 p.1=false:=k1
     exact ⟨.t,by rw [k1],trivial⟩
    ·rw [q2] at k1
     exact ⟨⟨i+1,hi,by rw [k1,drop_getD p.1 hi pg10]⟩,by show p.1.length-(i+1)<p.1.length-i;omega,rfl⟩
   ·simp only [decide_eq_false_iff_not] at q
    have hi:i+1=p.1.length:=by omega
    rw [drop_getD p.1 k0 pg10,hi,List.drop_length] at k1
    have k1:sckL o2 nF cF p.2 p.1=true:=k1
    refine ⟨rfl,DoesL.ends hE 100 (sck_end sF o1 eF o2 nF cF p _) ?_⟩
    exact ⟨.t,by rw [k1],trivial⟩
theorem checkF_ok:CallOk Tryz.prog 11 (K1 aPow kInt.rs.res checkF) :=
 G1 (E:=sckE sidesF oneG1 eqG1 oneG2 negG1 prCheck) Tryz.func11 (c:=codeOf Tryz.f11) (by kernel_rfl) (bodied Tryz.func11 (by kernel_rfl) (by kernel_rfl)) iPow oI checkF fun p hp =>
  sck_does (En_ok (.cons sidesF_ok (.cons oneG1_ok (.cons eqG1_ok (.cons oneG2_ok (.cons negG1_ok (.cons prCheck_ok .nil))))))) p hp.2
def smL:List Pg1->List Pg1->Bool
 | a :: l,b :: m=>match !(pg1Eq a b) with
  | true=>false
  | false=>smL l m
 | _,_=>true
theorem smL_cons (a b:Pg1) (l m:List Pg1):smL (a :: l) (b :: m)=match !(pg1Eq a b) with
  | true=>false
  | false=>smL l m:=rfl
def sameF (p q:List Pg1 × Pg2):Bool :=
 match (p.1.length:Int) != (q.1.length:Int) with
 | true=>false
 | false=>match !(pg2Eq p.2 q.2) with
  | true=>false
  | false=>smL p.1 q.1
abbrev SmQ (p q:List Pg1 × Pg2):Type := { i:Nat // i<=p.1.length/\smL p.1 q.1=smL (p.1.drop i) (q.1.drop i) }
theorem sameF_ok:CallOk Tryz.prog 10 (K2 aPow aPow kBool.rs.res sameF) :=
 G2 (E:=En []) Tryz.func10 (c:=codeOf Tryz.f10) (by kernel_rfl) (bodied Tryz.func10 (by kernel_rfl) (by kernel_rfl)) iPow iPow oB sameF fun p q hp hq=>by
  have hE:EnvOk (En []):=En_ok .nil
  have hl:p.1.length<1125899906842624:=hp.1
  refine DoesL.seg hE 300 4 _ _ _ _ _ (sme_start p q) ⟨vcLenG1 p.1,fun _=>⟨vcLenG1 q.1,fun _=>⟨fun h => ?_,fun h=>⟨fun h2 => ?_,fun h2 => ?_⟩⟩⟩⟩
  ·exact ⟨.t,by unfold sameF;rw [h],trivial⟩
  ·exact ⟨.t,by unfold sameF;rw [h,h2],trivial⟩
  ·have e:sameF p q=smL p.1 q.1:=by unfold sameF;rw [h,h2]
   rw [e]
   have hlen:p.1.length=q.1.length:=by
    simp only [bne_eq_false_iff_eq] at h
    omega
   refine (?_:DoesL _ _ (smeS p q ((0:Nat):Int)) _)
   refine DoesL.blockLoopR (B:=loopAt Tryz.f10 0) (rest:=smeC.drop 5) (id:=0) (by kernel_rfl) (fun i:SmQ p q=>smeS p q (i.1:Int)) (fun i=>p.1.length-i.1) ⟨0,Nat.zero_le _,rfl⟩ fun s => ?_
   obtain ⟨i,k0,k1⟩:=s
   refine (?_:DoesL _ _ (smeS p q (i:Int)) _)
   refine DoesL.iter hE 300 _ _ (sme_round p q (i:Int)) ⟨vcLenG1 p.1,fun _=>⟨fun z => ?_,fun z => ?_⟩⟩
   ·simp only [decide_eq_true_eq] at z
    have hi:i<p.1.length:=by omega
    have hj:i<q.1.length:=by omega
    have hw:IntKind.i64.wrap ((i:Int)+1)=((i+1:Nat):Int):=(IntWalk.i64_in _ (by omega)).trans (by omega)
    rw [zeroN,hw]
    rw [drop_getD p.1 hi pg10,drop_getD q.1 hj pg10,smL_cons] at k1
    refine ⟨vcIdxG1 hi,fun _=>⟨hi,fun _=>⟨vcIdxG1 hj,fun _=>⟨hj,fun _=>⟨fun z2 => ?_,fun z2 => ?_⟩⟩⟩⟩⟩
    ·rw [z2] at k1
     have k1:smL p.1 q.1=false:=k1
     exact ⟨.t,by rw [k1],trivial⟩
    ·rw [z2] at k1
     exact ⟨⟨i+1,hi,k1⟩,by show p.1.length-(i+1)<p.1.length-i;omega,rfl⟩
   ·simp only [decide_eq_false_iff_not] at z
    obtain rfl:i=p.1.length:=by omega
    rw [List.drop_length] at k1
    have k1:smL p.1 q.1=true:=k1
    refine ⟨rfl,DoesL.ends hE 100 (sme_end p q _) ?_⟩
    exact ⟨.t,by rw [k1],trivial⟩
end
set_option maxRecDepth 100000
section
theorem At2.eq {p q:Pg2} {x:VR} (h:At2 p x) (k:At2 q x):p=q:=pt2_inj h.good.1 k.good.1 (h.pt.trans k.pt.symm)
theorem at1_one':At1 oneG1 1:=⟨gen1_good,by rw [gm_one]⟩
theorem at2_one':At2 oneG2 1:=⟨gen2_good,by rw [hm_one]⟩
theorem at1_mulp {k:Fr} (hk:k.ok):At1 (mulG1 oneG1 k) k.v:=by
 obtain ⟨h1,h2⟩:=mul1_pt gen1_good k
 refine ⟨h1,?_⟩
 rw [h2]
 unfold gm
 rw [Fr.v_nat hk]
theorem at2_mulp {k:Fr} (hk:k.ok):At2 (mulG2 oneG2 k) k.v:=by
 obtain ⟨h1,h2⟩:=mul2_pt gen2_good k
 refine ⟨h1,?_⟩
 rw [h2]
 unfold hm
 rw [Fr.v_nat hk]
theorem at1_finite {p:Pg1} {x:VR} (h:At1 p x) (hx:x ≠ 0):p.inf=false:=by
 cases e:p.inf with
 | false=>rfl
 | true =>
  have h1:=pt1_inf e
  rw [h.pt,<- gm_zero] at h1
  exact absurd (gm_inj h1) hx
theorem at2_finite {q:Pg2} {x:VR} (h:At2 q x) (hx:x ≠ 0):q.inf=false:=by
 cases e:q.inf with
 | false=>rfl
 | true =>
  have h1:=prV_infq (gm 1) e
  rw [h.pt,prV_gh,em_one_iff] at h1
  have h2:x=0:=by
   generalize x=y at h1
   grind
  exact absurd h2 hx
theorem ofP_one:ofPR 1=oneFr:=rfl
theorem powK_vP {x:Fr} (hx:x.ok) : ∀ n,(powK (ofPR 1) mulPR x n).ok/\(powK (ofPR 1) mulPR x n).v=x.v ^ n
 | 0=>by
  show (ofPR 1).ok/\(ofPR 1).v=x.v ^ 0
  rw [ofP_one,pow_zero',v_oneFr]
  exact ⟨oneFr_ok,rfl⟩
 | n+1=>by
  obtain ⟨h1,h2⟩:=powK_vP hx n
  obtain ⟨m1,m2⟩:=mulPR_v h1 hx
  rw [powK_succ]
  refine ⟨m1,?_⟩
  rw [m2,h2,pow_succ',CR.mul_comm]
def mkP (x:Fr) (n:Nat):List Pg1 × Pg2:=(powL (ofPR 1) (mulG1 oneG1) mulPR x n,mulG2 oneG2 x)
theorem mkP_snd (x:Fr) (n:Nat):(mkP x n).2=mulG2 oneG2 x:=by simp only [mkP]
theorem mkP_fst (x:Fr) (n:Nat):(mkP x n).1=powL (ofPR 1) (mulG1 oneG1) mulPR x n:=by simp only [mkP]
theorem mkP_len (x:Fr) (n:Nat):(mkP x n).1.length=n:=by unfold mkP;exact powL_len _ _ _ _ _
theorem makeF_pow {x:Fr} (h0:frEq x frZ=false) {n:Nat} (h2:2<=n) (h80:n<=80):makeF x (n:Int)=(mkP x n,0):=by
 unfold makeF mkG
 rw [decide_eq_false (show ¬ ((n:Int)<2) by omega),decide_eq_false (show ¬ ((n:Int) > 80) by omega),h0]
 rfl
theorem mkP_eq {x:Fr} (hx:x.ok) (n:Nat):mkP x n=powsF x n:=by
 have h1:(mkP x n).1=(powsF x n).1:=by
  rw [powsF_fst,mkP_fst]
  unfold powL
  refine List.map_congr_left fun i _ => ?_
  obtain ⟨a1,a2⟩:=powK_vP hx i
  obtain ⟨b1,b2⟩:=powK_v hx i
  have c1:=at1_mulp a1
  have c2:=at1_comm b1
  rw [a2] at c1
  rw [b2] at c2
  exact c1.eq c2
 have h2:(mkP x n).2=(powsF x n).2:=by
  rw [powsF_snd,mkP_snd]
  exact (at2_mulp hx).eq (at2_comm hx)
 exact Prod.ext h1 h2
theorem mkP_take (x:Fr) {a b:Nat} (h:a<=b):(mkP x b).1.take a=(mkP x a).1:=by
 rw [mkP_fst,mkP_fst]
 unfold powL
 rw [<- List.map_take,List.take_range,Nat.min_eq_left h]
theorem smL_self : ∀ l:List Pg1,smL l l=true
 | []=>rfl
 | a :: l=>by
  rw [smL_cons,(pg1Eq_iff _ _).2 rfl]
  exact smL_self l
theorem sameF_self (p:List Pg1 × Pg2):sameF p p=true:=by
 unfold sameF
 rw [show ((p.1.length:Int) != (p.1.length:Int))=false by simp,(pg2Eq_iff _ _).2 rfl]
 exact smL_self p.1
theorem sdL_all {i1:Pg1->Bool} : ∀ {l:List Pg1},(∀ x ∈ l,i1 x=true/\x.inf=false)->sdL i1 l false=some false
 | [],_=>rfl
 | x :: l,h=>by
  obtain ⟨h1,h2⟩:=h x (List.mem_cons_self ..)
  rw [sdL_cons,h1,h2]
  exact sdL_all fun y hy=>h y (List.mem_cons_of_mem _ hy)
theorem mem_getD {α:Type} {l:List α} {x:α} (d:α) (h:x ∈ l) : ∃ i,i<l.length/\l.getD i d=x:=by
 obtain ⟨i,hi,e⟩:=List.getElem_of_mem h
 exact ⟨i,hi,by rw [List.getD_eq_getElem?_getD,List.getElem?_eq_getElem hi];exact e⟩
theorem sides_pow {p:List Pg1 × Pg2} {t:VR} (ht:t ≠ 0) (hG : ∀ i,i<p.1.length->At1 (p.1.getD i pg10) (t ^ i)) (hT:At2 p.2 t):sidesF p=0:=by
 unfold sidesF
 rw [sdG_of (b:=false) (by
  rw [at2_finite hT ht]
  refine sdL_all fun x hx => ?_
  obtain ⟨i,hi,rfl⟩:=mem_getD pg10 hx
  exact ⟨(in1_iff _).2 ⟨(hG i hi).good,(hG i hi).in1.sub⟩,at1_finite (hG i hi) (pow_ne' ht i)⟩),(in2_iff _).2 ⟨hT.good,hT.in2.sub⟩]
 rfl
theorem sckL_pow {t:VR} {T:Pg2} (hT:At2 T t) : ∀ (l:List Pg1) (k:Nat),(∀ i,i<l.length->At1 (l.getD i pg10) (t ^ (k+i)))->sckL oneG2 negG1 prCheck T l=true
 | [],_,_=>rfl
 | [_],_,_=>rfl
 | a :: b :: l,k,h=>by
  have ha:=h 0 (by simp)
  have hb:=h 1 (by simp)
  have ha:At1 a (t ^ k):=ha
  have hb:At1 b (t ^ (k+1)):=hb
  have hc:=(check_val hb ha at2_one' hT).2 (pow_succ' t k)
  rw [sckL_cons,hc]
  exact sckL_pow hT (b :: l) (k+1) fun i hi=>by
   have:=h (i+1) (by simp only [List.length_cons] at hi ⊢;omega)
   rw [show k+(i+1)=k+1+i by omega] at this
   exact this
theorem check_pow {p:List Pg1 × Pg2} {t:VR} (ht:t ≠ 0) (hG : ∀ i,i<p.1.length->At1 (p.1.getD i pg10) (t ^ i)) (hT:At2 p.2 t) (h2:2<=p.1.length) (h80:p.1.length<=80):checkF p=0:=by
 have hs:=sides_pow ht hG hT
 have h0:=hG 0 (by omega)
 rw [pow_zero'] at h0
 have he:eqG1 (p.1.getD 0 pg10) oneG1=true:=by
  rw [eqG1_eq]
  exact (pg1Eq_iff _ _).2 (h0.eq at1_one')
 unfold checkF sckG
 rw [decide_eq_false (show ¬ ((p.1.length:Int)<2) by omega),decide_eq_false (show ¬ ((p.1.length:Int) > 80) by omega),hs,he,sckL_pow hT p.1 0 fun i hi=>by rw [Nat.zero_add];exact hG i hi]
 rfl
theorem fr_ne_zero {x:Fr} (hx:x.ok) (h:frEq x frZ=false):x.v ≠ 0:=fun e=>by
 rw [(frEq_v hx frZ_ok).2 (by rw [e,frZ_v])] at h
 cases h
theorem check_mkP {x:Fr} (hx:x.ok) (h:frEq x frZ=false) {n:Nat} (h2:2<=n) (h80:n<=80):checkF (mkP x n)=0:=by
 have hl:=mkP_len x n
 refine check_pow (t:=x.v) (fr_ne_zero hx h) (fun i hi => ?_) (by rw [mkP_snd];exact at2_mulp hx) (by omega) (by omega)
 rw [mkP_eq hx]
 exact powsF_at hx n (by omega)
end
set_option maxRecDepth 100000
section
def begun17_T (f0:Fr->Int->(List Pg1 × Pg2) × Int) (f1:Pg1) (f2:Pg2) (f3:List Pg1 × Pg2->Int):Tree (Option ((Bool) × Pr)):=letI za':=(f0 { l0:=UInt64.ofNat 1,l1:=UInt64.ofNat 0,l2:=UInt64.ofNat 0,l3:=UInt64.ofNat 0 } 2);letI zb':=rowsC RK.g1 za'.fst.fst;letI zc':=List.drop 0 za'.fst.fst;
 (.br (za'.snd==0) (.vc (0+za'.fst.fst.length*13<=zb'.length/\0<13) (.br ((↑za'.fst.fst.length:Int)==2) (.vc (1<za'.fst.fst.length/\0+za'.fst.fst.length*13<=zb'.length/\0<13/\0=0) (.vc (1<za'.fst.fst.length) (.br (pg1Eq (za'.fst.fst.getD 1 pg10) (f1)) (.br (pg2Eq (za'.fst.snd) (f2)) (.vc ((0+za'.fst.fst.length*13<=zb'.length/\0=0/\za'.fst.fst.length<1125899906842624/\0=0/\13=13)/\fewP (List.take za'.fst.fst.length zc',za'.fst.snd)) (.leaf (some ((f3 (List.take za'.fst.fst.length zc',za'.fst.snd)==0,.t))))) (.leaf (some ((false,.t))))) (.leaf (some ((false,.t))))))) (.leaf (some ((false,.t)))))) (.leaf (some ((false,.t)))))
theorem begun17_run (f0:Fr->Int->(List Pg1 × Pg2) × Int) (f1:Pg1) (f2:Pg2) (f3:List Pg1 × Pg2->Int):endT (Ens [(9,K2 (kRow Fr).arg kInt.arg oMk.res f0),(22,K0 (kRow Pg1).rs.res f1),(23,K0 (kRow Pg2).rs.res f2),(11,K1 aPow kInt.rs.res f3)] [9]) kBool.rs.out 300 Tryz.f7 (flat (codeOf Tryz.f7)) (startSt Tryz.f7 [] [])=begun17_T f0 f1 f2 f3:=by kernel_rfl
def begun17  : Bool:=(begun17_T makeF gen1R gen2R checkF ).outD false
theorem begun17_ok' (h:(begun17_T makeF gen1R gen2R checkF).full=true/\(begun17_T makeF gen1R gen2R checkF).okAll):CallOk Tryz.prog 7 (K0  kBool.rs.out.res begun17) :=
 Go.Proofs.YtcbplfkeeaecgaaGreat.G0 (E:=Ens [(9,K2 (kRow Fr).arg kInt.arg oMk.res makeF),(22,K0 (kRow Pg1).rs.res gen1R),(23,K0 (kRow Pg2).rs.res gen2R),(11,K1 aPow kInt.rs.res checkF)] [9]) Tryz.func7 (c:=codeOf Tryz.f7) (by kernel_rfl) (bodied Tryz.func7 (by kernel_rfl) (by kernel_rfl)) kBool.rs.out begun17 (DoesL.outs (Ens_ok (.cons makeF_ok (.cons gen1R_ok (.cons gen2R_ok (.cons checkF_ok .nil))))) 300 false (begun17_run makeF gen1R gen2R checkF ) h.1 h.2)
theorem begun17_L {P:Fr->Int->(List Pg1 × Pg2) × Int} {o1:Pg1} {o2:Pg2} {K:List Pg1 × Pg2->Int} (h:(P ⟨UInt64.ofNat 1,UInt64.ofNat 0,UInt64.ofNat 0,UInt64.ofNat 0⟩ 2).1.1.length=2):(begun17_T P o1 o2 K).okAll:=by
 have hf:few (P ⟨UInt64.ofNat 1,UInt64.ofNat 0,UInt64.ofNat 0,UInt64.ofNat 0⟩ 2).1.1:=by
  show List.length _<4294967296
  rw [h]
  decide
 exact ⟨fun _=>⟨vcLenG1 _,fun _=>⟨⟨by rw [h];decide,(vcLenG1 _).1,by decide,rfl⟩,by rw [h];decide,fun _=>⟨fun _=>⟨vcFewG hf,trivial⟩,fun _=>trivial⟩,fun _=>trivial⟩,fun _=>trivial⟩,fun _=>trivial⟩
theorem makeF_one:(makeF ⟨UInt64.ofNat 1,UInt64.ofNat 0,UInt64.ofNat 0,UInt64.ofNat 0⟩ 2).1.1.length=2:=by
 unfold makeF mkG
 rw [decide_eq_false (show ¬ ((2:Int)<2) by omega),decide_eq_false (show ¬ ((2:Int) > 80) by omega),show frEq ⟨UInt64.ofNat 1,UInt64.ofNat 0,UInt64.ofNat 0,UInt64.ofNat 0⟩ frZ=false from by decide]
 exact powL_len _ _ _ _ _
theorem begun17_ok:CallOk Tryz.prog 7 (K0 kBool.rs.res begun17):=begun17_ok' ⟨rfl,begun17_L makeF_one⟩
def srsFronts_T (f0:Bool) (f1:Fr->Bool) (f2:Fr->Int->(List Pg1 × Pg2) × Int) (f3:List Pg1 × Pg2->List Pg1 × Pg2->Bool) (f4:List Pg1 × Pg2->Int) (tau:Fr) (n:UInt8) (m:UInt8):Tree (Option ((Bool) × Pr)):=letI za':=(if IntKind.i64.wrap (2+(↑(m % UInt8.ofNat 4).toNat:Int))<IntKind.i64.wrap (2+(↑(n % UInt8.ofNat 4).toNat:Int)) then IntKind.i64.wrap (2+(↑(m % UInt8.ofNat 4).toNat:Int)) else IntKind.i64.wrap (2+(↑(n % UInt8.ofNat 4).toNat:Int)));letI zb':=(f2 tau (if IntKind.i64.wrap (2+(↑(m % UInt8.ofNat 4).toNat:Int)) > IntKind.i64.wrap (2+(↑(n % UInt8.ofNat 4).toNat:Int)) then IntKind.i64.wrap (2+(↑(m % UInt8.ofNat 4).toNat:Int)) else IntKind.i64.wrap (2+(↑(n % UInt8.ofNat 4).toNat:Int))));letI zc':=(0+(za'.toNat-0)*13<=(rowsC RK.g1 zb'.fst.fst).length/\0=0/\za'.toNat-0<1125899906842624/\0=0/\13=13)/\fewP (List.take (za'.toNat-0) (List.drop 0 zb'.fst.fst),zb'.fst.snd);letI zd':=(2+(↑(m % UInt8.ofNat 4).toNat:Int));letI ze':=(2+(↑(n % UInt8.ofNat 4).toNat:Int));letI zf':=List.drop 0 (f2 tau za').fst.fst;letI zg':=rowsC RK.g1 zb'.fst.fst;letI zh':=List.drop 0 zb'.fst.fst;
 (.br (!(f0)) (.leaf (some ((false,.t)))) (.br (!(f1 tau)) (.leaf (some ((true,.t)))) (.br (frEq (tau) ({ l0:=UInt64.ofNat 0,l1:=UInt64.ofNat 0,l2:=UInt64.ofNat 0,l3:=UInt64.ofNat 0 })) (.leaf (some ((true,.t)))) (.br (zb'.snd != 0) (.leaf (some ((false,.t)))) (.br ((f2 tau za').snd != 0) (.leaf (some ((false,.t)))) (.vc (0+zb'.fst.fst.length*13<=zg'.length/\0<13) (.br (decide ((↑zb'.fst.fst.length:Int)<if IntKind.i64.wrap zd'<IntKind.i64.wrap ze' then IntKind.i64.wrap zd' else IntKind.i64.wrap ze')) (.leaf (some ((false,.t)))) (.vc ((0<=if IntKind.i64.wrap zd'<IntKind.i64.wrap ze' then IntKind.i64.wrap zd' else IntKind.i64.wrap ze')/\0<=za'.toNat/\za'.toNat<=zb'.fst.fst.length/\0+zb'.fst.fst.length*13<=zg'.length/\0<13/\(0=0 \/ 0<za'.toNat)/\0=0/\13=13) (.vc (zc'/\(0+(f2 tau za').fst.fst.length*13<=(rowsC RK.g1 (f2 tau za').fst.fst).length/\0=0/\(f2 tau za').fst.fst.length<1125899906842624/\0=0/\13=13)/\fewP (List.take (f2 tau za').fst.fst.length zf',(f2 tau za').fst.snd)) (.br (f3 (List.take (za'.toNat-0) zh',zb'.fst.snd) (List.take (f2 tau za').fst.fst.length zf',(f2 tau za').fst.snd)) (.vc zc' (.leaf (some ((f4 (List.take (za'.toNat-0) zh',zb'.fst.snd)==0,.t))))) (.leaf (some ((false,.t))))))))))))))
theorem srsFronts_run (f0:Bool) (f1:Fr->Bool) (f2:Fr->Int->(List Pg1 × Pg2) × Int) (f3:List Pg1 × Pg2->List Pg1 × Pg2->Bool) (f4:List Pg1 × Pg2->Int) (tau:Fr) (n:UInt8) (m:UInt8):endT (Ens [(7,K0  kBool.rs.out.res f0),(8,Krb f1),(9,K2 (kRow Fr).arg kInt.arg oMk.res f2),(10,K2 aPow aPow kBool.rs.res f3),(11,K1 aPow kInt.rs.res f4)] [9]) kBool.rs.out 300 Tryz.f3 (flat (codeOf Tryz.f3)) (startSt Tryz.f3 [.one ((kRow Fr).av tau),.one (kU8.av n),.one (kU8.av m)] [])=srsFronts_T f0 f1 f2 f3 f4 tau n m:=by kernel_rfl
def srsFronts (tau:Fr) (n:UInt8) (m:UInt8):Bool:=(srsFronts_T begun17 mayRF makeF sameF checkF tau n m).outD false
theorem srsFronts_gives' (h : ∀ (tau:Fr) (n:UInt8) (m:UInt8),(srsFronts_T begun17 mayRF makeF sameF checkF tau n m).full=true/\(srsFronts_T begun17 mayRF makeF sameF checkF tau n m).okAll) {w:World} {vtau vn vm:Value} {tau:Fr} {n:UInt8} {m:UInt8} (gtau:(kRow Fr).arg.is w vtau tau) (gn:kU8.arg.is w vn n) (gm:kU8.arg.is w vm m):Gives Tryz.prog 3 #[vtau,vn,vm] w kBool.rs.out.res (srsFronts tau n m) :=
 G3g (E:=Ens [(7,K0  kBool.rs.out.res begun17),(8,Krb mayRF),(9,K2 (kRow Fr).arg kInt.arg oMk.res makeF),(10,K2 aPow aPow kBool.rs.res sameF),(11,K1 aPow kInt.rs.res checkF)] [9]) Tryz.func3 (c:=codeOf Tryz.f3) (by kernel_rfl) (kRow Fr).inp kU8.inp kU8.inp kBool.rs.out (srsFronts tau n m) gtau gn gm fun _ _ _=>DoesL.outs (Ens_ok (.cons begun17_ok (.cons mayR_ok (.cons makeF_ok (.cons sameF_ok (.cons checkF_ok .nil)))))) 300 false (srsFronts_run begun17 mayRF makeF sameF checkF tau n m) (h tau n m).1 (h tau n m).2
end
set_option maxRecDepth 100000
section
theorem cond_and7 (a b:Bool):cond a b false=(a && b):=by cases a <;> rfl
def fr1':Fr:=⟨UInt64.ofNat 1,UInt64.ofNat 0,UInt64.ofNat 0,UInt64.ofNat 0⟩
theorem begun17_G (P:Fr->Int->(List Pg1 × Pg2) × Int) (o1:Pg1) (o2:Pg2) (K:List Pg1 × Pg2->Int):(begun17_T P o1 o2 K).outD false =
  ((P fr1' 2).2==0 && (((P fr1' 2).1.1.length:Int)==2 && (pg1Eq ((P fr1' 2).1.1.getD 1 pg10) o1 && (pg2Eq (P fr1' 2).1.2 o2 && K (List.take (P fr1' 2).1.1.length (List.drop 0 (P fr1' 2).1.1),(P fr1' 2).1.2)==0)))):=by
 unfold begun17_T
 simp only [outD_br,outD_vc,outD_leaf,cond_and7]
 rfl
theorem fr1_ok:fr1'.ok:=oneFr_ok
theorem fr1_v:fr1'.v=1:=v_oneFr
theorem fr1_nz:frEq fr1' frZ=false:=by decide
theorem begun17_true:begun17=true:=by
 unfold begun17
 rw [begun17_G]
 have e:=makeF_pow fr1_nz (n:=2) (by decide) (by decide)
 rw [show ((2:Nat):Int)=2 from rfl] at e
 rw [e]
 dsimp only
 have hl:=mkP_len fr1' 2
 have hp:At1 ((mkP fr1' 2).1.getD 1 pg10) (fr1'.v ^ 1):=by
  rw [mkP_eq fr1_ok]
  exact powsF_at fr1_ok 2 (by decide)
 rw [fr1_v,one_pow'] at hp
 have ht:=at2_mulp fr1_ok
 rw [fr1_v] at ht
 rw [powEta,check_mkP fr1_ok fr1_nz (by decide) (by decide),hl,(pg1Eq_iff _ _).2 (hp.eq at1_gen),mkP_snd,(pg2Eq_iff _ _).2 (ht.eq at2_gen)]
 rfl
def frE (n:UInt8):Int:=IntKind.i64.wrap (2+(((n % UInt8.ofNat 4).toNat:Nat):Int))
def frHi (n m:UInt8):Int:=if frE m > frE n then frE m else frE n
def frLo (n m:UInt8):Int:=if frE m<frE n then frE m else frE n
theorem frE_nat (n:UInt8) : ∃ a:Nat,frE n=(a:Int)/\2<=a/\a<=5:=by
 refine ⟨2+(n % UInt8.ofNat 4).toNat,?_,by omega,?_⟩
 ·have h:(n % UInt8.ofNat 4).toNat<4:=by
   rw [UInt8.toNat_mod]
   exact Nat.mod_lt _ (by decide)
  unfold frE
  rw [IntWalk.i64_in _ (by omega)]
  omega
 ·have h:(n % UInt8.ofNat 4).toNat<4:=by
   rw [UInt8.toNat_mod]
   exact Nat.mod_lt _ (by decide)
  omega
theorem frHL (n m:UInt8) : ∃ a b:Nat,frLo n m=(a:Int)/\frHi n m=(b:Int)/\2<=a/\a<=b/\b<=5:=by
 obtain ⟨a,ha,a1,a2⟩:=frE_nat n
 obtain ⟨b,hb,b1,b2⟩:=frE_nat m
 unfold frLo frHi
 rw [ha,hb]
 by_cases h:(b:Int)<(a:Int)
 ·exact ⟨b,a,if_pos h,if_neg (by omega),by omega,by omega,by omega⟩
 ·by_cases h2:(a:Int)<(b:Int)
  ·exact ⟨a,b,if_neg h,if_pos h2,by omega,by omega,by omega⟩
  ·exact ⟨a,a,if_neg h,by rw [if_neg (by omega)],by omega,by omega,by omega⟩
def frontOf (P:(List Pg1 × Pg2) × Int) (l:Int):List Pg1 × Pg2:=(List.take (l.toNat-0) (List.drop 0 P.1.1),P.1.2)
def wholeOf (P:(List Pg1 × Pg2) × Int):List Pg1 × Pg2:=(List.take P.1.1.length (List.drop 0 P.1.1),P.1.2)
theorem srsFronts_G (b:Bool) (M:Fr->Bool) (P:Fr->Int->(List Pg1 × Pg2) × Int) (S:List Pg1 × Pg2->List Pg1 × Pg2->Bool) (K:List Pg1 × Pg2->Int) (tau:Fr) (n m:UInt8):(srsFronts_T b M P S K tau n m).outD false =
  cond (!b) false (cond (!M tau) true (cond (frEq tau frZ) true (cond ((P tau (frHi n m)).2 != 0) false (cond ((P tau (frLo n m)).2 != 0) false (cond (decide (((P tau (frHi n m)).1.1.length:Int)<frLo n m)) false
   (S (frontOf (P tau (frHi n m)) (frLo n m)) (wholeOf (P tau (frLo n m))) && K (frontOf (P tau (frHi n m)) (frLo n m))==0)))))):=by
 unfold srsFronts_T
 simp only [outD_br,outD_vc,outD_leaf,cond_and7]
 rfl
theorem srsFronts_law (tau:Fr) (n m:UInt8):srsFronts tau n m=true:=by
 unfold srsFronts
 rw [srsFronts_G,begun17_true]
 cases e1:mayRF tau with
 | false=>rfl
 | true =>
  cases e2:frEq tau frZ with
  | true=>rfl
  | false =>
   obtain ⟨a,b,ha,hb,h1,h2,h3⟩:=frHL n m
   have hk:=mayR_ok' e1
   rw [ha,hb,makeF_pow e2 (by omega) (by omega),makeF_pow e2 (by omega) (by omega)]
   have hf:frontOf (mkP tau b,0) (a:Int)=mkP tau a:=by
    unfold frontOf
    dsimp only
    rw [Int.toNat_natCast,Nat.sub_zero,List.drop_zero,mkP_take tau h2,mkP_snd,<- mkP_snd tau a]
   have hw:wholeOf (mkP tau a,0)=mkP tau a:=by
    unfold wholeOf
    dsimp only
    rw [powEta]
   rw [hf,hw,sameF_self,check_mkP hk e2 (by omega) (by omega)]
   dsimp only
   rw [mkP_len,decide_eq_false (by omega)]
   rfl
theorem srsFronts_ok (tau:Fr) (n m:UInt8):(srsFronts_T begun17 mayRF makeF sameF checkF tau n m).full=true/\(srsFronts_T begun17 mayRF makeF sameF checkF tau n m).okAll:=by
 refine ⟨rfl,fun _=>trivial,fun _=>⟨fun _=>trivial,fun _=>⟨fun _=>trivial,fun e2 => ?_⟩⟩⟩
 have e2:frEq tau frZ=false:=e2
 obtain ⟨a,b,ha,hb,h1,h2,h3⟩:=frHL n m
 have hP:=makeF_pow e2 (n:=b) (by omega) (by omega)
 have hQ:=makeF_pow e2 (n:=a) (by omega) (by omega)
 rw [<- hb] at hP
 rw [<- ha] at hQ
 have lP:(makeF tau (frHi n m)).1.1.length=b:=by rw [hP];exact mkP_len _ _
 have lQ:(makeF tau (frLo n m)).1.1.length=a:=by rw [hQ];exact mkP_len _ _
 have ta:(frLo n m).toNat=a:=by rw [ha];exact Int.toNat_natCast _
 have fQ:few (makeF tau (frLo n m)).1.1:=by show List.length _<4294967296;omega
 have v1:(0+((frLo n m).toNat-0)*13<=(rowsC RK.g1 (makeF tau (frHi n m)).1.1).length/\0=0/\(frLo n m).toNat-0<1125899906842624/\0=0/\13=13)/\fewP (List.take ((frLo n m).toNat-0) (List.drop 0 (makeF tau (frHi n m)).1.1),(makeF tau (frHi n m)).1.2):=by
  rw [ta]
  refine ⟨⟨by rw [rowsC_g1,lP];omega,rfl,by omega,rfl,rfl⟩,?_⟩
  show List.length (List.take _ _)<4294967296
  rw [List.length_take]
  omega
 have v2:(0<=frLo n m)/\0<=(frLo n m).toNat/\(frLo n m).toNat<=(makeF tau (frHi n m)).1.1.length/\0+(makeF tau (frHi n m)).1.1.length*13<=(rowsC RK.g1 (makeF tau (frHi n m)).1.1).length/\0<13/\(0=0 \/ 0<(frLo n m).toNat)/\0=0/\13=13 :=
  ⟨by omega,Nat.zero_le _,by omega,(vcLenG1 _).1,by decide,.inl rfl,rfl,rfl⟩
 exact ⟨fun _=>trivial,fun _=>⟨fun _=>trivial,fun _=>⟨vcLenG1 _,fun _=>trivial,fun _=>⟨v2,⟨v1,vcFewG fQ⟩,fun _=>⟨v1,trivial⟩,fun _=>trivial⟩⟩⟩⟩
theorem srsFronts_gives {w:World} {v0 v1 v2:Value} {tau:Fr} {n m:UInt8} (g0:(kRow Fr).arg.is w v0 tau) (g1:kU8.arg.is w v1 n) (g2:kU8.arg.is w v2 m):Gives Tryz.prog 3 #[v0,v1,v2] w kBool.rs.res true:=by
 have:=srsFronts_gives' srsFronts_ok g0 g1 g2
 rw [srsFronts_law] at this
 exact this
end
end Go.Proofs.YtcbplfkeeaecgaaGreat
