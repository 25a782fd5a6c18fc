/- Texts of the proof, joined. -/
import Derived.Test.YtgpafcehehaiiaaGreatZL7
set_option linter.unusedSectionVars false
set_option linter.unusedSimpArgs false
set_option linter.unusedVariables false
set_option maxRecDepth 100000
namespace Go.Proofs.YtgpafcehehaiiaaGreat
open Go.RowKit
def unblkK:Code->Code
 | .block _ c=>c
 | c=>c
noncomputable abbrev powRC:List Code:=flat (codeOf Tryz.f135)
noncomputable abbrev powRB:Code:=loopAt Tryz.f135 0
noncomputable abbrev powRE (oF':UInt64->Fr) (mF:Fr->Fr->Fr) (bF:List UInt64->Nat->UInt64):Env:=En [(46,K1 kU64.arg r4.res oF'),(29,Kr2 mF),(166,K2 aL argIdx kU64.rs.res bF)]
def powRSt (e:List UInt64) (a x:Fr) (z:Int):St:=mkSt 27 [(1,inV 0 e),(2,ptrV 1),(4,ptrV 2),(5,ptrV 3),(6,vI z)] [inHE eU64 e,own 24 (Row.cs a),own 24 (zeros 4),own 24 (Row.cs x)]
theorem powR_start (oF':UInt64->Fr) (mF:Fr->Fr->Fr) (bF:List UInt64->Nat->UInt64) (a:Fr) (e:List UInt64):stageT (powRE oF' mF bF) 100 (powRC.take 3) (startSt Tryz.f135 [v4 a,iL.av 0 e] [inHE eU64 e]) [1,2,4,5,6] [0,1,2,3] =
 (.vc (0+e.length*1<=(List.map EK.u64.cell e).length/\0<1)
  (.leaf (mkSt 27 [(1,.one (.c (.slc 0 0 (e.length) 1 (.of 0) false))),(2,.one (.c (.ptr 1 0))),(4,.one (.c (.ptr 2 0))),(5,.one (.c (.ptr 3 0))),(6,.one (.c (.int .i64 (IntKind.i64.wrap (IntKind.i64.wrap (64*(↑e.length:Int))-1)))))] [.live ⟨false,0,1,(.elts .u64 (e:List UInt64)),false⟩,.live ⟨true,24,0,(.row (Row.cs (a:Fr))),false⟩,.live ⟨true,24,0,(.row [(.lit .u64 0),(.lit .u64 0),(.lit .u64 0),(.lit .u64 0)]),false⟩,.live ⟨true,24,0,(.row (Row.cs (oF' (UInt64.ofNat 1):Fr))),false⟩]))):=by kernel_rfl
theorem powR_round (oF':UInt64->Fr) (mF:Fr->Fr->Fr) (bF:List UInt64->Nat->UInt64) (a x:Fr) (e:List UInt64) (z:Int):roundT (powRE oF' mF bF) 100 powRB (powRSt e a x z) (same [1,2,4,5,6] [0,1,2,3]) =
 (.br (decide (z >= 0))
  (.vc ((0+e.length<=e.length/\e.length<1125899906842624/\0=0/\1=1)/\0<=z/\z<9223372036854775808)
   (.br (bF (List.take e.length (List.drop 0 e)) z.toNat==UInt64.ofNat 1)
    (.leaf ((.normal,mkSt 27 [(1,.one (.c (.slc 0 0 (e.length) 1 (.of 0) false))),(2,.one (.c (.ptr 1 0))),(4,.one (.c (.ptr 2 0))),(5,.one (.c (.ptr 3 0))),(6,.one (.c (.int .i64 (IntKind.i64.wrap (z-1)))))] [.live ⟨false,0,1,(.elts .u64 (e:List UInt64)),false⟩,.live ⟨true,24,0,(.row (Row.cs (a:Fr))),false⟩,.live ⟨true,24,0,(.row [(.lit .u64 0),(.lit .u64 0),(.lit .u64 0),(.lit .u64 0)]),false⟩,.live ⟨true,24,0,(.row (Row.cs (mF (mF x x) a:Fr))),false⟩])))
    (.leaf ((.normal,mkSt 27 [(1,.one (.c (.slc 0 0 (e.length) 1 (.of 0) false))),(2,.one (.c (.ptr 1 0))),(4,.one (.c (.ptr 2 0))),(5,.one (.c (.ptr 3 0))),(6,.one (.c (.int .i64 (IntKind.i64.wrap (z-1)))))] [.live ⟨false,0,1,(.elts .u64 (e:List UInt64)),false⟩,.live ⟨true,24,0,(.row (Row.cs (a:Fr))),false⟩,.live ⟨true,24,0,(.row [(.lit .u64 0),(.lit .u64 0),(.lit .u64 0),(.lit .u64 0)]),false⟩,.live ⟨true,24,0,(.row (Row.cs (mF x x:Fr))),false⟩])))))
  (.leaf ((.exit 0,mkSt 27 [(1,.one (.c (.slc 0 0 (e.length) 1 (.of 0) false))),(2,.one (.c (.ptr 1 0))),(4,.one (.c (.ptr 2 0))),(5,.one (.c (.ptr 3 0))),(6,.one (.c (.int .i64 (z))))] [.live ⟨false,0,1,(.elts .u64 (e:List UInt64)),false⟩,.live ⟨true,24,0,(.row (Row.cs (a:Fr))),false⟩,.live ⟨true,24,0,(.row [(.lit .u64 0),(.lit .u64 0),(.lit .u64 0),(.lit .u64 0)]),false⟩,.live ⟨true,24,0,(.row (Row.cs (x:Fr))),false⟩])))):=by kernel_rfl
theorem powR_end (oF':UInt64->Fr) (mF:Fr->Fr->Fr) (bF:List UInt64->Nat->UInt64) (a x:Fr) (e:List UInt64) (z:Int):endT (powRE oF' mF bF) r4.out 100 Tryz.f135 (powRC.drop 4) (powRSt e a x z) =
 (.leaf (some ((x,.t)))):=by kernel_rfl
abbrev r4I:Rs (Fr × Int):=(kRow Fr).rs2 kInt
noncomputable abbrev invRE (m:Fr) (lF:List UInt64->List UInt64->List UInt64 × Int) (pF:Fr->List UInt64->Fr):Env:=Ens [(53,K0 (rS4 22) m),(134,K2 aLt aLt rLI lF),(135,K2 (kRow Fr).arg aL r4.res pF)] [53,134]
theorem invR_run (m:Fr) (lF:List UInt64->List UInt64->List UInt64 × Int) (pF:Fr->List UInt64->Fr) (a:Fr):plainRun (invRE m lF pF) r4I 100 Tryz.f87 [v4 a] =
 (.br (frEq (a) ({ l0:=UInt64.ofNat 0,l1:=UInt64.ofNat 0,l2:=UInt64.ofNat 0,l3:=UInt64.ofNat 0 }))
  (.leaf (some ((a,7))))
  (.vc (tiny [m.l0,m.l1,m.l2,m.l3]/\tiny [UInt64.ofNat 2])
   (.vc (0+(lF [m.l0,m.l1,m.l2,m.l3] [UInt64.ofNat 2]).fst.length<=(lF [m.l0,m.l1,m.l2,m.l3] [UInt64.ofNat 2]).fst.length/\(lF [m.l0,m.l1,m.l2,m.l3] [UInt64.ofNat 2]).fst.length<1125899906842624/\0=0/\1=1)
    (.leaf (some ((pF a (List.take (lF [m.l0,m.l1,m.l2,m.l3] [UInt64.ofNat 2]).fst.length (List.drop 0 (lF [m.l0,m.l1,m.l2,m.l3] [UInt64.ofNat 2]).fst)),0))))))):=by kernel_rfl
abbrev oDv:Out (List Fr × Int):=outRwU .fr kInt 24
noncomputable abbrev dvC:List Code:=flat (codeOf Tryz.f50)
noncomputable abbrev dvB:Code:=loopAt Tryz.f50 0
noncomputable abbrev dvI:Code:=loopAt Tryz.f50 1
noncomputable abbrev dvD:Code:=match nth (flat dvB) 2 with | some c=>unblkK c | none => .skip
theorem dvB_split:(flat dvB).drop 2 = .block 1 dvD :: (flat dvB).drop 3:=by kernel_rfl
theorem dvB_last:((flat dvB).drop 3).drop 1 = []:=by kernel_rfl
theorem dvD_split:(flat dvD).drop 3 = .block 2 (.loop dvI) :: []:=by kernel_rfl
noncomputable abbrev dvE (cF:List Fr->List Fr) (iF:Fr->Fr × Int) (mF sF:Fr->Fr->Fr):Env:=Ens [(25,Kcut cF),(87,K1 (kRow Fr).arg r4I.res iF),(29,Kr2 mF),(27,Kr2 sF)] [25]
def dvS (A B:List Fr) (ca cb cq:Nat) (t:Fr) (q:List Fr) (i:Int):St:=mkSt 84 [(0,slFr 0 ca),(1,slFr 1 cb),(7,ptrV 2),(9,slFr 3 cq),(10,vI i)] [ownFrs A,ownFrs B,own 24 (Row.cs t),ownFrs q]
def dvSi (A B:List Fr) (ca cb cq:Nat) (t:Fr) (q:List Fr) (i:Int) (k:Fr) (j:Int):St:=mkSt 84 [(0,slFr 0 ca),(1,slFr 1 cb),(7,ptrV 2),(9,slFr 3 cq),(10,vI i),(11,ptrV 4),(12,vI j)] [ownFrs A,ownFrs B,own 24 (Row.cs t),ownFrs q,own 24 (Row.cs k)]
theorem dv_start (cF:List Fr->List Fr) (iF:Fr->Fr × Int) (mF sF:Fr->Fr->Fr) (a b:List Fr):segT (dvE cF iF mF sF) oDv 300 Tryz.f50 (dvC.take 7) (startSt Tryz.f50 [rwV .fr 0 a,rwV .fr 1 b] [rwHE .fr a,rwHE .fr b]) [0,1,7,9,10] [2,3,4,5] [(0,.as),(1,.as),(7,.as),(9,.as),(10,.int)] [.as,.as,.one .fr,.as] [] =
 (.vc ((0+a.length*4<=(rowsC RK.fr a).length/\0=0/\a.length<1125899906842624/\0=0/\4=4)/\fewR (List.take a.length (List.drop 0 a)))
  (.vc ((0+b.length*4<=(rowsC RK.fr b).length/\0=0/\b.length<1125899906842624/\0=0/\4=4)/\fewR (List.take b.length (List.drop 0 b)))
   (.vc (0+(cF (List.take b.length (List.drop 0 b))).length*4<=(rowsC RK.fr (cF (List.take b.length (List.drop 0 b)))).length/\0<4)
    (.br ((↑(cF (List.take b.length (List.drop 0 b))).length:Int)==0)
     (.leaf (.inr (some ((([],7),.t)))))
     (.vc (0+(cF (List.take b.length (List.drop 0 b))).length*4<=(rowsC RK.fr (cF (List.take b.length (List.drop 0 b)))).length/\0<4)
      (.vc ((0<=IntKind.i64.wrap ((↑(cF (List.take b.length (List.drop 0 b))).length:Int)-1)/\IntKind.i64.wrap ((↑(cF (List.take b.length (List.drop 0 b))).length:Int)-1)<(↑(cF (List.take b.length (List.drop 0 b))).length:Int))/\0+(cF (List.take b.length (List.drop 0 b))).length*4<=(rowsC RK.fr (cF (List.take b.length (List.drop 0 b)))).length/\0<4/\0=0)
       (.vc (0+(IntKind.i64.wrap ((↑(cF (List.take b.length (List.drop 0 b))).length:Int)-1)).toNat<(cF (List.take b.length (List.drop 0 b))).length)
        (.vc (0+(cF (List.take a.length (List.drop 0 a))).length*4<=(rowsC RK.fr (cF (List.take a.length (List.drop 0 a)))).length/\0<4)
         (.vc (0<=(↑(cF (List.take a.length (List.drop 0 a))).length:Int)/\(↑(cF (List.take a.length (List.drop 0 a))).length:Int)<=(↑(cF (List.take a.length (List.drop 0 a))).length:Int)/\(↑32:Int)*(↑(cF (List.take a.length (List.drop 0 a))).length:Int)<=281474976710656/\(↑(cF (List.take a.length (List.drop 0 a))).length:Int)<1125899906842624)
          (.vc (0+(cF (List.take a.length (List.drop 0 a))).length*4<=(rowsC RK.fr (cF (List.take a.length (List.drop 0 a)))).length/\0<4)
           (.vc (0+(cF (List.take b.length (List.drop 0 b))).length*4<=(rowsC RK.fr (cF (List.take b.length (List.drop 0 b)))).length/\0<4)
            (.leaf (.inl (mkSt 84 [(0,.one (.c (.slc 0 0 ((cF (List.take a.length (List.drop 0 a))).length) 4 (.of 0) false))),(1,.one (.c (.slc 1 0 ((cF (List.take b.length (List.drop 0 b))).length) 4 (.of 0) false))),(7,.one (.c (.ptr 2 0))),(9,.one (.c (.slc 3 0 ((↑(cF (List.take a.length (List.drop 0 a))).length:Int).toNat) 4 (.of 0) false))),(10,.one (.c (.int .i64 (IntKind.i64.wrap ((↑(cF (List.take a.length (List.drop 0 a))).length:Int)-(↑(cF (List.take b.length (List.drop 0 b))).length:Int))))))] [.live ⟨true,24,4,(.rows .fr (cF (List.take a.length (List.drop 0 a)):List Fr)),false⟩,.live ⟨true,24,4,(.rows .fr (cF (List.take b.length (List.drop 0 b)):List Fr)),false⟩,.live ⟨true,24,0,(.row (Row.cs ((iF ((cF (List.take b.length (List.drop 0 b))).getD (0+(IntKind.i64.wrap ((↑(cF (List.take b.length (List.drop 0 b))).length:Int)-1)).toNat) { l0:=0,l1:=0,l2:=0,l3:=0 })).fst:Fr))),false⟩,.live ⟨true,24,4,(.rows .fr (List.replicate (↑(cF (List.take a.length (List.drop 0 a))).length:Int).toNat { l0:=0,l1:=0,l2:=0,l3:=0 }:List Fr)),false⟩])))))))))))))):=by kernel_rfl
theorem dv_head (cF:List Fr->List Fr) (iF:Fr->Fr × Int) (mF sF:Fr->Fr->Fr) (A B:List Fr) (ca cb cq:Nat) (t:Fr) (q:List Fr) (i:Int):partT (dvE cF iF mF sF) 100 ((flat dvB).take 2) (dvS A B ca cb cq t q i) (following [0,1,7,9,10] [0,1,2,3] []) =
 (.br (decide (i >= 0))
  (.leaf ((.normal,mkSt 84 [(0,.one (.c (.slc 0 0 (ca) 4 (.of 0) false))),(1,.one (.c (.slc 1 0 (cb) 4 (.of 0) false))),(7,.one (.c (.ptr 2 0))),(9,.one (.c (.slc 3 0 (cq) 4 (.of 0) false))),(10,.one (.c (.int .i64 (i))))] [.live ⟨true,24,4,(.rows .fr (A:List Fr)),false⟩,.live ⟨true,24,4,(.rows .fr (B:List Fr)),false⟩,.live ⟨true,24,0,(.row (Row.cs (t:Fr))),false⟩,.live ⟨true,24,4,(.rows .fr (q:List Fr)),false⟩])))
  (.leaf ((.exit 0,mkSt 84 [(0,.one (.c (.slc 0 0 (ca) 4 (.of 0) false))),(1,.one (.c (.slc 1 0 (cb) 4 (.of 0) false))),(7,.one (.c (.ptr 2 0))),(9,.one (.c (.slc 3 0 (cq) 4 (.of 0) false))),(10,.one (.c (.int .i64 (i))))] [.live ⟨true,24,4,(.rows .fr (A:List Fr)),false⟩,.live ⟨true,24,4,(.rows .fr (B:List Fr)),false⟩,.live ⟨true,24,0,(.row (Row.cs (t:Fr))),false⟩,.live ⟨true,24,4,(.rows .fr (q:List Fr)),false⟩])))):=by kernel_rfl
theorem dv_in (cF:List Fr->List Fr) (iF:Fr->Fr × Int) (mF sF:Fr->Fr->Fr) (A B:List Fr) (ca cb cq:Nat) (t:Fr) (q:List Fr) (i:Int):stageG (dvE cF iF mF sF) 300 ((flat dvD).take 3) (dvS A B ca cb cq t q i) [0,1,7,9,10,11,12] [0,1,2,3,4] [(0,.as),(1,.as),(7,.as),(9,.as),(10,.as),(11,.as),(12,.int)] [.as,.as,.as,.as,.one .fr] [] =
 (.vc (0+cb*4<=(rowsC RK.fr B).length/\0<4)
  (.vc ((0<=IntKind.i64.wrap (IntKind.i64.wrap (i+(↑cb:Int))-1)/\IntKind.i64.wrap (IntKind.i64.wrap (i+(↑cb:Int))-1)<(↑ca:Int))/\0+ca*4<=(rowsC RK.fr A).length/\0<4/\0=0)
   (.vc (0+(IntKind.i64.wrap (IntKind.i64.wrap (i+(↑cb:Int))-1)).toNat<A.length)
    (.vc ((0<=i/\i<(↑cq:Int))/\0+cq*4<=(rowsC RK.fr q).length/\0<4/\0=0)
     (.vc (0+i.toNat<q.length)
      (.leaf (mkSt 84 [(0,.one (.c (.slc 0 0 (ca) 4 (.of 0) false))),(1,.one (.c (.slc 1 0 (cb) 4 (.of 0) false))),(7,.one (.c (.ptr 2 0))),(9,.one (.c (.slc 3 0 (cq) 4 (.of 0) false))),(10,.one (.c (.int .i64 (i)))),(11,.one (.c (.ptr 4 0))),(12,.one (.c (.int .i64 0)))] [.live ⟨true,24,4,(.rows .fr (A:List Fr)),false⟩,.live ⟨true,24,4,(.rows .fr (B:List Fr)),false⟩,.live ⟨true,24,0,(.row (Row.cs (t:Fr))),false⟩,.live ⟨true,24,4,(.rows .fr (q.set (0+i.toNat) (mF (A.getD (0+(IntKind.i64.wrap (IntKind.i64.wrap (i+(↑cb:Int))-1)).toNat) { l0:=0,l1:=0,l2:=0,l3:=0 }) t):List Fr)),false⟩,.live ⟨true,24,0,(.row (Row.cs (mF (A.getD (0+(IntKind.i64.wrap (IntKind.i64.wrap (i+(↑cb:Int))-1)).toNat) { l0:=0,l1:=0,l2:=0,l3:=0 }) t:Fr))),false⟩]))))))):=by kernel_rfl
theorem dv_round (cF:List Fr->List Fr) (iF:Fr->Fr × Int) (mF sF:Fr->Fr->Fr) (A B:List Fr) (ca cb cq:Nat) (t:Fr) (q:List Fr) (i:Int) (k:Fr) (j:Int):roundT (dvE cF iF mF sF) 300 dvI (dvSi A B ca cb cq t q i k j) (same [0,1,7,9,10,11,12] [0,1,2,3,4]) =
 (.vc (0+cb*4<=(rowsC RK.fr B).length/\0<4)
  (.br (decide (j<(↑cb:Int)))
   (.vc ((0<=IntKind.i64.wrap (i+j)/\IntKind.i64.wrap (i+j)<(↑ca:Int))/\0+ca*4<=(rowsC RK.fr A).length/\0<4/\0=0)
    (.vc (0+(IntKind.i64.wrap (i+j)).toNat<A.length)
     (.vc ((0<=j/\j<(↑cb:Int))/\0+cb*4<=(rowsC RK.fr B).length/\0<4/\0=0)
      (.vc (0+j.toNat<B.length)
       (.vc ((0<=IntKind.i64.wrap (i+j)/\IntKind.i64.wrap (i+j)<(↑ca:Int))/\0+ca*4<=(rowsC RK.fr A).length/\0<4/\0=0)
        (.vc (0+(IntKind.i64.wrap (i+j)).toNat<A.length)
         (.leaf ((.normal,mkSt 84 [(0,.one (.c (.slc 0 0 (ca) 4 (.of 0) false))),(1,.one (.c (.slc 1 0 (cb) 4 (.of 0) false))),(7,.one (.c (.ptr 2 0))),(9,.one (.c (.slc 3 0 (cq) 4 (.of 0) false))),(10,.one (.c (.int .i64 (i)))),(11,.one (.c (.ptr 4 0))),(12,.one (.c (.int .i64 (IntKind.i64.wrap (j+1)))))] [.live ⟨true,24,4,(.rows .fr (A.set (0+(IntKind.i64.wrap (i+j)).toNat) (sF (A.getD (0+(IntKind.i64.wrap (i+j)).toNat) { l0:=0,l1:=0,l2:=0,l3:=0 }) (mF k (B.getD (0+j.toNat) { l0:=0,l1:=0,l2:=0,l3:=0 }))):List Fr)),false⟩,.live ⟨true,24,4,(.rows .fr (B:List Fr)),false⟩,.live ⟨true,24,0,(.row (Row.cs (t:Fr))),false⟩,.live ⟨true,24,4,(.rows .fr (q:List Fr)),false⟩,.live ⟨true,24,0,(.row (Row.cs (k:Fr))),false⟩])))))))))
   (.leaf ((.exit 2,mkSt 84 [(0,.one (.c (.slc 0 0 (ca) 4 (.of 0) false))),(1,.one (.c (.slc 1 0 (cb) 4 (.of 0) false))),(7,.one (.c (.ptr 2 0))),(9,.one (.c (.slc 3 0 (cq) 4 (.of 0) false))),(10,.one (.c (.int .i64 (i)))),(11,.one (.c (.ptr 4 0))),(12,.one (.c (.int .i64 (j))))] [.live ⟨true,24,4,(.rows .fr (A:List Fr)),false⟩,.live ⟨true,24,4,(.rows .fr (B:List Fr)),false⟩,.live ⟨true,24,0,(.row (Row.cs (t:Fr))),false⟩,.live ⟨true,24,4,(.rows .fr (q:List Fr)),false⟩,.live ⟨true,24,0,(.row (Row.cs (k:Fr))),false⟩]))))):=by kernel_rfl
theorem dv_next (cF:List Fr->List Fr) (iF:Fr->Fr × Int) (mF sF:Fr->Fr->Fr) (A B:List Fr) (ca cb cq:Nat) (t:Fr) (q:List Fr) (i:Int) (k:Fr) (j:Int):partT (dvE cF iF mF sF) 100 (((flat dvB).drop 3).take 1) (dvSi A B ca cb cq t q i k j) (following [0,1,7,9,10] [0,1,2,3] []) =
 (.leaf ((.normal,mkSt 84 [(0,.one (.c (.slc 0 0 (ca) 4 (.of 0) false))),(1,.one (.c (.slc 1 0 (cb) 4 (.of 0) false))),(7,.one (.c (.ptr 2 0))),(9,.one (.c (.slc 3 0 (cq) 4 (.of 0) false))),(10,.one (.c (.int .i64 (IntKind.i64.wrap (i-1)))))] [.live ⟨true,24,4,(.rows .fr (A:List Fr)),false⟩,.live ⟨true,24,4,(.rows .fr (B:List Fr)),false⟩,.live ⟨true,24,0,(.row (Row.cs (t:Fr))),false⟩,.live ⟨true,24,4,(.rows .fr (q:List Fr)),false⟩]))):=by kernel_rfl
theorem dv_end (cF:List Fr->List Fr) (iF:Fr->Fr × Int) (mF sF:Fr->Fr->Fr) (A B:List Fr) (ca cb cq:Nat) (t:Fr) (q:List Fr) (i:Int):endT (dvE cF iF mF sF) oDv 300 Tryz.f50 (dvC.drop 8) (dvS A B ca cb cq t q i) =
 (.vc ((0+cq*4<=(rowsC RK.fr q).length/\0=0/\cq<1125899906842624/\0=0/\4=4)/\fewR (List.take cq (List.drop 0 q)))
  (.vc ((0+ca*4<=(rowsC RK.fr A).length/\0=0/\ca<1125899906842624/\0=0/\4=4)/\fewR (List.take ca (List.drop 0 A)))
   (.leaf (some (((List.take (cF (List.take cq (List.drop 0 q))).length (cF (List.take cq (List.drop 0 q))),0),(.p ((cF (List.take cq (List.drop 0 q))).length<=(cF (List.take cq (List.drop 0 q))).length)))))))):=by kernel_rfl
end Go.Proofs.YtgpafcehehaiiaaGreat
set_option maxRecDepth 100000
namespace Go.Proofs.YtgpafcehehaiiaaGreat
open Go.RowKit
def powRAt (a:Fr) (e:List UInt64):Nat->Fr->Fr
 | 0,x=>x
 | n+1,x=>powRAt a e n (match bitAt e n with | true=>mulRF (mulRF x x) a | false=>mulRF x x)
def powRF (a:Fr) (e:List UInt64):Fr:=powRAt a e (64*e.length) (ofRF 1)
abbrev PowROk (a:Fr) (e:List UInt64):Type := { q:Int × Fr // -1<=q.1/\q.1<64*e.length/\powRAt a e (q.1+1).toNat q.2=powRF a e }
theorem powR_ok:CallOk Tryz.prog 135 (K2 (kRow Fr).arg aL r4.res powRF) :=
 G2 (E:=powRE ofRF mulRF bitF) Tryz.func135 (c:=codeOf Tryz.f135) (by kernel_rfl) (bodied Tryz.func135 (by kernel_rfl) (by kernel_rfl)) (kRow Fr).inp iL r4.out powRF fun a e _ he=>by
  have he:e.length<1125899906842624:=he
  have hE:EnvOk (powRE ofRF mulRF bitF):=En_ok (.cons ofRF_ok (.cons mulR_ok (.cons bit_ok .nil)))
  refine DoesL.stageE hE 100 3 _ _ (powR_start ofRF mulRF bitF a e) ⟨vcLen e,fun _ => ?_⟩
  have hw:IntKind.i64.wrap (IntKind.i64.wrap (64*(e.length:Int))-1)=64*(e.length:Int)-1:=by rw [IntWalk.i64_in (64*(e.length:Int)) (by omega),IntWalk.i64_in _ (by omega)]
  rw [hw]
  refine DoesL.blockLoop (B:=powRB) (rest:=powRC.drop 4) (id:=0) (by kernel_rfl) (fun q:PowROk a e=>powRSt e a q.1.2 q.1.1) (fun q=>(q.1.1+1).toNat) ⟨(64*(e.length:Int)-1,ofRF 1),by simp only [];omega,by simp only [];omega,by
   simp only []
   rw [show (64*(e.length:Int)-1+1).toNat=64*e.length by omega]
   rfl⟩ fun q => ?_
  obtain ⟨⟨z,x⟩,h0,h1,h2⟩:=q
  simp only [] at h0 h1 h2
  show Does _ _ (powRSt e a x z) _
  refine Does.round hE 100 _ (powR_round ofRF mulRF bitF a x e z) ⟨fun h => ?_,fun h => ?_⟩
  ·simp only [ge_iff_le,decide_eq_true_eq] at h
   obtain ⟨n,rfl⟩ : ∃ n:Nat,z=(n:Int):=⟨z.toNat,by omega⟩
   rw [wrap_pred n (by omega),whole,Int.toNat_natCast]
   rw [show ((n:Int)+1).toNat=n+1 by omega] at h2
   simp only [powRAt] at h2
   have hb:(bitF e n==UInt64.ofNat 1)=bitAt e n:=by
    unfold bitF
    cases bitAt e n <;> rfl
   rw [hb]
   refine ⟨⟨okL' he,by omega,by omega⟩,fun _=>⟨fun h3 => ?_,fun h3 => ?_⟩⟩
   all_goals
    have hn:((n:Int)-1+1).toNat=n:=by omega
    rw [h3] at h2
    simp only [] at h2
   ·refine ⟨⟨((n:Int)-1,mulRF (mulRF x x) a),?_,?_,?_⟩,?_,?_⟩
    ·show -1<=(n:Int)-1;omega
    ·show (n:Int)-1<64*e.length;omega
    ·simpa only [hn] using h2
    ·show ((n:Int)-1+1).toNat<((n:Int)+1).toNat;omega
    ·kernel_rfl
   ·refine ⟨⟨((n:Int)-1,mulRF x x),?_,?_,?_⟩,?_,?_⟩
    ·show -1<=(n:Int)-1;omega
    ·show (n:Int)-1<64*e.length;omega
    ·simpa only [hn] using h2
    ·show ((n:Int)-1+1).toNat<((n:Int)+1).toNat;omega
    ·kernel_rfl
  ·simp only [ge_iff_le,decide_eq_false_iff_not] at h
   obtain rfl:z = -1:=by omega
   exact ⟨rfl,DoesL.ends hE 100 (powR_end ofRF mulRF bitF a x e (-1)) (reads_t (by
    rw [show ((-1:Int)+1).toNat=0 from rfl] at h2
    simp only [powRAt] at h2
    exact h2))⟩
def rm2:List UInt64:=(rlessF rLimbs.list [2]).1
def invRF (a:Fr):Fr × Int:=match frEq a zeroFr with | true=>(a,7) | false=>(powRF a rm2,0)
theorem rm2_len:rm2.length<=4:=rless_len rLimbs.list [2]
theorem invR_ok:CallOk Tryz.prog 87 (K1 (kRow Fr).arg r4I.res invRF) :=
 P1 (E:=invRE rLimbs rlessF powRF) (Ens_ok (.cons refR_ok (.cons rless_ok (.cons powR_ok .nil)))) Tryz.func87 (bodied Tryz.func87 (by kernel_rfl) (by kernel_rfl)) 100 (kRow Fr) r4I invRF (invR_run rLimbs rlessF powRF)
  (fun a=>by
   refine ⟨fun h => ?_,fun h=>⟨⟨?_,?_⟩,fun _=>⟨okL' ?_,fun _ => ?_⟩⟩⟩
   ·have h:frEq a zeroFr=true:=h
    simp only [invRF]
    rw [h]
    rfl
   ·show 4<_
    decide
   ·show 1<_
    decide
   ·have:=rm2_len
    show rm2.length<_
    omega
   ·have h:frEq a zeroFr=false:=h
    rw [whole]
    simp only [invRF]
    rw [h]
    rfl)
section
variable (mF sF : Fr -> Fr -> Fr)
def dvRow (A B:List Fr) (k:Fr) (i:Nat):Nat->List Fr
 | 0=>A
 | j+1=>(dvRow A B k i j).set (i+j) (sF ((dvRow A B k i j).getD (i+j) frZ) (mF k (B.getD j frZ)))
theorem dvRow_zero (A B:List Fr) (k:Fr) (i:Nat):dvRow mF sF A B k i 0=A:=rfl
theorem dvRow_succ (A B:List Fr) (k:Fr) (i j:Nat):dvRow mF sF A B k i (j+1)=(dvRow mF sF A B k i j).set (i+j) (sF ((dvRow mF sF A B k i j).getD (i+j) frZ) (mF k (B.getD j frZ))):=rfl
theorem dvRow_len (A B:List Fr) (k:Fr) (i:Nat) : ∀ j,(dvRow mF sF A B k i j).length=A.length
 | 0=>rfl
 | j+1=>by rw [dvRow_succ,List.length_set,dvRow_len A B k i j]
def dvR (B:List Fr) (t:Fr):Nat->List Fr × List Fr->List Fr × List Fr
 | 0,s=>s
 | i+1,s=>dvR B t i (dvRow mF sF s.1 B (mF (s.1.getD (i+B.length-1) frZ) t) i B.length,s.2.set i (mF (s.1.getD (i+B.length-1) frZ) t))
theorem dvR_zero (B:List Fr) (t:Fr) (s:List Fr × List Fr):dvR mF sF B t 0 s=s:=rfl
theorem dvR_succ (B:List Fr) (t:Fr) (i:Nat) (A q:List Fr):dvR mF sF B t (i+1) (A,q)=dvR mF sF B t i (dvRow mF sF A B (mF (A.getD (i+B.length-1) frZ) t) i B.length,q.set i (mF (A.getD (i+B.length-1) frZ) t)):=rfl
def dvG (cF:List Fr->List Fr) (iF:Fr->Fr × Int) (a b:List Fr):List Fr × Int :=
 match (cF b).length with
 | 0=>([],7)
 | n+1=>(cF (dvR mF sF (cF b) (iF ((cF b).getD n frZ)).1 ((cF a).length+1-(cF b).length) (cF a,zerosL (cF a).length)).2,0)
end
theorem zerosL_len (n:Nat):(zerosL n).length=n:=by unfold zerosL;rw [List.length_replicate]
section
variable {cF : List Fr -> List Fr} {iF : Fr -> Fr × Int} {mF sF : Fr -> Fr -> Fr}
theorem vcF {A:List Fr} {n c:Nat} (hc:A.length=c) (h:n<c):((0:Int)<=(n:Int)/\(n:Int)<(c:Int))/\0+c*4<=(rowsC RK.fr A).length/\0<4/\0=0:=by
 subst hc
 exact vcIdxFr h
theorem dv_inner (hE:EnvOk (dvE cF iF mF sF)) {B:List Fr} {ca cq:Nat} {t k:Fr} {q A:List Fr} {i:Nat} (hA:A.length=ca) (hi:i+B.length<=ca) (hca:ca<4294967296) {R:X × St->Prop}
  (h : ∀ j,R (.normal,dvSi (dvRow mF sF A B k i B.length) B ca B.length cq t q (i:Int) k j)) :
  DoesL (dvE cF iF mF sF) ((flat dvD).drop 3) (dvSi A B ca B.length cq t q (i:Int) k ((0:Nat):Int)) R:=by
 refine DoesL.blockLoop (B:=dvI) (rest := []) (id:=2) dvD_split (fun j : { j:Nat // j<=B.length }=>dvSi (dvRow mF sF A B k i j.1) B ca B.length cq t q (i:Int) k (j.1:Int)) (fun j=>B.length-j.1) ⟨0,Nat.zero_le _⟩ fun j => ?_
 obtain ⟨j,hj⟩:=j
 show Does _ _ (dvSi (dvRow mF sF A B k i j) B ca B.length cq t q (i:Int) k (j:Int)) _
 have hl:(dvRow mF sF A B k i j).length=ca:=by rw [dvRow_len,hA]
 refine Does.round hE 300 _ (dv_round cF iF mF sF (dvRow mF sF A B k i j) B ca B.length cq t q (i:Int) k (j:Int)) ⟨vcLenFr B,fun _=>⟨fun h1 => ?_,fun h1 => ?_⟩⟩
 ·simp only [decide_eq_true_eq] at h1
  have hj:j<B.length:=by omega
  have hw:IntKind.i64.wrap ((i:Int)+(j:Int))=((i+j:Nat):Int):=by rw [IntWalk.i64_in _ (by omega)];omega
  rw [hw,zeroN,zeroN,wrap_succ j (by omega)]
  refine ⟨vcF hl (by omega),fun _=>⟨by omega,fun _=>⟨vcIdxFr hj,fun _=>⟨hj,fun _=>⟨vcF hl (by omega),fun _=>⟨by omega,fun _ => ?_⟩⟩⟩⟩⟩⟩
  refine ⟨⟨j+1,hj⟩,by show B.length-(j+1)<B.length-j;omega,?_⟩
  show _=dvSi (dvRow mF sF A B k i (j+1)) B ca B.length cq t q (i:Int) k ((j+1:Nat):Int)
  rw [dvRow_succ]
  rfl
 ·simp only [decide_eq_false_iff_not] at h1
  obtain rfl:j=B.length:=by omega
  exact ⟨rfl,_,Wk.refl _,h _⟩
theorem dv_step (hE:EnvOk (dvE cF iF mF sF)) {B:List Fr} {ca:Nat} {t:Fr} {q A:List Fr} {n:Nat} (hA:A.length=ca) (hq:q.length=ca) (hB:0<B.length) (hn:n+B.length<=ca) (hca:ca<4294967296) {R:X × St->Prop}
  (h : ∀ k j,DoesL (dvE cF iF mF sF) ((flat dvB).drop 3) (dvSi (dvRow mF sF A B (mF (A.getD (n+B.length-1) frZ) t) n B.length) B ca B.length ca t (q.set n (mF (A.getD (n+B.length-1) frZ) t)) (n:Int) k j) R) :
  DoesL (dvE cF iF mF sF) ((flat dvB).drop 2) (dvS A B ca B.length ca t q (n:Int)) R:=by
 rw [dvB_split]
 show Does _ (.block 1 dvD) _ (ThenX R fun s=>DoesL _ ((flat dvB).drop 3) s R)
 refine Does.block (Does.flat dvD ?_)
 have hw:IntKind.i64.wrap (IntKind.i64.wrap ((n:Int)+(B.length:Int))-1)=((n+B.length-1:Nat):Int):=by
  rw [IntWalk.i64_in ((n:Int)+(B.length:Int)) (by omega),IntWalk.i64_in _ (by omega)]
  omega
 have st:=dv_in cF iF mF sF A B ca B.length ca t q (n:Int)
 rw [hw,zeroN,zeroN] at st
 refine DoesL.stageG hE 300 3 _ _ _ _ _ st ⟨vcLenFr B,fun _=>⟨vcF hA (by omega),fun _=>⟨by omega,fun _=>⟨vcF hq (by omega),fun _=>⟨by omega,fun _ => ?_⟩⟩⟩⟩⟩
 refine (?_:DoesL _ _ (dvSi A B ca B.length ca t (q.set n (mF (A.getD (n+B.length-1) frZ) t)) (n:Int) (mF (A.getD (n+B.length-1) frZ) t) ((0:Nat):Int)) _)
 exact dv_inner hE hA hn hca fun j=>h _ j
abbrev DvQ (B:List Fr) (t:Fr) (mF sF:Fr->Fr->Fr) (ca:Nat) (S:List Fr × List Fr):Type := { s:Int × List Fr × List Fr // s.1+B.length<=ca/\s.2.1.length=ca/\s.2.2.length=ca/\dvR mF sF B t (s.1+1).toNat s.2=S }
theorem dvG_some {a b:List Fr} {n:Nat} (h:(cF b).length=n+1):dvG mF sF cF iF a b=(cF (dvR mF sF (cF b) (iF ((cF b).getD n frZ)).1 ((cF a).length+1-(cF b).length) (cF a,zerosL (cF a).length)).2,0):=by
 unfold dvG
 rw [h]
theorem dv_does (hE:EnvOk (dvE cF iF mF sF)) (hcut : ∀ l,(cF l).length<=l.length) (a b:List Fr) (ha:fewR a) (hb:fewR b):DoesL (dvE cF iF mF sF) (flat (codeOf Tryz.f50)) (startSt Tryz.f50 [rwV .fr 0 a,rwV .fr 1 b] [rwHE .fr a,rwHE .fr b])
  (EndsAs (dvE cF iF mF sF) Tryz.f50 (Reads oDv (dvG mF sF cF iF a b))):=by
 have st:=dv_start cF iF mF sF a b
 have ha':a.length<4294967296:=ha
 have hb':b.length<4294967296:=hb
 have fa:=vcFew ha
 have fb:=vcFew hb
 rw [wholeFr] at fa fb
 rw [wholeFr,wholeFr] at st
 have ca:=hcut a
 have cb:=hcut b
 refine DoesL.seg hE 300 7 _ _ _ _ _ st ⟨fa,fun _=>⟨fb,fun _=>⟨vcLenFr _,fun _=>⟨fun h => ?_,fun h=>⟨vcLenFr _,fun _ => ?_⟩⟩⟩⟩⟩
 ·refine ⟨.t,?_,trivial⟩
  have h0:(cF b).length=0:=by
   have h:(((cF b).length:Int)==0)=true:=h
   simp only [beq_iff_eq] at h
   omega
  unfold dvG
  rw [h0]
 ·obtain ⟨n,hn⟩ : ∃ n,(cF b).length=n+1:=by
   refine ⟨(cF b).length-1,?_⟩
   have h:(((cF b).length:Int)==0)=false:=h
   simp only [beq_eq_false_iff_ne,ne_eq] at h
   omega
  rw [dvG_some hn]
  have hw:IntKind.i64.wrap (((cF b).length:Int)-1)=((n:Nat):Int):=by rw [IntWalk.i64_in _ (by omega)];omega
  have hw2:IntKind.i64.wrap (((cF a).length:Int)-((cF b).length:Int))=((cF a).length:Int)-((cF b).length:Int):=IntWalk.i64_in _ (by omega)
  rw [hw,hw2,zeroN]
  refine ⟨vcIdxFr (by omega),fun _=>⟨by omega,fun _=>⟨vcLenFr _,fun _=>⟨⟨by omega,by omega,by omega,by omega⟩,fun _=>⟨vcLenFr _,fun _=>⟨vcLenFr _,fun _ => ?_⟩⟩⟩⟩⟩⟩
  generalize hA:cF a=A at *
  generalize hB:cF b=B at *
  rw [Int.toNat_natCast]
  refine (?_:DoesL _ _ (dvS A B A.length B.length A.length (iF (B.getD n frZ)).1 (zerosL A.length) ((A.length:Int)-(B.length:Int))) _)
  generalize (iF (B.getD n frZ)).1=t at *
  generalize hS:(dvR mF sF B t (A.length+1-B.length) (A,zerosL A.length))=S at *
  refine DoesL.blockLoop (B:=dvB) (rest:=dvC.drop 8) (id:=0) (by kernel_rfl) (fun s:DvQ B t mF sF A.length S=>dvS s.1.2.1 B A.length B.length A.length t s.1.2.2 s.1.1) (fun s=>(s.1.1+1).toNat) ⟨((A.length:Int)-(B.length:Int),A,zerosL A.length),by show (A.length:Int)-(B.length:Int)+(B.length:Int)<=(A.length:Int);omega,rfl,zerosL_len _,by
   rw [<- hS]
   show dvR mF sF B t ((A.length:Int)-(B.length:Int)+1).toNat (A,zerosL A.length)=_
   rw [show ((A.length:Int)-(B.length:Int)+1).toNat=A.length+1-B.length by omega]⟩ fun s => ?_
  obtain ⟨⟨i,A1,q1⟩,k1,k2,k3,k4⟩:=s
  have k1:i+B.length<=A.length:=k1
  have k2:A1.length=A.length:=k2
  have k3:q1.length=A.length:=k3
  have k4:dvR mF sF B t (i+1).toNat (A1,q1)=S:=k4
  show Does _ _ (dvS A1 B A.length B.length A.length t q1 i) _
  refine Does.flat dvB ?_
  refine DoesL.part hE 100 2 _ (dv_head cF iF mF sF A1 B A.length B.length A.length t q1 i) ⟨fun h => ?_,fun h => ?_⟩
  ·simp only [ge_iff_le,decide_eq_true_eq] at h
   obtain ⟨m,rfl⟩ : ∃ m:Nat,i=(m:Int):=⟨i.toNat,by omega⟩
   rw [show ((m:Int)+1).toNat=m+1 by omega,dvR_succ] at k4
   refine (?_:DoesL _ _ (dvS A1 B A.length B.length A.length t q1 (m:Int)) _)
   refine dv_step hE k2 k3 (by omega) (by omega) (by omega) fun k j => ?_
   refine DoesL.part hE 100 1 _ (dv_next cF iF mF sF _ B A.length B.length A.length t _ (m:Int) k j) ?_
   rw [wrap_pred m (by omega)]
   simp only [dvB_last]
   refine ⟨_,Wk.refl _,⟨((m:Int)-1,_,_),?_,?_,?_,?_⟩,?_,rfl⟩
   ·show (m:Int)-1+B.length<=A.length
    omega
   ·show (dvRow mF sF A1 B _ m B.length).length=A.length
    rw [dvRow_len,k2]
   ·show (q1.set m _).length=A.length
    rw [List.length_set,k3]
   ·show dvR mF sF B t ((m:Int)-1+1).toNat _=S
    rw [show ((m:Int)-1+1).toNat=m by omega]
    exact k4
   ·show ((m:Int)-1+1).toNat<((m:Int)+1).toNat
    omega
  ·simp only [ge_iff_le,decide_eq_false_iff_not] at h
   rw [show (i+1).toNat=0 by omega,dvR_zero] at k4
   subst k4
   refine ⟨rfl,DoesL.ends hE 300 (dv_end cF iF mF sF A1 B A.length B.length A.length t q1 i) ?_⟩
   have f1:=vcFew (f:=q1) (by show q1.length<4294967296;omega)
   have f2:=vcFew (f:=A1) (by show A1.length<4294967296;omega)
   rw [k3] at f1
   rw [k2] at f2
   refine ⟨f1,fun _=>⟨f2,fun _ => ?_⟩⟩
   rw [wholeTakeFr k3,List.take_length]
   exact ⟨_,rfl,Nat.le_refl _⟩
end
def dvF (a b:List Fr):List Fr × Int:=dvG mulRF subRF cutL invRF a b
theorem dvF_ok:CallOk Tryz.prog 50 (K2 aFew aFew oDv.res dvF) :=
 G2 (E:=dvE cutL invRF mulRF subRF) Tryz.func50 (c:=codeOf Tryz.f50) (by kernel_rfl) (bodied Tryz.func50 (by kernel_rfl) (by kernel_rfl)) iFew iFew oDv dvF fun a b ha hb =>
  dv_does (Ens_ok (.cons rcut_ok (.cons invR_ok (.cons mulR_ok (.cons subR_ok .nil))))) cutL_le a b ha.2 hb.2
def one25_G (f0:UInt64->Fr):Fr:=(f0 (1:UInt64))
def one25_T (f0:UInt64->Fr):Tree (Option (Fr)) :=
 (.leaf (some (f0 (1:UInt64))))
theorem one25_run (f0:UInt64->Fr):plainRun (En [(46,K1 kU64.arg (kRow Fr).rs.res f0)]) (kRow Fr).rs 300 Tryz.f47 []=one25_T f0:=by kernel_rfl
theorem one25_sat (f0:UInt64->Fr):(one25_T f0).sat fun q=>q=some (one25_G f0):=(show some _=some _ from rfl)
def one25  : Fr:=one25_G ofRF
theorem one25_ok:CallOk Tryz.prog 47 (K0 (kRow Fr).rs.res one25) :=
 P0 (En_ok (.cons ofRF_ok .nil)) Tryz.func47 (bodied Tryz.func47 (by kernel_rfl) (by kernel_rfl)) 300  (kRow Fr).rs one25 (one25_run ofRF) (one25_sat ofRF)
def rSubF_T (f0:UInt64->Fr) (f1:Fr->Fr) (f2:List Fr->Fr->List Fr) (f3:List Fr->List Fr->List Fr) (l:List Fr) (m:List Fr):Tree (Option ((List Fr) × Pr)) :=
 (.vc ((0+m.length*4<=(rowsC RK.fr m).length/\0=0/\m.length<1125899906842624/\0=0/\4=4)/\fewR (List.take m.length (List.drop 0 m)))
  (.vc (((0+l.length*4<=(rowsC RK.fr l).length/\0=0/\l.length<1125899906842624/\0=0/\4=4)/\fewR (List.take l.length (List.drop 0 l)))/\(0+(f2 (List.take m.length (List.drop 0 m)) (f1 (f0 (UInt64.ofNat 1)))).length*4<=(rowsC RK.fr (f2 (List.take m.length (List.drop 0 m)) (f1 (f0 (UInt64.ofNat 1))))).length/\0=0/\(f2 (List.take m.length (List.drop 0 m)) (f1 (f0 (UInt64.ofNat 1)))).length<1125899906842624/\0=0/\4=4)/\fewR (List.take (f2 (List.take m.length (List.drop 0 m)) (f1 (f0 (UInt64.ofNat 1)))).length (List.drop 0 (f2 (List.take m.length (List.drop 0 m)) (f1 (f0 (UInt64.ofNat 1)))))))
   (.leaf (some ((List.take (f3 (List.take l.length (List.drop 0 l)) (List.take (f2 (List.take m.length (List.drop 0 m)) (f1 (f0 (UInt64.ofNat 1)))).length (List.drop 0 (f2 (List.take m.length (List.drop 0 m)) (f1 (f0 (UInt64.ofNat 1))))))).length (f3 (List.take l.length (List.drop 0 l)) (List.take (f2 (List.take m.length (List.drop 0 m)) (f1 (f0 (UInt64.ofNat 1)))).length (List.drop 0 (f2 (List.take m.length (List.drop 0 m)) (f1 (f0 (UInt64.ofNat 1))))))),(.p ((f3 (List.take l.length (List.drop 0 l)) (List.take (f2 (List.take m.length (List.drop 0 m)) (f1 (f0 (UInt64.ofNat 1)))).length (List.drop 0 (f2 (List.take m.length (List.drop 0 m)) (f1 (f0 (UInt64.ofNat 1))))))).length<=(f3 (List.take l.length (List.drop 0 l)) (List.take (f2 (List.take m.length (List.drop 0 m)) (f1 (f0 (UInt64.ofNat 1)))).length (List.drop 0 (f2 (List.take m.length (List.drop 0 m)) (f1 (f0 (UInt64.ofNat 1))))))).length))))))))
theorem rSubF_run (f0:UInt64->Fr) (f1:Fr->Fr) (f2:List Fr->Fr->List Fr) (f3:List Fr->List Fr->List Fr) (l:List Fr) (m:List Fr):endT (Ens [(46,K1 kU64.arg (kRow Fr).rs.res f0),(51,Kr1 f1),(34,K2 aFew (kRow Fr).arg oFrs.res f2),(33,K2 aFew aFew oFrs.res f3)] [34,33]) oFrs 300 Tryz.f49 (flat (codeOf Tryz.f49)) (startSt Tryz.f49 [rwV .fr 0 l,rwV .fr 1 m] [rwHE .fr l,rwHE .fr m])=rSubF_T f0 f1 f2 f3 l m:=by kernel_rfl
def rSubF (l:List Fr) (m:List Fr):List Fr:=(rSubF_T ofRF negRF rScaleF rAddF l m).outD []
theorem rSubF_ok' (h : ∀ (l:List Fr) (m:List Fr),iFew.fact l->iFew.fact m->(rSubF_T ofRF negRF rScaleF rAddF l m).full=true/\(rSubF_T ofRF negRF rScaleF rAddF l m).okAll):CallOk Tryz.prog 49 (K2 aFew aFew oFrs.res rSubF) :=
 Go.Proofs.YtgpafcehehaiiaaGreat.G2 (E:=Ens [(46,K1 kU64.arg (kRow Fr).rs.res ofRF),(51,Kr1 negRF),(34,K2 aFew (kRow Fr).arg oFrs.res rScaleF),(33,K2 aFew aFew oFrs.res rAddF)] [34,33]) Tryz.func49 (c:=codeOf Tryz.f49) (by kernel_rfl) (bodied Tryz.func49 (by kernel_rfl) (by kernel_rfl)) iFew iFew oFrs rSubF fun l m hl hm=>DoesL.outs (Ens_ok (.cons ofRF_ok (.cons negR_ok (.cons rScaleF_ok (.cons rAddF_ok .nil))))) 300 [] (rSubF_run ofRF negRF rScaleF rAddF l m) (h l m hl hm).1 (h l m hl hm).2
end Go.Proofs.YtgpafcehehaiiaaGreat
set_option maxRecDepth 100000
namespace Go.Proofs.YtgpafcehehaiiaaGreat
open Go.RowKit
theorem list_set_last {α:Type} (p:List α) (a b:α) (s:List α):(p++a :: s).set p.length b=p++b :: s:=by
 rw [List.set_append_right _ _ (Nat.le_refl _),Nat.sub_self]
 rfl
theorem list_get_last {α:Type} (p:List α) (a d:α) (s:List α):(p++a :: s).getD p.length d=a:=by
 rw [List.getD_eq_getElem?_getD,List.getElem?_append_right (Nat.le_refl _),Nat.sub_self]
 rfl
theorem step_a {a x z c:Fr} (ha:a.ok) (hx:x.ok) (hz:z.ok) (hc:c.ok) (h:c.v = -z.v):subRF a (mulRF x c)=addRF a (mulRF x z):=by
 refine Fr.v_inj (sub_okR ha (mul_okR hc)) (add_okR ha (mul_okR hz)) ?_
 rw [v_subR ha (mul_okR hc),v_mulR hx hc,v_addR ha (mul_okR hz),v_mulR hx hz,h]
 generalize a.v=p
 generalize x.v=q
 generalize z.v=r
 grind
theorem step_k {x:Fr} (hx:x.ok):mulRF x oneFr=x:=by
 refine Fr.v_inj (mul_okR oneFr_ok) hx ?_
 rw [v_mulR hx oneFr_ok,v_oneFr]
 generalize x.v=q
 grind
theorem step_z {x:Fr} (hx:x.ok):subRF x (mulRF x oneFr)=frZ:=by
 refine Fr.v_inj (sub_okR hx (mul_okR oneFr_ok)) frZ_ok ?_
 rw [v_subR hx (mul_okR oneFr_ok),v_mulR hx oneFr_ok,v_oneFr,frZ_v]
 generalize x.v=q
 grind
theorem linR_ok {z:Fr} (hz:z.ok) {xs:List Fr} (h:okFs xs):okFs (linS addRF mulRF z xs).1/\(linS addRF mulRF z xs).2.ok:=by
 obtain ⟨h1,h2,_⟩:=linS_v (aF:=addRF) (mF:=mulRF) addR_v mulR_v hz xs h
 exact ⟨h1,h2⟩
section
variable {aF mF : Fr -> Fr -> Fr}
theorem linT_nil (z:Fr):linT aF mF z [] = []:=rfl
theorem linT_cons' (z b:Fr) (l:List Fr):linT aF mF z (b :: l)=(linS aF mF z (b :: l)).2 :: (linS aF mF z (b :: l)).1:=rfl
end
theorem pair_ext {a b:List Fr × Fr} (h1:a.1=b.1) (h2:a.2=b.2):a=b:=Prod.ext h1 h2
theorem linR_eq {z:Fr} (hz:z.ok) : ∀ {xs:List Fr},okFs xs->linS addRF mulRF z xs=linS addPR mulPR z xs
 | [],_=>by rw [linS_nil,linS_nil]
 | a :: l,h=>by
  have hl:okFs l:=fun x hx=>h x (List.mem_cons_of_mem _ hx)
  have ha:a.ok:=h a (List.mem_cons_self ..)
  have ih:=linR_eq hz hl
  obtain ⟨_,o2⟩:=linR_ok hz hl
  refine pair_ext ?_ ?_
  ·rw [linS_fst,linS_fst]
   cases l with
   | nil=>rw [linT_nil,linT_nil]
   | cons b l=>rw [linT_cons',linT_cons',ih]
  ·rw [linS_snd,linS_snd,<- ih,mulPR_eq o2 hz,addPR_eq ha (mul_okR hz)]
theorem dvR_S {z c:Fr} (hz:z.ok) (hc:c.ok) (h:c.v = -z.v) : ∀ (n:Nat) (p s:List Fr),p.length=n->s ≠ []->okFs p->okFs s ->
  (dvR mulRF subRF [c,oneFr] oneFr n (p++(linS addRF mulRF z s).2 :: zerosL (s.length-1),zerosL n++((linS addRF mulRF z s).1 ++ [frZ]))).2=(linS addRF mulRF z (p++s)).1 ++ [frZ]
 | 0,p,s,hp,hs,h1,h2=>by
  obtain rfl:p = []:=List.length_eq_zero_iff.1 hp
  rw [dvR_zero]
  exact List.nil_append _
 | n+1,p,s,hp,hs,h1,h2=>by
  have hne:p ≠ []:=by intro e;rw [e] at hp;cases hp
  have e1:p=p.dropLast ++ [p.getLast hne]:=(List.dropLast_concat_getLast hne).symm
  generalize p.getLast hne=a at e1
  have hl:p.dropLast.length=n:=by rw [List.length_dropLast,hp];omega
  generalize p.dropLast=q at *
  subst e1
  have ha:a.ok:=h1 a (by simp)
  have hq:okFs q:=fun x hx=>h1 x (by simp [hx])
  obtain ⟨o1,o2⟩:=linR_ok hz h2
  have ih:=dvR_S hz hc h n q (a :: s) hl (by simp) hq (fun x hx=>by
   rcases List.mem_cons.1 hx with rfl | hx
   ·exact ha
   ·exact h2 x hx)
  have es:(linS addRF mulRF z (a :: s)).1=(linS addRF mulRF z s).2 :: (linS addRF mulRF z s).1:=by
   cases s with
   | nil=>exact absurd rfl hs
   | cons b s=>rfl
  rw [linS_snd,es] at ih
  generalize hx:(linS addRF mulRF z s).2=x at *
  generalize (linS addRF mulRF z s).1=r at *
  rw [show q ++ [a]++s=q++a :: s by simp,<- ih,dvR_succ]
  have g1:(q ++ [a]++x :: zerosL (s.length-1)).getD (n+2-1) frZ=x:=by
   have:=list_get_last (q ++ [a]) x frZ (zerosL (s.length-1))
   rw [List.length_append,hl] at this
   exact this
  rw [show [c,oneFr].length=2 from rfl,g1,step_k o2]
  have row:dvRow mulRF subRF (q ++ [a]++x :: zerosL (s.length-1)) [c,oneFr] x n 2=q++addRF a (mulRF x z) :: zerosL ((a :: s).length-1):=by
   have r1:dvRow mulRF subRF (q ++ [a]++x :: zerosL (s.length-1)) [c,oneFr] x n 1=q++addRF a (mulRF x z) :: x :: zerosL (s.length-1):=by
    rw [dvRow_succ,dvRow_zero]
    show (q ++ [a]++x :: zerosL (s.length-1)).set n (subRF ((q ++ [a]++x :: zerosL (s.length-1)).getD n frZ) (mulRF x c))=_
    rw [List.append_assoc,List.singleton_append,<- hl,list_get_last,list_set_last,step_a ha o2 hz hc h]
   rw [dvRow_succ,r1]
   show (q++addRF a (mulRF x z) :: x :: zerosL (s.length-1)).set (n+1) (subRF ((q++addRF a (mulRF x z) :: x :: zerosL (s.length-1)).getD (n+1) frZ) (mulRF x oneFr))=_
   have e3:q++addRF a (mulRF x z) :: x :: zerosL (s.length-1)=(q ++ [addRF a (mulRF x z)])++x :: zerosL (s.length-1):=by simp
   have e4:n+1=(q ++ [addRF a (mulRF x z)]).length:=by rw [List.length_append,hl];rfl
   rw [e3,e4,list_get_last,list_set_last,step_z o2,List.append_assoc,List.singleton_append]
   congr 2
   obtain ⟨m,hm⟩ : ∃ m,s.length=m+1:=⟨s.length-1,by have:=List.length_pos_iff.2 hs;omega⟩
   rw [List.length_cons,hm]
   rfl
  rw [row]
  have st:(zerosL (n+1)++(r ++ [frZ])).set n x=zerosL n++(x :: r ++ [frZ]):=by
   rw [zerosL_set]
   rfl
  rw [st]
theorem dvF_lin {z c:Fr} (hz:z.ok) (hc:c.ok) (h:c.v = -z.v) {A:List Fr} (hA:okFs A) :
  cutL (dvR mulRF subRF [c,oneFr] oneFr (A.length+1-2) (A,zerosL A.length)).2=cutL (linS addRF mulRF z A).1:=by
 cases hn:A.length with
 | zero =>
  obtain rfl:A = []:=List.length_eq_zero_iff.1 hn
  rw [show 0+1-2=0 from rfl,dvR_zero,linS_nil]
  rfl
 | succ n =>
  have hne:A ≠ []:=by intro e;rw [e] at hn;cases hn
  have e1:A=A.dropLast ++ [A.getLast hne]:=(List.dropLast_concat_getLast hne).symm
  generalize A.getLast hne=a at e1
  have hl:A.dropLast.length=n:=by rw [List.length_dropLast,hn];omega
  generalize A.dropLast=p at *
  subst e1
  have ha:a.ok:=hA a (by simp)
  have hp:okFs p:=fun x hx=>hA x (by simp [hx])
  have key:=dvR_S hz hc h n p [a] hl (by simp) hp (fun x hx=>by rw [List.mem_singleton.1 hx];exact ha)
  have ea:(linS addRF mulRF z [a]).2=a:=by
   rw [linS_one]
   dsimp only
   refine Fr.v_inj (add_okR ha (mul_okR hz)) ha ?_
   rw [v_addR ha (mul_okR hz),v_mulR frZ_ok hz,frZ_v]
   generalize a.v=p
   generalize z.v=q
   grind
  have e0:(linS addRF mulRF z [a]).1 = []:=by
   rw [linS_fst,linT_nil]
  have e1:zerosL ([a].length-1) = []:=rfl
  rw [ea,e0,e1] at key
  rw [show n+1+1-2=n by omega]
  have ez:zerosL (n+1)=zerosL n++([] ++ [frZ]):=by
   unfold zerosL
   rw [List.replicate_succ',List.nil_append]
  rw [ez]
  rw [key]
  exact cutL_zeros _ 1
end Go.Proofs.YtgpafcehehaiiaaGreat
set_option maxRecDepth 100000
namespace Go.Proofs.YtgpafcehehaiiaaGreat
open Go.RowKit
theorem fewP_of (x:Fr) {n:Nat} (h:n<4294967296):few (powsF x n).1:=by
 show (powsF x n).1.length<4294967296
 rw [powsF_len]
 exact h
def frN (n:Nat):Fr:=⟨UInt64.ofNat n,UInt64.ofNat 0,UInt64.ofNat 0,UInt64.ofNat 0⟩
theorem frN_ok {n:Nat} (h:n<18446744073709551616):(frN n).ok/\(frN n).nat=n:=by
 have e:(frN n).nat=n:=by
  show (UInt64.ofNat n).toNat+W64*((UInt64.ofNat 0).toNat+W64*((UInt64.ofNat 0).toNat+W64*(UInt64.ofNat 0).toNat))=n
  rw [UInt64.toNat_ofNat',show (UInt64.ofNat 0).toNat=0 from rfl,Nat.mul_zero,Nat.add_zero,Nat.mul_zero,Nat.add_zero,Nat.mul_zero,Nat.add_zero]
  exact Nat.mod_eq_of_lt h
 refine ⟨?_,e⟩
 unfold Fr.ok
 rw [e]
 exact Nat.lt_trans h (by decide +kernel)
theorem cond_and (a b:Bool):cond a b false=(a && b):=by cases a <;> rfl
theorem begun18_G (P:Fr->Int->List Pg1 × Pg2) (C:List Pg1 × Pg2->List Fr->Pg1 × Int) (O:List Pg1 × Pg2->List Fr->Fr->Fr × Pg1 × Int) (g:Fr->Pg1) (K:Pg2->Pg1->Fr->Fr->Pg1->Bool):(begun18_T P C O g K).outD false =
  ((C (P (frN 2) 3) [frN 1,frN 1]).2==0 && (pg1Eq (C (P (frN 2) 3) [frN 1,frN 1]).1 (g (frN 3)) && ((O (P (frN 2) 3) [frN 1,frN 1] (frN 5)).2.2==0 && (frEq (O (P (frN 2) 3) [frN 1,frN 1] (frN 5)).1 (frN 6) && K (P (frN 2) 3).2 (C (P (frN 2) 3) [frN 1,frN 1]).1 (frN 5) (O (P (frN 2) 3) [frN 1,frN 1] (frN 5)).1 (O (P (frN 2) 3) [frN 1,frN 1] (frN 5)).2.1)))):=by
 unfold begun18_T
 simp only [outD_br,outD_vc,outD_leaf,wholeFr,wholeG1,cond_and]
 rfl
theorem open_check {t:Fr} (ht:t.ok) {n:Nat} {f:List Fr} (hf:okFs f) {z y:Fr} (hz:z.ok) (hy:y.ok) (hn:(cutL f).length<=n) :
  kCheck (powsF t n).2 (kCommit (powsF t n) f).1 z y (kOpen (powsF t n) f z).2.1=true <-> y.v=hor z.v (vL f):=by
 obtain ⟨c1,c2⟩:=kCommit_val ht hf hn
 obtain ⟨o1,o2,o3,o4,o5⟩:=kOpen_val ht hf hz hn
 rw [powsF_snd,kCheck_val (at2_comm ht) c2 o4 hz hy,o5]
 generalize hor t.v (vL (linF f z).1)*(t.v-z.v)=a
 generalize hor z.v (vL f)=b
 generalize y.v=c
 constructor
 ·intro h
  grind
 ·intro h
  rw [h]
  grind
theorem okFs_two {a b:Fr} (ha:a.ok) (hb:b.ok):okFs [a,b]:=fun x hx=>by
 rcases List.mem_cons.1 hx with rfl | hx
 ·exact ha
 ·rcases List.mem_cons.1 hx with rfl | hx
  ·exact hb
  ·exact (List.not_mem_nil hx).elim
theorem hor_two (t a b:VR):hor t [a,b]=a+t*(b+t*0):=rfl
theorem v3:(frN 1).v+(frN 2).v*((frN 1).v+(frN 2).v*0)=(frN 3).v:=VR.ext (by decide +kernel)
theorem v6:(frN 1).v+(frN 5).v*((frN 1).v+(frN 5).v*0)=(frN 6).v:=VR.ext (by decide +kernel)
theorem begun18_true:begun18=true:=by
 have k1:=(frN_ok (n:=1) (by decide)).1
 have k2:=(frN_ok (n:=2) (by decide)).1
 have k3:=(frN_ok (n:=3) (by decide)).1
 have k5:=(frN_ok (n:=5) (by decide)).1
 have k6:=(frN_ok (n:=6) (by decide)).1
 have hf:=okFs_two k1 k1
 have hn:(cutL [frN 1,frN 1]).length<=3:=Nat.le_trans (cutL_le _) (by decide)
 obtain ⟨c1,c2⟩:=kCommit_val k2 (n:=3) hf hn
 obtain ⟨o1,o2,o3,o4,o5⟩:=kOpen_val k2 (n:=3) hf k5 hn
 rw [show vL [frN 1,frN 1] = [(frN 1).v,(frN 1).v] from rfl,hor_two,v3] at c2
 rw [show vL [frN 1,frN 1] = [(frN 1).v,(frN 1).v] from rfl,hor_two,v6] at o3
 have e1:=At1.eq c2 (at1_comm k3)
 have e2:=Fr.v_inj o2 k6 o3
 have hc:=(open_check k2 (n:=3) hf k5 o2 hn).2 (by rw [o3,show vL [frN 1,frN 1] = [(frN 1).v,(frN 1).v] from rfl,hor_two,v6])
 unfold begun18
 rw [begun18_G]
 rw [show ((3:Nat):Int)=3 from rfl] at *
 rw [c1,e1,o1,e2,(pg1Eq_iff _ _).2 rfl,(frEq_iff _ _).2 rfl]
 rw [e1,e2] at hc
 rw [hc]
 rfl
end Go.Proofs.YtgpafcehehaiiaaGreat
set_option maxRecDepth 100000
namespace Go.Proofs.YtgpafcehehaiiaaGreat
open Go.RowKit
theorem rScale_len (l:List Fr) (k:Fr):(rScaleF l k).length<=l.length:=by
 unfold rScaleF
 refine Nat.le_trans (cutL_le _) ?_
 rw [List.length_map]
 exact Nat.le_refl _
theorem rAdd_len (l m:List Fr):(rAddF l m).length<=maxN l m:=by
 unfold rAddF
 refine Nat.le_trans (cutL_le _) ?_
 rw [addTo_len]
 exact Nat.le_refl _
end Go.Proofs.YtgpafcehehaiiaaGreat
set_option maxRecDepth 100000
namespace Go.Proofs.YtgpafcehehaiiaaGreat
open Go.RowKit
theorem rAddF_few {l m:List Fr} (h1:fewR l) (h2:fewR m):fewR (rAddF l m):=by
 have h1:l.length<4294967296:=h1
 have h2:m.length<4294967296:=h2
 show (rAddF l m).length<4294967296
 unfold rAddF
 refine Nat.lt_of_le_of_lt (cutL_le _) ?_
 rw [addTo_len]
 exact Nat.max_lt.2 ⟨h2,h1⟩
theorem rScaleF_few {l:List Fr} (h:fewR l) (k:Fr):fewR (rScaleF l k):=by
 have h:l.length<4294967296:=h
 show (rScaleF l k).length<4294967296
 unfold rScaleF
 refine Nat.lt_of_le_of_lt (cutL_le _) ?_
 rw [List.length_map]
 exact h
theorem rSubF_ok:CallOk Tryz.prog 49 (K2 aFew aFew oFrs.res rSubF):=rSubF_ok' fun l m hl hm=>by
 have hl:fewR l:=hl.2
 have hm:fewR m:=hm.2
 refine ⟨rfl,vcFew hm,?_⟩
 rw [wholeFr l,wholeFr m]
 exact ⟨⟨vcFew' hl,vcFew (rScaleF_few hm _)⟩,Nat.le_refl _⟩
theorem rSubF_eq (l m:List Fr):rSubF l m=rAddF l (rScaleF m (negRF (ofRF 1))):=by
 have key : ∀ (o:UInt64->Fr) (n:Fr->Fr) (s:List Fr->Fr->List Fr) (a:List Fr->List Fr->List Fr),(rSubF_T o n s a l m).outD []=a l (s m (n (o 1))):=by
  intro o n s a
  unfold rSubF_T
  simp only [outD_br,outD_vc,outD_leaf,wholeFr,List.take_length]
  rfl
 exact key _ _ _ _
def rQuotF_T (f0:List Fr->Fr->Fr) (f1:List Fr->List Fr->List Fr) (f2:Fr->Fr) (f3:Fr) (f4:List Fr->List Fr->List Fr × Int) (f:List Fr) (z:Fr):Tree (Option ((List Fr) × Pr)) :=
 (.vc (0+f.length*4<=(rowsC RK.fr f).length/\0=0/\f.length<1125899906842624/\0=0/\4=4)
  (.vc (((0+f.length*4<=(rowsC RK.fr f).length/\0=0/\f.length<1125899906842624/\0=0/\4=4)/\fewR (List.take f.length (List.drop 0 f)))/\fewR [f0 (List.take f.length (List.drop 0 f)) z])
   (.vc (((0+(f1 (List.take f.length (List.drop 0 f)) [f0 (List.take f.length (List.drop 0 f)) z]).length*4<=(rowsC RK.fr (f1 (List.take f.length (List.drop 0 f)) [f0 (List.take f.length (List.drop 0 f)) z])).length/\0=0/\(f1 (List.take f.length (List.drop 0 f)) [f0 (List.take f.length (List.drop 0 f)) z]).length<1125899906842624/\0=0/\4=4)/\fewR (List.take (f1 (List.take f.length (List.drop 0 f)) [f0 (List.take f.length (List.drop 0 f)) z]).length (List.drop 0 (f1 (List.take f.length (List.drop 0 f)) [f0 (List.take f.length (List.drop 0 f)) z]))))/\fewR [f2 z,f3])
    (.leaf (some ((List.take (f4 (List.take (f1 (List.take f.length (List.drop 0 f)) [f0 (List.take f.length (List.drop 0 f)) z]).length (List.drop 0 (f1 (List.take f.length (List.drop 0 f)) [f0 (List.take f.length (List.drop 0 f)) z]))) [f2 z,f3]).fst.length (f4 (List.take (f1 (List.take f.length (List.drop 0 f)) [f0 (List.take f.length (List.drop 0 f)) z]).length (List.drop 0 (f1 (List.take f.length (List.drop 0 f)) [f0 (List.take f.length (List.drop 0 f)) z]))) [f2 z,f3]).fst,(.p ((f4 (List.take (f1 (List.take f.length (List.drop 0 f)) [f0 (List.take f.length (List.drop 0 f)) z]).length (List.drop 0 (f1 (List.take f.length (List.drop 0 f)) [f0 (List.take f.length (List.drop 0 f)) z]))) [f2 z,f3]).fst.length<=(f4 (List.take (f1 (List.take f.length (List.drop 0 f)) [f0 (List.take f.length (List.drop 0 f)) z]).length (List.drop 0 (f1 (List.take f.length (List.drop 0 f)) [f0 (List.take f.length (List.drop 0 f)) z]))) [f2 z,f3]).fst.length)))))))))
theorem rQuotF_run (f0:List Fr->Fr->Fr) (f1:List Fr->List Fr->List Fr) (f2:Fr->Fr) (f3:Fr) (f4:List Fr->List Fr->List Fr × Int) (f:List Fr) (z:Fr):endT (Ens [(26,K2 (argRw .fr) (kRow Fr).arg r4.res f0),(49,K2 aFew aFew oFrs.res f1),(51,Kr1 f2),(47,K0 (kRow Fr).rs.res f3),(50,K2 aFew aFew oDv.res f4)] [49,50]) oFrs 300 Tryz.f20 (flat (codeOf Tryz.f20)) (startSt Tryz.f20 [rwV .fr 0 f,.one ((kRow Fr).av z)] [rwHE .fr f])=rQuotF_T f0 f1 f2 f3 f4 f z:=by kernel_rfl
def rQuotF (f:List Fr) (z:Fr):List Fr:=(rQuotF_T rAtF rSubF negRF one25 dvF f z).outD []
theorem rQuotF_ok' (h : ∀ (f:List Fr) (z:Fr),iFew.fact f->(rQuotF_T rAtF rSubF negRF one25 dvF f z).full=true/\(rQuotF_T rAtF rSubF negRF one25 dvF f z).okAll):CallOk Tryz.prog 20 (K2 aFew (kRow Fr).arg oFrs.res rQuotF) :=
 Go.Proofs.YtgpafcehehaiiaaGreat.G2 (E:=Ens [(26,K2 (argRw .fr) (kRow Fr).arg r4.res rAtF),(49,K2 aFew aFew oFrs.res rSubF),(51,Kr1 negRF),(47,K0 (kRow Fr).rs.res one25),(50,K2 aFew aFew oDv.res dvF)] [49,50]) Tryz.func20 (c:=codeOf Tryz.f20) (by kernel_rfl) (bodied Tryz.func20 (by kernel_rfl) (by kernel_rfl)) iFew (kRow Fr).inp oFrs rQuotF fun f z hf _=>DoesL.outs (Ens_ok (.cons rAtF_ok (.cons rSubF_ok (.cons negR_ok (.cons one25_ok (.cons dvF_ok .nil)))))) 300 [] (rQuotF_run rAtF rSubF negRF one25 dvF f z) (h f z hf).1 (h f z hf).2
theorem rSubF_few {l m:List Fr} (h1:fewR l) (h2:fewR m):fewR (rSubF l m):=by
 rw [rSubF_eq]
 exact rAddF_few h1 (rScaleF_few h2 _)
theorem few1 (a:Fr):fewR [a]:=by
 show 1<4294967296
 decide
theorem few2R (a b:Fr):fewR [a,b]:=by
 show 2<4294967296
 decide
theorem rQuotF_ok:CallOk Tryz.prog 20 (K2 aFew (kRow Fr).arg oFrs.res rQuotF):=rQuotF_ok' fun f z hf=>by
 have hf:fewR f:=hf.2
 refine ⟨rfl,vcAllFr (Nat.lt_of_lt_of_le hf (by decide)),⟨vcFew hf,few1 _⟩,?_⟩
 rw [wholeFr f]
 exact ⟨⟨vcFew (rSubF_few hf (few1 _)),few2R _ _⟩,Nat.le_refl _⟩
theorem rQuotF_eq (f:List Fr) (z:Fr):rQuotF f z=(dvF (rSubF f [rAtF f z]) [negRF z,one25]).1:=by
 have key : ∀ (a:List Fr->Fr->Fr) (s:List Fr->List Fr->List Fr) (n:Fr->Fr) (o:Fr) (d:List Fr->List Fr->List Fr × Int),(rQuotF_T a s n o d f z).outD []=(d (s f [a f z]) [n z,o]).1:=by
  intro a s n o d
  unfold rQuotF_T
  simp only [outD_br,outD_vc,outD_leaf,wholeFr,List.take_length]
 exact key _ _ _ _ _
theorem commF_ok:CallOk Tryz.prog 19 (K2 (kRow Fr).arg (argRw .fr) (kRow Pg1).rs.out.res commF):=commF_ok' fun tau f hf=>⟨rfl,vcAllFr hf,trivial⟩
theorem commF_eq (tau:Fr) (f:List Fr):commF tau f=commG (rAtF f tau):=by
 have key : ∀ (a:List Fr->Fr->Fr) (g:Fr->Pg1),(commF_T a g tau f).outD pg10=g (a f tau):=by
  intro a g
  unfold commF_T
  simp only [outD_br,outD_vc,outD_leaf,wholeFr]
 exact key _ _
def kzgCommits_T (f0:Bool) (f1:Fr->Bool) (f2:List Fr->Int->Bool) (f3:Fr->Int->List Pg1 × Pg2) (f4:List Pg1 × Pg2->List Fr->Pg1 × Int) (f5:List Pg1 × Pg2->List Fr->Fr->Fr × Pg1 × Int) (f6:List Fr->List Fr) (f7:Fr->List Fr->Pg1) (f8:List Fr->Fr->Fr) (f9:List Fr->Fr->List Fr) (tau:Fr) (n:UInt8) (f:List Fr) (z:Fr):Tree (Option ((Bool) × Pr)) :=
 (.br (!(f0))
  (.leaf (some ((false,.t))))
  (.br (!(f1 tau))
   (.leaf (some ((true,.t))))
   (.br (!(f1 z))
    (.leaf (some ((true,.t))))
    (.vc (0+f.length*4<=(rowsC RK.fr f).length/\0=0/\f.length<1125899906842624/\0=0/\4=4)
     (.br (!(f2 (List.take f.length (List.drop 0 f)) 7))
      (.leaf (some ((true,.t))))
      (.vc (fewI (IntKind.i64.wrap (2+(↑(n % UInt8.ofNat 5).toNat:Int))))
       (.vc (((0+(f3 tau (IntKind.i64.wrap (2+(↑(n % UInt8.ofNat 5).toNat:Int)))).fst.length*13<=(rowsC RK.g1 (f3 tau (IntKind.i64.wrap (2+(↑(n % UInt8.ofNat 5).toNat:Int)))).fst).length/\0=0/\(f3 tau (IntKind.i64.wrap (2+(↑(n % UInt8.ofNat 5).toNat:Int)))).fst.length<1125899906842624/\0=0/\13=13)/\fewP (List.take (f3 tau (IntKind.i64.wrap (2+(↑(n % UInt8.ofNat 5).toNat:Int)))).fst.length (List.drop 0 (f3 tau (IntKind.i64.wrap (2+(↑(n % UInt8.ofNat 5).toNat:Int)))).fst),(f3 tau (IntKind.i64.wrap (2+(↑(n % UInt8.ofNat 5).toNat:Int)))).snd))/\(0+f.length*4<=(rowsC RK.fr f).length/\0=0/\f.length<1125899906842624/\0=0/\4=4)/\fewR (List.take f.length (List.drop 0 f)))
        (.vc (((0+(f3 tau (IntKind.i64.wrap (2+(↑(n % UInt8.ofNat 5).toNat:Int)))).fst.length*13<=(rowsC RK.g1 (f3 tau (IntKind.i64.wrap (2+(↑(n % UInt8.ofNat 5).toNat:Int)))).fst).length/\0=0/\(f3 tau (IntKind.i64.wrap (2+(↑(n % UInt8.ofNat 5).toNat:Int)))).fst.length<1125899906842624/\0=0/\13=13)/\fewP (List.take (f3 tau (IntKind.i64.wrap (2+(↑(n % UInt8.ofNat 5).toNat:Int)))).fst.length (List.drop 0 (f3 tau (IntKind.i64.wrap (2+(↑(n % UInt8.ofNat 5).toNat:Int)))).fst),(f3 tau (IntKind.i64.wrap (2+(↑(n % UInt8.ofNat 5).toNat:Int)))).snd))/\(0+f.length*4<=(rowsC RK.fr f).length/\0=0/\f.length<1125899906842624/\0=0/\4=4)/\fewR (List.take f.length (List.drop 0 f)))
         (.vc ((0+f.length*4<=(rowsC RK.fr f).length/\0=0/\f.length<1125899906842624/\0=0/\4=4)/\fewR (List.take f.length (List.drop 0 f)))
          (.vc (0+(f6 (List.take f.length (List.drop 0 f))).length*4<=(rowsC RK.fr (f6 (List.take f.length (List.drop 0 f)))).length/\0<4)
           (.br (decide ((↑(f6 (List.take f.length (List.drop 0 f))).length:Int) > IntKind.i64.wrap (2+(↑(n % UInt8.ofNat 5).toNat:Int))))
            (.br ((f4 (List.take (f3 tau (IntKind.i64.wrap (2+(↑(n % UInt8.ofNat 5).toNat:Int)))).fst.length (List.drop 0 (f3 tau (IntKind.i64.wrap (2+(↑(n % UInt8.ofNat 5).toNat:Int)))).fst),(f3 tau (IntKind.i64.wrap (2+(↑(n % UInt8.ofNat 5).toNat:Int)))).snd) (List.take f.length (List.drop 0 f))).snd==8)
             (.br ((f5 (List.take (f3 tau (IntKind.i64.wrap (2+(↑(n % UInt8.ofNat 5).toNat:Int)))).fst.length (List.drop 0 (f3 tau (IntKind.i64.wrap (2+(↑(n % UInt8.ofNat 5).toNat:Int)))).fst),(f3 tau (IntKind.i64.wrap (2+(↑(n % UInt8.ofNat 5).toNat:Int)))).snd) (List.take f.length (List.drop 0 f)) z).snd.snd==8)
              (.br (pg1Eq ((f4 (List.take (f3 tau (IntKind.i64.wrap (2+(↑(n % UInt8.ofNat 5).toNat:Int)))).fst.length (List.drop 0 (f3 tau (IntKind.i64.wrap (2+(↑(n % UInt8.ofNat 5).toNat:Int)))).fst),(f3 tau (IntKind.i64.wrap (2+(↑(n % UInt8.ofNat 5).toNat:Int)))).snd) (List.take f.length (List.drop 0 f))).fst) ({ x := { l0:=UInt64.ofNat 0,l1:=UInt64.ofNat 0,l2:=UInt64.ofNat 0,l3:=UInt64.ofNat 0,l4:=UInt64.ofNat 0,l5:=UInt64.ofNat 0 },y := { l0:=UInt64.ofNat 0,l1:=UInt64.ofNat 0,l2:=UInt64.ofNat 0,l3:=UInt64.ofNat 0,l4:=UInt64.ofNat 0,l5:=UInt64.ofNat 0 },inf:=false }))
               (.br (pg1Eq ((f5 (List.take (f3 tau (IntKind.i64.wrap (2+(↑(n % UInt8.ofNat 5).toNat:Int)))).fst.length (List.drop 0 (f3 tau (IntKind.i64.wrap (2+(↑(n % UInt8.ofNat 5).toNat:Int)))).fst),(f3 tau (IntKind.i64.wrap (2+(↑(n % UInt8.ofNat 5).toNat:Int)))).snd) (List.take f.length (List.drop 0 f)) z).snd.fst) ({ x := { l0:=UInt64.ofNat 0,l1:=UInt64.ofNat 0,l2:=UInt64.ofNat 0,l3:=UInt64.ofNat 0,l4:=UInt64.ofNat 0,l5:=UInt64.ofNat 0 },y := { l0:=UInt64.ofNat 0,l1:=UInt64.ofNat 0,l2:=UInt64.ofNat 0,l3:=UInt64.ofNat 0,l4:=UInt64.ofNat 0,l5:=UInt64.ofNat 0 },inf:=false }))
                (.leaf (some (((f5 (List.take (f3 tau (IntKind.i64.wrap (2+(↑(n % UInt8.ofNat 5).toNat:Int)))).fst.length (List.drop 0 (f3 tau (IntKind.i64.wrap (2+(↑(n % UInt8.ofNat 5).toNat:Int)))).fst),(f3 tau (IntKind.i64.wrap (2+(↑(n % UInt8.ofNat 5).toNat:Int)))).snd) (List.take f.length (List.drop 0 f)) z).fst.l0==UInt64.ofNat 0 && ((f5 (List.take (f3 tau (IntKind.i64.wrap (2+(↑(n % UInt8.ofNat 5).toNat:Int)))).fst.length (List.drop 0 (f3 tau (IntKind.i64.wrap (2+(↑(n % UInt8.ofNat 5).toNat:Int)))).fst),(f3 tau (IntKind.i64.wrap (2+(↑(n % UInt8.ofNat 5).toNat:Int)))).snd) (List.take f.length (List.drop 0 f)) z).fst.l1==UInt64.ofNat 0 && ((f5 (List.take (f3 tau (IntKind.i64.wrap (2+(↑(n % UInt8.ofNat 5).toNat:Int)))).fst.length (List.drop 0 (f3 tau (IntKind.i64.wrap (2+(↑(n % UInt8.ofNat 5).toNat:Int)))).fst),(f3 tau (IntKind.i64.wrap (2+(↑(n % UInt8.ofNat 5).toNat:Int)))).snd) (List.take f.length (List.drop 0 f)) z).fst.l2==UInt64.ofNat 0 && ((f5 (List.take (f3 tau (IntKind.i64.wrap (2+(↑(n % UInt8.ofNat 5).toNat:Int)))).fst.length (List.drop 0 (f3 tau (IntKind.i64.wrap (2+(↑(n % UInt8.ofNat 5).toNat:Int)))).fst),(f3 tau (IntKind.i64.wrap (2+(↑(n % UInt8.ofNat 5).toNat:Int)))).snd) (List.take f.length (List.drop 0 f)) z).fst.l3==UInt64.ofNat 0 && true))),.t))))
                (.leaf (some ((false,.t)))))
               (.leaf (some ((false,.t)))))
              (.leaf (some ((false,.t)))))
             (.leaf (some ((false,.t)))))
            (.br ((f4 (List.take (f3 tau (IntKind.i64.wrap (2+(↑(n % UInt8.ofNat 5).toNat:Int)))).fst.length (List.drop 0 (f3 tau (IntKind.i64.wrap (2+(↑(n % UInt8.ofNat 5).toNat:Int)))).fst),(f3 tau (IntKind.i64.wrap (2+(↑(n % UInt8.ofNat 5).toNat:Int)))).snd) (List.take f.length (List.drop 0 f))).snd==0)
             (.vc (0+f.length*4<=(rowsC RK.fr f).length/\0=0/\f.length<1125899906842624/\0=0/\4=4)
              (.br (pg1Eq ((f4 (List.take (f3 tau (IntKind.i64.wrap (2+(↑(n % UInt8.ofNat 5).toNat:Int)))).fst.length (List.drop 0 (f3 tau (IntKind.i64.wrap (2+(↑(n % UInt8.ofNat 5).toNat:Int)))).fst),(f3 tau (IntKind.i64.wrap (2+(↑(n % UInt8.ofNat 5).toNat:Int)))).snd) (List.take f.length (List.drop 0 f))).fst) (f7 tau (List.take f.length (List.drop 0 f))))
               (.br ((f5 (List.take (f3 tau (IntKind.i64.wrap (2+(↑(n % UInt8.ofNat 5).toNat:Int)))).fst.length (List.drop 0 (f3 tau (IntKind.i64.wrap (2+(↑(n % UInt8.ofNat 5).toNat:Int)))).fst),(f3 tau (IntKind.i64.wrap (2+(↑(n % UInt8.ofNat 5).toNat:Int)))).snd) (List.take f.length (List.drop 0 f)) z).snd.snd==0)
                (.vc (0+f.length*4<=(rowsC RK.fr f).length/\0=0/\f.length<1125899906842624/\0=0/\4=4)
                 (.br (frEq ((f5 (List.take (f3 tau (IntKind.i64.wrap (2+(↑(n % UInt8.ofNat 5).toNat:Int)))).fst.length (List.drop 0 (f3 tau (IntKind.i64.wrap (2+(↑(n % UInt8.ofNat 5).toNat:Int)))).fst),(f3 tau (IntKind.i64.wrap (2+(↑(n % UInt8.ofNat 5).toNat:Int)))).snd) (List.take f.length (List.drop 0 f)) z).fst) (f8 (List.take f.length (List.drop 0 f)) z))
                  (.vc ((0+f.length*4<=(rowsC RK.fr f).length/\0=0/\f.length<1125899906842624/\0=0/\4=4)/\fewR (List.take f.length (List.drop 0 f)))
                   (.vc (0+(f9 (List.take f.length (List.drop 0 f)) z).length*4<=(rowsC RK.fr (f9 (List.take f.length (List.drop 0 f)) z)).length/\0=0/\(f9 (List.take f.length (List.drop 0 f)) z).length<1125899906842624/\0=0/\4=4)
                    (.leaf (some (((f5 (List.take (f3 tau (IntKind.i64.wrap (2+(↑(n % UInt8.ofNat 5).toNat:Int)))).fst.length (List.drop 0 (f3 tau (IntKind.i64.wrap (2+(↑(n % UInt8.ofNat 5).toNat:Int)))).fst),(f3 tau (IntKind.i64.wrap (2+(↑(n % UInt8.ofNat 5).toNat:Int)))).snd) (List.take f.length (List.drop 0 f)) z).snd.fst.x.l0==(f7 tau (List.take (f9 (List.take f.length (List.drop 0 f)) z).length (List.drop 0 (f9 (List.take f.length (List.drop 0 f)) z)))).x.l0 && ((f5 (List.take (f3 tau (IntKind.i64.wrap (2+(↑(n % UInt8.ofNat 5).toNat:Int)))).fst.length (List.drop 0 (f3 tau (IntKind.i64.wrap (2+(↑(n % UInt8.ofNat 5).toNat:Int)))).fst),(f3 tau (IntKind.i64.wrap (2+(↑(n % UInt8.ofNat 5).toNat:Int)))).snd) (List.take f.length (List.drop 0 f)) z).snd.fst.x.l1==(f7 tau (List.take (f9 (List.take f.length (List.drop 0 f)) z).length (List.drop 0 (f9 (List.take f.length (List.drop 0 f)) z)))).x.l1 && ((f5 (List.take (f3 tau (IntKind.i64.wrap (2+(↑(n % UInt8.ofNat 5).toNat:Int)))).fst.length (List.drop 0 (f3 tau (IntKind.i64.wrap (2+(↑(n % UInt8.ofNat 5).toNat:Int)))).fst),(f3 tau (IntKind.i64.wrap (2+(↑(n % UInt8.ofNat 5).toNat:Int)))).snd) (List.take f.length (List.drop 0 f)) z).snd.fst.x.l2==(f7 tau (List.take (f9 (List.take f.length (List.drop 0 f)) z).length (List.drop 0 (f9 (List.take f.length (List.drop 0 f)) z)))).x.l2 && ((f5 (List.take (f3 tau (IntKind.i64.wrap (2+(↑(n % UInt8.ofNat 5).toNat:Int)))).fst.length (List.drop 0 (f3 tau (IntKind.i64.wrap (2+(↑(n % UInt8.ofNat 5).toNat:Int)))).fst),(f3 tau (IntKind.i64.wrap (2+(↑(n % UInt8.ofNat 5).toNat:Int)))).snd) (List.take f.length (List.drop 0 f)) z).snd.fst.x.l3==(f7 tau (List.take (f9 (List.take f.length (List.drop 0 f)) z).length (List.drop 0 (f9 (List.take f.length (List.drop 0 f)) z)))).x.l3 && ((f5 (List.take (f3 tau (IntKind.i64.wrap (2+(↑(n % UInt8.ofNat 5).toNat:Int)))).fst.length (List.drop 0 (f3 tau (IntKind.i64.wrap (2+(↑(n % UInt8.ofNat 5).toNat:Int)))).fst),(f3 tau (IntKind.i64.wrap (2+(↑(n % UInt8.ofNat 5).toNat:Int)))).snd) (List.take f.length (List.drop 0 f)) z).snd.fst.x.l4==(f7 tau (List.take (f9 (List.take f.length (List.drop 0 f)) z).length (List.drop 0 (f9 (List.take f.length (List.drop 0 f)) z)))).x.l4 && ((f5 (List.take (f3 tau (IntKind.i64.wrap (2+(↑(n % UInt8.ofNat 5).toNat:Int)))).fst.length (List.drop 0 (f3 tau (IntKind.i64.wrap (2+(↑(n % UInt8.ofNat 5).toNat:Int)))).fst),(f3 tau (IntKind.i64.wrap (2+(↑(n % UInt8.ofNat 5).toNat:Int)))).snd) (List.take f.length (List.drop 0 f)) z).snd.fst.x.l5==(f7 tau (List.take (f9 (List.take f.length (List.drop 0 f)) z).length (List.drop 0 (f9 (List.take f.length (List.drop 0 f)) z)))).x.l5 && true))))) && ((f5 (List.take (f3 tau (IntKind.i64.wrap (2+(↑(n % UInt8.ofNat 5).toNat:Int)))).fst.length (List.drop 0 (f3 tau (IntKind.i64.wrap (2+(↑(n % UInt8.ofNat 5).toNat:Int)))).fst),(f3 tau (IntKind.i64.wrap (2+(↑(n % UInt8.ofNat 5).toNat:Int)))).snd) (List.take f.length (List.drop 0 f)) z).snd.fst.y.l0==(f7 tau (List.take (f9 (List.take f.length (List.drop 0 f)) z).length (List.drop 0 (f9 (List.take f.length (List.drop 0 f)) z)))).y.l0 && ((f5 (List.take (f3 tau (IntKind.i64.wrap (2+(↑(n % UInt8.ofNat 5).toNat:Int)))).fst.length (List.drop 0 (f3 tau (IntKind.i64.wrap (2+(↑(n % UInt8.ofNat 5).toNat:Int)))).fst),(f3 tau (IntKind.i64.wrap (2+(↑(n % UInt8.ofNat 5).toNat:Int)))).snd) (List.take f.length (List.drop 0 f)) z).snd.fst.y.l1==(f7 tau (List.take (f9 (List.take f.length (List.drop 0 f)) z).length (List.drop 0 (f9 (List.take f.length (List.drop 0 f)) z)))).y.l1 && ((f5 (List.take (f3 tau (IntKind.i64.wrap (2+(↑(n % UInt8.ofNat 5).toNat:Int)))).fst.length (List.drop 0 (f3 tau (IntKind.i64.wrap (2+(↑(n % UInt8.ofNat 5).toNat:Int)))).fst),(f3 tau (IntKind.i64.wrap (2+(↑(n % UInt8.ofNat 5).toNat:Int)))).snd) (List.take f.length (List.drop 0 f)) z).snd.fst.y.l2==(f7 tau (List.take (f9 (List.take f.length (List.drop 0 f)) z).length (List.drop 0 (f9 (List.take f.length (List.drop 0 f)) z)))).y.l2 && ((f5 (List.take (f3 tau (IntKind.i64.wrap (2+(↑(n % UInt8.ofNat 5).toNat:Int)))).fst.length (List.drop 0 (f3 tau (IntKind.i64.wrap (2+(↑(n % UInt8.ofNat 5).toNat:Int)))).fst),(f3 tau (IntKind.i64.wrap (2+(↑(n % UInt8.ofNat 5).toNat:Int)))).snd) (List.take f.length (List.drop 0 f)) z).snd.fst.y.l3==(f7 tau (List.take (f9 (List.take f.length (List.drop 0 f)) z).length (List.drop 0 (f9 (List.take f.length (List.drop 0 f)) z)))).y.l3 && ((f5 (List.take (f3 tau (IntKind.i64.wrap (2+(↑(n % UInt8.ofNat 5).toNat:Int)))).fst.length (List.drop 0 (f3 tau (IntKind.i64.wrap (2+(↑(n % UInt8.ofNat 5).toNat:Int)))).fst),(f3 tau (IntKind.i64.wrap (2+(↑(n % UInt8.ofNat 5).toNat:Int)))).snd) (List.take f.length (List.drop 0 f)) z).snd.fst.y.l4==(f7 tau (List.take (f9 (List.take f.length (List.drop 0 f)) z).length (List.drop 0 (f9 (List.take f.length (List.drop 0 f)) z)))).y.l4 && ((f5 (List.take (f3 tau (IntKind.i64.wrap (2+(↑(n % UInt8.ofNat 5).toNat:Int)))).fst.length (List.drop 0 (f3 tau (IntKind.i64.wrap (2+(↑(n % UInt8.ofNat 5).toNat:Int)))).fst),(f3 tau (IntKind.i64.wrap (2+(↑(n % UInt8.ofNat 5).toNat:Int)))).snd) (List.take f.length (List.drop 0 f)) z).snd.fst.y.l5==(f7 tau (List.take (f9 (List.take f.length (List.drop 0 f)) z).length (List.drop 0 (f9 (List.take f.length (List.drop 0 f)) z)))).y.l5 && true))))) && ((f5 (List.take (f3 tau (IntKind.i64.wrap (2+(↑(n % UInt8.ofNat 5).toNat:Int)))).fst.length (List.drop 0 (f3 tau (IntKind.i64.wrap (2+(↑(n % UInt8.ofNat 5).toNat:Int)))).fst),(f3 tau (IntKind.i64.wrap (2+(↑(n % UInt8.ofNat 5).toNat:Int)))).snd) (List.take f.length (List.drop 0 f)) z).snd.fst.inf==(f7 tau (List.take (f9 (List.take f.length (List.drop 0 f)) z).length (List.drop 0 (f9 (List.take f.length (List.drop 0 f)) z)))).inf && true)),.t))))))
                  (.leaf (some ((false,.t))))))
                (.leaf (some ((false,.t)))))
               (.leaf (some ((false,.t))))))
             (.leaf (some ((false,.t))))))))))))))))
theorem kzgCommits_run (f0:Bool) (f1:Fr->Bool) (f2:List Fr->Int->Bool) (f3:Fr->Int->List Pg1 × Pg2) (f4:List Pg1 × Pg2->List Fr->Pg1 × Int) (f5:List Pg1 × Pg2->List Fr->Fr->Fr × Pg1 × Int) (f6:List Fr->List Fr) (f7:Fr->List Fr->Pg1) (f8:List Fr->Fr->Fr) (f9:List Fr->Fr->List Fr) (tau:Fr) (n:UInt8) (f:List Fr) (z:Fr):endT (Ens [(21,K0  kBool.rs.out.res f0),(22,Krb f1),(14,K2 (argRw .fr) kInt.arg kBool.rs.res f2),(17,K2 (kRow Fr).arg (kInt.arg.such fewI) oPow.res f3),(23,K2 aPow aFew ((kRow Pg1).rs2 kInt).out.res f4),(24,K3 aPow aFew (kRow Fr).arg ((kRow Fr).rs3 (kRow Pg1) kInt).out.res f5),(25,Kcut f6),(19,K2 (kRow Fr).arg (argRw .fr) (kRow Pg1).rs.out.res f7),(26,K2 (argRw .fr) (kRow Fr).arg r4.res f8),(20,K2 aFew (kRow Fr).arg oFrs.res f9)] [17,25,20]) kBool.rs.out 300 Tryz.f4 (flat (codeOf Tryz.f4)) (startSt Tryz.f4 [.one ((kRow Fr).av tau),.one (kU8.av n),rwV .fr 0 f,.one ((kRow Fr).av z)] [rwHE .fr f])=kzgCommits_T f0 f1 f2 f3 f4 f5 f6 f7 f8 f9 tau n f z:=by kernel_rfl
def kzgCommits (tau:Fr) (n:UInt8) (f:List Fr) (z:Fr):Bool:=(kzgCommits_T begun18 mayRF mayLF powsF kCommit kOpen cutL commF rAtF rQuotF tau n f z).outD false
theorem kzgCommits_gives' (tau:Fr) (n:UInt8) (f:List Fr) (z:Fr) {w:World} {vtau vn vf vz:Value} (gtau:(kRow Fr).arg.is w vtau tau) (gn:kU8.arg.is w vn n) (gf:(argRw .fr).is w vf f) (gz:(kRow Fr).arg.is w vz z) (h:(inpRw .fr).fact f->(kzgCommits_T begun18 mayRF mayLF powsF kCommit kOpen cutL commF rAtF rQuotF tau n f z).full=true/\(kzgCommits_T begun18 mayRF mayLF powsF kCommit kOpen cutL commF rAtF rQuotF tau n f z).okAll):Gives Tryz.prog 4 #[vtau,vn,vf,vz] w kBool.rs.out.res (kzgCommits tau n f z) :=
 GLg (E:=Ens [(21,K0  kBool.rs.out.res begun18),(22,Krb mayRF),(14,K2 (argRw .fr) kInt.arg kBool.rs.res mayLF),(17,K2 (kRow Fr).arg (kInt.arg.such fewI) oPow.res powsF),(23,K2 aPow aFew ((kRow Pg1).rs2 kInt).out.res kCommit),(24,K3 aPow aFew (kRow Fr).arg ((kRow Fr).rs3 (kRow Pg1) kInt).out.res kOpen),(25,Kcut cutL),(19,K2 (kRow Fr).arg (argRw .fr) (kRow Pg1).rs.out.res commF),(26,K2 (argRw .fr) (kRow Fr).arg r4.res rAtF),(20,K2 aFew (kRow Fr).arg oFrs.res rQuotF)] [17,25,20]) Tryz.func4 (c:=codeOf Tryz.f4) (by kernel_rfl) (InpL.cons (kRow Fr).inp (InpL.cons kU8.inp (InpL.cons (inpRw .fr) (InpL.cons (kRow Fr).inp InpL.nil)))) kBool.rs.out (kzgCommits tau n f z) (vs := [vtau,vn,vf,vz]) (x:=(tau,n,f,z,())) ⟨gtau,gn,gf,gz,rfl⟩ fun g =>
  (DoesL.outs (Ens_ok (.cons begun18_ok (.cons mayR_ok (.cons mayLF_ok (.cons powsF_ok (.cons kCommit_ok (.cons kOpen_ok (.cons rcut_ok (.cons commF_ok (.cons rAtF_ok (.cons rQuotF_ok .nil))))))))))) 300 false (kzgCommits_run begun18 mayRF mayLF powsF kCommit kOpen cutL commF rAtF rQuotF tau n f z) (h g.2.2.1).1 (h g.2.2.1).2)
end Go.Proofs.YtgpafcehehaiiaaGreat
set_option maxRecDepth 100000
namespace Go.Proofs.YtgpafcehehaiiaaGreat
open Go.RowKit
theorem one25_def (f:UInt64->Fr):one25_G f=f 1:=rfl
theorem one25_eq:one25=oneFr:=by
 unfold one25
 rw [one25_def,ofR_one]
theorem one_one:mulRF oneFr oneFr=oneFr:=step_k oneFr_ok
theorem powRAt_one (e:List UInt64) : ∀ n,powRAt oneFr e n oneFr=oneFr
 | 0=>rfl
 | n+1=>by
  show powRAt oneFr e n (match bitAt e n with | true=>mulRF (mulRF oneFr oneFr) oneFr | false=>mulRF oneFr oneFr)=oneFr
  cases bitAt e n with
  | true =>
   show powRAt oneFr e n (mulRF (mulRF oneFr oneFr) oneFr)=oneFr
   rw [one_one,one_one]
   exact powRAt_one e n
  | false =>
   show powRAt oneFr e n (mulRF oneFr oneFr)=oneFr
   rw [one_one]
   exact powRAt_one e n
theorem invRF_nz {a:Fr} (h:frEq a zeroFr=false):invRF a=(powRF a rm2,0):=by
 unfold invRF
 rw [h]
theorem invR_one:(invRF oneFr).1=oneFr:=by
 have h:frEq oneFr zeroFr=false:=by decide
 rw [invRF_nz h]
 dsimp only
 unfold powRF
 rw [ofR_one]
 exact powRAt_one _ _
theorem cutL_one (c:Fr):cutL [c,oneFr] = [c,oneFr]:=by
 have h:frEq oneFr frZ=false:=by decide
 have e:cutN4 [c,oneFr] 2=2:=by
  rw [cutN4_succ]
  show (match frEq oneFr frZ with | true=>cutN4 [c,oneFr] 1 | false=>1+1)=2
  rw [h]
 unfold cutL
 show List.take (cutN4 [c,oneFr] 2) [c,oneFr]=_
 rw [e]
 rfl
theorem dvF_eq {a:List Fr} (ha:okFs a) {z c:Fr} (hz:z.ok) (hc:c.ok) (h:c.v = -z.v):(dvF a [c,oneFr]).1=(linF a z).1:=by
 have e:dvF a [c,oneFr]=(cutL (dvR mulRF subRF (cutL [c,oneFr]) (invRF ((cutL [c,oneFr]).getD 1 frZ)).1 ((cutL a).length+1-(cutL [c,oneFr]).length) (cutL a,zerosL (cutL a).length)).2,0) :=
  dvG_some (n:=1) (by rw [cutL_one];rfl)
 rw [e,cutL_one]
 show cutL (dvR mulRF subRF [c,oneFr] (invRF oneFr).1 ((cutL a).length+1-2) (cutL a,zerosL (cutL a).length)).2=_
 rw [invR_one,dvF_lin hz hc h (cutL_ok ha),linR_eq hz (cutL_ok ha),linF_cut a hz]
 unfold linF
 rw [linG_S]
def addG (aF:Fr->Fr->Fr) (l m:List Fr) (n:Nat):List Fr:=(List.range n).map fun i=>aF (atL l i) (atL m i)
theorem addTo_G (l m:List Fr) (n:Nat):addTo l m n=addG addRF l m n:=by
 unfold addTo addG
 exact List.map_congr_left fun _ _=>Eq.refl _
theorem atL_cons (c:Fr) (l:List Fr) (i:Nat):atL (c :: l) (i+1)=atL l i:=by
 unfold atL
 rw [List.getD_cons_succ]
theorem atL_in (l:List Fr) {i:Nat} (h:i<l.length):atL l i=l[i]:=by
 unfold atL
 rw [List.getD_eq_getElem?_getD,List.getElem?_eq_getElem h]
 exact Option.getD_some
theorem atL_out (l:List Fr) {i:Nat} (h:l.length<=i):atL l i=frZ:=by
 unfold atL
 rw [List.getD_eq_getElem?_getD,List.getElem?_eq_none h]
 exact Option.getD_none
theorem addG_shape {aF:Fr->Fr->Fr} {c:Fr} {l s:List Fr} (hs:s.length<=1) (h0 : ∀ x ∈ l,aF x frZ=x):addG aF (c :: l) s (l.length+1)=aF c (atL s 0) :: l:=by
 unfold addG
 rw [List.range_succ_eq_map,List.map_cons,List.map_map]
 have h1:List.map ((fun i=>aF (atL (c :: l) i) (atL s i)) ∘ Nat.succ) (List.range l.length)=l:=by
  refine List.ext_getElem (by rw [List.length_map,List.length_range]) fun i hi hi2 => ?_
  rw [List.getElem_map,List.getElem_range]
  show aF (atL (c :: l) (i+1)) (atL s (i+1))=l[i]
  rw [atL_cons,atL_in l hi2,atL_out s (by omega)]
  exact h0 _ (List.getElem_mem hi2)
 rw [h1]
 rfl
theorem cutL_single (x:Fr):cutL [x] = [] \/ cutL [x] = [x]:=by
 have h:=cutL_le [x]
 have h2:=cutL_len [x]
 unfold cutL
 generalize cutN4 [x] [x].length=n at *
 match n with
 | 0=>exact .inl (List.take_zero)
 | n+1=>exact .inr (by rw [List.take_succ_cons,List.take_nil])
theorem atL_cut (x:Fr):atL (cutL [x]) 0=frZ \/ atL (cutL [x]) 0=x:=by
 rcases cutL_single x with e | e
 ·rw [e];exact .inl rfl
 ·rw [e];exact .inr rfl
theorem rSub_list (l:List Fr) (y:Fr):rSubF l [y]=rAddF l (cutL [mulRF y (negRF oneFr)]):=by
 rw [rSubF_eq,ofR_one]
 unfold rScaleF
 rw [List.map_cons,List.map_nil]
theorem rAdd_list (l m:List Fr):rAddF l m=cutL (addG addRF l m (maxN l m)):=by
 unfold rAddF
 rw [addTo_G]
theorem rSub_shape (c:Fr) (l:List Fr) (hl:okFs l) (y:Fr):rSubF (c :: l) [y]=cutL (addRF c (atL (cutL [mulRF y (negRF oneFr)]) 0) :: l):=by
 rw [rSub_list,rAdd_list]
 have len:(cutL [mulRF y (negRF oneFr)]).length<=1:=cutL_le _
 generalize cutL [mulRF y (negRF oneFr)]=s at len ⊢
 have hm:maxN (c :: l) s=l.length+1:=by
  show max s.length (c :: l).length=l.length+1
  rw [List.length_cons]
  exact Nat.max_eq_right (by omega)
 rw [hm,addG_shape len fun x hx => ?_]
 have hx:x.ok:=hl x hx
 refine Fr.v_inj (add_okR hx frZ_ok) hx ?_
 rw [v_addR hx frZ_ok,frZ_v]
 generalize x.v=p
 grind
theorem rQuot_lin {f:List Fr} (hf:okFs f) {z:Fr} (hz:z.ok):rQuotF f z=(linF f z).1:=by
 have hn:(negRF z).ok:=neg_okR hz
 have hv:(negRF z).v = -z.v:=v_negR hz
 rw [rQuotF_eq,one25_eq]
 have hy:(rAtF f z).ok:=(rAt_all hf hz).1
 generalize rAtF f z=y at hy
 cases f with
 | nil =>
  have ok:okFs (rSubF [] [y]):=by
   rw [rSub_list,rAdd_list]
   refine cutL_ok fun x hx => ?_
   unfold addG at hx
   obtain ⟨i,_,rfl⟩:=List.mem_map.1 hx
   refine add_okR (okFs_get okFs_nil i) (okFs_get ?_ i)
   exact cutL_ok fun x hx=>by
    rw [List.mem_singleton.1 hx]
    exact mul_okR (neg_okR oneFr_ok)
  have len:(rSubF [] [y]).length<=1:=by
   rw [rSubF_eq]
   refine Nat.le_trans (rAdd_len _ _) ?_
   refine Nat.max_le.2 ⟨rScale_len _ _,Nat.zero_le _⟩
  rw [dvF_eq ok hz hn hv]
  generalize rSubF [] [y]=a at len
  have h1:((linF a z).1).length=0:=by
   have:=linF_len a z
   omega
  rw [List.length_eq_zero_iff.1 h1]
  rfl
 | cons c l =>
  have hc:c.ok:=hf c (List.mem_cons_self ..)
  have hl:okFs l:=fun x hx=>hf x (List.mem_cons_of_mem _ hx)
  have e1:=rSub_shape c l hl y
  have e2:=atL_cut (mulRF y (negRF oneFr))
  have hm:(mulRF y (negRF oneFr)).ok:=mul_okR (neg_okR oneFr_ok)
  generalize mulRF y (negRF oneFr)=x at e1 e2 hm
  generalize atL (cutL [x]) 0=e at e1 e2
  have he:e.ok:=by
   rcases e2 with rfl | rfl
   ·exact frZ_ok
   ·exact hm
  have ok:okFs (addRF c e :: l):=fun x hx=>by
   rcases List.mem_cons.1 hx with rfl | hx
   ·exact add_okR hc he
   ·exact hl x hx
  rw [e1,dvF_eq (cutL_ok ok) hz hn hv,<- linF_cut _ hz]
  unfold linF
  rw [linG_S,linG_S,linS_fst,linS_fst]
theorem dvR_len2 {mF sF:Fr->Fr->Fr} (B:List Fr) (t:Fr) : ∀ (n:Nat) (s:List Fr × List Fr),(dvR mF sF B t n s).2.length=s.2.length
 | 0,s=>by rw [dvR_zero]
 | n+1,(A,q)=>by rw [dvR_succ,dvR_len2 B t n,List.length_set]
def kcI (n:UInt8):Int:=IntKind.i64.wrap (2+(((n % UInt8.ofNat 5).toNat:Nat):Int))
theorem kcI_nat (n:UInt8) : ∃ k:Nat,kcI n=(k:Int)/\2<=k/\k<=6:=by
 have h:(n % UInt8.ofNat 5).toNat<5:=by
  rw [UInt8.toNat_mod]
  exact Nat.mod_lt _ (by decide)
 refine ⟨2+(n % UInt8.ofNat 5).toNat,?_,by omega,by omega⟩
 unfold kcI
 rw [IntWalk.i64_in _ (by omega)]
 omega
def kcB (C:Pg1 × Int) (O:Fr × Pg1 × Int):Bool:=(C.2==8 && (O.2.2==8 && (pg1Eq C.1 pg10 && (pg1Eq O.2.1 pg10 && frEq O.1 frZ))))
def kcA (C:Pg1 × Int) (O:Fr × Pg1 × Int) (c w:Pg1) (y:Fr):Bool:=(C.2==0 && (pg1Eq C.1 c && (O.2.2==0 && (frEq O.1 y && pg1Eq O.2.1 w))))
theorem kzgCommits_G (b:Bool) (M1:Fr->Bool) (M:List Fr->Int->Bool) (P:Fr->Int->List Pg1 × Pg2) (C:List Pg1 × Pg2->List Fr->Pg1 × Int) (O:List Pg1 × Pg2->List Fr->Fr->Fr × Pg1 × Int) (F:List Fr->List Fr) (D:Fr->List Fr->Pg1) (A:List Fr->Fr->Fr) (Q:List Fr->Fr->List Fr) (tau:Fr) (n:UInt8) (f:List Fr) (z:Fr):(kzgCommits_T b M1 M P C O F D A Q tau n f z).outD false =
  cond (!b) false (cond (!M1 tau) true (cond (!M1 z) true (cond (!M (List.take f.length (List.drop 0 f)) 7) true (cond (decide (((F (List.take f.length (List.drop 0 f))).length:Int) > kcI n))
   (kcB (C (List.take (P tau (kcI n)).1.length (List.drop 0 (P tau (kcI n)).1),(P tau (kcI n)).2) (List.take f.length (List.drop 0 f))) (O (List.take (P tau (kcI n)).1.length (List.drop 0 (P tau (kcI n)).1),(P tau (kcI n)).2) (List.take f.length (List.drop 0 f)) z))
   (kcA (C (List.take (P tau (kcI n)).1.length (List.drop 0 (P tau (kcI n)).1),(P tau (kcI n)).2) (List.take f.length (List.drop 0 f))) (O (List.take (P tau (kcI n)).1.length (List.drop 0 (P tau (kcI n)).1),(P tau (kcI n)).2) (List.take f.length (List.drop 0 f)) z) (D tau (List.take f.length (List.drop 0 f))) (D tau (List.take (Q (List.take f.length (List.drop 0 f)) z).length (List.drop 0 (Q (List.take f.length (List.drop 0 f)) z)))) (A (List.take f.length (List.drop 0 f)) z)))))):=by
 unfold kzgCommits_T
 simp only [outD_br,outD_vc,outD_leaf,cond_and]
 rfl
theorem kcB_true:kcB (pg10,8) (frZ,pg10,8)=true:=by
 unfold kcB
 dsimp only
 rw [(pg1Eq_iff _ _).2 rfl,(frEq_iff _ _).2 rfl]
 rfl
theorem kcA_true {C:Pg1 × Int} {O:Fr × Pg1 × Int} {c w:Pg1} {y:Fr} (h1:C.2=0) (h2:C.1=c) (h3:O.2.2=0) (h4:O.1=y) (h5:O.2.1=w):kcA C O c w y=true:=by
 unfold kcA
 rw [h1,h2,h3,h4,h5,(pg1Eq_iff _ _).2 rfl,(pg1Eq_iff _ _).2 rfl,(frEq_iff _ _).2 rfl]
 rfl
theorem comm_val {t:Fr} (ht:t.ok) {f:List Fr} (hf:okFs f):At1 (commF t f) (hor t.v (vL f)):=by
 obtain ⟨h1,h2⟩:=rAt_all hf ht
 rw [commF_eq]
 have:=at1_comm (k:=rAtF f t) h1
 rw [show (rAtF f t).v=hor t.v (vL f) from h2] at this
 exact this
theorem kzgCommits_law (tau:Fr) (n:UInt8) (f:List Fr) (z:Fr):kzgCommits tau n f z=true:=by
 unfold kzgCommits
 rw [kzgCommits_G,begun18_true,wholeFr,wholeFr,wholeG1]
 cases e:mayRF tau with
 | false=>rfl
 | true =>
  cases e1:mayRF z with
  | false=>rfl
  | true =>
   cases e2:mayLF f 7 with
   | false=>rfl
   | true =>
    have k1:=mayR_ok' e
    have k2:=mayR_ok' e1
    obtain ⟨hf,hl⟩:=mayLF_true e2
    obtain ⟨k,hk,h2,h6⟩:=kcI_nat n
    rw [hk]
    show cond (decide (((cutL f).length:Int) > (k:Int))) (kcB (kCommit ((powsF tau k).1,(powsF tau k).2) f) (kOpen ((powsF tau k).1,(powsF tau k).2) f z)) (kcA (kCommit ((powsF tau k).1,(powsF tau k).2) f) (kOpen ((powsF tau k).1,(powsF tau k).2) f z) (commF tau f) (commF tau (rQuotF f z)) (rAtF f z))=true
    rcases Nat.lt_or_ge k (cutL f).length with hlt | hge
    ·rw [cond_gt hlt]
     have hc:=kCommit_long (p:=powsF tau k) (f:=f) (by rw [powsF_len];exact hlt)
     have ho:=kOpen_long (p:=powsF tau k) (f:=f) (z:=z) (by rw [powsF_len];exact hlt)
     generalize powsF tau k=p at hc ho ⊢
     obtain ⟨p1,p2⟩:=p
     show kcB (kCommit (p1,p2) f) (kOpen (p1,p2) f z)=true
     rw [hc,ho]
     exact kcB_true
    ·rw [cond_le hge]
     obtain ⟨c1,c2⟩:=kCommit_val k1 (n:=k) hf hge
     obtain ⟨o1,o2,o3,o4,o5⟩:=kOpen_val k1 (n:=k) hf k2 hge
     have v1:=comm_val k1 hf
     obtain ⟨q1,q2,q3,q4⟩:=linF_v hf k2 tau.v
     have v2:=comm_val k1 q1
     rw [rQuot_lin hf k2]
     obtain ⟨a1,a2⟩:=rAt_all hf k2
     have hy:(kOpen (powsF tau k) f z).1=rAtF f z:=Fr.v_inj o2 a1 (by rw [o3];exact a2.symm)
     have hC:=c2.eq v1
     have hO:=o4.eq v2
     generalize powsF tau k=p at c1 o1 hy hC hO ⊢
     obtain ⟨p1,p2⟩:=p
     exact kcA_true c1 hC o1 hy hO
theorem kzgCommits_ok (tau:Fr) (n:UInt8) (f:List Fr) (z:Fr) (hf:f.length<topLen):(kzgCommits_T begun18 mayRF mayLF powsF kCommit kOpen cutL commF rAtF rQuotF tau n f z).full=true/\(kzgCommits_T begun18 mayRF mayLF powsF kCommit kOpen cutL commF rAtF rQuotF tau n f z).okAll:=by
 obtain ⟨k,hk,h2,h6⟩:=kcI_nat n
 have hp:few (powsF tau (kcI n)).1:=by
  rw [hk]
  exact fewP_of tau (n:=k) (by omega)
 have hw:fewI (kcI n):=by
  rw [hk]
  exact ⟨by omega,by omega⟩
 refine ⟨rfl,fun _=>trivial,fun _=>⟨fun _=>trivial,fun _=>⟨fun _=>trivial,fun _=>⟨vcAllFr hf,fun _=>trivial,fun h3 => ?_⟩⟩⟩⟩
 rw [wholeFr] at h3
 have h4:fewR f:=mayLF_few (n:=7) (of_not_false h3) (by decide)
 have hq:(rQuotF f z).length<topLen:=by
  rw [rQuotF_eq,one25_eq]
  have e : ∀ a c,((dvF a [c,oneFr]).1).length<=a.length:=fun a c=>by
   have e:dvF a [c,oneFr]=(cutL (dvR mulRF subRF (cutL [c,oneFr]) (invRF ((cutL [c,oneFr]).getD 1 frZ)).1 ((cutL a).length+1-(cutL [c,oneFr]).length) (cutL a,zerosL (cutL a).length)).2,0) :=
    dvG_some (n:=1) (by rw [cutL_one];rfl)
   rw [e]
   dsimp only
   refine Nat.le_trans (cutL_le _) ?_
   rw [dvR_len2]
   dsimp only
   rw [zerosL_len]
   exact cutL_le _
  have h5:(rSubF f [rAtF f z]).length<4294967296:=rSubF_few h4 (few1 _)
  have h6:=e (rSubF f [rAtF f z]) (negRF z)
  show _<1125899906842624
  omega
 refine ⟨hw,⟨vcFewG hp,vcFew h4⟩,⟨vcFewG hp,vcFew h4⟩,vcFew h4,?_⟩
 rw [wholeFr f]
 refine ⟨vcLenFr _,fun _ => ?_,fun _=>⟨fun _=>⟨vcAllFr hf,fun _=>⟨fun _=>⟨vcAllFr hf,fun _=>⟨vcFew' h4,vcAllFr hq,trivial⟩,fun _=>trivial⟩,fun _=>trivial⟩,fun _=>trivial⟩,fun _=>trivial⟩⟩
 simp only [Tree.okAll,Pr.holds,implies_true,and_self]
theorem kzgCommits_gives {w:World} {v0 v1 v2 v3:Value} {tau:Fr} {n:UInt8} {f:List Fr} {z:Fr} (g0:(kRow Fr).arg.is w v0 tau) (g1:kU8.arg.is w v1 n) (g2:RwIs .fr w v2 f) (g3:(kRow Fr).arg.is w v3 z):Gives Tryz.prog 4 #[v0,v1,v2,v3] w kBool.rs.res true:=by
 have:=kzgCommits_gives' tau n f z g0 g1 g2 g3 (fun hf=>kzgCommits_ok tau n f z hf)
 rw [kzgCommits_law] at this
 exact this
end Go.Proofs.YtgpafcehehaiiaaGreat