/- Texts of the proof, joined. -/
import Derived.Test.YtgpafcehehaiiaaGreatZI5
set_option linter.unusedSectionVars false
set_option linter.unusedSimpArgs false
set_option linter.unusedVariables false
namespace Go.Proofs.YtgpafcehehaiiaaGreat
open Go.RowKit
section
def OH  : Pg2:=({ x := { c0 := { l0:=UInt64.ofNat 15312334153293348280,l1:=UInt64.ofNat 841050694974028783,l2:=UInt64.ofNat 12993178926126977399,l3:=UInt64.ofNat 14331714969349929730,l4:=UInt64.ofNat 2740446039084699729,l5:=UInt64.ofNat 165123225776229009 },c1 := { l0:=UInt64.ofNat 16549740192668593022,l1:=UInt64.ofNat 3696594454104530263,l2:=UInt64.ofNat 13103893525273989193,l3:=UInt64.ofNat 6443473286224459290,l4:=UInt64.ofNat 9055845637167730533,l5:=UInt64.ofNat 1432192374203850592 } },y := { c0 := { l0:=UInt64.ofNat 16254428414758889473,l1:=UInt64.ofNat 10536956157198377609,l2:=UInt64.ofNat 7873024875724591404,l3:=UInt64.ofNat 12537348094477325223,l4:=UInt64.ofNat 10144865889576432922,l5:=UInt64.ofNat 929383263523139089 },c1 := { l0:=UInt64.ofNat 12297368366147926462,l1:=UInt64.ofNat 4555124010822409633,l2:=UInt64.ofNat 2771000935339432363,l3:=UInt64.ofNat 14645187562128761775,l4:=UInt64.ofNat 3651525051980876697,l5:=UInt64.ofNat 434250606344352972 } },inf:=false })
def OG  : Tree (Option (Pg2)) :=
 (.leaf (some ({ x := { c0 := { l0:=UInt64.ofNat 15312334153293348280,l1:=UInt64.ofNat 841050694974028783,l2:=UInt64.ofNat 12993178926126977399,l3:=UInt64.ofNat 14331714969349929730,l4:=UInt64.ofNat 2740446039084699729,l5:=UInt64.ofNat 165123225776229009 },c1 := { l0:=UInt64.ofNat 16549740192668593022,l1:=UInt64.ofNat 3696594454104530263,l2:=UInt64.ofNat 13103893525273989193,l3:=UInt64.ofNat 6443473286224459290,l4:=UInt64.ofNat 9055845637167730533,l5:=UInt64.ofNat 1432192374203850592 } },y := { c0 := { l0:=UInt64.ofNat 16254428414758889473,l1:=UInt64.ofNat 10536956157198377609,l2:=UInt64.ofNat 7873024875724591404,l3:=UInt64.ofNat 12537348094477325223,l4:=UInt64.ofNat 10144865889576432922,l5:=UInt64.ofNat 929383263523139089 },c1 := { l0:=UInt64.ofNat 12297368366147926462,l1:=UInt64.ofNat 4555124010822409633,l2:=UInt64.ofNat 2771000935339432363,l3:=UInt64.ofNat 14645187562128761775,l4:=UInt64.ofNat 3651525051980876697,l5:=UInt64.ofNat 434250606344352972 } },inf:=false })))
theorem R1  : ac (En []) (aa Pg2).rs 300 Tryz.f67 []=OG  := by kernel_rfl
theorem R0  : (OG ).sat fun q=>q=some (OH ):=(show some _=some _ from rfl)
def oneG2  : Pg2:=OH
theorem Xl:CallOk Tryz.prog 67 (K0 (aa Pg2).rs.res oneG2) :=
 P0 (aj .nil) Tryz.func67 (ab Tryz.func67 (by kernel_rfl) (by kernel_rfl)) 300  (aa Pg2).rs oneG2 (R1 ) (R0 )
def D2 (f0:Fp2->Fp2->Fp2) (f1:Fp2->Fp2->Fp2) (x:Fp2):Fp2:=(f0 (f1 (f1 x x) x) { c0 := { l0:=UInt64.ofNat 4,l1:=UInt64.ofNat 0,l2:=UInt64.ofNat 0,l3:=UInt64.ofNat 0,l4:=UInt64.ofNat 0,l5:=UInt64.ofNat 0 },c1 := { l0:=UInt64.ofNat 4,l1:=UInt64.ofNat 0,l2:=UInt64.ofNat 0,l3:=UInt64.ofNat 0,l4:=UInt64.ofNat 0,l5:=UInt64.ofNat 0 } })
def Ou (f0:Fp2->Fp2->Fp2) (f1:Fp2->Fp2->Fp2) (x:Fp2):Tree (Option (Fp2)):=letI za':Fp := { l0:=UInt64.ofNat 4,l1:=UInt64.ofNat 0,l2:=UInt64.ofNat 0,l3:=UInt64.ofNat 0,l4:=UInt64.ofNat 0,l5:=UInt64.ofNat 0 };
 (.leaf (some (f0 (f1 (f1 x x) x) { c0:=za',c1:=za' })))
theorem Q8 (f0:Fp2->Fp2->Fp2) (f1:Fp2->Fp2->Fp2) (x:Fp2):ac (En [(178,K2 (aa Fp2).arg (aa Fp2).arg (aa Fp2).rs.res f0),(147,K2 (aa Fp2).arg (aa Fp2).arg (aa Fp2).rs.res f1)]) (aa Fp2).rs 300 Tryz.f148 [.one ((aa Fp2).av x)]=Ou f0 f1 x:=by kernel_rfl
theorem Q7 (f0:Fp2->Fp2->Fp2) (f1:Fp2->Fp2->Fp2) (x:Fp2):(Ou f0 f1 x).sat fun q=>q=some (D2 f0 f1 x):=(show some _=some _ from rfl)
def xu (x:Fp2):Fp2:=D2 aI b9 x
theorem Wl:CallOk Tryz.prog 148 (K1 (aa Fp2).arg (aa Fp2).rs.res xu) :=
 P1 (aj (.cons f9 (.cons zJ .nil))) Tryz.func148 (ab Tryz.func148 (by kernel_rfl) (by kernel_rfl)) 300 (aa Fp2) (aa Fp2).rs xu (Q8 aI b9) (Q7 aI b9)
def mh (f0:Fp2->Bool) (f1:Fp2->Fp2->Fp2) (f2:Fp2->Fp2) (p:Pg2):Bool:=(match (p.inf) with | true=>((Le (p) (infG2))) | false=>(match (f0 p.x) with | true=>(match (f0 p.y) with | true=>((mW (f1 p.y p.y) (f2 p.x))) | false=>((false))) | false=>((false))))
def aaT (f0:Fp2->Bool) (f1:Fp2->Fp2->Fp2) (f2:Fp2->Fp2) (p:Pg2):Tree (Option (Bool)) :=
 (.br (p.inf) (.leaf (some ((Le (p) (infG2))))) (.br (f0 p.x) (.br (f0 p.y) (.leaf (some ((mW (f1 p.y p.y) (f2 p.x))))) (.leaf (some ((false))))) (.leaf (some ((false))))))
theorem Xp (f0:Fp2->Bool) (f1:Fp2->Fp2->Fp2) (f2:Fp2->Fp2) (p:Pg2):ac (En [(146,K1 (aa Fp2).arg kBool.rs.res f0),(147,K2 (aa Fp2).arg (aa Fp2).arg (aa Fp2).rs.res f1),(148,K1 (aa Fp2).arg (aa Fp2).rs.res f2)]) kBool.rs 300 Tryz.f101 [.one ((aa Pg2).av p)]=aaT f0 f1 f2 p:=by kernel_rfl
theorem Xo (f0:Fp2->Bool) (f1:Fp2->Fp2->Fp2) (f2:Fp2->Fp2) (p:Pg2):(aaT f0 f1 f2 p).sat fun q=>q=some (mh f0 f1 f2 p):=⟨fun h0=>(show some _=some _ from congrArg some (by unfold mh;rw [h0])),fun h0=>⟨fun h1=>⟨fun h2=>(show some _=some _ from congrArg some (by unfold mh;rw [h0,h1,h2])),fun h2=>(show some _=some _ from congrArg some (by unfold mh;rw [h0,h1,h2]))⟩,fun h1=>(show some _=some _ from congrArg some (by unfold mh;rw [h0,h1]))⟩⟩
def Va (p:Pg2):Bool:=mh Bf b9 xu p
theorem adT:CallOk Tryz.prog 101 (K1 (aa Pg2).arg kBool.rs.res Va) :=
 P1 (aj (.cons Yi (.cons zJ (.cons Wl .nil)))) Tryz.func101 (ab Tryz.func101 (by kernel_rfl) (by kernel_rfl)) 300 (aa Pg2) kBool.rs Va (Xp Bf b9 xu) (Xo Bf b9 xu)
def jn (f0:Fp2->Fp2) (p:Pg2):Fp6:=(match (p.inf) with | true=>(zeroFp6) | false=>({ c0:=f0 p.x,c1:=f0 p.y,c2:=f0 oneFp2 }))
def IP (f0:Fp2->Fp2) (p:Pg2):Tree (Option (Fp6)) :=
 (.br (p.inf)
  (.leaf (some (zeroFp6)))
  (.leaf (some ({ c0:=f0 p.x,c1:=f0 p.y,c2:=f0 oneFp2 }))))
theorem LQ (f0:Fp2->Fp2) (p:Pg2):ac (En [(151,K1 (aa Fp2).arg (aa Fp2).rs.res f0)]) (aa Fp6).rs 300 Tryz.f104 [.one ((aa Pg2).av p)]=IP f0 p:=by kernel_rfl
theorem LP (f0:Fp2->Fp2) (p:Pg2):(IP f0 p).sat fun q=>q=some (jn f0 p):=⟨fun h0=>(show some _=some _ from congrArg some (by unfold jn;rw [h0])),fun h0=>(show some _=some _ from congrArg some (by unfold jn;rw [h0]))⟩
def qp (p:Pg2):Fp6:=jn ay p
theorem S8:CallOk Tryz.prog 104 (K1 (aa Pg2).arg (aa Fp6).rs.res qp) :=
 P1 (aj (.cons gh .nil)) Tryz.func104 (ab Tryz.func104 (by kernel_rfl) (by kernel_rfl)) 300 (aa Pg2) (aa Fp6).rs qp (LQ ay) (LP ay)
def y6 (a:Fp2):Bool:=((mW (a) (zeroFp2)))
def Hh (a:Fp2):Tree (Option (Bool)) :=
 (.leaf (some ((mW (a) (zeroFp2)))))
theorem Jz (a:Fp2):ac (En []) kBool.rs 300 Tryz.f102 [.one ((aa Fp2).av a)]=Hh a:=by kernel_rfl
theorem Jy (a:Fp2):(Hh a).sat fun q=>q=some (y6 a):=(show some _=some _ from rfl)
def ik (a:Fp2):Bool:=y6  a
theorem Bo:CallOk Tryz.prog 102 (K1 (aa Fp2).arg kBool.rs.res ik) :=
 P1 (aj .nil) Tryz.func102 (ab Tryz.func102 (by kernel_rfl) (by kernel_rfl)) 300 (aa Fp2) kBool.rs ik (Jz ) (Jy )
def tS (f0:Fp2->Fp2->Fp2) (f1:Fp2->Fp2->Fp2) (f2:Fp2->Fp2->Fp2) (s:Fp6):Fp6:=({ c0:=f2 (f0 (f1 (f1 (f0 s.c0 s.c0) (f0 s.c0 s.c0)) (f0 s.c0 s.c0)) (f1 (f1 (f0 s.c0 s.c0) (f0 s.c0 s.c0)) (f0 s.c0 s.c0))) (f1 (f1 (f1 (f0 s.c0 (f0 s.c1 s.c1)) (f0 s.c0 (f0 s.c1 s.c1))) (f1 (f0 s.c0 (f0 s.c1 s.c1)) (f0 s.c0 (f0 s.c1 s.c1)))) (f1 (f1 (f0 s.c0 (f0 s.c1 s.c1)) (f0 s.c0 (f0 s.c1 s.c1))) (f1 (f0 s.c0 (f0 s.c1 s.c1)) (f0 s.c0 (f0 s.c1 s.c1))))),c1:=f2 (f0 (f1 (f1 (f0 s.c0 s.c0) (f0 s.c0 s.c0)) (f0 s.c0 s.c0)) (f2 (f1 (f1 (f0 s.c0 (f0 s.c1 s.c1)) (f0 s.c0 (f0 s.c1 s.c1))) (f1 (f0 s.c0 (f0 s.c1 s.c1)) (f0 s.c0 (f0 s.c1 s.c1)))) (f2 (f0 (f1 (f1 (f0 s.c0 s.c0) (f0 s.c0 s.c0)) (f0 s.c0 s.c0)) (f1 (f1 (f0 s.c0 s.c0) (f0 s.c0 s.c0)) (f0 s.c0 s.c0))) (f1 (f1 (f1 (f0 s.c0 (f0 s.c1 s.c1)) (f0 s.c0 (f0 s.c1 s.c1))) (f1 (f0 s.c0 (f0 s.c1 s.c1)) (f0 s.c0 (f0 s.c1 s.c1)))) (f1 (f1 (f0 s.c0 (f0 s.c1 s.c1)) (f0 s.c0 (f0 s.c1 s.c1))) (f1 (f0 s.c0 (f0 s.c1 s.c1)) (f0 s.c0 (f0 s.c1 s.c1)))))))) (f1 (f1 (f1 (f0 (f0 s.c1 s.c1) (f0 s.c1 s.c1)) (f0 (f0 s.c1 s.c1) (f0 s.c1 s.c1))) (f1 (f0 (f0 s.c1 s.c1) (f0 s.c1 s.c1)) (f0 (f0 s.c1 s.c1) (f0 s.c1 s.c1)))) (f1 (f1 (f0 (f0 s.c1 s.c1) (f0 s.c1 s.c1)) (f0 (f0 s.c1 s.c1) (f0 s.c1 s.c1))) (f1 (f0 (f0 s.c1 s.c1) (f0 s.c1 s.c1)) (f0 (f0 s.c1 s.c1) (f0 s.c1 s.c1))))),c2:=f1 (f0 s.c1 s.c2) (f0 s.c1 s.c2) })
def Bx (f0:Fp2->Fp2->Fp2) (f1:Fp2->Fp2->Fp2) (f2:Fp2->Fp2->Fp2) (s:Fp6):Tree (Option (Fp6)):=letI za':=f1 (f0 s.c0 (f0 s.c1 s.c1)) (f0 s.c0 (f0 s.c1 s.c1));letI zb':=f0 (f0 s.c1 s.c1) (f0 s.c1 s.c1);letI zc':=f1 (f1 (f0 s.c0 s.c0) (f0 s.c0 s.c0)) (f0 s.c0 s.c0);letI zd':=f1 (f1 za' za') (f1 za' za');letI ze':=f1 (f1 zb' zb') (f1 zb' zb');
 (.leaf (some ({ c0:=f2 (f0 zc' zc') zd',c1:=f2 (f0 zc' (f2 (f1 za' za') (f2 (f0 zc' zc') zd'))) (f1 ze' ze'),c2:=f1 (f0 s.c1 s.c2) (f0 s.c1 s.c2) })))
theorem FW (f0:Fp2->Fp2->Fp2) (f1:Fp2->Fp2->Fp2) (f2:Fp2->Fp2->Fp2) (s:Fp6):ac (En [(177,K2 (aa Fp2).arg (aa Fp2).arg (aa Fp2).rs.res f0),(178,K2 (aa Fp2).arg (aa Fp2).arg (aa Fp2).rs.res f1),(179,K2 (aa Fp2).arg (aa Fp2).arg (aa Fp2).rs.res f2)]) (aa Fp6).rs 300 Tryz.f149 [.one ((aa Fp6).av s)]=Bx f0 f1 f2 s:=by kernel_rfl
theorem FV (f0:Fp2->Fp2->Fp2) (f1:Fp2->Fp2->Fp2) (f2:Fp2->Fp2->Fp2) (s:Fp6):(Bx f0 f1 f2 s).sat fun q=>q=some (tS f0 f1 f2 s):=(show some _=some _ from rfl)
def cT (s:Fp6):Fp6:=tS ag aI aH s
theorem wZ:CallOk Tryz.prog 149 (K1 (aa Fp6).arg (aa Fp6).rs.res cT) :=
 P1 (aj (.cons cS (.cons f9 (.cons fV .nil)))) Tryz.func149 (ab Tryz.func149 (by kernel_rfl) (by kernel_rfl)) 300 (aa Fp6) (aa Fp6).rs cT (FW ag aI aH) (FV ag aI aH)
def cE (f0:Fp2->Bool) (f1:Fp2->Fp2->Fp2) (f2:Fp2->Fp2->Fp2) (f3:Fp6->Fp6) (f4:Fp2->Fp2->Fp2) (s:Fp6) (t:Fp6):Fp6:=(match (f0 s.c2) with | true=>(t) | false=>(match (f0 t.c2) with | true=>(s) | false=>(match (f0 (f2 (f1 t.c0 (f1 s.c2 s.c2)) (f1 s.c0 (f1 t.c2 t.c2)))) with | true=>(match (f0 (f2 (f1 t.c1 (f1 (f1 s.c2 s.c2) s.c2)) (f1 s.c1 (f1 (f1 t.c2 t.c2) t.c2)))) with | true=>(f3 s) | false=>(zeroFp6)) | false=>({ c0:=f2 (f2 (f1 (f2 (f1 t.c1 (f1 (f1 s.c2 s.c2) s.c2)) (f1 s.c1 (f1 (f1 t.c2 t.c2) t.c2))) (f2 (f1 t.c1 (f1 (f1 s.c2 s.c2) s.c2)) (f1 s.c1 (f1 (f1 t.c2 t.c2) t.c2)))) (f1 (f1 (f2 (f1 t.c0 (f1 s.c2 s.c2)) (f1 s.c0 (f1 t.c2 t.c2))) (f2 (f1 t.c0 (f1 s.c2 s.c2)) (f1 s.c0 (f1 t.c2 t.c2)))) (f2 (f1 t.c0 (f1 s.c2 s.c2)) (f1 s.c0 (f1 t.c2 t.c2))))) (f4 (f1 (f1 s.c0 (f1 t.c2 t.c2)) (f1 (f2 (f1 t.c0 (f1 s.c2 s.c2)) (f1 s.c0 (f1 t.c2 t.c2))) (f2 (f1 t.c0 (f1 s.c2 s.c2)) (f1 s.c0 (f1 t.c2 t.c2))))) (f1 (f1 s.c0 (f1 t.c2 t.c2)) (f1 (f2 (f1 t.c0 (f1 s.c2 s.c2)) (f1 s.c0 (f1 t.c2 t.c2))) (f2 (f1 t.c0 (f1 s.c2 s.c2)) (f1 s.c0 (f1 t.c2 t.c2)))))),c1:=f2 (f1 (f2 (f1 t.c1 (f1 (f1 s.c2 s.c2) s.c2)) (f1 s.c1 (f1 (f1 t.c2 t.c2) t.c2))) (f2 (f1 (f1 s.c0 (f1 t.c2 t.c2)) (f1 (f2 (f1 t.c0 (f1 s.c2 s.c2)) (f1 s.c0 (f1 t.c2 t.c2))) (f2 (f1 t.c0 (f1 s.c2 s.c2)) (f1 s.c0 (f1 t.c2 t.c2))))) (f2 (f2 (f1 (f2 (f1 t.c1 (f1 (f1 s.c2 s.c2) s.c2)) (f1 s.c1 (f1 (f1 t.c2 t.c2) t.c2))) (f2 (f1 t.c1 (f1 (f1 s.c2 s.c2) s.c2)) (f1 s.c1 (f1 (f1 t.c2 t.c2) t.c2)))) (f1 (f1 (f2 (f1 t.c0 (f1 s.c2 s.c2)) (f1 s.c0 (f1 t.c2 t.c2))) (f2 (f1 t.c0 (f1 s.c2 s.c2)) (f1 s.c0 (f1 t.c2 t.c2)))) (f2 (f1 t.c0 (f1 s.c2 s.c2)) (f1 s.c0 (f1 t.c2 t.c2))))) (f4 (f1 (f1 s.c0 (f1 t.c2 t.c2)) (f1 (f2 (f1 t.c0 (f1 s.c2 s.c2)) (f1 s.c0 (f1 t.c2 t.c2))) (f2 (f1 t.c0 (f1 s.c2 s.c2)) (f1 s.c0 (f1 t.c2 t.c2))))) (f1 (f1 s.c0 (f1 t.c2 t.c2)) (f1 (f2 (f1 t.c0 (f1 s.c2 s.c2)) (f1 s.c0 (f1 t.c2 t.c2))) (f2 (f1 t.c0 (f1 s.c2 s.c2)) (f1 s.c0 (f1 t.c2 t.c2))))))))) (f1 (f1 s.c1 (f1 (f1 t.c2 t.c2) t.c2)) (f1 (f1 (f2 (f1 t.c0 (f1 s.c2 s.c2)) (f1 s.c0 (f1 t.c2 t.c2))) (f2 (f1 t.c0 (f1 s.c2 s.c2)) (f1 s.c0 (f1 t.c2 t.c2)))) (f2 (f1 t.c0 (f1 s.c2 s.c2)) (f1 s.c0 (f1 t.c2 t.c2))))),c2:=f1 (f1 s.c2 t.c2) (f2 (f1 t.c0 (f1 s.c2 s.c2)) (f1 s.c0 (f1 t.c2 t.c2))) }))))
def Ih (f0:Fp2->Bool) (f1:Fp2->Fp2->Fp2) (f2:Fp2->Fp2->Fp2) (f3:Fp6->Fp6) (f4:Fp2->Fp2->Fp2) (s:Fp6) (t:Fp6):Tree (Option (Fp6)):=letI za':=f2 (f1 t.c0 (f1 s.c2 s.c2)) (f1 s.c0 (f1 t.c2 t.c2));letI zb':=f2 (f1 t.c1 (f1 (f1 s.c2 s.c2) s.c2)) (f1 s.c1 (f1 (f1 t.c2 t.c2) t.c2));letI zc':=f1 (f1 s.c0 (f1 t.c2 t.c2)) (f1 za' za');letI zd':=f2 (f1 zb' zb') (f1 (f1 za' za') za');letI ze':=f1 (f1 s.c1 (f1 (f1 t.c2 t.c2) t.c2)) (f1 (f1 za' za') za');letI zf':=f1 zb' (f2 zc' (f2 zd' (f4 zc' zc')));
 (.br (f0 s.c2) (.leaf (some (t))) (.br (f0 t.c2) (.leaf (some (s))) (.br (f0 za') (.br (f0 zb') (.leaf (some (f3 s))) (.br (f0 za') (.leaf (some (zeroFp6))) (.leaf (some ({ c0:=f2 zd' (f4 zc' zc'),c1:=f2 zf' ze',c2:=f1 (f1 s.c2 t.c2) za' }))))) (.br (f0 za') (.leaf (some (zeroFp6))) (.leaf (some ({ c0:=f2 zd' (f4 zc' zc'),c1:=f2 zf' ze',c2:=f1 (f1 s.c2 t.c2) za' })))))))
theorem K8 (f0:Fp2->Bool) (f1:Fp2->Fp2->Fp2) (f2:Fp2->Fp2->Fp2) (f3:Fp6->Fp6) (f4:Fp2->Fp2->Fp2) (s:Fp6) (t:Fp6):ac (En [(102,K1 (aa Fp2).arg kBool.rs.res f0),(177,K2 (aa Fp2).arg (aa Fp2).arg (aa Fp2).rs.res f1),(179,K2 (aa Fp2).arg (aa Fp2).arg (aa Fp2).rs.res f2),(149,K1 (aa Fp6).arg (aa Fp6).rs.res f3),(178,K2 (aa Fp2).arg (aa Fp2).arg (aa Fp2).rs.res f4)]) (aa Fp6).rs 300 Tryz.f150 [.one ((aa Fp6).av s),.one ((aa Fp6).av t)]=Ih f0 f1 f2 f3 f4 s t:=by kernel_rfl
theorem K7 (f0:Fp2->Bool) (f1:Fp2->Fp2->Fp2) (f2:Fp2->Fp2->Fp2) (f3:Fp6->Fp6) (f4:Fp2->Fp2->Fp2) (s:Fp6) (t:Fp6):(Ih f0 f1 f2 f3 f4 s t).sat fun q=>q=some (cE f0 f1 f2 f3 f4 s t):=⟨fun h0=>(show some _=some _ from congrArg some (by unfold cE;rw [h0])),fun h0=>⟨fun h1=>(show some _=some _ from congrArg some (by unfold cE;rw [h0,h1])),fun h1=>⟨fun h2=>⟨fun h3=>(show some _=some _ from congrArg some (by unfold cE;rw [h0,h1,h2,h3])),fun h3=>⟨fun _=>(show some _=some _ from congrArg some (by unfold cE;rw [h0,h1,h2,h3])),fun h4=>absurd (h2.symm.trans h4) (by decide)⟩⟩,fun h2=>⟨fun h3=>absurd (h2.symm.trans h3) (by decide),fun _=>(show some _=some _ from congrArg some (by unfold cE;rw [h0,h1,h2]))⟩⟩⟩⟩
def ir (s:Fp6) (t:Fp6):Fp6:=cE ik ag aH cT aI s t
theorem RO:CallOk Tryz.prog 150 (K2 (aa Fp6).arg (aa Fp6).arg (aa Fp6).rs.res ir) :=
 P2 (aj (.cons Bo (.cons cS (.cons fV (.cons wZ (.cons f9 .nil)))))) Tryz.func150 (ab Tryz.func150 (by kernel_rfl) (by kernel_rfl)) 300 (aa Fp6) (aa Fp6) (aa Fp6).rs ir (K8 ik ag aH cT aI) (K7 ik ag aH cT aI)
end
section
def Pw  : Pg1:=({ x := { l0:=UInt64.ofNat 18103045581585958587,l1:=UInt64.ofNat 7806400890582735599,l2:=UInt64.ofNat 11623291730934869080,l3:=UInt64.ofNat 14080658508445169925,l4:=UInt64.ofNat 2780237799254240271,l5:=UInt64.ofNat 1725392847304644500 },y := { l0:=UInt64.ofNat 912580534683953121,l1:=UInt64.ofNat 15005087156090211044,l2:=UInt64.ofNat 61670280795567085,l3:=UInt64.ofNat 18227722000993880822,l4:=UInt64.ofNat 11573741888802228964,l5:=UInt64.ofNat 627113611842199793 },inf:=false })
def Pv  : Tree (Option (Pg1)) :=
 (.leaf (some ({ x := { l0:=UInt64.ofNat 18103045581585958587,l1:=UInt64.ofNat 7806400890582735599,l2:=UInt64.ofNat 11623291730934869080,l3:=UInt64.ofNat 14080658508445169925,l4:=UInt64.ofNat 2780237799254240271,l5:=UInt64.ofNat 1725392847304644500 },y := { l0:=UInt64.ofNat 912580534683953121,l1:=UInt64.ofNat 15005087156090211044,l2:=UInt64.ofNat 61670280795567085,l3:=UInt64.ofNat 18227722000993880822,l4:=UInt64.ofNat 11573741888802228964,l5:=UInt64.ofNat 627113611842199793 },inf:=false })))
theorem TG  : ac (En []) (aa Pg1).rs 300 Tryz.f39 []=Pv  := by kernel_rfl
theorem TF  : (Pv ).sat fun q=>q=some (Pw ):=(show some _=some _ from rfl)
def nX  : Pg1:=Pw
theorem I4:CallOk Tryz.prog 39 (K0 (aa Pg1).rs.res nX) :=
 P0 (aj .nil) Tryz.func39 (ab Tryz.func39 (by kernel_rfl) (by kernel_rfl)) 300  (aa Pg1).rs nX (TG ) (TF )
def Ps  : Pg2:=({ x := { c0 := { l0:=UInt64.ofNat 15312334153293348280,l1:=UInt64.ofNat 841050694974028783,l2:=UInt64.ofNat 12993178926126977399,l3:=UInt64.ofNat 14331714969349929730,l4:=UInt64.ofNat 2740446039084699729,l5:=UInt64.ofNat 165123225776229009 },c1 := { l0:=UInt64.ofNat 16549740192668593022,l1:=UInt64.ofNat 3696594454104530263,l2:=UInt64.ofNat 13103893525273989193,l3:=UInt64.ofNat 6443473286224459290,l4:=UInt64.ofNat 9055845637167730533,l5:=UInt64.ofNat 1432192374203850592 } },y := { c0 := { l0:=UInt64.ofNat 16254428414758889473,l1:=UInt64.ofNat 10536956157198377609,l2:=UInt64.ofNat 7873024875724591404,l3:=UInt64.ofNat 12537348094477325223,l4:=UInt64.ofNat 10144865889576432922,l5:=UInt64.ofNat 929383263523139089 },c1 := { l0:=UInt64.ofNat 12297368366147926462,l1:=UInt64.ofNat 4555124010822409633,l2:=UInt64.ofNat 2771000935339432363,l3:=UInt64.ofNat 14645187562128761775,l4:=UInt64.ofNat 3651525051980876697,l5:=UInt64.ofNat 434250606344352972 } },inf:=false })
def Pq  : Tree (Option (Pg2)) :=
 (.leaf (some ({ x := { c0 := { l0:=UInt64.ofNat 15312334153293348280,l1:=UInt64.ofNat 841050694974028783,l2:=UInt64.ofNat 12993178926126977399,l3:=UInt64.ofNat 14331714969349929730,l4:=UInt64.ofNat 2740446039084699729,l5:=UInt64.ofNat 165123225776229009 },c1 := { l0:=UInt64.ofNat 16549740192668593022,l1:=UInt64.ofNat 3696594454104530263,l2:=UInt64.ofNat 13103893525273989193,l3:=UInt64.ofNat 6443473286224459290,l4:=UInt64.ofNat 9055845637167730533,l5:=UInt64.ofNat 1432192374203850592 } },y := { c0 := { l0:=UInt64.ofNat 16254428414758889473,l1:=UInt64.ofNat 10536956157198377609,l2:=UInt64.ofNat 7873024875724591404,l3:=UInt64.ofNat 12537348094477325223,l4:=UInt64.ofNat 10144865889576432922,l5:=UInt64.ofNat 929383263523139089 },c1 := { l0:=UInt64.ofNat 12297368366147926462,l1:=UInt64.ofNat 4555124010822409633,l2:=UInt64.ofNat 2771000935339432363,l3:=UInt64.ofNat 14645187562128761775,l4:=UInt64.ofNat 3651525051980876697,l5:=UInt64.ofNat 434250606344352972 } },inf:=false })))
theorem TE  : ac (En []) (aa Pg2).rs 300 Tryz.f70 []=Pq  := by kernel_rfl
theorem TD  : (Pq ).sat fun q=>q=some (Ps ):=(show some _=some _ from rfl)
def Bl  : Pg2:=Ps
theorem Y5:CallOk Tryz.prog 70 (K0 (aa Pg2).rs.res Bl) :=
 P0 (aj .nil) Tryz.func70 (ab Tryz.func70 (by kernel_rfl) (by kernel_rfl)) 300  (aa Pg2).rs Bl (TE ) (TD )
def vQ (f0:Fp->Fp->Fp) (f1:Fp2->Fp2->Fp2) (a:Fp2) (b:Fp2) (small:Bool):Fp2:=(match (small) with | true=>({ c0:=f0 a.c0 b.c0,c1:=zeroFp }) | false=>(f1 a b))
def aa4 (f0:Fp->Fp->Fp) (f1:Fp2->Fp2->Fp2) (a:Fp2) (b:Fp2) (small:Bool):Tree (Option (Fp2)) :=
 (.br (small)
  (.leaf (some ({ c0:=f0 a.c0 b.c0,c1:=zeroFp })))
  (.leaf (some (f1 a b))))
theorem XU (f0:Fp->Fp->Fp) (f1:Fp2->Fp2->Fp2) (a:Fp2) (b:Fp2) (small:Bool):ac (En [(79,Kff f0),(163,K2 (aa Fp2).arg (aa Fp2).arg (aa Fp2).rs.res f1)]) (aa Fp2).rs 300 Tryz.f115 [.one ((aa Fp2).av a),.one ((aa Fp2).av b),.one (kBool.av small)]=aa4 f0 f1 a b small:=by kernel_rfl
theorem XT (f0:Fp->Fp->Fp) (f1:Fp2->Fp2->Fp2) (a:Fp2) (b:Fp2) (small:Bool):(aa4 f0 f1 a b small).sat fun q=>q=some (vQ f0 f1 a b small):=⟨fun h0=>(show some _=some _ from congrArg some (by unfold vQ;rw [h0])),fun h0=>(show some _=some _ from congrArg some (by unfold vQ;rw [h0]))⟩
def Et (a:Fp2) (b:Fp2) (small:Bool):Fp2:=vQ eQ jJ a b small
theorem aei:CallOk Tryz.prog 115 (K3 (aa Fp2).arg (aa Fp2).arg kBool.arg (aa Fp2).rs.res Et) :=
 P3 (aj (.cons xQ (.cons sJ .nil))) Tryz.func115 (ab Tryz.func115 (by kernel_rfl) (by kernel_rfl)) 300 (aa Fp2) (aa Fp2) kBool (aa Fp2).rs Et (XU eQ jJ) (XT eQ jJ)
def FM (f0:Fp2->Fp2->Fp2) (f1:Fp2->Fp2->Fp2) (f2:Fp2) (a:Fp2) (small:Bool):Fp2:=(match (small) with | true=>(f0 (f0 (f0 (f0 a a) (f0 a a)) (f0 (f0 a a) (f0 a a))) (f0 (f0 a a) (f0 a a))) | false=>(f1 (f0 (f0 (f0 (f0 a a) (f0 a a)) (f0 (f0 a a) (f0 a a))) (f0 (f0 a a) (f0 a a))) f2))
def agu (f0:Fp2->Fp2->Fp2) (f1:Fp2->Fp2->Fp2) (f2:Fp2) (a:Fp2) (small:Bool):Tree (Option (Fp2)):=letI za':=f0 (f0 a a) (f0 a a);letI zb':=f0 (f0 za' za') za';
 (.br (small) (.leaf (some zb')) (.leaf (some (f1 zb' f2))))
theorem afs (f0:Fp2->Fp2->Fp2) (f1:Fp2->Fp2->Fp2) (f2:Fp2) (a:Fp2) (small:Bool):ac (En [(117,K2 (aa Fp2).arg (aa Fp2).arg (aa Fp2).rs.res f0),(163,K2 (aa Fp2).arg (aa Fp2).arg (aa Fp2).rs.res f1),(165,K0 (aa Fp2).rs.res f2)]) (aa Fp2).rs 300 Tryz.f118 [.one ((aa Fp2).av a),.one (kBool.av small)]=agu f0 f1 f2 a small:=by kernel_rfl
theorem afr (f0:Fp2->Fp2->Fp2) (f1:Fp2->Fp2->Fp2) (f2:Fp2) (a:Fp2) (small:Bool):(agu f0 f1 f2 a small).sat fun q=>q=some (FM f0 f1 f2 a small):=⟨fun h0=>(show some _=some _ from congrArg some (by unfold FM;rw [h0])),fun h0=>(show some _=some _ from congrArg some (by unfold FM;rw [h0]))⟩
def b3R (a:Fp2) (small:Bool):Fp2:=FM ni jJ xi2R a small
theorem aiU:CallOk Tryz.prog 118 (K2 (aa Fp2).arg kBool.arg (aa Fp2).rs.res b3R) :=
 P2 (aj (.cons Ju (.cons sJ (.cons acA .nil)))) Tryz.func118 (ab Tryz.func118 (by kernel_rfl) (by kernel_rfl)) 300 (aa Fp2) kBool (aa Fp2).rs b3R (afs ni jJ xi2R) (afr ni jJ xi2R)
def lN (f0:Fp2->Fp2->Bool->Fp2) (f1:Fp2->Fp2->Fp2) (f2:Fp2->Fp2->Fp2) (f3:Fp2->Bool->Fp2) (s:Fp6) (t:Fp6) (small:Bool):Fp6:=({ c0:=f2 (f0 (f2 (f2 (f0 (f1 s.c0 s.c1) (f1 t.c0 t.c1) small) (f0 s.c0 t.c0 small)) (f0 s.c1 t.c1 small)) (f2 (f0 s.c1 t.c1 small) (f3 (f0 s.c2 t.c2 small) small)) small) (f0 (f2 (f2 (f0 (f1 s.c1 s.c2) (f1 t.c1 t.c2) small) (f0 s.c1 t.c1 small)) (f0 s.c2 t.c2 small)) (f3 (f2 (f2 (f0 (f1 s.c0 s.c2) (f1 t.c0 t.c2) small) (f0 s.c0 t.c0 small)) (f0 s.c2 t.c2 small)) small) small),c1:=f1 (f0 (f2 (f0 s.c1 t.c1 small) (f3 (f0 s.c2 t.c2 small) small)) (f1 (f0 s.c1 t.c1 small) (f3 (f0 s.c2 t.c2 small) small)) small) (f0 (f3 (f2 (f2 (f0 (f1 s.c0 s.c2) (f1 t.c0 t.c2) small) (f0 s.c0 t.c0 small)) (f0 s.c2 t.c2 small)) small) (f1 (f1 (f0 s.c0 t.c0 small) (f0 s.c0 t.c0 small)) (f0 s.c0 t.c0 small)) small),c2:=f1 (f0 (f1 (f0 s.c1 t.c1 small) (f3 (f0 s.c2 t.c2 small) small)) (f2 (f2 (f0 (f1 s.c1 s.c2) (f1 t.c1 t.c2) small) (f0 s.c1 t.c1 small)) (f0 s.c2 t.c2 small)) small) (f0 (f1 (f1 (f0 s.c0 t.c0 small) (f0 s.c0 t.c0 small)) (f0 s.c0 t.c0 small)) (f2 (f2 (f0 (f1 s.c0 s.c1) (f1 t.c0 t.c1) small) (f0 s.c0 t.c0 small)) (f0 s.c1 t.c1 small)) small) })
def PZ (f0:Fp2->Fp2->Bool->Fp2) (f1:Fp2->Fp2->Fp2) (f2:Fp2->Fp2->Fp2) (f3:Fp2->Bool->Fp2) (s:Fp6) (t:Fp6) (small:Bool):Tree (Option (Fp6)):=letI za':=f0 s.c0 t.c0 small;letI zb':=f0 s.c1 t.c1 small;letI zc':=f0 s.c2 t.c2 small;letI zd':=f3 (f2 (f2 (f0 (f1 s.c0 s.c2) (f1 t.c0 t.c2) small) za') zc') small;letI ze':=f2 (f2 (f0 (f1 s.c0 s.c1) (f1 t.c0 t.c1) small) za') zb';letI zf':=f2 (f2 (f0 (f1 s.c1 s.c2) (f1 t.c1 t.c2) small) zb') zc';letI zg':=f3 zc' small;letI zh':=f1 (f1 za' za') za';
 (.leaf (some ({ c0:=f2 (f0 ze' (f2 zb' zg') small) (f0 zf' zd' small),c1:=f1 (f0 (f2 zb' zg') (f1 zb' zg') small) (f0 zd' zh' small),c2:=f1 (f0 (f1 zb' zg') zf' small) (f0 zh' ze' small) })))
theorem Uv (f0:Fp2->Fp2->Bool->Fp2) (f1:Fp2->Fp2->Fp2) (f2:Fp2->Fp2->Fp2) (f3:Fp2->Bool->Fp2) (s:Fp6) (t:Fp6) (small:Bool):ac (En [(115,K3 (aa Fp2).arg (aa Fp2).arg kBool.arg (aa Fp2).rs.res f0),(117,K2 (aa Fp2).arg (aa Fp2).arg (aa Fp2).rs.res f1),(116,K2 (aa Fp2).arg (aa Fp2).arg (aa Fp2).rs.res f2),(118,K2 (aa Fp2).arg kBool.arg (aa Fp2).rs.res f3)]) (aa Fp6).rs 300 Tryz.f73 [.one ((aa Fp6).av s),.one ((aa Fp6).av t),.one (kBool.av small)]=PZ f0 f1 f2 f3 s t small:=by kernel_rfl
theorem Uu (f0:Fp2->Fp2->Bool->Fp2) (f1:Fp2->Fp2->Fp2) (f2:Fp2->Fp2->Fp2) (f3:Fp2->Bool->Fp2) (s:Fp6) (t:Fp6) (small:Bool):(PZ f0 f1 f2 f3 s t small).sat fun q=>q=some (lN f0 f1 f2 f3 s t small):=(show some _=some _ from rfl)
def jL (s:Fp6) (t:Fp6) (small:Bool):Fp6:=lN Et ni qS b3R s t small
theorem Z7:CallOk Tryz.prog 73 (K3 (aa Fp6).arg (aa Fp6).arg kBool.arg (aa Fp6).rs.res jL) :=
 P3 (aj (.cons aei (.cons Ju (.cons VY (.cons aiU .nil))))) Tryz.func73 (ab Tryz.func73 (by kernel_rfl) (by kernel_rfl)) 300 (aa Fp6) (aa Fp6) kBool (aa Fp6).rs jL (Uv Et ni qS b3R) (Uu Et ni qS b3R)
def OQ (f0:Fp2):Fp6:=({ c0:=zeroFp2,c1:=f0,c2:=zeroFp2 })
def OP (f0:Fp2):Tree (Option (Fp6)) :=
 (.leaf (some ({ c0:=zeroFp2,c1:=f0,c2:=zeroFp2 })))
theorem Sf (f0:Fp2):ac (En [(120,K0 (aa Fp2).rs.res f0)]) (aa Fp6).rs 300 Tryz.f119 []=OP f0:=by kernel_rfl
theorem Se (f0:Fp2):(OP f0).sat fun q=>q=some (OQ f0):=(show some _=some _ from rfl)
def jb  : Fp6:=OQ nO
theorem zF:CallOk Tryz.prog 119 (K0 (aa Fp6).rs.res jb) :=
 P0 (aj (.cons zx .nil)) Tryz.func119 (ab Tryz.func119 (by kernel_rfl) (by kernel_rfl)) 300  (aa Fp6).rs jb (Sf nO) (Se nO)
def qh (f0:Fp6) (f1:Fp2) (a:Pg1):Fp6:=(match (a.inf) with | true=>(f0) | false=>({ c0 := { c0:=a.x,c1:=zeroFp },c1 := { c0:=a.y,c1:=zeroFp },c2:=f1 }))
def aa0 (f0:Fp6) (f1:Fp2) (a:Pg1):Tree (Option (Fp6)) :=
 (.br (a.inf)
  (.leaf (some (f0)))
  (.leaf (some ({ c0 := { c0:=a.x,c1:=zeroFp },c1 := { c0:=a.y,c1:=zeroFp },c2:=f1 }))))
theorem XD (f0:Fp6) (f1:Fp2) (a:Pg1):ac (En [(119,K0 (aa Fp6).rs.res f0),(120,K0 (aa Fp2).rs.res f1)]) (aa Fp6).rs 300 Tryz.f74 [.one ((aa Pg1).av a)]=aa0 f0 f1 a:=by kernel_rfl
theorem XC (f0:Fp6) (f1:Fp2) (a:Pg1):(aa0 f0 f1 a).sat fun q=>q=some (qh f0 f1 a):=⟨fun h0=>(show some _=some _ from congrArg some (by unfold qh;rw [h0])),fun h0=>(show some _=some _ from congrArg some (by unfold qh;rw [h0]))⟩
def Vd (a:Pg1):Fp6:=qh jb nO a
theorem ad8:CallOk Tryz.prog 74 (K1 (aa Pg1).arg (aa Fp6).rs.res Vd) :=
 P1 (aj (.cons zF (.cons zx .nil))) Tryz.func74 (ab Tryz.func74 (by kernel_rfl) (by kernel_rfl)) 300 (aa Pg1) (aa Fp6).rs Vd (XD jb nO) (XC jb nO)
def qg (f0:Fp6) (f1:Fp2) (a:Pg2):Fp6:=(match (a.inf) with | true=>(f0) | false=>({ c0:=a.x,c1:=a.y,c2:=f1 }))
def aaZ (f0:Fp6) (f1:Fp2) (a:Pg2):Tree (Option (Fp6)) :=
 (.br (a.inf)
  (.leaf (some (f0)))
  (.leaf (some ({ c0:=a.x,c1:=a.y,c2:=f1 }))))
theorem XB (f0:Fp6) (f1:Fp2) (a:Pg2):ac (En [(119,K0 (aa Fp6).rs.res f0),(120,K0 (aa Fp2).rs.res f1)]) (aa Fp6).rs 300 Tryz.f113 [.one ((aa Pg2).av a)]=aaZ f0 f1 a:=by kernel_rfl
theorem XA (f0:Fp6) (f1:Fp2) (a:Pg2):(aaZ f0 f1 a).sat fun q=>q=some (qg f0 f1 a):=⟨fun h0=>(show some _=some _ from congrArg some (by unfold qg;rw [h0])),fun h0=>(show some _=some _ from congrArg some (by unfold qg;rw [h0]))⟩
def Vc (a:Pg2):Fp6:=qg jb nO a
theorem ad4:CallOk Tryz.prog 113 (K1 (aa Pg2).arg (aa Fp6).rs.res Vc) :=
 P1 (aj (.cons zF (.cons zx .nil))) Tryz.func113 (ab Tryz.func113 (by kernel_rfl) (by kernel_rfl)) 300 (aa Pg2) (aa Fp6).rs Vc (XB jb nO) (XA jb nO)
def pO (f0:Fp->Fp × Int) (f1:Fp->Fp->Fp) (s:Fp6):Pg1:=(match ((f0 s.c2.c0).snd != 0) with | true=>(infG1) | false=>({ x:=f1 s.c0.c0 (f0 s.c2.c0).fst,y:=f1 s.c1.c0 (f0 s.c2.c0).fst,inf:=false }))
def aao (f0:Fp->Fp × Int) (f1:Fp->Fp->Fp) (s:Fp6):Tree (Option (Pg1)) :=
 (.br ((f0 s.c2.c0).snd != 0)
  (.leaf (some (infG1)))
  (.leaf (some ({ x:=f1 s.c0.c0 (f0 s.c2.c0).fst,y:=f1 s.c1.c0 (f0 s.c2.c0).fst,inf:=false }))))
theorem VK (f0:Fp->Fp × Int) (f1:Fp->Fp->Fp) (s:Fp6):ac (En [(114,agD f0),(79,Kff f1)]) (aa Pg1).rs 300 Tryz.f72 [.one ((aa Fp6).av s)]=aao f0 f1 s:=by kernel_rfl
theorem VJ (f0:Fp->Fp × Int) (f1:Fp->Fp->Fp) (s:Fp6):(aao f0 f1 s).sat fun q=>q=some (pO f0 f1 s):=⟨fun h0=>(show some _=some _ from congrArg some (by unfold pO;rw [h0])),fun h0=>(show some _=some _ from congrArg some (by unfold pO;rw [h0]))⟩
def Oe (s:Fp6):Pg1:=pO pv eQ s
theorem acU:CallOk Tryz.prog 72 (K1 (aa Fp6).arg (aa Pg1).rs.res Oe) :=
 P1 (aj (.cons Pa (.cons xQ .nil))) Tryz.func72 (ab Tryz.func72 (by kernel_rfl) (by kernel_rfl)) 300 (aa Fp6) (aa Pg1).rs Oe (VK pv eQ) (VJ pv eQ)
def pM (f0:Fp2->Fp2 × Int) (f1:Fp2->Fp2->Fp2) (s:Fp6):Pg2:=(match ((f0 s.c2).snd != 0) with | true=>(infG2) | false=>({ x:=f1 s.c0 (f0 s.c2).fst,y:=f1 s.c1 (f0 s.c2).fst,inf:=false }))
def aan (f0:Fp2->Fp2 × Int) (f1:Fp2->Fp2->Fp2) (s:Fp6):Tree (Option (Pg2)) :=
 (.br ((f0 s.c2).snd != 0)
  (.leaf (some (infG2)))
  (.leaf (some ({ x:=f1 s.c0 (f0 s.c2).fst,y:=f1 s.c1 (f0 s.c2).fst,inf:=false }))))
theorem VI (f0:Fp2->Fp2 × Int) (f1:Fp2->Fp2->Fp2) (s:Fp6):ac (En [(162,K1 (aa Fp2).arg ((aa Fp2).rs2 kInt).res f0),(163,K2 (aa Fp2).arg (aa Fp2).arg (aa Fp2).rs.res f1)]) (aa Pg2).rs 300 Tryz.f112 [.one ((aa Fp6).av s)]=aan f0 f1 s:=by kernel_rfl
theorem VH (f0:Fp2->Fp2 × Int) (f1:Fp2->Fp2->Fp2) (s:Fp6):(aan f0 f1 s).sat fun q=>q=some (pM f0 f1 s):=⟨fun h0=>(show some _=some _ from congrArg some (by unfold pM;rw [h0])),fun h0=>(show some _=some _ from congrArg some (by unfold pM;rw [h0]))⟩
def Od (s:Fp6):Pg2:=pM vl jJ s
theorem acR:CallOk Tryz.prog 112 (K1 (aa Fp6).arg (aa Pg2).rs.res Od) :=
 P1 (aj (.cons YN (.cons sJ .nil))) Tryz.func112 (ab Tryz.func112 (by kernel_rfl) (by kernel_rfl)) 300 (aa Fp6) (aa Pg2).rs Od (VI vl jJ) (VH vl jJ)
end
end Go.Proofs.YtgpafcehehaiiaaGreat
namespace Go.Proofs.YtgpafcehehaiiaaGreat
def W64:Nat:=18446744073709551616
def pN:Nat:=0x1a0111ea397fe69a4b1ba7b6434bacd764774b84f38512bf6730d2a0f6b0f6241eabfffeb153ffffb9feffffffffaaab
def rN:Nat:=0x1000000000000000000000000000000000000000000000000000000000000000000000000000000000000000000000000
def Fp.nat (a:Fp):Nat:=a.l0.toNat+W64*(a.l1.toNat+W64*(a.l2.toNat+W64*(a.l3.toNat+W64*(a.l4.toNat+W64*a.l5.toNat))))
theorem Fp.nat_lt (a:Fp):a.nat<rN:=by
 have h0:=a.l0.toNat_lt
 have h1:=a.l1.toNat_lt
 have h2:=a.l2.toNat_lt
 have h3:=a.l3.toNat_lt
 have h4:=a.l4.toNat_lt
 have h5:=a.l5.toNat_lt
 unfold Fp.nat rN W64
 omega
theorem Fp.nat_inj {a b:Fp} (h:a.nat=b.nat):a=b:=by
 have h0:=a.l0.toNat_lt
 have h1:=a.l1.toNat_lt
 have h2:=a.l2.toNat_lt
 have h3:=a.l3.toNat_lt
 have h4:=a.l4.toNat_lt
 have h5:=a.l5.toNat_lt
 have k0:=b.l0.toNat_lt
 have k1:=b.l1.toNat_lt
 have k2:=b.l2.toNat_lt
 have k3:=b.l3.toNat_lt
 have k4:=b.l4.toNat_lt
 have k5:=b.l5.toNat_lt
 unfold Fp.nat W64 at h
 obtain ⟨a0,a1,a2,a3,a4,a5⟩:=a
 obtain ⟨b0,b1,b2,b3,b4,b5⟩:=b
 simp only [] at *
 have e0:a0=b0:=UInt64.toNat.inj (by omega)
 have e1:a1=b1:=UInt64.toNat.inj (by omega)
 have e2:a2=b2:=UInt64.toNat.inj (by omega)
 have e3:a3=b3:=UInt64.toNat.inj (by omega)
 have e4:a4=b4:=UInt64.toNat.inj (by omega)
 have e5:a5=b5:=UInt64.toNat.inj (by omega)
 rw [e0,e1,e2,e3,e4,e5]
theorem iv:pLimbs.nat=pN:=by decide +kernel
theorem dx (x y:UInt64) (c:Bool):(fm x y c).toNat+W64*(ct x y c).toNat=x.toNat+y.toNat+c.toNat:=by
 rw [o9,k8]
 unfold W64
 omega
theorem VX (x y:UInt64) (c:Bool):(dZ x y c).toNat=if x.toNat<y.toNat+c.toNat then 1 else 0:=by
 rw [HH]
 by_cases h:x.toNat<y.toNat+c.toNat <;> simp [h]
theorem fT (x y:UInt64) (c:Bool):(fQ x y c).toNat+y.toNat+c.toNat=x.toNat+W64*(dZ x y c).toNat:=by
 have hx:=x.toNat_lt
 have hy:=y.toNat_lt
 have hc:c.toNat<=1:=by cases c <;> simp
 rw [HD,VX]
 unfold W64
 split <;> omega
theorem Jp (a b:Fp):(jO a b).1.nat+rN*(jO a b).2.toNat=a.nat+b.nat:=by
 unfold jO
 simp only []
 have s0:=dx a.l0 b.l0 false
 generalize ct a.l0 b.l0 false=c0 at *
 have s1:=dx a.l1 b.l1 c0
 generalize ct a.l1 b.l1 c0=c1 at *
 have s2:=dx a.l2 b.l2 c1
 generalize ct a.l2 b.l2 c1=c2 at *
 have s3:=dx a.l3 b.l3 c2
 generalize ct a.l3 b.l3 c2=c3 at *
 have s4:=dx a.l4 b.l4 c3
 generalize ct a.l4 b.l4 c3=c4 at *
 have s5:=dx a.l5 b.l5 c4
 generalize ct a.l5 b.l5 c4=c5 at *
 unfold Fp.nat rN W64 at *
 simp only [Bool.toNat_false] at *
 omega
theorem zj (a b:Fp):(dW a b).1.nat+b.nat=a.nat+rN*(dW a b).2.toNat:=by
 unfold dW
 simp only []
 have s0:=fT a.l0 b.l0 false
 generalize dZ a.l0 b.l0 false=c0 at *
 have s1:=fT a.l1 b.l1 c0
 generalize dZ a.l1 b.l1 c0=c1 at *
 have s2:=fT a.l2 b.l2 c1
 generalize dZ a.l2 b.l2 c1=c2 at *
 have s3:=fT a.l3 b.l3 c2
 generalize dZ a.l3 b.l3 c2=c3 at *
 have s4:=fT a.l4 b.l4 c3
 generalize dZ a.l4 b.l4 c3=c4 at *
 have s5:=fT a.l5 b.l5 c4
 generalize dZ a.l5 b.l5 c4=c5 at *
 unfold Fp.nat rN W64 at *
 simp only [Bool.toNat_false] at *
 omega
theorem zX (a:Fp):Fx a=dW a pLimbs:=rfl
theorem Ce (a:Fp) (o:UInt64) (ho:o.toNat<=1) (h:a.nat+rN*o.toNat<2*pN):(mR a o).nat=(a.nat+rN*o.toNat) % pN:=by
 have h1:=zj a pLimbs
 rw [iv] at h1
 have h2:=(dW a pLimbs).1.nat_lt
 have h3:=a.nat_lt
 have hb:(dW a pLimbs).2.toNat<=1:=by cases (dW a pLimbs).2 <;> simp
 have hd:decide (o<b2u (Fx a).2)=decide (o.toNat<(dW a pLimbs).2.toNat):=by
  rw [zX]
  refine decide_eq_decide.2 ?_
  rw [UInt64.lt_iff_toNat_lt,da]
 unfold mR
 rw [hd,zX]
 have hp:pN<rN:=by decide +kernel
 have hp0:0<pN:=by decide +kernel
 by_cases hc:o.toNat<(dW a pLimbs).2.toNat
 ·simp only [hc,decide_true]
  have e0:o.toNat=0:=by omega
  have e1:(dW a pLimbs).2.toNat=1:=by omega
  rw [e0] at h ⊢
  rw [e1] at h1
  rw [Nat.mod_eq_of_lt (by omega)]
  omega
 ·simp only [hc,decide_false]
  have e2:(dW a pLimbs).1.nat+pN=a.nat+rN*o.toNat:=by
   rcases Nat.lt_or_ge (dW a pLimbs).2.toNat o.toNat with hl | hl
   ·have e0:o.toNat=1:=by omega
    have e1:(dW a pLimbs).2.toNat=0:=by omega
    rw [e1] at h1
    rw [e0] at h ⊢
    omega
   ·have e1:(dW a pLimbs).2.toNat=o.toNat:=by omega
    rw [e1] at h1
    exact h1
  rw [<- e2,Nat.add_mod_right,Nat.mod_eq_of_lt (by omega)]
theorem Js {a b:Fp} (ha:a.nat<pN) (hb:b.nat<pN):(fo a b).nat=(a.nat+b.nat) % pN:=by
 unfold fo
 have h:=Jp a b
 rw [Ce _ _ (by rw [da];cases (jO a b).2 <;> simp) (by rw [da,h];omega),da,h]
theorem zk {a b:Fp} (ha:a.nat<pN) (hb:b.nat<pN):(fB a b).nat=(a.nat+pN-b.nat) % pN:=by
 have h1:=zj a b
 have h2:=(dW a b).1.nat_lt
 have hp:pN<rN:=by decide +kernel
 have hd:decide (b2u (dW a b).2=0)=decide ((dW a b).2.toNat=0):=by
  refine decide_eq_decide.2 ⟨fun h=>by rw [<- da,h];rfl,fun h=>UInt64.toNat.inj (by rw [da,h];rfl)⟩
 unfold fB
 rw [hd]
 by_cases hc:(dW a b).2.toNat=0
 ·simp only [hc,decide_true]
  rw [hc] at h1
  rw [show a.nat+pN-b.nat=(dW a b).1.nat+pN by omega,Nat.add_mod_right,Nat.mod_eq_of_lt (by omega)]
 ·simp only [hc,decide_false]
  have e1:(dW a b).2.toNat=1:=by cases h:(dW a b).2 <;> simp [h] at hc ⊢
  rw [e1] at h1
  have h3:=Jp (dW a b).1 pLimbs
  rw [iv] at h3
  have h4:=(jO (dW a b).1 pLimbs).1.nat_lt
  have e2:(jO (dW a b).1 pLimbs).2.toNat=1:=by
   cases h:(jO (dW a b).1 pLimbs).2 with
   | true=>rfl
   | false=>rw [h] at h3;simp only [Bool.toNat_false] at h3;omega
  rw [e2] at h3
  rw [Nat.mod_eq_of_lt (by omega)]
  omega
end Go.Proofs.YtgpafcehehaiiaaGreat
namespace Go.Proofs.YtgpafcehehaiiaaGreat
def L7.nat (t:L7):Nat:=t.t0.toNat+W64*(t.t1.toNat+W64*(t.t2.toNat+W64*(t.t3.toNat+W64*(t.t4.toNat+W64*(t.t5.toNat+W64*t.t6.toNat)))))
theorem L7.nat_low (t:L7):t.nat=t.low.nat+rN*t.t6.toNat:=by
 unfold L7.nat L7.low Fp.nat rN W64
 simp only []
 omega
theorem afH (y t U:Nat):y+t+W64*U=(t+W64*U)+y:=by omega
theorem wE {y t U T Y:Nat} (h:U=T+Y):y+t+W64*U=(t+W64*T)+(y+W64*Y):=by
 subst h
 unfold W64
 omega
theorem akm {A d T Y t y:Nat} (h:A=T+Y) (q:d*W64=y+t):(A+d)*W64=(t+W64*T)+(y+W64*Y):=by
 rw [h,Nat.add_mul,q,Nat.add_mul,Nat.mul_comm T,Nat.mul_comm Y]
 omega
theorem pp (x y t c:UInt64):(fR x y t c).toNat*W64+(jG x y t c).toNat=x.toNat*y.toNat+t.toNat+c.toNat:=aep x y t c
theorem bL {m d y t c R U:Nat} (q:d*W64+m=y+t+c) (h:R=U+d):m+W64*R=(y+t+W64*U)+c:=by
 subst h
 unfold W64 at *
 omega
theorem Yn (t:UInt64):(gr (t*xJ) pLimbs.l0+b2u (ct (t*xJ*pLimbs.l0) t false)).toNat*W64=(t*xJ).toNat*pLimbs.l0.toNat+t.toNat:=by
 generalize hx:t*xJ=x
 have hx':x.toNat=t.toNat*9940570264628428797 % 18446744073709551616:=by rw [<- hx,UInt64.toNat_mul];rfl
 have hp:pLimbs.l0.toNat=13402431016077863595:=rfl
 have ht:=t.toNat_lt
 have hlt:=x.toNat_lt
 rw [UInt64.toNat_add,da,k8,iR,UInt64.toNat_mul,hp]
 simp only [Bool.toNat_false,Nat.add_zero]
 unfold W64
 have key:(x.toNat*13402431016077863595 % 18446744073709551616+t.toNat) % 18446744073709551616=0:=by
  rw [hx']
  omega
 omega
theorem Kr (t0 t1 t2 t3 t4 t5 top:UInt64) (more:Bool) :
  (AB t0 t1 t2 t3 t4 t5 top more).nat*W64=(t0.toNat+W64*(t1.toNat+W64*(t2.toNat+W64*(t3.toNat+W64*(t4.toNat+W64*(t5.toNat+W64*(top.toNat+W64*more.toNat)))))))+(t0*xJ).toNat*pN:=by
 have q0:=Yn t0
 unfold AB
 simp only [L7.nat]
 generalize gr (t0*xJ) pLimbs.l0+b2u (ct (t0*xJ*pLimbs.l0) t0 false)=d0 at *
 generalize t0*xJ=x at *
 have q1:=pp x pLimbs.l1 t1 d0
 generalize fR x pLimbs.l1 t1 d0=d1 at *
 have q2:=pp x pLimbs.l2 t2 d1
 generalize fR x pLimbs.l2 t2 d1=d2 at *
 have q3:=pp x pLimbs.l3 t3 d2
 generalize fR x pLimbs.l3 t3 d2=d3 at *
 have q4:=pp x pLimbs.l4 t4 d3
 generalize fR x pLimbs.l4 t4 d3=d4 at *
 have q5:=pp x pLimbs.l5 t5 d4
 generalize fR x pLimbs.l5 t5 d4=d5 at *
 have q6:=dx top d5 false
 have q7:(b2u more+b2u (ct top d5 false)).toNat=more.toNat+(ct top d5 false).toNat:=by
  rw [UInt64.toNat_add,da,da]
  cases more <;> cases ct top d5 false <;> rfl
 rw [q7]
 have ep:pN=pLimbs.l0.toNat+W64*(pLimbs.l1.toNat+W64*(pLimbs.l2.toNat+W64*(pLimbs.l3.toNat+W64*(pLimbs.l4.toNat+W64*pLimbs.l5.toNat)))):=by decide +kernel
 have exp:x.toNat*pN=x.toNat*pLimbs.l0.toNat+W64*(x.toNat*pLimbs.l1.toNat+W64*(x.toNat*pLimbs.l2.toNat+W64*(x.toNat*pLimbs.l3.toNat+W64*(x.toNat*pLimbs.l4.toNat+W64*(x.toNat*pLimbs.l5.toNat))))):=by
  rw [ep]
  simp only [Nat.mul_add,Nat.mul_left_comm x.toNat W64]
 rw [exp]
 have s6:(fm top d5 false).toNat+W64*(more.toNat+(ct top d5 false).toNat)=(top.toNat+W64*more.toNat)+d5.toNat:=by
  simp only [Bool.toNat_false] at q6
  unfold W64 at *
  omega
 have s5:=bL q5 s6
 have s4:=bL q4 s5
 have s3:=bL q3 s4
 have s2:=bL q2 s3
 have s1:=bL q1 s2
 rw [s1]
 generalize x.toNat*pLimbs.l0.toNat=y0 at *
 generalize x.toNat*pLimbs.l1.toNat=y1 at *
 generalize x.toNat*pLimbs.l2.toNat=y2 at *
 generalize x.toNat*pLimbs.l3.toNat=y3 at *
 generalize x.toNat*pLimbs.l4.toNat=y4 at *
 generalize x.toNat*pLimbs.l5.toNat=y5 at *
 exact akm (wE (wE (wE (wE (afH _ _ _))))) q0
theorem gl (a:Fp) (b:UInt64) (t:L7) : ∃ m:Nat,m<W64/\(e9 a b t).nat*W64=t.nat+a.nat*b.toNat+m*pN:=by
 unfold e9
 simp only []
 have q0:=pp a.l0 b t.t0 0
 generalize fR a.l0 b t.t0 0=c0 at *
 have q1:=pp a.l1 b t.t1 c0
 generalize fR a.l1 b t.t1 c0=c1 at *
 have q2:=pp a.l2 b t.t2 c1
 generalize fR a.l2 b t.t2 c1=c2 at *
 have q3:=pp a.l3 b t.t3 c2
 generalize fR a.l3 b t.t3 c2=c3 at *
 have q4:=pp a.l4 b t.t4 c3
 generalize fR a.l4 b t.t4 c3=c4 at *
 have q5:=pp a.l5 b t.t5 c4
 generalize fR a.l5 b t.t5 c4=c5 at *
 have q6:=dx t.t6 c5 false
 refine ⟨(jG a.l0 b t.t0 0*xJ).toNat,UInt64.toNat_lt _,?_⟩
 rw [Kr]
 refine congrArg (fun z=>z+(jG a.l0 b t.t0 0*xJ).toNat*pN) ?_
 have e:a.nat*b.toNat=a.l0.toNat*b.toNat+W64*(a.l1.toNat*b.toNat+W64*(a.l2.toNat*b.toNat+W64*(a.l3.toNat*b.toNat+W64*(a.l4.toNat*b.toNat+W64*(a.l5.toNat*b.toNat))))):=by
  unfold Fp.nat
  simp only [Nat.add_mul,Nat.mul_assoc]
 rw [e]
 have s6:(fm t.t6 c5 false).toNat+W64*(ct t.t6 c5 false).toNat=t.t6.toNat+c5.toNat:=by simpa using q6
 have s5:=bL q5 s6
 have s4:=bL q4 s5
 have s3:=bL q3 s4
 have s2:=bL q2 s3
 have s1:=bL q1 s2
 have s0:=bL q0 s1
 rw [s0]
 have z:(0:UInt64).toNat=0:=rfl
 rw [z,L7.nat]
 generalize a.l0.toNat*b.toNat=x0 at *
 generalize a.l1.toNat*b.toNat=x1 at *
 generalize a.l2.toNat*b.toNat=x2 at *
 generalize a.l3.toNat*b.toNat=x3 at *
 generalize a.l4.toNat*b.toNat=x4 at *
 generalize a.l5.toNat*b.toNat=x5 at *
 rw [Nat.add_zero]
 exact wE (wE (wE (wE (wE (afH _ _ _)))))
theorem gD {a:Fp} {b:UInt64} {t:L7} (h:t.nat<a.nat+pN):(e9 a b t).nat<a.nat+pN:=by
 obtain ⟨m,hm,e⟩:=gl a b t
 have hb:=b.toNat_lt
 have h1:a.nat*b.toNat<=a.nat*(W64-1):=Nat.mul_le_mul_left _ (by unfold W64;omega)
 have h2:m*pN<=(W64-1)*pN:=Nat.mul_le_mul_right _ (by omega)
 have h3:(e9 a b t).nat*W64<(a.nat+pN)*W64:=by
  rw [e]
  unfold W64 at *
  omega
 exact Nat.lt_of_mul_lt_mul_right h3
set_option maxRecDepth 100000 in
theorem Cj (a b:Fp) : ∃ k:Nat,(gS a b).nat*rN=a.nat*b.nat+k*pN/\(gS a b).nat<a.nat+pN:=by
 have hp0:0<pN:=by decide +kernel
 obtain ⟨m0,_,e0⟩:=gl a b.l0 ⟨0,0,0,0,0,0,0⟩
 obtain ⟨m1,_,e1⟩:=gl a b.l1 (Bk a b)
 obtain ⟨m2,_,e2⟩:=gl a b.l2 (Bj a b)
 obtain ⟨m3,_,e3⟩:=gl a b.l3 (Bi a b)
 obtain ⟨m4,_,e4⟩:=gl a b.l4 (Bh a b)
 obtain ⟨m5,_,e5⟩:=gl a b.l5 (Bg a b)
 have z:(L7.mk 0 0 0 0 0 0 0).nat=0:=by decide +kernel
 have b0:(Bk a b).nat<a.nat+pN:=gD (by rw [z];omega)
 have b1:(Bj a b).nat<a.nat+pN:=gD b0
 have b2:(Bi a b).nat<a.nat+pN:=gD b1
 have b3:(Bh a b).nat<a.nat+pN:=gD b2
 have b4:(Bg a b).nat<a.nat+pN:=gD b3
 refine ⟨m0+W64*(m1+W64*(m2+W64*(m3+W64*(m4+W64*m5)))),?_,gD b4⟩
 rw [z] at e0
 change (Bk a b).nat*W64=_ at e0
 change (Bj a b).nat*W64=_ at e1
 change (Bi a b).nat*W64=_ at e2
 change (Bh a b).nat*W64=_ at e3
 change (Bg a b).nat*W64=_ at e4
 change (gS a b).nat*W64=_ at e5
 have er:rN=W64*(W64*(W64*(W64*(W64*W64)))):=by decide +kernel
 have eb:a.nat*b.nat=a.nat*b.l0.toNat+W64*(a.nat*b.l1.toNat+W64*(a.nat*b.l2.toNat+W64*(a.nat*b.l3.toNat+W64*(a.nat*b.l4.toNat+W64*(a.nat*b.l5.toNat))))):=by
  rw [show b.nat=b.l0.toNat+W64*(b.l1.toNat+W64*(b.l2.toNat+W64*(b.l3.toNat+W64*(b.l4.toNat+W64*b.l5.toNat)))) from rfl]
  simp only [Nat.mul_add,Nat.mul_left_comm a.nat W64]
 have ek:(m0+W64*(m1+W64*(m2+W64*(m3+W64*(m4+W64*m5)))))*pN=m0*pN+W64*(m1*pN+W64*(m2*pN+W64*(m3*pN+W64*(m4*pN+W64*(m5*pN))))):=by
  simp only [Nat.add_mul,Nat.mul_assoc]
 rw [er,eb,ek]
 have st : ∀ {t' t z R:Nat},t'*W64=t+z -> ∀ s:Nat,t'*(W64*s)=(t+z)*s:=fun h s=>by rw [<- Nat.mul_assoc,h]
 rw [st (R:=0) (t:=(Bg a b).nat) (z:=a.nat*b.l5.toNat+m5*pN) (by rw [e5,Nat.add_assoc])]
 rw [Nat.add_mul,st (R:=0) (t:=(Bh a b).nat) (z:=a.nat*b.l4.toNat+m4*pN) (by rw [e4,Nat.add_assoc])]
 rw [Nat.add_mul _ _ (W64*(W64*(W64*W64))),st (R:=0) (t:=(Bi a b).nat) (z:=a.nat*b.l3.toNat+m3*pN) (by rw [e3,Nat.add_assoc])]
 rw [Nat.add_mul _ _ (W64*(W64*W64)),st (R:=0) (t:=(Bj a b).nat) (z:=a.nat*b.l2.toNat+m2*pN) (by rw [e2,Nat.add_assoc])]
 rw [Nat.add_mul _ _ (W64*W64),st (R:=0) (t:=(Bk a b).nat) (z:=a.nat*b.l1.toNat+m1*pN) (by rw [e1,Nat.add_assoc])]
 rw [Nat.add_mul _ _ W64,e0]
 generalize a.nat*b.l0.toNat=x0
 generalize a.nat*b.l1.toNat=x1
 generalize a.nat*b.l2.toNat=x2
 generalize a.nat*b.l3.toNat=x3
 generalize a.nat*b.l4.toNat=x4
 generalize a.nat*b.l5.toNat=x5
 generalize m0*pN=y0
 generalize m1*pN=y1
 generalize m2*pN=y2
 generalize m3*pN=y3
 generalize m4*pN=y4
 generalize m5*pN=y5
 clear e0 e1 e2 e3 e4 e5 eb ek st
 unfold W64
 omega
theorem gI {a b:Fp} (ha:a.nat<pN):(aZ a b).nat<pN/\((aZ a b).nat*rN) % pN=(a.nat*b.nat) % pN:=by
 obtain ⟨k,h1,h2⟩:=Cj a b
 rw [L7.nat_low] at h1 h2
 have hlt:=(gS a b).low.nat_lt
 have hpr:2*pN<rN:=by decide +kernel
 have hp0:0<pN:=by decide +kernel
 have h6:(gS a b).t6.toNat<=1:=by
  rcases Nat.lt_or_ge (gS a b).t6.toNat 1 with h | h
  ·omega
  ·have:rN*1<=rN*(gS a b).t6.toNat:=Nat.mul_le_mul_left _ h
   omega
 have h:=Ce (gS a b).low (gS a b).t6 h6 (by omega)
 have e:(aZ a b).nat=((gS a b).low.nat+rN*(gS a b).t6.toNat) % pN:=h
 rw [e]
 refine ⟨Nat.mod_lt _ hp0,?_⟩
 rw [Nat.mod_mul_mod,h1,Nat.add_mul_mod_self_right]
end Go.Proofs.YtgpafcehehaiiaaGreat
namespace Go.Proofs.YtgpafcehehaiiaaGreat
def akq:Nat:=0x14fec701e8fb0ce9ed5e64273c4f538b1797ab1458a88de9343ea97914956dc87fe11274d898fafbf4d38259380b4820
theorem ajy:rN*akq % pN=1:=by decide +kernel
theorem sy {x y:Nat} (h:x*rN % pN=y*rN % pN):x % pN=y % pN:=by
 have e : ∀ z:Nat,z % pN=(z*rN % pN)*akq % pN:=by
  intro z
  rw [Nat.mod_mul_mod,Nat.mul_assoc,Nat.mul_mod,ajy,Nat.mul_one,Nat.mod_mod]
 rw [e x,e y,h]
theorem Nd:sqLimbs.nat=rN*rN % pN:=by decide +kernel
theorem qc:oneFp.nat=1:=by decide +kernel
theorem oG:zeroFp.nat=0:=by decide +kernel
theorem gZ:0<pN:=by decide +kernel
theorem jZ {a:Fp} (ha:a.nat<pN):(bj a).nat=a.nat*rN % pN:=by
 obtain ⟨h1,h2⟩:=gI (b:=sqLimbs) ha
 have h3:(bj a).nat*rN % pN=(a.nat*rN)*rN % pN:=by
  rw [show (bj a).nat=(aZ a sqLimbs).nat from rfl,h2,Nd,Nat.mul_mod_mod,Nat.mul_assoc]
 rw [<- sy h3]
 exact (Nat.mod_eq_of_lt h1).symm
theorem zQ {a:Fp} (ha:a.nat<pN):(jm a).nat<pN/\(jm a).nat*rN % pN=a.nat:=by
 obtain ⟨h1,h2⟩:=gI (b:=oneFp) ha
 rw [qc,Nat.mul_one,Nat.mod_eq_of_lt ha] at h2
 exact ⟨h1,h2⟩
theorem zI {a b:Fp} (ha:a.nat<pN):(gU a b).nat=a.nat*b.nat % pN:=by
 obtain ⟨h1,h2⟩:=gI (b:=b) ha
 rw [show gU a b=bj (aZ a b) from rfl,jZ h1,h2]
theorem aej {a b:Fp} (ha:a.nat<pN):(gU a b).nat<pN:=by rw [zI ha];exact Nat.mod_lt _ gZ
theorem afB {a b:Fp} (ha:a.nat<pN) (hb:b.nat<pN):(fo a b).nat<pN:=by rw [Js ha hb];exact Nat.mod_lt _ gZ
theorem ac2 {a b:Fp} (ha:a.nat<pN) (hb:b.nat<pN):(fB a b).nat<pN:=by rw [zk ha hb];exact Nat.mod_lt _ gZ
theorem XP {a:Fp} (ha:a.nat<pN):(lD a).nat=(pN-a.nat) % pN:=by
 rw [show lD a=fB zeroFp a from rfl,zk (by rw [oG];exact gZ) ha,oG,Nat.zero_add]
def iJ (e:List UInt64):Nat->Nat
 | 0=>0
 | n+1=>iJ e n+(df e n).toNat*2 ^ n
theorem uc {x:Fp} {a:Nat} (e:List UInt64) (hx:x.nat=a*rN % pN) : ∀ (n:Nat) (o:Fp) (v:Nat),o.nat=v*rN % pN ->
  (Ba x e n o).nat=v ^ 2 ^ n*a ^ iJ e n % pN
 | 0,o,v,ho=>by
  have hlt:o.nat<pN:=by rw [ho];exact Nat.mod_lt _ gZ
  obtain ⟨h1,h2⟩:=zQ hlt
  have h3:=sy (h2.trans ho)
  simp only [Ba,iJ,Nat.pow_zero,Nat.pow_one,Nat.mul_one]
  rw [<- h3]
  exact (Nat.mod_eq_of_lt h1).symm
 | n+1,o,v,ho=>by
  have hlt:o.nat<pN:=by rw [ho];exact Nat.mod_lt _ gZ
  have hmul : ∀ {p q:Fp} {s t:Nat},p.nat=s*rN % pN->q.nat=t*rN % pN->(aZ p q).nat=(s*t)*rN % pN:=by
   intro p q s t hp hq
   obtain ⟨h1,h2⟩:=gI (a:=p) (b:=q) (by rw [hp];exact Nat.mod_lt _ gZ)
   have h3:(aZ p q).nat*rN % pN=((s*t)*rN)*rN % pN:=by
    rw [h2,hp,hq,<- Nat.mul_mod]
    refine congrArg (fun z=>z % pN) ?_
    simp only [Nat.mul_assoc,Nat.mul_left_comm,Nat.mul_comm]
   have h4:=sy h3
   rw [<- h4]
   exact (Nat.mod_eq_of_lt h1).symm
  have h1:=hmul ho ho
  simp only [Ba]
  cases hb:df e n with
  | true =>
   simp only []
   rw [uc e hx n _ _ (hmul h1 hx)]
   simp only [iJ,hb,Bool.toNat_true,Nat.one_mul]
   refine congrArg (fun z=>z % pN) ?_
   rw [Nat.mul_pow,<- Nat.pow_two,<- Nat.pow_mul,show 2 ^ (n+1)=2*2 ^ n by rw [Nat.pow_succ,Nat.mul_comm],Nat.pow_add a,Nat.mul_assoc,Nat.mul_comm (a ^ 2 ^ n)]
  | false =>
   simp only []
   rw [uc e hx n _ _ h1]
   simp only [iJ,hb,Bool.toNat_false,Nat.zero_mul,Nat.add_zero]
   refine congrArg (fun z=>z % pN) ?_
   rw [<- Nat.pow_two,<- Nat.pow_mul,show 2 ^ (n+1)=2*2 ^ n by rw [Nat.pow_succ,Nat.mul_comm]]
theorem Ib {a:Fp} (ha:a.nat<pN) (e:List UInt64):(Ic a e).nat=a.nat ^ iJ e (64*e.length) % pN:=by
 unfold Ic
 have h1:(1:Nat)<pN:=by decide +kernel
 rw [uc e (jZ ha) _ _ 1 (by rw [jZ (by rw [qc];exact h1),qc])]
 rw [Nat.one_pow,Nat.one_mul]
end Go.Proofs.YtgpafcehehaiiaaGreat
namespace Go.Proofs.YtgpafcehehaiiaaGreat
def IsPrime (p:Nat):Prop:=1<p /\ ∀ d,d ∣ p->d=1 \/ d=p
theorem IsPrime.pos {p:Nat} (h:IsPrime p):0<p:=by have:=h.1;omega
theorem IsPrime.coprime {p a:Nat} (h:IsPrime p) (ha : ¬ p ∣ a):Nat.gcd p a=1:=by
 rcases h.2 _ (Nat.gcd_dvd_left p a) with h1 | h1
 ·exact h1
 ·exact absurd (h1 ▸ Nat.gcd_dvd_right p a) ha
theorem IsPrime.dvd_mul {p a b:Nat} (h:IsPrime p) (hd:p ∣ a*b):p ∣ a \/ p ∣ b:=by
 by_cases ha:p ∣ a
 ·exact .inl ha
 ·exact .inr (Nat.Coprime.dvd_of_dvd_mul_left (h.coprime ha) hd)
def ch:Nat->Nat->Nat
 | _,0=>1
 | 0,_+1=>0
 | n+1,k+1=>ch n k+ch n (k+1)
theorem qC (n:Nat):ch n 0=1:=by cases n <;> rfl
theorem AW : ∀ {n k:Nat},n<k->ch n k=0
 | 0,k+1,_=>rfl
 | n+1,k+1,h=>by simp only [ch];rw [AW (by omega),AW (by omega)]
theorem EN : ∀ n:Nat,ch n n=1
 | 0=>rfl
 | n+1=>by simp only [ch];rw [EN n,AW (by omega)]
theorem FK : ∀ n k:Nat,(k+1)*ch (n+1) (k+1)=(n+1)*ch n k
 | 0,0=>rfl
 | 0,k+1=>by simp [ch]
 | n+1,0=>by
  have h:=FK n 0
  simp only [qC,Nat.zero_add,Nat.one_mul,Nat.mul_one] at h ⊢
  show ch (n+1) 0+ch (n+1) 1=n+1+1
  rw [qC,h]
  omega
 | n+1,j+1=>by
  have h1:=FK n j
  have h2:=FK n (j+1)
  have e:ch (n+1) (j+1)=ch n j+ch n (j+1):=rfl
  show (j+1+1)*(ch (n+1) (j+1)+ch (n+1) (j+1+1))=(n+1+1)*ch (n+1) (j+1)
  rw [Nat.mul_add,h2,Nat.succ_mul (j+1),h1]
  rw [Nat.succ_mul (n+1),e,Nat.mul_add]
  omega
def bs (a n:Nat):Nat->Nat
 | 0=>0
 | m+1=>bs a n m+ch n m*a ^ m
theorem PS (a n:Nat) : ∀ m:Nat,bs a (n+1) (m+1)=bs a n (m+1)+a*bs a n m
 | 0=>by simp [bs,qC]
 | m+1=>by
  have h:=PS a n m
  show bs a (n+1) (m+1)+ch (n+1) (m+1)*a ^ (m+1)=bs a n (m+1)+ch n (m+1)*a ^ (m+1)+a*(bs a n m+ch n m*a ^ m)
  rw [h,show ch (n+1) (m+1)=ch n m+ch n (m+1) from rfl,Nat.add_mul,Nat.mul_add,Nat.pow_succ]
  have:ch n m*(a ^ m*a)=a*(ch n m*a ^ m):=by rw [<- Nat.mul_assoc,Nat.mul_comm]
  omega
theorem agt (a:Nat) : ∀ n:Nat,(a+1) ^ n=bs a n (n+1)
 | 0=>by simp [bs,ch]
 | n+1=>by
  rw [PS a n (n+1),show bs a n (n+1+1)=bs a n (n+1)+ch n (n+1)*a ^ (n+1) from rfl,AW (Nat.lt_succ_self n),Nat.zero_mul,Nat.add_zero,<- agt a n,Nat.pow_succ,Nat.mul_add,Nat.mul_one,Nat.mul_comm a]
  omega
theorem Jf {p k:Nat} (h:IsPrime p) (h0:0<k) (hk:k<p):p ∣ ch p k:=by
 obtain ⟨j,rfl⟩ : ∃ j,k=j+1:=⟨k-1,by omega⟩
 obtain ⟨n,rfl⟩ : ∃ n,p=n+1:=⟨p-1,by omega⟩
 have hd:n+1 ∣ (j+1)*ch (n+1) (j+1):=⟨ch n j,FK n j⟩
 rcases h.dvd_mul hd with h1 | h1
 ·exact absurd (Nat.le_of_dvd (by omega) h1) (by omega)
 ·exact h1
theorem Jh {p:Nat} (h:IsPrime p) (a:Nat) : ∀ m:Nat,m<p->bs a p (m+1) % p=1
 | 0,_=>by
  simp only [bs,qC,Nat.pow_zero,Nat.mul_one,Nat.zero_add]
  exact Nat.mod_eq_of_lt h.1
 | m+1,hm=>by
  have ih:=Jh h a m (by omega)
  obtain ⟨c,hc⟩:=Jf h (Nat.succ_pos m) hm
  show (bs a p (m+1)+ch p (m+1)*a ^ (m+1)) % p=1
  rw [hc,Nat.mul_assoc,Nat.add_mul_mod_self_left]
  exact ih
theorem I6 {p:Nat} (h:IsPrime p) : ∀ a:Nat,a ^ p % p=a % p
 | 0=>by
  have:=h.pos
  rw [Nat.zero_pow this]
 | a+1=>by
  have ih:=I6 h a
  have hp:=h.1
  obtain ⟨n,rfl⟩ : ∃ n,p=n+1:=⟨p-1,by omega⟩
  rw [agt a (n+1),show bs a (n+1) (n+1+1)=bs a (n+1) (n+1)+ch (n+1) (n+1)*a ^ (n+1) from rfl,EN,Nat.one_mul,Nat.add_mod,Jh h a n (by omega),ih]
  rw [Nat.add_mod a 1,Nat.mod_eq_of_lt hp,Nat.add_comm]
theorem fermat {p a:Nat} (h:IsPrime p) (ha : ¬ p ∣ a):a ^ (p-1) % p=1:=by
 have hp:=h.1
 have h1:=I6 h a
 obtain ⟨n,rfl⟩ : ∃ n,p=n+1:=⟨p-1,by omega⟩
 rw [Nat.add_sub_cancel]
 have h0:0<a:=Nat.pos_of_ne_zero (by rintro rfl;exact ha ⟨0,rfl⟩)
 have hle:a<=a ^ (n+1):=Nat.le_self_pow (by omega) a
 have hd:n+1 ∣ a ^ (n+1)-a:=Nat.dvd_of_mod_eq_zero (Nat.sub_mod_eq_zero_of_mod_eq h1)
 have h2:1<=a ^ n:=Nat.one_le_pow _ _ h0
 have e:a ^ (n+1)-a=a*(a ^ n-1):=by rw [Nat.pow_succ,Nat.mul_sub,Nat.mul_one,Nat.mul_comm]
 rw [e] at hd
 rcases h.dvd_mul hd with h3 | h3
 ·exact absurd h3 ha
 ·obtain ⟨c,hc⟩:=h3
  rw [show a ^ n=(n+1)*c+1 by omega,Nat.mul_add_mod]
  exact Nat.mod_eq_of_lt hp
theorem eU : ∀ n:Nat,1<n -> ∃ p,IsPrime p/\p ∣ n:=by
 intro n
 induction n using Nat.strongRecOn with
 | ind n ih =>
  intro hn
  by_cases h:IsPrime n
  ·exact ⟨n,h,Nat.dvd_refl n⟩
  ·have : ∃ d,d ∣ n/\d ≠ 1/\d ≠ n:=by
    apply Classical.byContradiction
    intro hc
    refine h ⟨hn,fun d hd => ?_⟩
    by_cases h1:d=1
    ·exact .inl h1
    ·by_cases h2:d=n
     ·exact .inr h2
     ·exact absurd ⟨d,hd,h1,h2⟩ hc
   obtain ⟨d,hd,h1,h2⟩:=this
   have hdn:=Nat.le_of_dvd (by omega) hd
   have hd0:d ≠ 0:=by
    rintro rfl
    have:=Nat.eq_zero_of_zero_dvd hd
    omega
   obtain ⟨p,hp,hpd⟩:=ih d (by omega) (by omega)
   exact ⟨p,hp,Nat.dvd_trans hpd hd⟩
theorem adD {d b:Nat} (hd:1<d) : ∀ m n:Nat,b ^ m % d=1->b ^ n % d=1->b ^ Nat.gcd m n % d=1:=by
 intro m n
 induction m,n using Nat.gcd.induction with
 | H0 n=>intro _ h;rw [Nat.gcd_zero_left];exact h
 | H1 m n hm ih =>
  intro h1 h2
  rw [Nat.gcd_rec]
  refine ih ?_ h1
  have e:b ^ n % d=(b ^ m) ^ (n / m)*b ^ (n % m) % d:=by rw [<- Nat.pow_mul,<- Nat.pow_add,Nat.div_add_mod]
  rw [h2,Nat.mul_mod,Nat.pow_mod,h1,Nat.one_pow,Nat.mod_eq_of_lt hd,Nat.one_mul,Nat.mod_mod] at e
  exact e.symm
theorem If {n q r a:Nat} (hn:n=q*r+1) (hq:IsPrime q) (hr:0<r) (h1:a ^ (q*r) % n=1) (h2:Nat.gcd (a ^ r % n+(n-1)) n=1) {d:Nat} (hd:IsPrime d) (hdn:d ∣ n):q ∣ d-1:=by
 have hq1:=hq.1
 have hn1:1<n:=by
  have:0<q*r:=Nat.mul_pos (by omega) hr
  omega
 have hd1:=hd.1
 have hb:(a ^ r) ^ q % d=1:=by
  rw [<- Nat.pow_mul,Nat.mul_comm r q]
  have:a ^ (q*r) % n % d=a ^ (q*r) % d:=Nat.mod_mod_of_dvd _ hdn
  rw [<- this,h1,Nat.mod_eq_of_lt hd1]
 have hnd : ¬ d ∣ a ^ r:=by
  intro h
  obtain ⟨c,hc⟩:=h
  rw [hc,Nat.mul_pow,Nat.mul_mod] at hb
  have:d ^ q % d=0:=by
   obtain ⟨k,rfl⟩ : ∃ k,q=k+1:=⟨q-1,by omega⟩
   rw [Nat.pow_succ,Nat.mul_mod_left]
  rw [this] at hb
  simp at hb
 have hf:=fermat hd hnd
 have hne:a ^ r % d ≠ 1:=by
  intro h
  have hdd:d ∣ a ^ r % n+(n-1):=by
   have e:(a ^ r % n) % d=1:=by rw [Nat.mod_mod_of_dvd _ hdn];exact h
   have e2:(a ^ r % n+(n-1)+1) % d=1:=by
    rw [show a ^ r % n+(n-1)+1=a ^ r % n+n by omega,Nat.add_mod,e]
    obtain ⟨c,hc⟩:=hdn
    rw [hc,Nat.mul_mod_right,Nat.add_zero,Nat.mod_eq_of_lt hd1]
   have e3:=Nat.sub_mod_eq_zero_of_mod_eq (e2.trans (Nat.mod_eq_of_lt hd1).symm)
   rw [Nat.add_sub_cancel] at e3
   exact Nat.dvd_of_mod_eq_zero e3
  have:=Nat.dvd_gcd hdd hdn
  rw [h2] at this
  have:=Nat.le_of_dvd (by omega) this
  omega
 apply Classical.byContradiction
 intro hc
 have hg:=hq.coprime hc
 have:=adD hd1 q (d-1) hb hf
 rw [hg,Nat.pow_one] at this
 exact hne this
theorem Gg {n q r a K:Nat} (hn:n=q*r+1) (hq:IsPrime q) (hr:0<r) (hK : ∀ k,k<K -> ¬ (q*(k+1)+1) ∣ n) (hqq:n<(q*(K+1)+1)*(q*(K+1)+1)) (h1:a ^ (q*r) % n=1) (h2:Nat.gcd (a ^ r % n+(n-1)) n=1):IsPrime n:=by
 have hq1:=hq.1
 have hn1:1<n:=by
  have:0<q*r:=Nat.mul_pos (by omega) hr
  omega
 refine ⟨hn1,fun x hx => ?_⟩
 have key : ∀ d,IsPrime d->d ∣ n->q*(K+1)+1<=d:=by
  intro d hd hdn
  obtain ⟨c,hc⟩:=If hn hq hr h1 h2 hd hdn
  have hd1:=hd.1
  have hdc:d=q*c+1:=by omega
  rcases Nat.lt_or_ge K c with h | h
  ·have:=Nat.mul_le_mul_left q (show K+1<=c from h)
   omega
  ·have hc0:c ≠ 0:=by rintro rfl;omega
   obtain ⟨k,rfl⟩ : ∃ k,c=k+1:=⟨c-1,by omega⟩
   exact absurd (hdc ▸ hdn) (hK k (by omega))
 by_cases hx1:x=1
 ·exact .inl hx1
 ·right
  obtain ⟨y,hy⟩:=hx
  have hx0:x ≠ 0:=by rintro rfl;omega
  by_cases hy1:y=1
  ·subst hy1;omega
  ·have hy0:y ≠ 0:=by rintro rfl;omega
   obtain ⟨d,hd,hdx⟩:=eU x (by omega)
   obtain ⟨e,he,hey⟩:=eU y (by omega)
   have k1:=key d hd (Nat.dvd_trans hdx ⟨y,hy⟩)
   have k2:=key e he (Nat.dvd_trans hey ⟨x,by rw [hy,Nat.mul_comm]⟩)
   have l1:=Nat.le_of_dvd (by omega) hdx
   have l2:=Nat.le_of_dvd (by omega) hey
   have:=Nat.mul_le_mul (show q*(K+1)+1<=x by omega) (show q*(K+1)+1<=y by omega)
   omega
end Go.Proofs.YtgpafcehehaiiaaGreat
namespace Go.Proofs.YtgpafcehehaiiaaGreat
def B5:Nat->Nat->Nat->Nat->Nat
 | 0,_,_,n=>1 % n
 | k+1,a,e,n=>match Nat.beq e 0 with
  | true=>1 % n
  | false=>match Nat.beq (e % 2) 1 with
   | true=>a*B5 k (a*a % n) (e / 2) n % n
   | false=>B5 k (a*a % n) (e / 2) n
theorem ig (n:Nat) : ∀ (k a e:Nat),e<2 ^ k->B5 k a e n=a ^ e % n
 | 0,a,e,h=>by
  obtain rfl:e=0:=by simpa using h
  rfl
 | k+1,a,e,h=>by
  unfold B5
  cases h0:Nat.beq e 0 with
  | true =>
   have:=Nat.eq_of_beq_eq_true h0
   subst this
   rfl
  | false =>
   have hlt:e / 2<2 ^ k:=by rw [Nat.pow_succ] at h;omega
   have ih:=ig n k (a*a % n) (e / 2) hlt
   have e1:(a*a % n) ^ (e / 2) % n=a ^ (2*(e / 2)) % n:=by rw [<- Nat.pow_mod,<- Nat.pow_two,<- Nat.pow_mul]
   cases h1:Nat.beq (e % 2) 1 with
   | true =>
    have h1:=Nat.eq_of_beq_eq_true h1
    simp only []
    rw [ih,e1,Nat.mul_mod_mod]
    refine congrArg (fun z=>z % n) ?_
    rw [show a ^ e=a ^ (2*(e / 2)+1) by congr 1;omega,Nat.pow_succ,Nat.mul_comm]
   | false =>
    have h1:=Nat.ne_of_beq_eq_false h1
    simp only []
    rw [ih,e1]
    refine congrArg (fun z=>a ^ z % n) ?_
    omega
theorem K6 {n q r a k:Nat} (K:Nat) (hn:n=q*r+1) (hq:IsPrime q) (hr:0<r) (hK : ∀ k,k<K -> ¬ (q*(k+1)+1) ∣ n) (hqq:n<(q*(K+1)+1)*(q*(K+1)+1)) (hk:q*r<2 ^ k) (h1:B5 k a (q*r) n=1) (h2:Nat.gcd (B5 k a r n+(n-1)) n=1):IsPrime n:=by
 have hrq:r<2 ^ k:=Nat.lt_of_le_of_lt (Nat.le_mul_of_pos_left r (by have:=hq.1;omega)) hk
 rw [ig n k a _ hk] at h1
 rw [ig n k a _ hrq] at h2
 exact Gg hn hq hr hK hqq h1 h2
def UP (n:Nat):Nat->Nat->Bool
 | 0,_=>true
 | k+1,d=>match Nat.beq (n % d) 0 with
  | true=>false
  | false=>UP n k (d+1)
theorem q9 {n:Nat} : ∀ {k d:Nat},UP n k d=true -> ∀ x,d<=x->x<d+k -> ¬ x ∣ n
 | 0,d,_,x,h1,h2=>by omega
 | k+1,d,h,x,h1,h2=>by
  simp only [UP] at h
  split at h
  ·cases h
  ·rename_i hb
   have hb:=Nat.ne_of_beq_eq_false hb
   rcases Nat.lt_or_ge d x with hlt | hge
   ·exact q9 h x hlt (by omega)
   ·obtain rfl:x=d:=by omega
    exact fun hd=>hb (Nat.mod_eq_zero_of_dvd hd)
theorem cz {n k:Nat} (hn:1<n) (h:UP n k 2=true) (hk:n<(k+2)*(k+2)):IsPrime n:=by
 refine ⟨hn,fun d hd => ?_⟩
 obtain ⟨y,hy⟩:=hd
 have hd0:d ≠ 0:=by rintro rfl;omega
 have hy0:y ≠ 0:=by rintro rfl;omega
 by_cases h1:d=1
 ·exact .inl h1
 ·right
  by_cases h2:y=1
  ·subst h2;omega
  ·have k1:k+2<=d:=by
    rcases Nat.lt_or_ge d (2+k) with hl | hl
    ·exact absurd ⟨y,hy⟩ (q9 h d (by omega) hl)
    ·omega
   have k2:k+2<=y:=by
    rcases Nat.lt_or_ge y (2+k) with hl | hl
    ·exact absurd ⟨d,by rw [hy,Nat.mul_comm]⟩ (q9 h y (by omega) hl)
    ·omega
   have:=Nat.mul_le_mul k1 k2
   omega
theorem adu:IsPrime 421987:=cz (k:=700) (by decide) (by decide +kernel) (by decide)
theorem adv:IsPrime 13090036741:=K6 0 (q:=421987) (r:=31020) (a:=2) (k:=34) (by decide) adu (by decide) (fun k h=>absurd h (by omega)) (by decide) (by decide) (by decide +kernel) (by decide +kernel)
theorem adw:IsPrime 3819663927398918131021:=K6 4 (q:=13090036741) (r:=291799328220) (a:=2) (k:=72) (by decide) adv (by decide) (by decide +kernel) (by decide +kernel) (by decide +kernel) (by decide +kernel) (by decide +kernel)
theorem adx:IsPrime 1125266252156850182658904441386709967:=K6 0 (q:=3819663927398918131021) (r:=294598235223046) (a:=2) (k:=120) (by decide +kernel) adw (by decide) (fun k h=>absurd h (by omega)) (by decide +kernel) (by decide +kernel) (by decide +kernel) (by decide +kernel)
theorem ady:IsPrime 15778400344354997994418419698270088123916926905054652752758194827714659:=K6 0 (q:=1125266252156850182658904441386709967) (r:=14021926201120671579994175730661374) (a:=2) (k:=234) (by decide +kernel) adx (by decide +kernel) (fun k h=>absurd h (by omega)) (by decide +kernel) (by decide +kernel) (by decide +kernel) (by decide +kernel)
theorem nq:IsPrime pN:=K6 0 (q:=15778400344354997994418419698270088123916926905054652752758194827714659) (r:=253663835868735594330404923636534084567099854) (a:=2) (k:=381) (by decide +kernel) ady (by decide +kernel) (fun k h=>absurd h (by omega)) (by decide +kernel) (by decide +kernel) (by decide +kernel) (by decide +kernel)
end Go.Proofs.YtgpafcehehaiiaaGreat
namespace Go.Proofs.YtgpafcehehaiiaaGreat
def gO (xs:List UInt64):Nat->Nat
 | 0=>0
 | n+1=>gO xs n+(atF xs n).toNat*W64 ^ n
theorem ze (xs:List UInt64) : ∀ n,gO xs n<W64 ^ n
 | 0=>by simp [gO]
 | n+1=>by
  have ih:=ze xs n
  have h:=(atF xs n).toNat_lt
  have h1:(atF xs n).toNat*W64 ^ n<=(W64-1)*W64 ^ n:=Nat.mul_le_mul_right _ (by unfold W64;omega)
  have h2:W64 ^ (n+1)=(W64-1)*W64 ^ n+W64 ^ n:=by
   rw [Nat.pow_succ,Nat.mul_comm,Nat.sub_mul,Nat.one_mul]
   have:W64 ^ n<=W64*W64 ^ n:=Nat.le_mul_of_pos_left _ (by unfold W64;omega)
   omega
  simp only [gO]
  omega
theorem Hv {x y p q:Nat} {w a b:Nat} (hp:p<w) (hq:q<w):a<b->p+a*w<q+b*w:=by
 intro h
 have:(a+1)*w<=b*w:=Nat.mul_le_mul_right _ h
 rw [Nat.add_mul,Nat.one_mul] at this
 omega
theorem CM (xs ys:List UInt64) : ∀ n,m8 xs ys n=if gO xs n<gO ys n then -1 else if gO xs n > gO ys n then 1 else 0
 | 0=>by simp [m8,gO]
 | n+1=>by
  have ih:=CM xs ys n
  have h1:=ze xs n
  have h2:=ze ys n
  have e1:gO xs (n+1)=gO xs n+(atF xs n).toNat*W64 ^ n:=rfl
  have e2:gO ys (n+1)=gO ys n+(atF ys n).toNat*W64 ^ n:=rfl
  rw [e1,e2]
  show (if atF xs n<atF ys n then -1 else if atF xs n > atF ys n then 1 else m8 xs ys n)=_
  by_cases ha:atF xs n<atF ys n
  ·have:=UInt64.lt_iff_toNat_lt.1 ha
   have:=Hv (x:=0) (y:=0) h1 h2 this
   rw [if_pos ha,if_pos this]
  ·rw [if_neg ha]
   by_cases hb:atF xs n > atF ys n
   ·have:=UInt64.lt_iff_toNat_lt.1 hb
    have:=Hv (x:=0) (y:=0) h2 h1 this
    rw [if_pos hb,if_neg (by omega),if_pos this]
   ·rw [if_neg hb,ih]
    have e:(atF xs n).toNat=(atF ys n).toNat:=by
     have h3:=mt UInt64.lt_iff_toNat_lt.2 ha
     have h4:=mt UInt64.lt_iff_toNat_lt.2 hb
     omega
    rw [e]
    simp only [Nat.add_lt_add_iff_right,gt_iff_lt]
theorem IJ (a:Fp):gO a.list 6=a.nat:=by
 simp only [gO,atF,Fp.list,Fp.nat,List.getD_eq_getElem?_getD,List.getElem?_cons_zero,List.getElem?_cons_succ,Option.getD_some]
 generalize a.l0.toNat=x0
 generalize a.l1.toNat=x1
 generalize a.l2.toNat=x2
 generalize a.l3.toNat=x3
 generalize a.l4.toNat=x4
 generalize a.l5.toNat=x5
 simp only [Nat.pow_succ,Nat.pow_zero,Nat.one_mul,Nat.mul_one,Nat.mul_add,Nat.mul_assoc,Nat.mul_comm,Nat.mul_left_comm,Nat.zero_add]
 omega
theorem PO (a b:Fp):ML a.list b.list=if a.nat<b.nat then -1 else if a.nat > b.nat then 1 else 0:=by
 have h:ML a.list b.list=m8 a.list b.list 6:=by
  unfold ML Vf
  rfl
 rw [h,CM,IJ,IJ]
theorem Yh (a:Fp):yb a=decide (a.nat<pN):=by
 unfold yb
 rw [PO,iv]
 refine decide_eq_decide.2 ?_
 split
 ·rename_i h;simp [h]
 ·rename_i h
  simp only [h,iff_false]
  split <;> omega
def hN:Nat:=pN / 2
theorem Ma:(Po pLimbs).nat=hN:=by decide +kernel
theorem yw (a:Fp):qv a=decide (hN<a.nat):=by
 unfold qv
 rw [PO,Ma]
 refine decide_eq_decide.2 ?_
 split
 ·rename_i h;constructor <;> intro h' <;> omega
 ·split
  ·rename_i h h2;constructor <;> intro h' <;> omega
  ·rename_i h h2;constructor <;> intro h' <;> omega
theorem u64_ne {x y:UInt64}:(x != y)=true <-> x.toNat ≠ y.toNat:=by
 simp only [bne_iff_ne,ne_eq]
 exact ⟨fun h e=>h (UInt64.toNat.inj e),fun h e=>h (by rw [e])⟩
theorem yT (a m:Fp):dg a m=decide (a.nat<m.nat):=by
 have h0:=a.l0.toNat_lt
 have h1:=a.l1.toNat_lt
 have h2:=a.l2.toNat_lt
 have h3:=a.l3.toNat_lt
 have h4:=a.l4.toNat_lt
 have k0:=m.l0.toNat_lt
 have k1:=m.l1.toNat_lt
 have k2:=m.l2.toNat_lt
 have k3:=m.l3.toNat_lt
 have k4:=m.l4.toNat_lt
 have same : ∀ {x y:UInt64},(x != y)=false->x.toNat=y.toNat:=fun h=>by
  simp only [bne_eq_false_iff_eq] at h
  rw [h]
 unfold dg
 cases e5:a.l5 != m.l5 with
 | true =>
  have:=u64_ne.1 e5
  refine decide_eq_decide.2 ?_
  rw [UInt64.lt_iff_toNat_lt]
  unfold Fp.nat W64
  omega
 | false =>
  have e5:=same e5
  simp only []
  cases e4:a.l4 != m.l4 with
  | true =>
   have:=u64_ne.1 e4
   refine decide_eq_decide.2 ?_
   rw [UInt64.lt_iff_toNat_lt]
   unfold Fp.nat W64
   omega
  | false =>
   have e4:=same e4
   simp only []
   cases e3:a.l3 != m.l3 with
   | true =>
    have:=u64_ne.1 e3
    refine decide_eq_decide.2 ?_
    rw [UInt64.lt_iff_toNat_lt]
    unfold Fp.nat W64
    omega
   | false =>
    have e3:=same e3
    simp only []
    cases e2:a.l2 != m.l2 with
    | true =>
     have:=u64_ne.1 e2
     refine decide_eq_decide.2 ?_
     rw [UInt64.lt_iff_toNat_lt]
     unfold Fp.nat W64
     omega
    | false =>
     have e2:=same e2
     simp only []
     cases e1:a.l1 != m.l1 with
     | true =>
      have:=u64_ne.1 e1
      refine decide_eq_decide.2 ?_
      rw [UInt64.lt_iff_toNat_lt]
      unfold Fp.nat W64
      omega
     | false =>
      have e1:=same e1
      simp only []
      cases e0:a.l0 != m.l0 with
      | true =>
       have:=u64_ne.1 e0
       refine decide_eq_decide.2 ?_
       rw [UInt64.lt_iff_toNat_lt]
       unfold Fp.nat W64
       omega
      | false =>
       have e0:=same e0
       refine (decide_eq_false ?_).symm
       unfold Fp.nat W64
       omega
theorem Zb (a b:Fp):la a b=decide (a.nat=b.nat):=by
 by_cases h:a=b
 ·subst h;rw [(js a a).2 rfl];simp
 ·have h1:la a b=false:=by
   cases e:la a b with
   | true=>exact absurd ((js a b).1 e) h
   | false=>rfl
  rw [h1]
  exact (decide_eq_false fun e=>h (Fp.nat_inj e)).symm
end Go.Proofs.YtgpafcehehaiiaaGreat
namespace Go.Proofs.YtgpafcehehaiiaaGreat
theorem of_nat (n:UInt64):(ofF n).nat=n.toNat:=by
 unfold ofF Fp.nat
 simp only [show (0:UInt64).toNat=0 from rfl,Nat.mul_zero,Nat.add_zero]
theorem akQ:iJ [pLimbs.l0-2,pLimbs.l1,pLimbs.l2,pLimbs.l3,pLimbs.l4,pLimbs.l5] (64*6)=pN-2:=by decide +kernel
theorem OO {a:Nat} (h:a<pN) (h0:a ≠ 0) : ¬ pN ∣ a:=fun hd=>absurd (Nat.le_of_dvd (by omega) hd) (by omega)
theorem E5:2<pN:=by decide +kernel
theorem aeL {x:Fp} (hx:x.nat<pN):(x.nat=0->(i6 x).2=7)/\(x.nat ≠ 0->(i6 x).2=0/\(i6 x).1.nat<pN/\x.nat*(i6 x).1.nat % pN=1):=by
 unfold i6
 rw [Zb,oG]
 refine ⟨fun h => ?_,fun h => ?_⟩
 ·rw [decide_eq_true h]
 ·rw [decide_eq_false h]
  simp only []
  have e:(Ic x [pLimbs.l0-2,pLimbs.l1,pLimbs.l2,pLimbs.l3,pLimbs.l4,pLimbs.l5]).nat=x.nat ^ (pN-2) % pN:=by
   rw [Ib hx,show 64 * [pLimbs.l0-2,pLimbs.l1,pLimbs.l2,pLimbs.l3,pLimbs.l4,pLimbs.l5].length=64*6 from rfl,akQ]
  refine ⟨trivial,by rw [e];exact Nat.mod_lt _ gZ,?_⟩
  rw [e,Nat.mul_mod_mod]
  have h2:=E5
  have:x.nat*x.nat ^ (pN-2)=x.nat ^ (pN-1):=by rw [show pN-1=(pN-2)+1 by omega,Nat.pow_succ,Nat.mul_comm]
  rw [this]
  exact fermat nq (OO hx h)
end Go.Proofs.YtgpafcehehaiiaaGreat
namespace Go.Proofs.YtgpafcehehaiiaaGreat
instance : NeZero pN := ⟨by decide +kernel⟩
def V1:Type:=Fin pN
def V1.of (n:Nat):V1:=Fin.ofNat pN n
def V1.nat (a:V1):Nat:=Fin.val a
theorem V1.nat_lt (a:V1):a.nat<pN:=Fin.isLt a
theorem V1.nat_of (n:Nat):(V1.of n).nat=n % pN:=rfl
theorem V1.ext {a b:V1} (h:a.nat=b.nat):a=b:=Fin.eq_of_val_eq h
theorem V1.of_nat (a:V1):V1.of a.nat=a:=V1.ext (by rw [V1.nat_of,Nat.mod_eq_of_lt a.nat_lt])
def V1.add (a b:V1):V1:=V1.of (a.nat+b.nat)
def V1.mul (a b:V1):V1:=V1.of (a.nat*b.nat)
def V1.neg (a:V1):V1:=V1.of (pN-a.nat)
def V1.sub (a b:V1):V1:=V1.of (a.nat+(pN-b.nat))
def V1.inv (a:V1):V1:=V1.of (B5 381 a.nat (pN-2) pN)
theorem zw:1<pN:=by decide +kernel
theorem V1.one_mod:1 % pN=1:=Nat.mod_eq_of_lt zw
instance : CR V1 where
 add:=V1.add
 mul:=V1.mul
 neg:=V1.neg
 sub:=V1.sub
 z:=V1.of 0
 o:=V1.of 1
 add_zero:=fun a=>V1.ext (by show (a.nat+0 % pN) % pN=a.nat;rw [Nat.zero_mod,Nat.add_zero,Nat.mod_eq_of_lt a.nat_lt])
 add_comm:=fun a b=>V1.ext (by show (a.nat+b.nat) % pN=(b.nat+a.nat) % pN;rw [Nat.add_comm])
 add_assoc:=fun a b c=>V1.ext (by show ((a.nat+b.nat) % pN+c.nat) % pN=(a.nat+(b.nat+c.nat) % pN) % pN;rw [Nat.mod_add_mod,Nat.add_mod_mod,Nat.add_assoc])
 mul_assoc:=fun a b c=>V1.ext (by show ((a.nat*b.nat) % pN*c.nat) % pN=(a.nat*((b.nat*c.nat) % pN)) % pN;rw [Nat.mod_mul_mod,Nat.mul_mod_mod,Nat.mul_assoc])
 mul_comm:=fun a b=>V1.ext (by show (a.nat*b.nat) % pN=(b.nat*a.nat) % pN;rw [Nat.mul_comm])
 mul_one:=fun a=>V1.ext (by show (a.nat*(1 % pN)) % pN=a.nat;rw [V1.one_mod,Nat.mul_one,Nat.mod_eq_of_lt a.nat_lt])
 dist:=fun a b c=>V1.ext (by
  show (a.nat*((b.nat+c.nat) % pN)) % pN=((a.nat*b.nat) % pN+(a.nat*c.nat) % pN) % pN
  rw [Nat.mul_mod_mod,<- Nat.add_mod,Nat.mul_add])
 neg_add:=fun a=>V1.ext (by
  show ((pN-a.nat) % pN+a.nat) % pN=0 % pN
  rw [Nat.mod_add_mod,Nat.sub_add_cancel (Nat.le_of_lt a.nat_lt),Nat.mod_self,Nat.zero_mod])
 sub_eq:=fun a b=>V1.ext (by
  show (a.nat+(pN-b.nat)) % pN=(a.nat+(pN-b.nat) % pN) % pN
  rw [Nat.add_mod_mod])
theorem V1.nat_add (a b:V1):(a+b).nat=(a.nat+b.nat) % pN:=rfl
theorem V1.nat_mul (a b:V1):(a*b).nat=(a.nat*b.nat) % pN:=rfl
theorem V1.nat_zero:(0:V1).nat=0:=Nat.zero_mod _
theorem V1.nat_one:(1:V1).nat=1:=V1.one_mod
theorem V1.nat_pow (a:V1) : ∀ n:Nat,(a ^ n).nat=a.nat ^ n % pN
 | 0=>rfl
 | n+1=>by rw [aq,V1.nat_mul,V1.nat_pow a n,Nat.mod_mul_mod,Nat.pow_succ]
theorem V1.ne_zero {a:V1} (h:a ≠ 0):a.nat ≠ 0:=fun e=>h (V1.ext (by rw [e,V1.nat_zero]))
theorem V1.fermat {a:V1} (h:a ≠ 0):a ^ (pN-1)=1:=V1.ext (by
 rw [V1.nat_pow,V1.nat_one]
 exact Go.Proofs.YtgpafcehehaiiaaGreat.fermat nq (OO a.nat_lt (V1.ne_zero h)))
theorem V1.inv_eq (a:V1):V1.inv a=a ^ (pN-2):=V1.ext (by
 show B5 381 a.nat (pN-2) pN % pN=_
 rw [ig pN 381 _ _ (by decide +kernel),V1.nat_pow,Nat.mod_mod])
instance : Fld V1 where
 inv:=V1.inv
 mul_inv:=fun a h=>by
  rw [V1.inv_eq]
  have:=V1.fermat h
  rw [show pN-1=(pN-2)+1 by have:=E5;omega,aq] at this
  rw [CR.mul_comm]
  exact this
 one_ne:=fun e=>by
  have:=congrArg V1.nat e
  rw [V1.nat_one,V1.nat_zero] at this
  omega
def Fp.ok (a:Fp):Prop:=a.nat<pN
def Fp.v (a:Fp):V1:=V1.of a.nat
theorem Fp.v_nat {a:Fp} (h:a.ok):a.v.nat=a.nat:=Nat.mod_eq_of_lt h
theorem Fp.v_inj {a b:Fp} (ha:a.ok) (hb:b.ok) (h:a.v=b.v):a=b:=Fp.nat_inj (by rw [<- Fp.v_nat ha,<- Fp.v_nat hb,h])
theorem aby {a b:Fp} (ha:a.ok) (hb:b.ok):la a b=true <-> a.v=b.v:=⟨fun h=>by rw [(js a b).1 h],fun h=>(js a b).2 (Fp.v_inj ha hb h)⟩
theorem eF {a b:Fp} (ha:a.ok) (hb:b.ok):(fo a b).ok:=afB ha hb
theorem ia {a b:Fp} (ha:a.ok) (hb:b.ok):(fB a b).ok:=ac2 ha hb
theorem cV {a b:Fp} (ha:a.ok):(gU a b).ok:=aej ha
theorem bI:zeroFp.ok:=by unfold Fp.ok;rw [oG];exact gZ
theorem kv:oneFp.ok:=by unfold Fp.ok;rw [qc];exact zw
theorem qj {a:Fp} (ha:a.ok):(lD a).ok:=ia bI ha
theorem lk:zeroFp.v=0:=V1.ext (by rw [Fp.v_nat bI,oG,V1.nat_zero])
theorem A6:oneFp.v=1:=V1.ext (by rw [Fp.v_nat kv,qc,V1.nat_one])
theorem qM {a b:Fp} (ha:a.ok) (hb:b.ok):(fo a b).v=a.v+b.v:=V1.ext (by
 rw [Fp.v_nat (eF ha hb),Js ha hb,V1.nat_add,Fp.v_nat ha,Fp.v_nat hb])
theorem pd {a b:Fp} (ha:a.ok) (hb:b.ok):(gU a b).v=a.v*b.v:=V1.ext (by
 rw [Fp.v_nat (cV ha),zI ha,V1.nat_mul,Fp.v_nat ha,Fp.v_nat hb])
theorem sl {a b:Fp} (ha:a.ok) (hb:b.ok):(fB a b).v=a.v-b.v:=V1.ext (by
 rw [Fp.v_nat (ia ha hb),zk ha hb]
 show _=(a.v.nat+(pN-b.v.nat)) % pN
 rw [Fp.v_nat ha,Fp.v_nat hb]
 congr 1
 have:b.nat<pN:=hb
 omega)
theorem EY {a:Fp} (ha:a.ok):(lD a).v = - a.v:=by
 rw [show lD a=fB zeroFp a from rfl,sl bI ha,lk]
 grind
end Go.Proofs.YtgpafcehehaiiaaGreat
namespace Go.Proofs.YtgpafcehehaiiaaGreat
theorem Tx:(pN-1) / 2+(pN-1) / 2=pN-1:=by decide +kernel
theorem YZ:(pN-1) / 2=2*((pN-3) / 4)+1:=by decide +kernel
def V1.chi (a:V1):V1:=a ^ ((pN-1) / 2)
theorem NV {a:V1} (h:a ≠ 0):a.chi*a.chi=1:=by
 unfold V1.chi
 rw [<- cu,Tx]
 exact V1.fermat h
theorem Ub {a:V1} (h:a ≠ 0):a.chi=1 \/ a.chi = -1:=E6 (by rw [NV h];grind)
theorem PQ (a b:V1):(a*b).chi=a.chi*b.chi:=aY a b _
theorem Lw:(-1:V1) * -1=1:=by grind
theorem G6:(-1:V1).chi = -1:=by
 unfold V1.chi
 rw [YZ,cu,aE,eI,aq _ 1,eI,Lw,bq]
 grind
theorem Lk:(1:V1) ≠ -1:=fun e=>by
 have:=congrArg V1.nat e
 rw [V1.nat_one] at this
 have h2:(-1:V1).nat=(pN-1 % pN) % pN:=rfl
 rw [h2,V1.one_mod] at this
 have h3:=zw
 rw [Nat.mod_eq_of_lt (by omega)] at this
 have h4:=E5
 omega
theorem ajD:pN=2*hN+1:=by decide +kernel
theorem Cp {a:Fp} (ha:a.ok) (h:a.v ≠ 0):qv (lD a) = !qv a:=by
 have h0:a.nat ≠ 0:=by
  have:=V1.ne_zero h
  rwa [Fp.v_nat ha] at this
 have h1:a.nat<pN:=ha
 have h2:=ajD
 rw [yw,yw,XP ha,Nat.mod_eq_of_lt (by omega)]
 by_cases h3:hN<a.nat
 ·rw [decide_eq_true h3,decide_eq_false (by omega)];rfl
 ·rw [decide_eq_false h3,decide_eq_true (by omega)];rfl
theorem ahF (n:UInt64):(ofF n).ok:=by
 unfold Fp.ok
 rw [of_nat]
 exact Nat.lt_trans n.toNat_lt (by decide +kernel)
theorem akF (n:UInt64):(ofF n).v=V1.of n.toNat:=by unfold Fp.v;rw [of_nat]
theorem Ex (a:Fp):yb a=true <-> a.ok:=by rw [Yh];exact decide_eq_true_iff
end Go.Proofs.YtgpafcehehaiiaaGreat
namespace Go.Proofs.YtgpafcehehaiiaaGreat
theorem MO (a b:Fp):(dW a b).2=decide (a.nat<b.nat):=by
 have h:=zj a b
 have h1:=(dW a b).1.nat_lt
 cases e:(dW a b).2 with
 | true =>
  rw [e,Bool.toNat_true,Nat.mul_one] at h
  exact (decide_eq_true (by omega)).symm
 | false =>
  rw [e,Bool.toNat_false,Nat.mul_zero] at h
  exact (decide_eq_false (by omega)).symm
theorem IR (a:Fp) (o:UInt64):mR a o=match decide (o<b2u (decide (a.nat<pN))) with | true=>a | false=>(dW a pLimbs).1:=by
 have h:=MO a pLimbs
 rw [iv] at h
 unfold mR
 rw [zX,h]
 all_goals rfl
theorem SD (t:L7) (h6:t.t6.toNat<=1):rY pLimbs t=mR t.low t.t6:=by
 rw [IR]
 unfold rY
 rw [yT,iv]
 by_cases h:t.t6.toNat=0
 ·have e0:t.t6=0:=UInt64.toNat.inj h
  rw [e0]
  by_cases hl:t.low.nat<pN
  ·rw [decide_eq_true hl];rfl
  ·rw [decide_eq_false hl];rfl
 ·have e0:t.t6=1:=UInt64.toNat.inj (by rw [UInt64.toNat_one];omega)
  rw [e0]
  by_cases hl:t.low.nat<pN
  ·rw [decide_eq_true hl];rfl
  ·rw [decide_eq_false hl];rfl
theorem ST (x y t c:UInt64):jG x y t c=jG y x t c:=by unfold jG;rw [UInt64.mul_comm]
theorem Lz (x y:UInt64):gr x y=gr y x:=UInt64.toNat.inj (by rw [iR,iR,Nat.mul_comm])
theorem SV (x y t c:UInt64):fR x y t c=fR y x t c:=by unfold fR;rw [UInt64.mul_comm,Lz]
theorem X5 (t0 t1 t2 t3 t4 t5 top:UInt64) (more:Bool):aci pLimbs xJ t0 t1 t2 t3 t4 t5 top more=AB t0 t1 t2 t3 t4 t5 top more:=by
 unfold aci AB
 simp only [AC,AD,uG t0]
theorem X3 (ai:UInt64) (b:Fp) (t:L7):mM pLimbs xJ ai b t=e9 b ai t:=by
 unfold mM e9
 rw [X5]
 simp only [AC,AD,ST ai,SV ai]
theorem LD:bP pLimbs.l0=xJ:=by decide +kernel
theorem X6 (a b:Fp):xT a b pLimbs=gS b a:=by
 unfold xT Fm Fn Fo Fq Fs
 rw [LD]
 simp only [X3]
 rfl
theorem Ty {a b:Fp} (ha:a.nat<pN):(gS a b).t6.toNat<=1:=by
 obtain ⟨k,h1,h2⟩:=Cj a b
 rw [L7.nat_low] at h1 h2
 have hlt:=(gS a b).low.nat_lt
 have hpr:2*pN<rN:=by decide +kernel
 rcases Nat.lt_or_ge (gS a b).t6.toNat 1 with h | h
 ·omega
 ·have:rN*1<=rN*(gS a b).t6.toNat:=Nat.mul_le_mul_left _ h
  rcases Nat.lt_or_ge (gS a b).t6.toNat 2 with h3 | h3
  ·omega
  ·have:rN*2<=rN*(gS a b).t6.toNat:=Nat.mul_le_mul_left _ h3
   omega
theorem xS (a:Fp) {b:Fp} (hb:b.ok):Be a b pLimbs=aZ b a:=by
 unfold Be aZ
 rw [X6]
 exact SD _ (Ty hb)
theorem afX:sqLimbs.ok:=by unfold Fp.ok;rw [Nd];exact Nat.mod_lt _ gZ
theorem pk (a:Fp) {b:Fp} (hb:b.ok):(eQ a b).nat=a.nat*b.nat % pN:=by
 unfold eQ
 rw [xS a hb,xS _ afX]
 obtain ⟨h1,h2⟩:=gI (b:=a) hb
 obtain ⟨h3,h4⟩:=gI (b:=aZ b a) afX
 rw [<- Nat.mod_eq_of_lt h3]
 refine sy ?_
 rw [h4,Nd,Nat.mod_mul_mod]
 have e:rN*rN*(aZ b a).nat=(aZ b a).nat*rN*rN:=by rw [Nat.mul_comm,Nat.mul_assoc]
 rw [e,<- Nat.mod_mul_mod,h2,Nat.mod_mul_mod,Nat.mul_comm a.nat]
theorem kT {a b:Fp} (ha:a.ok) (hb:b.ok):eQ a b=gU a b:=Fp.nat_inj (by rw [pk a hb,zI ha])
theorem so (a b:Fp):nJ a b=fB a b:=by
 unfold nJ r8 fB
 cases (dW a b).2 <;> rfl
theorem XN (a:Fp):Bd a=lD a:=so zeroFp a
theorem Ak (a b:Fp):rB a b=fo a b:=by
 unfold rB vj fo
 rw [IR,yT,iv]
 cases (jO a b).2
 ·by_cases hl:(jO a b).1.nat<pN
  ·rw [decide_eq_true hl];rfl
  ·rw [decide_eq_false hl];rfl
 ·by_cases hl:(jO a b).1.nat<pN
  ·rw [decide_eq_true hl];rfl
  ·rw [decide_eq_false hl];rfl
theorem Ix (a:Fp) {b:Fp} (hb:b.ok):(eQ a b).ok:=by unfold Fp.ok;rw [pk a hb];exact Nat.mod_lt _ gZ
theorem qZ {a:Fp} (ha:a.ok) (e:List UInt64) : ∀ (n:Nat) (o:Fp),o.ok->(qa a e n o).nat=o.nat ^ 2 ^ n*a.nat ^ iJ e n % pN
 | 0,o,ho=>by
  simp only [qa,iJ,Nat.pow_zero,Nat.pow_one,Nat.mul_one]
  exact (Nat.mod_eq_of_lt ho).symm
 | n+1,o,ho=>by
  have h1:=pk o ho
  simp only [qa]
  cases hb:df e n with
  | true =>
   simp only []
   rw [qZ ha e n _ (Ix _ ha),pk _ ha,h1]
   simp only [iJ,hb,Bool.toNat_true,Nat.one_mul]
   rw [Nat.mod_mul_mod,<- Nat.mod_mul_mod,<- Nat.pow_mod,Nat.mod_mul_mod]
   refine congrArg (fun z=>z % pN) ?_
   rw [Nat.mul_pow,<- Nat.pow_two,<- Nat.pow_mul,show 2 ^ (n+1)=2*2 ^ n by rw [Nat.pow_succ,Nat.mul_comm],Nat.pow_add a.nat,Nat.mul_assoc,Nat.mul_comm (a.nat ^ 2 ^ n)]
  | false =>
   simp only []
   rw [qZ ha e n _ (Ix _ ho),h1]
   simp only [iJ,hb,Bool.toNat_false,Nat.zero_mul,Nat.add_zero]
   rw [<- Nat.mod_mul_mod,<- Nat.pow_mod,Nat.mod_mul_mod]
   refine congrArg (fun z=>z % pN) ?_
   rw [<- Nat.pow_two,<- Nat.pow_mul,show 2 ^ (n+1)=2*2 ^ n by rw [Nat.pow_succ,Nat.mul_comm]]
theorem Nq:ofF 1=oneFp:=rfl
theorem WX {a:Fp} (ha:a.ok) (e:List UInt64):xH a e=Ic a e:=Fp.nat_inj (by
 unfold xH
 rw [Ib ha,Nq,qZ ha e _ _ kv,qc,Nat.one_pow,Nat.one_mul])
theorem ahq:pm2 = [pLimbs.l0-2,pLimbs.l1,pLimbs.l2,pLimbs.l3,pLimbs.l4,pLimbs.l5]:=by decide +kernel
theorem sM {a:Fp} (ha:a.ok):pv a=i6 a:=by
 unfold pv i6
 rw [WX ha,ahq]
 all_goals rfl
def vZ (xs:List UInt64):Nat:=gO xs xs.length
end Go.Proofs.YtgpafcehehaiiaaGreat
namespace Go.Proofs.YtgpafcehehaiiaaGreat
section
variable {R : Type} [CR R]
theorem CR.nat_add (m:Nat) : ∀ n:Nat,(CR.nat (m+n):R)=CR.nat m+CR.nat n
 | 0=>by show CR.nat m=CR.nat m+CR.z;rw [CR.add_zero]
 | n+1=>by
  rw [<- Nat.add_assoc,CR.nat_succ,CR.nat_add m n,CR.nat_succ,CR.add_assoc]
theorem CR.nat_mul (m:Nat) : ∀ n:Nat,(CR.nat (m*n):R)=CR.nat m*CR.nat n
 | 0=>by
  show CR.z=CR.nat m*CR.z
  rw [CR.mul_zero]
 | n+1=>by
  rw [Nat.mul_succ,CR.nat_add,CR.nat_mul m n,CR.nat_succ,CR.dist,CR.mul_one]
def bsR (a:R) (n:Nat):Nat->R
 | 0=>0
 | m+1=>bsR a n m+CR.nat (ch n m)*a ^ m
theorem Ji (a:R) (n:Nat) : ∀ m:Nat,bsR a (n+1) (m+1)=bsR a n (m+1)+a*bsR a n m
 | 0=>by
  simp only [bsR,qC]
  grind
 | m+1=>by
  have h:=Ji a n m
  show bsR a (n+1) (m+1)+CR.nat (ch (n+1) (m+1))*a ^ (m+1)=bsR a n (m+1)+CR.nat (ch n (m+1))*a ^ (m+1)+a*(bsR a n m+CR.nat (ch n m)*a ^ m)
  rw [h,show ch (n+1) (m+1)=ch n m+ch n (m+1) from rfl,CR.nat_add,aq]
  generalize (CR.nat (ch n m):R)=c
  generalize (CR.nat (ch n (m+1)):R)=d
  generalize a ^ m=e
  grind
theorem abM (a:R) : ∀ n:Nat,(a+1) ^ n=bsR a n (n+1)
 | 0=>by
  show (1:R)=0+CR.nat 1*a ^ 0
  rw [bu]
  show (1:R)=0+1*1
  grind
 | n+1=>by
  rw [Ji a n (n+1),show bsR a n (n+1+1)=bsR a n (n+1)+CR.nat (ch n (n+1))*a ^ (n+1) from rfl,AW (Nat.lt_succ_self n),<- abM a n,aq]
  show _=(a+1) ^ n+0*a ^ (n+1)+a*(a+1) ^ n
  grind
theorem CN {p:Nat} (h:IsPrime p) (h0:(CR.nat p:R)=0) (a:R) : ∀ m:Nat,m<p->bsR a p (m+1)=1
 | 0,_=>by
  simp only [bsR,qC]
  show (0:R)+1*a ^ 0=1
  rw [bu]
  grind
 | m+1,hm=>by
  have ih:=CN h h0 a m (by omega)
  obtain ⟨c,hc⟩:=Jf h (Nat.succ_pos m) hm
  show bsR a p (m+1)+CR.nat (ch p (m+1))*a ^ (m+1)=1
  rw [hc,CR.nat_mul,h0,ih]
  grind
theorem ait {p:Nat} (h:IsPrime p) (h0:(CR.nat p:R)=0) (a:R):(a+1) ^ p=a ^ p+1:=by
 have hp:=h.1
 obtain ⟨n,rfl⟩ : ∃ n,p=n+1:=⟨p-1,by omega⟩
 rw [abM a (n+1),show bsR a (n+1) (n+1+1)=bsR a (n+1) (n+1)+CR.nat (ch (n+1) (n+1))*a ^ (n+1) from rfl,EN,CN h h0 a n (by omega)]
 show (1:R)+1*a ^ (n+1)=_
 grind
end
section
variable {K : Type} [Fld K]
theorem acp {p:Nat} (h:IsPrime p) (h0:(CR.nat p:K)=0) (a b:K):(a+b) ^ p=a ^ p+b ^ p:=by
 by_cases hb:b=0
 ·rw [hb,lS p (by have:=h.1;omega)]
  have e:a+0=a:=by grind
  rw [e]
  grind
 ·have hi:=bl hb
  have h1:=ait h h0 (a*Fld.inv b)
  have e1:(a+b)=(a*Fld.inv b+1)*b:=by grind
  have e2:a=(a*Fld.inv b)*b:=by grind
  have e3:a ^ p=(a*Fld.inv b) ^ p*b ^ p:=by rw [<- aY,<- e2]
  rw [e1,aY,h1,e3]
  grind
end
theorem Qd.nat_eq {K:Type} [CR K] [QP K] : ∀ n:Nat,(CR.nat n:Qd K)=Qd.of (CR.nat n)
 | 0=>rfl
 | n+1=>by
  rw [CR.nat_succ,Qd.nat_eq n,CR.nat_succ]
  exact Qd.ext' rfl (show (0:K)+0=0 by grind)
theorem Cb.nat_eq {K:Type} [CR K] [CP K] : ∀ n:Nat,(CR.nat n:Cb K)=Cb.of (CR.nat n)
 | 0=>rfl
 | n+1=>by
  rw [CR.nat_succ,Cb.nat_eq n,CR.nat_succ]
  exact Cb.ext' rfl (show (0:K)+0=0 by grind) (show (0:K)+0=0 by grind)
theorem V1.nat_nat : ∀ n:Nat,V1.nat (CR.nat n)=n % pN
 | 0=>V1.nat_zero
 | n+1=>by
  rw [CR.nat_succ]
  show V1.nat (CR.nat n+1)=_
  rw [V1.nat_add,V1.nat_nat n,V1.nat_one,Nat.mod_add_mod]
theorem V1.char:(CR.nat pN:V1)=0:=V1.ext (by rw [V1.nat_nat,Nat.mod_self,V1.nat_zero])
theorem V1.two_nat:V1.nat (2:V1)=2:=by
 show V1.nat (CR.nat 2)=2
 rw [V1.nat_nat]
 exact Nat.mod_eq_of_lt E5
instance : QF V1 where
 nr := -1
 no:=fun x h=>by
  have h1:(x*x).chi=x.chi*x.chi:=PQ x x
  rw [h,G6] at h1
  have hx:x ≠ 0:=fun e=>by
   rw [e] at h
   have:=cL (K:=V1)
   grind
  rw [NV hx] at h1
  exact Lk h1.symm
abbrev V2:Type:=Qd V1
theorem V1.nr_eq:(QP.nr:V1) = -1:=rfl
def xi:V2:=⟨1,1⟩
theorem wJ:xi.norm=2:=by
 unfold Qd.norm xi
 rw [V1.nr_eq]
 show (1:V1)*1 - -1*(1*1)=2
 grind
theorem two_ne:(2:V1) ≠ 0:=fun h=>by
 have h1:=congrArg V1.nat h
 rw [V1.two_nat,V1.nat_zero] at h1
 exact absurd h1 (by decide)
theorem ab8:(pN-1) / 3*3=pN-1:=by decide +kernel
theorem Qo:((2:V1) ^ ((pN-1) / 3)) ≠ 1:=fun h=>by
 have h1:=congrArg V1.nat h
 rw [V1.nat_pow,V1.two_nat,V1.nat_one,<- ig pN 381 2 _ (by decide +kernel)] at h1
 exact absurd h1 (by decide +kernel)
theorem Hy:(2:V1).chi ≠ 1:=fun h=>by
 have h1:=congrArg V1.nat h
 unfold V1.chi at h1
 rw [V1.nat_pow,V1.two_nat,V1.nat_one,<- ig pN 381 2 _ (by decide +kernel)] at h1
 exact absurd h1 (by decide +kernel)
theorem Qa {R:Type} [CR R] (a:R):a*0=0:=CR.mul_zero a
instance : CF V2 where
 cr:=xi
 no:=fun x h=>by
  have h1:x.norm*x.norm*x.norm=2:=by rw [<- Qd.norm_mul,<- Qd.norm_mul,h,wJ]
  have hx:x.norm ≠ 0:=fun e=>by
   exact two_ne (by rw [<- h1,e,Qa])
  apply Qo
  have e:(2:V1)=x.norm ^ 3:=by rw [<- h1];grind
  rw [e,<- aE,Nat.mul_comm,ab8]
  exact V1.fermat hx
abbrev V6:Type:=Cb V2
theorem V2.cr_eq:(CP.cr:V2)=xi:=rfl
def vv:V6:=⟨0,1,0⟩
theorem acC:vv.norm=xi:=by
 unfold Cb.norm vv
 rw [V2.cr_eq]
 show (0:V2)*(0*0-xi*(1*0))+xi*(0*(xi*(0*0)-0*1)+1*(1*1-0*0))=xi
 generalize xi=x
 grind
instance : QF V6 where
 nr:=vv
 no:=fun x h=>by
  have h1:x.norm*x.norm=xi:=by rw [<- Cb.norm_mul,h,acC]
  have h2:x.norm.norm*x.norm.norm=2:=by rw [<- Qd.norm_mul,h1,wJ]
  have hx:x.norm.norm ≠ 0:=fun e=>by
   exact two_ne (by rw [<- h2,e,Qa])
  apply Hy
  rw [<- h2,PQ,NV hx]
abbrev V12:Type:=Qd V6
theorem V2.char:(CR.nat pN:V2)=0:=by rw [Qd.nat_eq,V1.char];rfl
theorem V6.char:(CR.nat pN:V6)=0:=by rw [Cb.nat_eq,V2.char];rfl
theorem V12.char:(CR.nat pN:V12)=0:=by rw [Qd.nat_eq,V6.char];rfl
theorem V1.pow_p (a:V1):a ^ pN=a:=by
 by_cases h:a=0
 ·rw [h];exact lS _ gZ
 ·have e:pN=(pN-1)+1:=by have:=gZ;omega
  rw [e,aq,V1.fermat h]
  grind
theorem Qd.of_pow {K:Type} [CR K] [QP K] (a:K) : ∀ n:Nat,(Qd.of a) ^ n=Qd.of (a ^ n)
 | 0=>rfl
 | n+1=>by rw [aq,Qd.of_pow a n,aq,Qd.of_mul]
def uu:V2:=⟨0,1⟩
theorem ajr:uu*uu = -1:=Qd.ext' (by rw [Qd.mul_a,V1.nr_eq];show (0:V1)*0 + -1*(1*1) = -1;grind) (by rw [Qd.mul_b];show (0:V1)*1+1*0 = -0;grind)
theorem ov {R:Type} [CR R] : ∀ k:Nat,(-1:R) ^ (2*k+1) = -1
 | 0=>by show (-1:R) ^ 1 = -1;exact eI _
 | k+1=>by
  rw [show 2*(k+1)+1=(2*k+1)+1+1 by omega,aq,aq,ov k]
  grind
theorem ahz:pN=2*(2*((pN-3) / 4)+1)+1:=by decide +kernel
theorem agP:uu ^ pN = -uu:=by
 have e:uu ^ pN=(uu ^ 2) ^ (2*((pN-3) / 4)+1)*uu:=by
  rw [<- aE,<- aq,<- ahz]
 have e2:uu ^ 2 = -1:=by
  rw [show (2:Nat)=1+1 from rfl,aq,eI,ajr]
 rw [e,e2,ov]
 grind
theorem V2.split (x:V2):x=Qd.of x.a+Qd.of x.b*uu:=Qd.ext' (by rw [Qd.add_a,Qd.mul_a];show x.a=x.a+(x.b*0+QP.nr*(0*1));grind) (by rw [Qd.add_b,Qd.mul_b];show x.b=0+(x.b*1+0*0);grind)
theorem V2.frob (x:V2):x ^ pN=x.conj:=by
 have h:x ^ pN=Qd.of x.a+Qd.of x.b * -uu:=by
  conv=>lhs;rw [V2.split x]
  rw [acp nq V2.char,aY,agP,Qd.of_pow,Qd.of_pow,V1.pow_p,V1.pow_p]
 rw [h]
 exact Qd.ext' (by rw [Qd.add_a,Qd.mul_a];show x.a+(x.b * -0+QP.nr*(0 * -1))=x.a;grind) (by rw [Qd.add_b,Qd.mul_b];show 0+(x.b * -1+0 * -0) = -x.b;grind)
end Go.Proofs.YtgpafcehehaiiaaGreat
namespace Go.Proofs.YtgpafcehehaiiaaGreat
open Go.RowKit
section
def rv:V1:=V1.of rN
def ri:V1:=Fld.inv rv
theorem ajv:rv ≠ 0:=fun e=>by
 have h:=congrArg V1.nat e
 rw [V1.nat_zero] at h
 exact absurd h (by decide +kernel)
theorem E7:rv*ri=1:=bl ajv
theorem dv {a b:Fp} (ha:a.ok):(aZ a b).ok:=(gI ha).1
theorem vG {a b:Fp} (ha:a.ok) (hb:b.ok):(aZ a b).v=ri*(a.v*b.v):=by
 have h:(aZ a b).v*rv=a.v*b.v:=V1.ext (by
  rw [V1.nat_mul,V1.nat_mul,Fp.v_nat (dv ha),Fp.v_nat ha,Fp.v_nat hb]
  show ((aZ a b).nat*(rN % pN)) % pN=_
  rw [Nat.mul_mod_mod,(gI ha).2])
 have h2:=E7
 grind
theorem jR {a:Fp} (ha:a.ok):(bj a).ok:=by
 unfold Fp.ok
 rw [jZ ha]
 exact Nat.mod_lt _ gZ
theorem wV {a:Fp} (ha:a.ok):(bj a).v=rv*a.v:=V1.ext (by
 rw [Fp.v_nat (jR ha),jZ ha,V1.nat_mul,Fp.v_nat ha]
 show _=(rN % pN*a.nat) % pN
 rw [Nat.mod_mul_mod,Nat.mul_comm])
theorem yi {a:Fp} (ha:a.ok):(jm a).ok:=(zQ ha).1
theorem ab7 {a:Fp} (ha:a.ok):(jm a).v=ri*a.v:=by
 have h:(jm a).v*rv=a.v:=V1.ext (by
  rw [V1.nat_mul,Fp.v_nat (yi ha),Fp.v_nat ha]
  show ((jm a).nat*(rN % pN)) % pN=_
  rw [Nat.mul_mod_mod,(zQ ha).2])
 have h2:=E7
 grind
theorem US {a:Fp} (ha:a.ok):(a.v=0->(i6 a).2=7)/\(a.v ≠ 0->(i6 a).2=0/\(i6 a).1.ok/\(i6 a).1.v=Fld.inv a.v):=by
 obtain ⟨h1,h2⟩:=aeL ha
 constructor
 ·intro h
  refine h1 ?_
  have:=congrArg V1.nat h
  rwa [Fp.v_nat ha,V1.nat_zero] at this
 ·intro h
  have h0:=V1.ne_zero h
  rw [Fp.v_nat ha] at h0
  obtain ⟨i1,i2,i3⟩:=h2 h0
  refine ⟨i1,i2,ow (V1.ext ?_)⟩
  rw [V1.nat_mul,Fp.v_nat ha,Fp.v_nat i2,i3,V1.nat_one]
def Fp2.ok (a:Fp2):Prop:=a.c0.ok/\a.c1.ok
def Fp2.v (a:Fp2):V2:=⟨a.c0.v,a.c1.v⟩
theorem Fp2.v_a (a:Fp2):a.v.a=a.c0.v:=rfl
theorem Fp2.v_b (a:Fp2):a.v.b=a.c1.v:=rfl
theorem Fp2.v_inj {a b:Fp2} (ha:a.ok) (hb:b.ok) (h:a.v=b.v):a=b:=by
 have h1:a.c0=b.c0:=Fp.v_inj ha.1 hb.1 (congrArg Qd.a h)
 have h2:a.c1=b.c1:=Fp.v_inj ha.2 hb.2 (congrArg Qd.b h)
 cases a;cases b
 simp only [] at h1 h2
 subst h1 h2
 rfl
theorem EE {a b:Fp2} (ha:a.ok) (hb:b.ok):mW a b=true <-> a.v=b.v:=⟨fun h=>by rw [(iT a b).1 h],fun h=>(iT a b).2 (Fp2.v_inj ha hb h)⟩
theorem sV (a b:Fp2):aI a b=⟨fo a.c0 b.c0,fo a.c1 b.c1⟩:=by unfold aI EU;rfl
theorem sq (a b:Fp2):aH a b=⟨fB a.c0 b.c0,fB a.c1 b.c1⟩:=by unfold aH DV;rfl
theorem sH (a:Fp2):kD a=⟨lD a.c0,lD a.c1⟩:=by unfold kD Es;rfl
theorem uC (a:Fp2):dm a=⟨a.c0,lD a.c1⟩:=by unfold dm Af;rfl
theorem Oa (a:Fp2):iW a=⟨fB a.c0 a.c1,fo a.c0 a.c1⟩:=by unfold iW Na;rfl
theorem Cm (a b:Fp2):ag a b=⟨fB (aZ a.c0 b.c0) (aZ a.c1 b.c1),fB (aZ (fo a.c0 a.c1) (fo b.c0 b.c1)) (fo (aZ a.c0 b.c0) (aZ a.c1 b.c1))⟩:=by unfold ag zZ;rfl
theorem wO (a:Fp2):ay a=⟨bj a.c0,bj a.c1⟩:=by unfold ay tQ;rfl
theorem IH (a:Fp2):gu a=⟨jm a.c0,jm a.c1⟩:=by unfold gu EB;rfl
theorem Iz (a b:Fp2):b9 a b=ay (ag a b):=by unfold b9 Ev;rfl
theorem Gi (f g:Fp->Fp->Fp) (a:Fp2):zE f g a=f (g a.c0 a.c0) (g a.c1 a.c1):=rfl
theorem B0 (a:Fp2):jA a=fo (gU a.c0 a.c0) (gU a.c1 a.c1):=by
 unfold jA
 exact Gi fo gU a
theorem uT (a:Fp2) (k:Fp):g8 a k=⟨gU a.c0 k,gU a.c1 k⟩:=by unfold g8 qV;rfl
theorem Fp2.mk_ok {a b:Fp} (ha:a.ok) (hb:b.ok):(⟨a,b⟩:Fp2).ok:=⟨ha,hb⟩
theorem Fp2.mk_v {a b:Fp} {x:V2} (ha:a.v=x.a) (hb:b.v=x.b):(⟨a,b⟩:Fp2).v=x:=Qd.ext' ha hb
theorem IC (a:Fp2):Bf a=true <-> a.ok:=by
 unfold Bf tn Fp2.ok
 rw [<- Ex,<- Ex]
 cases yb a.c0 <;> simp
theorem dn:zeroFp2.ok:=⟨bI,bI⟩
theorem j0:zeroFp2.v=0:=Qd.ext' lk lk
theorem kt:oneFp2.ok:=⟨kv,bI⟩
theorem vE:oneFp2.v=1:=Qd.ext' A6 lk
theorem bh {a b:Fp2} (ha:a.ok) (hb:b.ok):(aI a b).ok:=by rw [sV];exact Fp2.mk_ok (eF ha.1 hb.1) (eF ha.2 hb.2)
theorem gY {a b:Fp2} (ha:a.ok) (hb:b.ok):(aI a b).v=a.v+b.v:=by rw [sV];exact Fp2.mk_v (qM ha.1 hb.1) (qM ha.2 hb.2)
theorem bX {a b:Fp2} (ha:a.ok) (hb:b.ok):(aH a b).ok:=by rw [sq];exact Fp2.mk_ok (ia ha.1 hb.1) (ia ha.2 hb.2)
theorem l7 {a b:Fp2} (ha:a.ok) (hb:b.ok):(aH a b).v=a.v-b.v:=by rw [sq];exact Fp2.mk_v (sl ha.1 hb.1) (sl ha.2 hb.2)
theorem OS {a:Fp2} (ha:a.ok):(kD a).ok:=by rw [sH];exact Fp2.mk_ok (qj ha.1) (qj ha.2)
theorem aai {a:Fp2} (ha:a.ok):(kD a).v = -a.v:=by rw [sH];exact Fp2.mk_v (EY ha.1) (EY ha.2)
theorem hJ {a:Fp2} (ha:a.ok):(dm a).ok:=by rw [uC];exact Fp2.mk_ok (ha.1) (qj ha.2)
theorem wW {a:Fp2} (ha:a.ok):(dm a).v=a.v.conj:=by rw [uC];exact Fp2.mk_v rfl (EY ha.2)
theorem jT {a:Fp2} (ha:a.ok):(iW a).ok:=by rw [Oa];exact Fp2.mk_ok (ia ha.1 ha.2) (eF ha.1 ha.2)
theorem V2.mul_a (x y:V2):(x*y).a=x.a*y.a-x.b*y.b:=by rw [Qd.mul_a,V1.nr_eq];grind
theorem V2.mul_b (x y:V2):(x*y).b=x.a*y.b+x.b*y.a:=Qd.mul_b x y
theorem afK:xi.a=1:=rfl
theorem afJ:xi.b=1:=rfl
theorem A5 {a:Fp2} (ha:a.ok):(iW a).v=xi*a.v:=by
 rw [Oa]
 exact Fp2.mk_v (by rw [V2.mul_a,afK,afJ,sl ha.1 ha.2,Fp2.v_a,Fp2.v_b];grind)
  (by rw [V2.mul_b,afK,afJ,qM ha.1 ha.2,Fp2.v_a,Fp2.v_b];grind)
def rv2:V2:=Qd.of rv
def ri2:V2:=Qd.of ri
theorem vJ:rv2*ri2=1:=by unfold rv2 ri2;rw [<- Qd.of_mul,E7];rfl
theorem ap {a b:Fp2} (ha:a.ok) (hb:b.ok):(ag a b).ok:=by rw [Cm];exact Fp2.mk_ok (ia (dv ha.1) (dv ha.2)) (ia (dv (eF ha.1 ha.2)) (eF (dv ha.1) (dv ha.2)))
theorem jg {a b:Fp2} (ha:a.ok) (hb:b.ok):(ag a b).v=ri2*(a.v*b.v):=by
 rw [Cm]
 exact Fp2.mk_v (by
  rw [sl (dv ha.1) (dv ha.2),vG ha.1 hb.1,vG ha.2 hb.2,V2.mul_a,V2.mul_a,V2.mul_b]
  rw [show ri2.a=ri from rfl,show ri2.b=0 from rfl,Fp2.v_a,Fp2.v_b,Fp2.v_a,Fp2.v_b]
  grind)
  (by
  rw [sl (dv (eF ha.1 ha.2)) (eF (dv ha.1) (dv ha.2)),vG (eF ha.1 ha.2) (eF hb.1 hb.2),qM (dv ha.1) (dv ha.2),vG ha.1 hb.1,vG ha.2 hb.2,qM ha.1 ha.2,qM hb.1 hb.2,V2.mul_b,V2.mul_a,V2.mul_b]
  rw [show ri2.a=ri from rfl,show ri2.b=0 from rfl,Fp2.v_a,Fp2.v_b,Fp2.v_a,Fp2.v_b]
  grind)
theorem cw {a:Fp2} (ha:a.ok):(ay a).ok:=by rw [wO];exact Fp2.mk_ok (jR ha.1) (jR ha.2)
theorem zB (k:V1) (x:V2):(Qd.of k*x).a=k*x.a:=by rw [V2.mul_a];show k*x.a-0*x.b=_;grind
theorem zA (k:V1) (x:V2):(Qd.of k*x).b=k*x.b:=by rw [V2.mul_b];show k*x.b+0*x.a=_;grind
theorem jf {a:Fp2} (ha:a.ok):(ay a).v=rv2*a.v:=by rw [wO];exact Fp2.mk_v (by unfold rv2;rw [zB];exact wV ha.1) (by unfold rv2;rw [zA];exact wV ha.2)
theorem tq {a:Fp2} (ha:a.ok):(gu a).ok:=by rw [IH];exact Fp2.mk_ok (yi ha.1) (yi ha.2)
theorem Ao {a:Fp2} (ha:a.ok):(gu a).v=ri2*a.v:=by rw [IH];exact Fp2.mk_v (by unfold ri2;rw [zB];exact ab7 ha.1) (by unfold ri2;rw [zA];exact ab7 ha.2)
theorem ck {a b:Fp2} (ha:a.ok) (hb:b.ok):(b9 a b).ok:=by rw [Iz];exact cw (ap ha hb)
theorem dj {a b:Fp2} (ha:a.ok) (hb:b.ok):(b9 a b).v=a.v*b.v:=by
 rw [Iz,jf (ap ha hb),jg ha hb]
 have:=vJ
 grind
theorem mj {a:Fp2} (ha:a.ok):(jA a).ok:=by rw [B0];exact eF (cV ha.1) (cV ha.2)
theorem V2.norm_eq (x:V2):x.norm=x.a*x.a+x.b*x.b:=by unfold Qd.norm;rw [V1.nr_eq];grind
theorem DO {a:Fp2} (ha:a.ok):(jA a).v=a.v.norm:=by
 rw [V2.norm_eq,B0,qM (cV ha.1) (cV ha.2),pd ha.1 ha.1,pd ha.2 ha.2]
 rfl
theorem Kh {a:Fp2} {k:Fp} (ha:a.ok) (hk:k.ok):(g8 a k).ok:=by rw [uT];exact Fp2.mk_ok (cV ha.1) (cV ha.2)
theorem Qm {a:Fp2} {k:Fp} (ha:a.ok) (hk:k.ok):(g8 a k).v=Qd.of k.v*a.v:=by
 rw [uT]
 exact Fp2.mk_v (by rw [zB,pd ha.1 hk];exact CR.mul_comm a.c0.v k.v)
  (by rw [zA,pd ha.2 hk];exact CR.mul_comm a.c1.v k.v)
theorem V2.inv_eq {x:V2} (h:x ≠ 0):Fld.inv x=Qd.of (Fld.inv x.norm)*x.conj:=by
 refine (ow ?_).symm
 have h1:=Qd.mul_conj x
 have h2:Qd.of x.norm*Qd.of (Fld.inv x.norm)=(1:V2):=by rw [<- Qd.of_mul,bl (Qd.norm_ne h)];rfl
 grind
theorem V2.norm_zero:(0:V2).norm=0:=by rw [V2.norm_eq];show (0:V1)*0+0*0=0;grind
theorem YM {f0:Fp->Fp × Int} {f1:Fp2->Fp} (f2:Fp2->Fp->Fp2) (f3:Fp2->Fp2) {a:Fp2} (h:(f0 (f1 a)).2=7):lJ f0 f1 f2 f3 a=(zeroFp2,7):=by
 unfold lJ
 rw [h]
 rfl
theorem Tl {f0:Fp->Fp × Int} {f1:Fp2->Fp} (f2:Fp2->Fp->Fp2) (f3:Fp2->Fp2) {a:Fp2} (h:(f0 (f1 a)).2=0):lJ f0 f1 f2 f3 a=(f2 (f3 a) (f0 (f1 a)).1,0):=by
 unfold lJ
 rw [h]
 rfl
theorem AP {a:Fp2} (ha:a.ok):(a.v=0->jd a=(zeroFp2,7))/\(a.v ≠ 0->(jd a).2=0/\(jd a).1.ok/\(jd a).1.v=Fld.inv a.v):=by
 obtain ⟨h1,h2⟩:=US (mj ha)
 rw [DO ha] at h1 h2
 unfold jd
 constructor
 ·intro h
  exact YM _ _ (h1 (by rw [h];exact V2.norm_zero))
 ·intro h
  obtain ⟨i1,i2,i3⟩:=h2 (Qd.norm_ne h)
  rw [Tl _ _ i1]
  simp only []
  refine ⟨trivial,Kh (hJ ha) i2,?_⟩
  rw [Qm (hJ ha) i2,i3,wW ha,V2.inv_eq h]
theorem Fg {α R:Type} [CR R] (ok:α->Prop) (v:α->R) {mF:α->α->α} (h1 : ∀ {a b},ok a->ok b->ok (mF a b)) (h2 : ∀ {a b},ok a->ok b->v (mF a b)=v a*v b) {a:α} (ha:ok a) (e:List UInt64) : ∀ (n:Nat) {o:α},ok o ->
  ok (K4 mF a e n o)/\v (K4 mF a e n o)=v o ^ 2 ^ n*v a ^ iJ e n
 | 0,o,ho=>⟨ho,by
  show v o=v o ^ 2 ^ 0*v a ^ iJ e 0
  rw [show (2 ^ 0:Nat)=1 from rfl,eI,show iJ e 0=0 from rfl,bu]
  grind⟩
 | n+1,o,ho=>by
  simp only [K4]
  have e2:(2:Nat) ^ (n+1)=2 ^ n+2 ^ n:=by rw [Nat.pow_succ];omega
  cases hb:df e n with
  | true =>
   simp only []
   obtain ⟨i1,i2⟩:=Fg ok v h1 h2 ha e n (h1 (h1 ho ho) ha)
   refine ⟨i1,?_⟩
   rw [i2,h2 (h1 ho ho) ha,h2 ho ho]
   simp only [iJ,hb,Bool.toNat_true,Nat.one_mul]
   rw [aY,aY,e2,cu,cu]
   grind
  | false =>
   simp only []
   obtain ⟨i1,i2⟩:=Fg ok v h1 h2 ha e n (h1 ho ho)
   refine ⟨i1,?_⟩
   rw [i2,h2 ho ho]
   simp only [iJ,hb,Bool.toNat_false,Nat.zero_mul,Nat.add_zero]
   rw [aY,e2,cu]
theorem HX (x:Fp2) (e:List UInt64) : ∀ (n:Nat) (o:Fp2),Fc x e n o=gu (K4 ag x e n o)
 | 0,o=>rfl
 | n+1,o=>by
  simp only [Fc,K4]
  exact HX x e n _
theorem ahn {a:Fp2} (ha:a.ok) (e:List UInt64):(pg a e).ok/\(pg a e).v=a.v ^ iJ e (64*e.length):=by
 unfold pg
 rw [HX]
 have h:=vJ
 obtain ⟨h1,h2⟩:=Fg (mF:=ag) Fp2.ok (fun x=>ri2*x.v) ap (fun {a b} ha hb=>by
  show ri2*(ag a b).v=ri2*a.v*(ri2*b.v)
  rw [jg ha hb]
  grind) (cw ha) e (64*e.length) (cw kt)
 refine ⟨tq h1,?_⟩
 rw [Ao h1]
 rw [h2,jf kt,jf ha,vE,show ri2*(rv2*1)=1 by grind,bq,show ri2*(rv2*a.v)=a.v by grind]
 grind
end
section
theorem MY (f:Fp->Fp->Fp) (a b:Fp2):EV f a b=⟨f a.c0 b.c0,f a.c1 b.c1⟩:=rfl
theorem J8 (f:Fp->Fp->Fp) (a b:Fp2):DW f a b=⟨f a.c0 b.c0,f a.c1 b.c1⟩:=rfl
theorem LB (f g h:Fp->Fp->Fp) (a b:Fp2):Ew f g h a b=⟨f (g a.c0 b.c0) (g a.c1 b.c1),h (g a.c0 b.c1) (g a.c1 b.c0)⟩:=rfl
theorem G4 (f:Fp->Fp) (a:Fp2):Ag f a=⟨a.c0,f a.c1⟩:=rfl
theorem Lp (f:UInt64->Fp):Ek f=⟨f 1,zeroFp⟩:=rfl
theorem Qh (f:UInt64->Fp):M4 f=⟨f 1,f 1⟩:=rfl
theorem Jv (a b:Fp2):ni a b=aI a b:=by
 unfold ni
 rw [MY,Ak,Ak,sV]
theorem HI (a b:Fp2):qS a b=aH a b:=by
 unfold qS
 rw [J8,so,so,sq]
theorem CL (a:Fp2):n5 a=dm a:=by
 unfold n5
 rw [G4,XN,uC]
theorem zy:nO=oneFp2:=by
 unfold nO
 rw [Lp,Nq]
 rfl
theorem Hj:xi2R=⟨oneFp,oneFp⟩:=by
 unfold xi2R
 rw [Qh,Nq]
theorem M3:xi2R.ok:=by rw [Hj];exact ⟨kv,kv⟩
theorem ajq:xi2R.v=xi:=by rw [Hj];exact Qd.ext' A6 A6
theorem mm {a b:Fp2} (ha:a.ok) (hb:b.ok):jJ a b=b9 a b:=by
 unfold jJ
 rw [LB,kT ha.1 hb.1,kT ha.2 hb.2,kT ha.1 hb.2,kT ha.2 hb.1,so,Ak]
 refine Fp2.v_inj (Fp2.mk_ok (ia (cV ha.1) (cV ha.2)) (eF (cV ha.1) (cV ha.2))) (ck ha hb) ?_
 rw [dj ha hb]
 refine Fp2.mk_v ?_ ?_
 ·rw [V2.mul_a,sl (cV ha.1) (cV ha.2),pd ha.1 hb.1,pd ha.2 hb.2,Fp2.v_a,Fp2.v_a,Fp2.v_b,Fp2.v_b]
 ·rw [V2.mul_b,qM (cV ha.1) (cV ha.2),pd ha.1 hb.2,pd ha.2 hb.1,Fp2.v_a,Fp2.v_a,Fp2.v_b,Fp2.v_b]
def nC (a:Fp2):Bool:=match la a.c1 zeroFp with
 | true=>qv a.c0
 | false=>qv a.c1
theorem YO {f0:Fp2->Fp2->Fp2} {f1:Fp2->Fp2} {f2:Fp->Fp × Int} {a:Fp2} (h:(f2 (f0 a (f1 a)).c0).2=7):lK f0 f1 f2 a=(zeroFp2,7):=by
 unfold lK
 rw [h]
 rfl
theorem Ts {f0:Fp2->Fp2->Fp2} {f1:Fp2->Fp2} {f2:Fp->Fp × Int} {a:Fp2} (h:(f2 (f0 a (f1 a)).c0).2=0):lK f0 f1 f2 a=(f0 (f1 a) ⟨(f2 (f0 a (f1 a)).c0).1,zeroFp⟩,0):=by
 unfold lK
 rw [h]
 rfl
theorem YP {a:Fp2} (ha:a.ok):vl a=jd a:=by
 have hc:=hJ ha
 have hn:(jJ a (n5 a)).c0=jA a:=by
  rw [CL,mm ha hc]
  refine Fp.v_inj (ck ha hc).1 (mj ha) ?_
  rw [DO ha,<- Fp2.v_a,dj ha hc,wW ha,Qd.mul_conj]
  rfl
 obtain ⟨h1,h2⟩:=US (mj ha)
 obtain ⟨k1,k2⟩:=AP ha
 rw [DO ha] at h1 h2
 by_cases h0:a.v=0
 ·rw [k1 h0]
  unfold vl
  exact YO (by rw [hn,sM (mj ha)];exact h1 (by rw [h0];exact V2.norm_zero))
 ·obtain ⟨i1,i2,i3⟩:=h2 (Qd.norm_ne h0)
  obtain ⟨j1,j2,j3⟩:=k2 h0
  have e:vl a=(jJ (n5 a) ⟨(i6 (jA a)).1,zeroFp⟩,0):=by
   unfold vl
   rw [Ts (by rw [hn,sM (mj ha)];exact i1),hn,sM (mj ha)]
  have hq:(⟨(i6 (jA a)).1,zeroFp⟩:Fp2).ok:=Fp2.mk_ok i2 bI
  rw [e]
  refine Prod.ext ?_ j1.symm
  simp only []
  rw [CL,mm hc hq]
  refine Fp2.v_inj (ck hc hq) j2 ?_
  rw [j3,dj hc hq,wW ha,V2.inv_eq h0,show (⟨(i6 (jA a)).1,zeroFp⟩:Fp2).v=Qd.of (Fld.inv a.v.norm) from Fp2.mk_v i3 lk]
  exact CR.mul_comm _ _
theorem yx {a:Fp2} (h:la a.c1 zeroFp=true):nC a=qv a.c0:=by
 unfold nC
 rw [h]
theorem va {a:Fp2} (h:la a.c1 zeroFp=false):nC a=qv a.c1:=by
 unfold nC
 rw [h]
theorem ur {a:Fp} (ha:a.ok):la a zeroFp=true <-> a.v=0:=by
 have:=aby ha bI
 rw [lk] at this
 exact this
theorem rM {a:Fp} (ha:a.ok):la a zeroFp=false <-> a.v ≠ 0:=by
 rw [<- Bool.not_eq_true,ur ha]
theorem Mk {a:Fp2} (ha:a.ok) (h:a.v ≠ 0):nC (kD a) = !nC a:=by
 have e0:(kD a).c0=lD a.c0:=by rw [sH]
 have e1:(kD a).c1=lD a.c1:=by rw [sH]
 by_cases h1:a.c1.v=0
 ·have h0:a.c0.v ≠ 0:=fun h0=>h (Qd.ext' h0 h1)
  rw [yx ((ur ha.2).2 h1),yx (a:=kD a) (by rw [e1,ur (qj ha.2),EY ha.2,h1];grind),e0,Cp ha.1 h0]
 ·rw [va ((rM ha.2).2 h1),va (a:=kD a) (by rw [e1,rM (qj ha.2),EY ha.2];grind),e1,Cp ha.2 h1]
def RootOf (a:Fp2) (r:Fp2 × Bool):Prop:=((∃ y:V2,y*y=a.v)/\r.2=true/\r.1.ok/\r.1.v*r.1.v=a.v/\nC r.1=false) \/ ((¬ ∃ y:V2,y*y=a.v)/\r=(zeroFp2,false))
theorem RootOf.eq {a:Fp2} {r s:Fp2 × Bool} (h:RootOf a r) (k:RootOf a s):r=s:=by
 rcases h with ⟨h0,h1,h2,h3,h4⟩ | ⟨h0,h1⟩
 ·rcases k with ⟨k0,k1,k2,k3,k4⟩ | ⟨k0,_⟩
  ·refine Prod.ext ?_ (h1.trans k1.symm)
   rcases E6 (h3.trans k3.symm) with e | e
   ·exact Fp2.v_inj h2 k2 e
   ·by_cases hz:s.1.v=0
    ·exact Fp2.v_inj h2 k2 (by rw [e,hz];grind)
    ·exfalso
     have:r.1=kD s.1:=Fp2.v_inj h2 (OS k2) (by rw [e,aai k2])
     rw [this,Mk k2 hz,k4] at h4
     cases h4
  ·exact absurd h0 k0
 ·rcases k with ⟨k0,_⟩ | ⟨_,k1⟩
  ·exact absurd k0 h0
  ·rw [h1,k1]
def i2:V1:=Fld.inv 2
theorem ajH (x:Fp):(⟨x,zeroFp⟩:Fp2).v=⟨x.v,0⟩:=Fp2.mk_v rfl lk
section
variable {f0 : Fp -> Fp2} {f1 : Fp2 -> Fp} {f2 : Fp -> Fp × Bool} {f3 : Fp2 -> Fp -> Fp2} {f4 : Fp2 -> Fp2 -> Fp2} {f5 : Fp2 -> Bool} {f6 : Fp2 -> Fp2} {a : Fp2}
end
section
variable {f0 : Fp -> Fp × Int} {f1 : UInt64 -> Fp} {f2 : Fp -> Fp × Bool} {f3 f4 : Fp -> Fp -> Fp} {f5 : Fp -> Fp} {f6 : Fp2 -> Fp2 -> Fp2} {f7 : Fp2 -> Bool} {f8 : Fp2 -> Fp2} {a : Fp2} {n : Fp}
variable (hn : (f2 (f3 (f4 a.c0 a.c0) (f4 a.c1 a.c1))).1 = n) (h : (f2 (f3 (f4 a.c0 a.c0) (f4 a.c1 a.c1))).2 = true)
include hn h
end
end
end Go.Proofs.YtgpafcehehaiiaaGreat
namespace Go.Proofs.YtgpafcehehaiiaaGreat
theorem afC (k:Nat):W64 ^ k=2 ^ (64*k):=by
 rw [show W64=2 ^ 64 from rfl,<- Nat.pow_mul]
theorem ZM (x j:Nat):x % 2 ^ (j+1)=x % 2 ^ j+(x.testBit j).toNat*2 ^ j:=by
 rw [Nat.pow_succ,Nat.mod_mul]
 rw [Nat.testBit_eq_decide_div_mod_eq]
 have h:x / 2 ^ j % 2<2:=Nat.mod_lt _ (by decide)
 rcases (by omega:x / 2 ^ j % 2=0 \/ x / 2 ^ j % 2=1) with h1 | h1
 ·rw [h1];simp
 ·rw [h1];simp
theorem PB (e:List UInt64) (k:Nat) (hk:iJ e (64*k)=gO e k) : ∀ j,j<=64->iJ e (64*k+j)=gO e k+(atF e k).toNat % 2 ^ j*2 ^ (64*k)
 | 0,_=>by rw [Nat.add_zero,hk,Nat.pow_zero,Nat.mod_one,Nat.zero_mul,Nat.add_zero]
 | j+1,h=>by
  rw [show 64*k+(j+1)=(64*k+j)+1 from rfl]
  simp only [iJ]
  rw [PB e k hk j (by omega),ZM,Nat.add_mul]
  have hb:df e (64*k+j)=(atF e k).toNat.testBit j:=by
   unfold df atF
   rw [show (64*k+j) / 64=k by omega,show (64*k+j) % 64=j by omega]
  rw [hb,Nat.add_assoc,show 2 ^ (64*k+j)=2 ^ j*2 ^ (64*k) by rw [Nat.pow_add,Nat.mul_comm],Nat.mul_assoc]
theorem I8 (e:List UInt64) : ∀ k,iJ e (64*k)=gO e k
 | 0=>rfl
 | k+1=>by
  rw [show 64*(k+1)=64*k+64 by omega,PB e k (I8 e k) 64 (Nat.le_refl _)]
  simp only [gO]
  rw [afC,Nat.mod_eq_of_lt (UInt64.toNat_lt _)]
theorem TJ (e:List UInt64):iJ e (64*e.length)=vZ e:=I8 e _
end Go.Proofs.YtgpafcehehaiiaaGreat
namespace Go.Proofs.YtgpafcehehaiiaaGreat
def vb {α:Type} (tw pl:α->α) (e:List UInt64):Nat->α->α
 | 0,x=>x
 | n+1,x=>vb tw pl e n (match df e n with | true=>pl (tw x) | false=>tw x)
theorem EG {α K:Type} [Fld K] [Crv K] (R:α->Pt K->Prop) {tw pl:α->α} {p:Pt K} (hp:p.on) (h1 : ∀ {o:α} {q:Pt K},q.on->R o q->R (tw o) (q.add q)) (h2 : ∀ {o:α} {q:Pt K},q.on->R o q->R (pl o) (q.add p)) (e:List UInt64) :
  ∀ (n:Nat) {o:α} {q:Pt K},q.on->R o q->R (vb tw pl e n o) ((q.mul (2 ^ n)).add (p.mul (iJ e n)))
 | 0,o,q,hq,h=>by
  show R o ((q.mul 1).add (p.mul 0))
  rw [eT,cN,cn]
  exact h
 | n+1,o,q,hq,h=>by
  have e2:(2:Nat) ^ (n+1)=2 ^ n+2 ^ n:=by rw [Nat.pow_succ];omega
  have hqq:=bN hq hq
  simp only [vb]
  cases hb:df e n with
  | true =>
   have ih:=EG R hp h1 h2 e n (bN hqq hp) (h2 hqq (h1 hq h))
   have el:iJ e (n+1)=2 ^ n+iJ e n:=by simp only [iJ,hb,Bool.toNat_true,Nat.one_mul];exact Nat.add_comm _ _
   rw [dc hqq hp,dc hq hq,<- cW hq,<- e2,aX (ci hq _) (ci hp _) (ci hp _),<- cW hp,<- el] at ih
   exact ih
  | false =>
   have ih:=EG R hp h1 h2 e n hqq (h1 hq h)
   have el:iJ e (n+1)=iJ e n:=by simp only [iJ,hb,Bool.toNat_false,Nat.zero_mul,Nat.add_zero]
   rw [dc hq hq,<- cW hq,<- e2,<- el] at ih
   exact ih
theorem mw {α K:Type} [Fld K] [Crv K] (R:α->Pt K->Prop) {tw pl:α->α} {p:Pt K} (hp:p.on) (h1 : ∀ {o:α} {q:Pt K},q.on->R o q->R (tw o) (q.add q)) (h2 : ∀ {o:α} {q:Pt K},q.on->R o q->R (pl o) (q.add p)) (e:List UInt64) {o:α} (h:R o .inf) :
  R (vb tw pl e (64*e.length) o) (p.mul (vZ e)):=by
 have:=EG R hp h1 h2 e (64*e.length) (q := .inf) trivial h
 rw [gq,bZ,TJ] at this
 exact this
theorem V1.four_cube : ∀ x:V1,x*x*x+4 ≠ 0:=fun x h=>by
 have hx:x ≠ 0:=fun e=>by
  rw [e] at h
  have h4:(4:V1)=0:=by grind
  have:=congrArg V1.nat h4
  exact absurd this (by decide +kernel)
 have h1:x ^ 3 = -4:=by grind
 have h2:(-4:V1) ^ ((pN-1) / 3)=1:=by
  rw [<- h1,<- aE,Nat.mul_comm,ab8]
  exact V1.fermat hx
 have h3:=congrArg V1.nat h2
 have h4:(-4:V1).nat=pN-4:=by decide +kernel
 rw [V1.nat_pow,h4,V1.nat_one,<- ig pN 381 _ _ (by decide +kernel)] at h3
 exact absurd h3 (by decide +kernel)
instance crv1 : Crv V1 where
 b:=4
 two:=two_ne
 no:=V1.four_cube
def bb2:V2:=⟨4,4⟩
theorem ZX:bb2.norm=32:=by
 rw [V2.norm_eq]
 show (4:V1)*4+4*4=32
 grind
theorem V2.two_ne:(2:V2) ≠ 0:=fun e=>Go.Proofs.YtgpafcehehaiiaaGreat.two_ne (by
 have:=congrArg Qd.a e
 exact this)
theorem V2.four_cube : ∀ x:V2,x*x*x+bb2 ≠ 0:=fun x h=>by
 have h1:x*x*x = -bb2:=by grind
 have h2:x.norm*x.norm*x.norm=32:=by
  rw [<- Qd.norm_mul,<- Qd.norm_mul,h1,<- ZX,V2.norm_eq,V2.norm_eq]
  show -bb2.a * -bb2.a + -bb2.b * -bb2.b=_
  grind
 have hx:x.norm ≠ 0:=fun e=>by
  rw [e] at h2
  have h4:(32:V1)=0:=h2.symm.trans (CR.mul_zero _)
  have:=congrArg V1.nat h4
  exact absurd this (by decide +kernel)
 have h3:(32:V1) ^ ((pN-1) / 3)=1:=by
  have e:(32:V1)=x.norm ^ 3:=by rw [<- h2];grind
  rw [e,<- aE,Nat.mul_comm,ab8]
  exact V1.fermat hx
 have h5:=congrArg V1.nat h3
 have h4:(32:V1).nat=32:=by decide +kernel
 rw [V1.nat_pow,h4,V1.nat_one,<- ig pN 381 _ _ (by decide +kernel)] at h5
 exact absurd h5 (by decide +kernel)
instance crv2 : Crv V2 where
 b:=bb2
 two:=V2.two_ne
 no:=V2.four_cube
theorem fM {a b:Fp} (ha:a.ok) (hb:b.ok):(fo a b).ok:=eF ha hb
theorem j9 {a b:Fp} (ha:a.ok) (hb:b.ok):(fB a b).ok:=ia ha hb
theorem aeb {a:Fp} (ha:a.ok):(lD a).ok:=qj ha
theorem lE {a b:Fp} (ha:a.ok) (hb:b.ok):(gU a b).ok:=cV ha
theorem bA {a b:Fp} (ha:a.ok) (hb:b.ok):(aZ a b).ok:=dv ha
theorem tM {a:Fp} (ha:a.ok):(bj a).ok:=jR ha
theorem Ez {a:Fp} (ha:a.ok):(jm a).ok:=yi ha
theorem sg:zeroFp.ok:=bI
theorem OF:oneFp.ok:=kv
theorem aak {a b:Fp} (ha:a.ok) (hb:b.ok):(fo a b).v=a.v+b.v:=qM ha hb
theorem agK {a b:Fp} (ha:a.ok) (hb:b.ok):(fB a b).v=a.v-b.v:=sl ha hb
theorem agN {a:Fp} (ha:a.ok):(lD a).v = -a.v:=EY ha
theorem nI {a b:Fp} (ha:a.ok) (hb:b.ok):(gU a b).v=a.v*b.v:=pd ha hb
theorem acG {a b:Fp} (ha:a.ok) (hb:b.ok):(aZ a b).v=ri*(a.v*b.v):=vG ha hb
theorem Vs {a:Fp} (ha:a.ok):(bj a).v=rv*a.v:=wV ha
theorem agO {a:Fp} (ha:a.ok):(jm a).v=ri*a.v:=ab7 ha
theorem N7:zeroFp.v=0:=lk
theorem agM:oneFp.v=1:=A6
theorem ah1 {a:Fp} (ha:a.ok):(a.v=0->(i6 a).2=7)/\(a.v ≠ 0->(i6 a).2=0/\(i6 a).1.ok/\(i6 a).1.v=Fld.inv a.v):=US ha
theorem aeI {a:Fp2} (ha:a.ok):(a.v=0->(jd a).2=7)/\(a.v ≠ 0->(jd a).2=0/\(jd a).1.ok/\(jd a).1.v=Fld.inv a.v):=⟨fun h=>congrArg Prod.snd ((AP ha).1 h),(AP ha).2⟩
theorem ack {a b:Fp} (ha:a.ok) (hb:b.ok):la a b=true <-> a.v=b.v:=aby ha hb
theorem ID (a:Fp):yb a=true <-> a.ok:=Ex a
end Go.Proofs.YtgpafcehehaiiaaGreat
namespace Go.Proofs.YtgpafcehehaiiaaGreat
open Go.RowKit
section
abbrev ks1:Kd Sp1:=aa Sp1
def qR (e:List UInt64) (x:Sp1) (cs:List Cell) (z:Int):St:=ar 31 [(1,inV 0 e),(2,a8 1),(4,a8 2),(5,a8 3),(6,vI z)] [dJ eU64 e,own 122 (Row.cs x),own 122 (bJ 18),own 122 cs]
def aar (tw:Sp1->Sp1) (pl:Sp1->Sp1->Sp1):cQ := [(91,K1 ks1.arg ks1.rs.res tw),(92,K2 ks1.arg ks1.arg ks1.rs.res pl)]
theorem Qz (T:cQ) (x:Sp1) (e:List UInt64):b7 (En T) 100 ((flat (ae Tryz.f99)).take 1) (ah Tryz.f99 [.one (ks1.av x),iL.av 0 e] [dJ eU64 e]) [1,2,4] [0,1,2] = .leaf (ar 31 [(1,inV 0 e),(2,a8 1),(4,a8 2)] [dJ eU64 e,own 122 (Row.cs x),own 122 (bJ 18)]):=by kernel_rfl
theorem Qx (tw:Sp1->Sp1) (pl:Sp1->Sp1->Sp1) (x:Sp1) (e:List UInt64):b7 (En (aar tw pl)) 100 ((flat (aC Tryz.f99)).take 3) (ar 31 [(1,inV 0 e),(2,a8 1),(4,a8 2)] [dJ eU64 e,own 122 (Row.cs x),own 122 (bJ 18)]) [1,2,4,5,6] [0,1,2,3] = .vc (0+e.length*1<=(eU64.body e).cells.length/\0<1) (.leaf (qR e x (bJ 18) (IntKind.i64.wrap (64*e.length)))):=by kernel_rfl
theorem VM (tw:Sp1->Sp1) (pl:Sp1->Sp1->Sp1) (x o:Sp1) (e:List UInt64) (z:Int):letI za':=IntKind.i64.wrap (z-1);gR (En (aar tw pl)) ks1.rs.out 100 Tryz.f99 ((flat (aC Tryz.f99)).drop 3) (qR e x (Row.cs o) z) [1,2,4,5,6] [0,1,2,3] = .br (decide (IntKind.i64.wrap (z-1)<0)) (.leaf (.inr (some (o,.t)))) (.vc ((0<=jN z/\jN z<e.length)/\0+e.length*1<=(eU64.body e).cells.length/\0<1) (.vc (0+(jN z).toNat*1<e.length) (.br (EO e z) (.leaf (.inl (.goto 0,qR e x (Row.cs (pl (tw o) x)) za'))) (.leaf (.inl (.goto 0,qR e x (Row.cs (tw o)) za')))))):=by kernel_rfl
theorem QA (tw:Sp1->Sp1) (pl:Sp1->Sp1->Sp1) (x:Sp1) (e:List UInt64) (z:Int):letI za':=IntKind.i64.wrap (z-1);gR (En (aar tw pl)) ks1.rs.out 100 Tryz.f99 ((flat (aC Tryz.f99)).drop 3) (qR e x (bJ 18) z) [1,2,4,5,6] [0,1,2,3] = .br (decide (IntKind.i64.wrap (z-1)<0)) (.leaf (.inr (some (dF,.t)))) (.vc ((0<=jN z/\jN z<e.length)/\0+e.length*1<=(eU64.body e).cells.length/\0<1) (.vc (0+(jN z).toNat*1<e.length) (.br (EO e z) (.leaf (.inl (.goto 0,qR e x (Row.cs (pl (tw dF) x)) za'))) (.leaf (.inl (.goto 0,qR e x (Row.cs (tw dF)) za')))))):=by kernel_rfl
def Lj (b:Bool) (o:Sp1):List Cell:=match b with
 | true=>bJ 18
 | false=>Row.cs o
def j6 (x:Sp1) (e:List UInt64):Sp1:=vb a9 (fun o=>aR o x) e (64*e.length) dF
abbrev akc (x:Sp1) (e:List UInt64):Type := { q:Bool × Int × Sp1 // 0<=q.2.1/\q.2.1<=64*e.length/\(q.1=true->q.2.2=dF)/\vb a9 (fun o=>aR o x) e q.2.1.toNat q.2.2=j6 x e }
def afS (x:Sp1) (e:List UInt64) (q:akc x e):St:=qR e x (Lj q.1.1 q.1.2.2) q.1.2.1
theorem Qy (x:Sp1) (e:List UInt64) (b:Bool) (o:Sp1) (hb:b=true->o=dF) (z:Int):gR (En (aar a9 aR)) ks1.rs.out 100 Tryz.f99 ((flat (aC Tryz.f99)).drop 3) (qR e x (Lj b o) z) [1,2,4,5,6] [0,1,2,3] =
  .br (decide (IntKind.i64.wrap (z-1)<0)) (.leaf (.inr (some (o,.t))))
   (.vc ((0<=jN z/\jN z<e.length)/\0+e.length*1<=(eU64.body e).cells.length/\0<1) (.vc (0+(jN z).toNat*1<e.length)
    (.br (EO e z) (.leaf (.inl (.goto 0,qR e x (Row.cs (aR (a9 o) x)) (IntKind.i64.wrap (z-1))))) (.leaf (.inl (.goto 0,qR e x (Row.cs (a9 o)) (IntKind.i64.wrap (z-1)))))))):=by
 cases b with
 | true =>
  rw [hb rfl]
  exact QA a9 aR x e z
 | false=>exact VM a9 aR x o e z
theorem JS:CallOk Tryz.prog 99 (K2 ks1.arg aL ks1.rs.res j6) :=
 Go.Proofs.YtgpafcehehaiiaaGreat.G2 (E:=En (aar a9 aR)) Tryz.func99 (c:=ae Tryz.f99) (by kernel_rfl) (ab Tryz.func99 (by kernel_rfl) (by kernel_rfl)) ks1.inp iL ks1.rs.out j6 fun x e _ he=>by
  have hE:EnvOk (En (aar a9 aR)):=aj (.cons qO (.cons ud .nil))
  have he:e.length<1125899906842624:=he
  have hw:IntKind.i64.wrap (64*(e.length:Int))=64*(e.length:Int):=IntWalk.i64_in _ (by omega)
  refine DoesL.stageE hE 100 1 [1,2,4] [0,1,2] (Qz _ x e) ?_
  refine DoesL.scopeFn (body:=aC Tryz.f99) (rest:=mc Tryz.f99) (tail := []) (l:=0) hE (by kernel_rfl) (by kernel_rfl) 100 3 (by kernel_rfl) [1,2,4,5,6] [0,1,2,3] (afS x e) (fun q=>q.1.2.1.toNat)
   ⟨(true,64*(e.length:Int),dF),by simp only [];omega,by simp only [];omega,fun _=>rfl,by rw [show ((true,64*(e.length:Int),dF):Bool × Int × Sp1).2.1.toNat=64*e.length by simp only [];omega];simp only [j6]⟩
   (Qx a9 aR x e) ⟨⟨by rw [cells_len];omega,by decide⟩,fun _=>by rw [hw];exact Tree.sat_leaf (by simp only [afS,Lj])⟩ fun q => ?_
  obtain ⟨⟨b,z,o⟩,h0,h1,hb,h2⟩:=q
  simp only [] at h0 h1 h2 hb
  have hz:IntKind.i64.wrap (z-1)=z-1:=IntWalk.i64_in _ (by omega)
  refine DoesL.iter hE 100 [1,2,4,5,6] [0,1,2,3] (Qy x e b o hb z) ?_
  rw [hz]
  refine ⟨fun h => ?_,fun h => ?_⟩
  ·simp only [decide_eq_true_eq] at h
   obtain rfl:z=0:=by omega
   exact ⟨.t,by rw [<- h2];rfl,trivial⟩
  ·simp only [decide_eq_false_iff_not] at h
   obtain ⟨n,rfl⟩ : ∃ n:Nat,z=(n:Int)+1:=⟨(z-1).toNat,by omega⟩
   rw [me n (by omega),o6 e n (by omega)]
   rw [show ((n:Int)+1).toNat=n+1 by omega] at h2
   simp only [vb] at h2
   refine ⟨⟨⟨by omega,by omega⟩,by rw [cells_len];omega,by decide⟩,fun _=>⟨by omega,fun _=>⟨fun h3 => ?_,fun h3 => ?_⟩⟩⟩
   all_goals
    have hn:((n:Int)+1-1).toNat=n:=by omega
    rw [h3] at h2
    simp only [] at h2
   ·refine ⟨rfl,⟨(false,(n:Int)+1-1,aR (a9 o) x),?_,?_,?_,?_⟩,?_,by simp only [afS,Lj]⟩
    ·show 0<=(n:Int)+1-1;omega
    ·show (n:Int)+1-1<=64*e.length;omega
    ·intro h;cases h
    ·simpa only [hn] using h2
    ·show ((n:Int)+1-1).toNat<((n:Int)+1).toNat;omega
   ·refine ⟨rfl,⟨(false,(n:Int)+1-1,a9 o),?_,?_,?_,?_⟩,?_,by simp only [afS,Lj]⟩
    ·show 0<=(n:Int)+1-1;omega
    ·show (n:Int)+1-1<=64*e.length;omega
    ·intro h;cases h
    ·simpa only [hn] using h2
    ·show ((n:Int)+1-1).toNat<((n:Int)+1).toNat;omega
def vT (f0:Pg1->Bool) (f1:Fp->Bool) (f2:Sp1->List UInt64->Sp1) (f3:Pg1->Sp1) (f4:Fr) (a:Pg1):Bool:=(match (f0 a) with | true=>((f1 (f2 (f3 a) [f4.l0,f4.l1,f4.l2,f4.l3]).z)) | false=>((false)))
def abm (f0:Pg1->Bool) (f1:Fp->Bool) (f2:Sp1->List UInt64->Sp1) (f3:Pg1->Sp1) (f4:Fr) (a:Pg1):Tree (Option (Bool)) :=
 (.br (f0 a)
  (.leaf (some ((f1 (f2 (f3 a) [f4.l0,f4.l1,f4.l2,f4.l3]).z))))
  (.leaf (some ((false)))))
theorem YV (f0:Pg1->Bool) (f1:Fp->Bool) (f2:Sp1->List UInt64->Sp1) (f3:Pg1->Sp1) (f4:Fr) (a:Pg1):ac (Ens [(97,K1 (aa Pg1).arg kBool.rs.res f0),(98,K1 (aa Fp).arg kBool.rs.res f1),(99,K2 ks1.arg aL ks1.rs.res f2),(89,K1 (aa Pg1).arg (aa Sp1).rs.res f3),(100,K0 (rS4 24) f4)] [100]) kBool.rs 300 Tryz.f61 [.one ((aa Pg1).av a)]=abm f0 f1 f2 f3 f4 a:=by kernel_rfl
theorem YU (f0:Pg1->Bool) (f1:Fp->Bool) (f2:Sp1->List UInt64->Sp1) (f3:Pg1->Sp1) (f4:Fr) (a:Pg1):(abm f0 f1 f2 f3 f4 a).sat fun q=>q=some (vT f0 f1 f2 f3 f4 a):=⟨fun h0=>(show some _=some _ from congrArg some (by unfold vT;rw [h0])),fun h0=>(show some _=some _ from congrArg some (by unfold vT;rw [h0]))⟩
def AQ (a:Pg1):Bool:=vT Vb il j6 dR rLimbs a
theorem Pf:CallOk Tryz.prog 61 (K1 (aa Pg1).arg kBool.rs.res AQ) :=
 P1 (bn (.cons adU (.cons Bp (.cons JS (.cons Cc (.cons agA .nil)))))) Tryz.func61 (ab Tryz.func61 (by kernel_rfl) (by kernel_rfl)) 300 (aa Pg1) kBool.rs AQ (YV Vb il j6 dR rLimbs) (YU Vb il j6 dR rLimbs)
end
section
abbrev ks2:Kd Fp6:=aa Fp6
def qQ (e:List UInt64) (x:Fp6) (cs:List Cell) (z:Int):St:=ar 31 [(1,inV 0 e),(2,a8 1),(4,a8 2),(5,a8 3),(6,vI z)] [dJ eU64 e,own 138 (Row.cs x),own 138 (bJ 36),own 138 cs]
def aaq (tw:Fp6->Fp6) (pl:Fp6->Fp6->Fp6):cQ := [(149,K1 ks2.arg ks2.rs.res tw),(150,K2 ks2.arg ks2.arg ks2.rs.res pl)]
theorem Qv (T:cQ) (x:Fp6) (e:List UInt64):b7 (En T) 100 ((flat (ae Tryz.f103)).take 1) (ah Tryz.f103 [.one (ks2.av x),iL.av 0 e] [dJ eU64 e]) [1,2,4] [0,1,2] = .leaf (ar 31 [(1,inV 0 e),(2,a8 1),(4,a8 2)] [dJ eU64 e,own 138 (Row.cs x),own 138 (bJ 36)]):=by kernel_rfl
theorem Qt (tw:Fp6->Fp6) (pl:Fp6->Fp6->Fp6) (x:Fp6) (e:List UInt64):b7 (En (aaq tw pl)) 100 ((flat (aC Tryz.f103)).take 3) (ar 31 [(1,inV 0 e),(2,a8 1),(4,a8 2)] [dJ eU64 e,own 138 (Row.cs x),own 138 (bJ 36)]) [1,2,4,5,6] [0,1,2,3] = .vc (0+e.length*1<=(eU64.body e).cells.length/\0<1) (.leaf (qQ e x (bJ 36) (IntKind.i64.wrap (64*e.length)))):=by kernel_rfl
theorem VL (tw:Fp6->Fp6) (pl:Fp6->Fp6->Fp6) (x o:Fp6) (e:List UInt64) (z:Int):letI za':=IntKind.i64.wrap (z-1);gR (En (aaq tw pl)) ks2.rs.out 100 Tryz.f103 ((flat (aC Tryz.f103)).drop 3) (qQ e x (Row.cs o) z) [1,2,4,5,6] [0,1,2,3] = .br (decide (IntKind.i64.wrap (z-1)<0)) (.leaf (.inr (some (o,.t)))) (.vc ((0<=jN z/\jN z<e.length)/\0+e.length*1<=(eU64.body e).cells.length/\0<1) (.vc (0+(jN z).toNat*1<e.length) (.br (EO e z) (.leaf (.inl (.goto 0,qQ e x (Row.cs (pl (tw o) x)) za'))) (.leaf (.inl (.goto 0,qQ e x (Row.cs (tw o)) za')))))):=by kernel_rfl
theorem Qw (tw:Fp6->Fp6) (pl:Fp6->Fp6->Fp6) (x:Fp6) (e:List UInt64) (z:Int):letI za':=IntKind.i64.wrap (z-1);gR (En (aaq tw pl)) ks2.rs.out 100 Tryz.f103 ((flat (aC Tryz.f103)).drop 3) (qQ e x (bJ 36) z) [1,2,4,5,6] [0,1,2,3] = .br (decide (IntKind.i64.wrap (z-1)<0)) (.leaf (.inr (some (zeroFp6,.t)))) (.vc ((0<=jN z/\jN z<e.length)/\0+e.length*1<=(eU64.body e).cells.length/\0<1) (.vc (0+(jN z).toNat*1<e.length) (.br (EO e z) (.leaf (.inl (.goto 0,qQ e x (Row.cs (pl (tw zeroFp6) x)) za'))) (.leaf (.inl (.goto 0,qQ e x (Row.cs (tw zeroFp6)) za')))))):=by kernel_rfl
def Li (b:Bool) (o:Fp6):List Cell:=match b with
 | true=>bJ 36
 | false=>Row.cs o
def j5 (x:Fp6) (e:List UInt64):Fp6:=vb cT (fun o=>ir o x) e (64*e.length) zeroFp6
abbrev akb (x:Fp6) (e:List UInt64):Type := { q:Bool × Int × Fp6 // 0<=q.2.1/\q.2.1<=64*e.length/\(q.1=true->q.2.2=zeroFp6)/\vb cT (fun o=>ir o x) e q.2.1.toNat q.2.2=j5 x e }
def afR (x:Fp6) (e:List UInt64) (q:akb x e):St:=qQ e x (Li q.1.1 q.1.2.2) q.1.2.1
theorem Qu (x:Fp6) (e:List UInt64) (b:Bool) (o:Fp6) (hb:b=true->o=zeroFp6) (z:Int):gR (En (aaq cT ir)) ks2.rs.out 100 Tryz.f103 ((flat (aC Tryz.f103)).drop 3) (qQ e x (Li b o) z) [1,2,4,5,6] [0,1,2,3] =
  .br (decide (IntKind.i64.wrap (z-1)<0)) (.leaf (.inr (some (o,.t))))
   (.vc ((0<=jN z/\jN z<e.length)/\0+e.length*1<=(eU64.body e).cells.length/\0<1) (.vc (0+(jN z).toNat*1<e.length)
    (.br (EO e z) (.leaf (.inl (.goto 0,qQ e x (Row.cs (ir (cT o) x)) (IntKind.i64.wrap (z-1))))) (.leaf (.inl (.goto 0,qQ e x (Row.cs (cT o)) (IntKind.i64.wrap (z-1)))))))):=by
 cases b with
 | true =>
  rw [hb rfl]
  exact Qw cT ir x e z
 | false=>exact VL cT ir x o e z
theorem JR:CallOk Tryz.prog 103 (K2 ks2.arg aL ks2.rs.res j5) :=
 Go.Proofs.YtgpafcehehaiiaaGreat.G2 (E:=En (aaq cT ir)) Tryz.func103 (c:=ae Tryz.f103) (by kernel_rfl) (ab Tryz.func103 (by kernel_rfl) (by kernel_rfl)) ks2.inp iL ks2.rs.out j5 fun x e _ he=>by
  have hE:EnvOk (En (aaq cT ir)):=aj (.cons wZ (.cons RO .nil))
  have he:e.length<1125899906842624:=he
  have hw:IntKind.i64.wrap (64*(e.length:Int))=64*(e.length:Int):=IntWalk.i64_in _ (by omega)
  refine DoesL.stageE hE 100 1 [1,2,4] [0,1,2] (Qv _ x e) ?_
  refine DoesL.scopeFn (body:=aC Tryz.f103) (rest:=mc Tryz.f103) (tail := []) (l:=0) hE (by kernel_rfl) (by kernel_rfl) 100 3 (by kernel_rfl) [1,2,4,5,6] [0,1,2,3] (afR x e) (fun q=>q.1.2.1.toNat)
   ⟨(true,64*(e.length:Int),zeroFp6),by simp only [];omega,by simp only [];omega,fun _=>rfl,by rw [show ((true,64*(e.length:Int),zeroFp6):Bool × Int × Fp6).2.1.toNat=64*e.length by simp only [];omega];simp only [j5]⟩
   (Qt cT ir x e) ⟨⟨by rw [cells_len];omega,by decide⟩,fun _=>by rw [hw];exact Tree.sat_leaf (by simp only [afR,Li])⟩ fun q => ?_
  obtain ⟨⟨b,z,o⟩,h0,h1,hb,h2⟩:=q
  simp only [] at h0 h1 h2 hb
  have hz:IntKind.i64.wrap (z-1)=z-1:=IntWalk.i64_in _ (by omega)
  refine DoesL.iter hE 100 [1,2,4,5,6] [0,1,2,3] (Qu x e b o hb z) ?_
  rw [hz]
  refine ⟨fun h => ?_,fun h => ?_⟩
  ·simp only [decide_eq_true_eq] at h
   obtain rfl:z=0:=by omega
   exact ⟨.t,by rw [<- h2];rfl,trivial⟩
  ·simp only [decide_eq_false_iff_not] at h
   obtain ⟨n,rfl⟩ : ∃ n:Nat,z=(n:Int)+1:=⟨(z-1).toNat,by omega⟩
   rw [me n (by omega),o6 e n (by omega)]
   rw [show ((n:Int)+1).toNat=n+1 by omega] at h2
   simp only [vb] at h2
   refine ⟨⟨⟨by omega,by omega⟩,by rw [cells_len];omega,by decide⟩,fun _=>⟨by omega,fun _=>⟨fun h3 => ?_,fun h3 => ?_⟩⟩⟩
   all_goals
    have hn:((n:Int)+1-1).toNat=n:=by omega
    rw [h3] at h2
    simp only [] at h2
   ·refine ⟨rfl,⟨(false,(n:Int)+1-1,ir (cT o) x),?_,?_,?_,?_⟩,?_,by simp only [afR,Li]⟩
    ·show 0<=(n:Int)+1-1;omega
    ·show (n:Int)+1-1<=64*e.length;omega
    ·intro h;cases h
    ·simpa only [hn] using h2
    ·show ((n:Int)+1-1).toNat<((n:Int)+1).toNat;omega
   ·refine ⟨rfl,⟨(false,(n:Int)+1-1,cT o),?_,?_,?_,?_⟩,?_,by simp only [afR,Li]⟩
    ·show 0<=(n:Int)+1-1;omega
    ·show (n:Int)+1-1<=64*e.length;omega
    ·intro h;cases h
    ·simpa only [hn] using h2
    ·show ((n:Int)+1-1).toNat<((n:Int)+1).toNat;omega
def vS (f0:Pg2->Bool) (f1:Fp2->Bool) (f2:Fp6->List UInt64->Fp6) (f3:Pg2->Fp6) (f4:Fr) (a:Pg2):Bool:=(match (f0 a) with | true=>((f1 (f2 (f3 a) [f4.l0,f4.l1,f4.l2,f4.l3]).c2)) | false=>((false)))
def abl (f0:Pg2->Bool) (f1:Fp2->Bool) (f2:Fp6->List UInt64->Fp6) (f3:Pg2->Fp6) (f4:Fr) (a:Pg2):Tree (Option (Bool)) :=
 (.br (f0 a)
  (.leaf (some ((f1 (f2 (f3 a) [f4.l0,f4.l1,f4.l2,f4.l3]).c2))))
  (.leaf (some ((false)))))
theorem YS (f0:Pg2->Bool) (f1:Fp2->Bool) (f2:Fp6->List UInt64->Fp6) (f3:Pg2->Fp6) (f4:Fr) (a:Pg2):ac (Ens [(101,K1 (aa Pg2).arg kBool.rs.res f0),(102,K1 (aa Fp2).arg kBool.rs.res f1),(103,K2 ks2.arg aL ks2.rs.res f2),(104,K1 (aa Pg2).arg (aa Fp6).rs.res f3),(100,K0 (rS4 24) f4)] [100]) kBool.rs 300 Tryz.f62 [.one ((aa Pg2).av a)]=abl f0 f1 f2 f3 f4 a:=by kernel_rfl
theorem YR (f0:Pg2->Bool) (f1:Fp2->Bool) (f2:Fp6->List UInt64->Fp6) (f3:Pg2->Fp6) (f4:Fr) (a:Pg2):(abl f0 f1 f2 f3 f4 a).sat fun q=>q=some (vS f0 f1 f2 f3 f4 a):=⟨fun h0=>(show some _=some _ from congrArg some (by unfold vS;rw [h0])),fun h0=>(show some _=some _ from congrArg some (by unfold vS;rw [h0]))⟩
def u9 (a:Pg2):Bool:=vS Va ik j5 qp rLimbs a
theorem Pe:CallOk Tryz.prog 62 (K1 (aa Pg2).arg kBool.rs.res u9) :=
 P1 (bn (.cons adT (.cons Bo (.cons JR (.cons S8 (.cons agA .nil)))))) Tryz.func62 (ab Tryz.func62 (by kernel_rfl) (by kernel_rfl)) 300 (aa Pg2) kBool.rs u9 (YS Va ik j5 qp rLimbs) (YR Va ik j5 qp rLimbs)
end
set_option maxRecDepth 100000
section
def Oy (f0:Fp12->Fp12) (f1:Fp12):Fp12:=(f0 f1)
def Ox (f0:Fp12->Fp12) (f1:Fp12):Tree (Option (Fp12)) :=
 (.leaf (some (f0 f1)))
theorem Ry (f0:Fp12->Fp12) (f1:Fp12):ac (En [(156,K1 (aa Fp12).arg (aa Fp12).rs.res f0),(110,K0 (aa Fp12).rs.res f1)]) (aa Fp12).rs 300 Tryz.f160 []=Ox f0 f1:=by kernel_rfl
theorem Rx (f0:Fp12->Fp12) (f1:Fp12):(Ox f0 f1).sat fun q=>q=some (Oy f0 f1):=(show some _=some _ from rfl)
def prOne  : Fp12:=Oy bi fg
theorem H5:CallOk Tryz.prog 160 (K0 (aa Fp12).rs.res prOne) :=
 P0 (aj (.cons oo (.cons uh .nil))) Tryz.func160 (ab Tryz.func160 (by kernel_rfl) (by kernel_rfl)) 300  (aa Fp12).rs prOne (Ry bi fg) (Rx bi fg)
def H4 (f0:Fp2->Fp2 × Int) (f1:Fp2->Fp2) (f2:Fp2->Fp2->Fp2) (f3:Fp2->Fp2) (a:Fp2) (b:Fp2):Fp2:=(f2 a (f3 (f0 (f1 b)).fst))
def H3 (f0:Fp2->Fp2 × Int) (f1:Fp2->Fp2) (f2:Fp2->Fp2->Fp2) (f3:Fp2->Fp2) (a:Fp2) (b:Fp2):Tree (Option (Fp2)) :=
 (.leaf (some (f2 a (f3 (f0 (f1 b)).fst))))
theorem KO (f0:Fp2->Fp2 × Int) (f1:Fp2->Fp2) (f2:Fp2->Fp2->Fp2) (f3:Fp2->Fp2) (a:Fp2) (b:Fp2):ac (En [(199,K1 (aa Fp2).arg ((aa Fp2).rs2 kInt).res f0),(180,K1 (aa Fp2).arg (aa Fp2).rs.res f1),(177,K2 (aa Fp2).arg (aa Fp2).arg (aa Fp2).rs.res f2),(151,K1 (aa Fp2).arg (aa Fp2).rs.res f3)]) (aa Fp2).rs 300 Tryz.f192 [.one ((aa Fp2).av a),.one ((aa Fp2).av b)]=H3 f0 f1 f2 f3 a b:=by kernel_rfl
theorem KM (f0:Fp2->Fp2 × Int) (f1:Fp2->Fp2) (f2:Fp2->Fp2->Fp2) (f3:Fp2->Fp2) (a:Fp2) (b:Fp2):(H3 f0 f1 f2 f3 a b).sat fun q=>q=some (H4 f0 f1 f2 f3 a b):=(show some _=some _ from rfl)
def cR (a:Fp2) (b:Fp2):Fp2:=H4 jd gu ag ay a b
theorem Rw:CallOk Tryz.prog 192 (K2 (aa Fp2).arg (aa Fp2).arg (aa Fp2).rs.res cR) :=
 P2 (aj (.cons IV (.cons zR (.cons cS (.cons gh .nil))))) Tryz.func192 (ab Tryz.func192 (by kernel_rfl) (by kernel_rfl)) 300 (aa Fp2) (aa Fp2) (aa Fp2).rs cR (KO jd gu ag ay) (KM jd gu ag ay)
def H7 (f0:Fp2->Fp2) (f1:Fp2->Fp2->Fp2) (f2:Fp2->Fp2->Fp2) (f3:Fp2->Fp2) (t:Pg2) (s:Fp2) (p:Pg1):Fp12:=({ c0 := { c0:=f0 { c0:=p.y,c1:=zeroFp },c1:=zeroFp2,c2:=zeroFp2 },c1 := { c0:=zeroFp2,c1:=f1 (f2 s t.x) t.y,c2:=f3 (f2 s { c0:=p.x,c1:=zeroFp }) } })
def H6 (f0:Fp2->Fp2) (f1:Fp2->Fp2->Fp2) (f2:Fp2->Fp2->Fp2) (f3:Fp2->Fp2) (t:Pg2) (s:Fp2) (p:Pg1):Tree (Option (Fp12)) :=
 (.leaf (some ({ c0 := { c0:=f0 { c0:=p.y,c1:=zeroFp },c1:=zeroFp2,c2:=zeroFp2 },c1 := { c0:=zeroFp2,c1:=f1 (f2 s t.x) t.y,c2:=f3 (f2 s { c0:=p.x,c1:=zeroFp }) } })))
theorem KQ (f0:Fp2->Fp2) (f1:Fp2->Fp2->Fp2) (f2:Fp2->Fp2->Fp2) (f3:Fp2->Fp2) (t:Pg2) (s:Fp2) (p:Pg1):ac (En [(198,K1 (aa Fp2).arg (aa Fp2).rs.res f0),(179,K2 (aa Fp2).arg (aa Fp2).arg (aa Fp2).rs.res f1),(177,K2 (aa Fp2).arg (aa Fp2).arg (aa Fp2).rs.res f2),(201,K1 (aa Fp2).arg (aa Fp2).rs.res f3)]) (aa Fp12).rs 300 Tryz.f193 [.one ((aa Pg2).av t),.one ((aa Fp2).av s),.one ((aa Pg1).av p)]=H6 f0 f1 f2 f3 t s p:=by kernel_rfl
theorem KP (f0:Fp2->Fp2) (f1:Fp2->Fp2->Fp2) (f2:Fp2->Fp2->Fp2) (f3:Fp2->Fp2) (t:Pg2) (s:Fp2) (p:Pg1):(H6 f0 f1 f2 f3 t s p).sat fun q=>q=some (H7 f0 f1 f2 f3 t s p):=(show some _=some _ from rfl)
def fD (t:Pg2) (s:Fp2) (p:Pg1):Fp12:=H7 iW aH ag kD t s p
theorem RB:CallOk Tryz.prog 193 (K3 (aa Pg2).arg (aa Fp2).arg (aa Pg1).arg (aa Fp12).rs.res fD) :=
 P3 (aj (.cons wY (.cons fV (.cons cS (.cons XQ .nil))))) Tryz.func193 (ab Tryz.func193 (by kernel_rfl) (by kernel_rfl)) 300 (aa Pg2) (aa Fp2) (aa Pg1) (aa Fp12).rs fD (KQ iW aH ag kD) (KP iW aH ag kD)
def aaI (f0:Fp2->Fp2->Fp2) (f1:Fp2->Fp2->Fp2) (t:Pg2) (s:Fp2) (x:Fp2):Pg2:=({ x:=f0 (f0 (f1 s s) t.x) x,y:=f0 (f1 s (f0 t.x (f0 (f0 (f1 s s) t.x) x))) t.y,inf:=false })
def aaH (f0:Fp2->Fp2->Fp2) (f1:Fp2->Fp2->Fp2) (t:Pg2) (s:Fp2) (x:Fp2):Tree (Option (Pg2)) :=
 (.leaf (some ({ x:=f0 (f0 (f1 s s) t.x) x,y:=f0 (f1 s (f0 t.x (f0 (f0 (f1 s s) t.x) x))) t.y,inf:=false })))
theorem WP (f0:Fp2->Fp2->Fp2) (f1:Fp2->Fp2->Fp2) (t:Pg2) (s:Fp2) (x:Fp2):ac (En [(179,K2 (aa Fp2).arg (aa Fp2).arg (aa Fp2).rs.res f0),(177,K2 (aa Fp2).arg (aa Fp2).arg (aa Fp2).rs.res f1)]) (aa Pg2).rs 300 Tryz.f194 [.one ((aa Pg2).av t),.one ((aa Fp2).av s),.one ((aa Fp2).av x)]=aaH f0 f1 t s x:=by kernel_rfl
theorem WO (f0:Fp2->Fp2->Fp2) (f1:Fp2->Fp2->Fp2) (t:Pg2) (s:Fp2) (x:Fp2):(aaH f0 f1 t s x).sat fun q=>q=some (aaI f0 f1 t s x):=(show some _=some _ from rfl)
def mK (t:Pg2) (s:Fp2) (x:Fp2):Pg2:=aaI aH ag t s x
theorem adA:CallOk Tryz.prog 194 (K3 (aa Pg2).arg (aa Fp2).arg (aa Fp2).arg (aa Pg2).rs.res mK) :=
 P3 (aj (.cons fV (.cons cS .nil))) Tryz.func194 (ab Tryz.func194 (by kernel_rfl) (by kernel_rfl)) 300 (aa Pg2) (aa Fp2) (aa Fp2) (aa Pg2).rs mK (WP aH ag) (WO aH ag)
def xF (f0:Pg1->Bool) (f1:Pg2->Bool) (a:Pg1) (b:Pg2):Bool:=(match (f0 a) with | true=>((f1 b)) | false=>((false)))
def Oz (f0:Pg1->Bool) (f1:Pg2->Bool) (a:Pg1) (b:Pg2):Tree (Option (Bool)) :=
 (.br (f0 a)
  (.leaf (some ((f1 b))))
  (.leaf (some ((false)))))
theorem RA (f0:Pg1->Bool) (f1:Pg2->Bool) (a:Pg1) (b:Pg2):ac (En [(61,K1 (aa Pg1).arg kBool.rs.res f0),(62,K1 (aa Pg2).arg kBool.rs.res f1)]) kBool.rs 300 Tryz.f106 [.one ((aa Pg1).av a),.one ((aa Pg2).av b)]=Oz f0 f1 a b:=by kernel_rfl
theorem Rz (f0:Pg1->Bool) (f1:Pg2->Bool) (a:Pg1) (b:Pg2):(Oz f0 f1 a b).sat fun q=>q=some (xF f0 f1 a b):=⟨fun h0=>(show some _=some _ from congrArg some (by unfold xF;rw [h0])),fun h0=>(show some _=some _ from congrArg some (by unfold xF;rw [h0]))⟩
def qX (a:Pg1) (b:Pg2):Bool:=xF AQ u9 a b
theorem WQ:CallOk Tryz.prog 106 (K2 (aa Pg1).arg (aa Pg2).arg kBool.rs.res qX) :=
 P2 (aj (.cons Pf (.cons Pe .nil))) Tryz.func106 (ab Tryz.func106 (by kernel_rfl) (by kernel_rfl)) 300 (aa Pg1) (aa Pg2) kBool.rs qX (RA AQ u9) (Rz AQ u9)
end
set_option maxRecDepth 100000
section
theorem QS (u:Unit):cD (En []) (oS 22) 100 Tryz.f190 (flat (ae Tryz.f190)) (ah Tryz.f190 [] [])=(.leaf (some (({ l0:=UInt64.ofNat 5308195848297902535,l1:=UInt64.ofNat 368356918586201429,l2:=UInt64.ofNat 16611565823685306630,l3:=UInt64.ofNat 16578843054827078431,l4:=UInt64.ofNat 902017296411783715,l5:=UInt64.ofNat 312299769607923311 },.t)))):=by kernel_rfl
theorem QD (u:Unit):cD (En []) oL 100 Tryz.f159 (flat (ae Tryz.f159)) (ah Tryz.f159 [] []) =
 (.leaf (some (([UInt64.ofNat 10088250816726084267,UInt64.ofNat 4137836090706223446],.t)))):=by kernel_rfl
abbrev Kf2 (F:Fp2->Fp2):au:=K1 (aa Fp2).arg rF2.res F
abbrev afF (F:Fp2->Fp2->Fp2):au:=K2 (aa Fp2).arg (aa Fp2).arg rF2.res F
abbrev P9 (F:Fp12->Fp12):au:=K1 (aa Fp12).arg rF12.res F
noncomputable abbrev Oc (s:Fp) (pF:Fp2->List UInt64->Fp2) (wF cF:Fp2->Fp2) (hF:Fp2->Fp2->Fp2):Env:=Ens [(189,K2 (aa Fp2).arg aL rF2.res pF),(190,K0 (rS 22) s),(151,Kf2 wF),(191,Kf2 cF),(177,afF hF)] [190]
theorem JN (s:Fp) (pF:Fp2->List UInt64->Fp2) (wF cF:Fp2->Fp2) (hF:Fp2->Fp2->Fp2) (a:Fp12):letI za':Fp := { l0:=UInt64.ofNat 1,l1:=UInt64.ofNat 0,l2:=UInt64.ofNat 0,l3:=UInt64.ofNat 0,l4:=UInt64.ofNat 0,l5:=UInt64.ofNat 0 };letI zb':Fp := { l0:=UInt64.ofNat 0,l1:=UInt64.ofNat 0,l2:=UInt64.ofNat 0,l3:=UInt64.ofNat 0,l4:=UInt64.ofNat 0,l5:=UInt64.ofNat 0 };cD (Oc s pF wF cF hF) v9 900 Tryz.f157 (flat (ae Tryz.f157)) (ah Tryz.f157 [ai4 a] [])=(.leaf (some (({ c0 := { c0:=hF (cF a.c0.c0) (wF { c0:=za',c1:=zb' }),c1:=hF (cF a.c0.c1) (hF (hF (wF { c0:=za',c1:=zb' }) (wF (pF { c0:=za',c1:=za' } [s.l0,s.l1,s.l2,s.l3,s.l4,s.l5]))) (wF (pF { c0:=za',c1:=za' } [s.l0,s.l1,s.l2,s.l3,s.l4,s.l5]))),c2:=hF (cF a.c0.c2) (hF (hF (hF (hF (wF { c0:=za',c1:=zb' }) (wF (pF { c0:=za',c1:=za' } [s.l0,s.l1,s.l2,s.l3,s.l4,s.l5]))) (wF (pF { c0:=za',c1:=za' } [s.l0,s.l1,s.l2,s.l3,s.l4,s.l5]))) (wF (pF { c0:=za',c1:=za' } [s.l0,s.l1,s.l2,s.l3,s.l4,s.l5]))) (wF (pF { c0:=za',c1:=za' } [s.l0,s.l1,s.l2,s.l3,s.l4,s.l5]))) },c1 := { c0:=hF (cF a.c1.c0) (hF (wF { c0:=za',c1:=zb' }) (wF (pF { c0:=za',c1:=za' } [s.l0,s.l1,s.l2,s.l3,s.l4,s.l5]))),c1:=hF (cF a.c1.c1) (hF (hF (hF (wF { c0:=za',c1:=zb' }) (wF (pF { c0:=za',c1:=za' } [s.l0,s.l1,s.l2,s.l3,s.l4,s.l5]))) (wF (pF { c0:=za',c1:=za' } [s.l0,s.l1,s.l2,s.l3,s.l4,s.l5]))) (wF (pF { c0:=za',c1:=za' } [s.l0,s.l1,s.l2,s.l3,s.l4,s.l5]))),c2:=hF (cF a.c1.c2) (hF (hF (hF (hF (hF (wF { c0:=za',c1:=zb' }) (wF (pF { c0:=za',c1:=za' } [s.l0,s.l1,s.l2,s.l3,s.l4,s.l5]))) (wF (pF { c0:=za',c1:=za' } [s.l0,s.l1,s.l2,s.l3,s.l4,s.l5]))) (wF (pF { c0:=za',c1:=za' } [s.l0,s.l1,s.l2,s.l3,s.l4,s.l5]))) (wF (pF { c0:=za',c1:=za' } [s.l0,s.l1,s.l2,s.l3,s.l4,s.l5]))) (wF (pF { c0:=za',c1:=za' } [s.l0,s.l1,s.l2,s.l3,s.l4,s.l5]))) } },.t)))):=by kernel_rfl
noncomputable abbrev aaJ (iF:Fp12->Fp12 × Int) (lF wF cF tF:Fp12->Fp12) (hF:Fp12->Fp12->Fp12) (rF':Fp12->List UInt64->Fp12) (t:List UInt64):Env:=Ens [(153,K1 (aa Fp12).arg ((aa Fp12).rs2 kInt).res iF),(107,P9 lF),(156,P9 wF),(155,P9 cF),(157,P9 tF),(154,Ks2 hF),(158,afE rF'),(159,K0 oL.res t)] [159]
theorem RF (iF:Fp12->Fp12 × Int) (lF wF cF tF:Fp12->Fp12) (hF:Fp12->Fp12->Fp12) (rF':Fp12->List UInt64->Fp12) (t:List UInt64) (a:Fp12):letI za':=hF (cF (rF' (rF' (hF (tF (tF (hF (cF a) (wF (iF (lF a)).fst)))) (hF (cF a) (wF (iF (lF a)).fst))) (List.take t.length (List.drop 0 t))) [UInt64.ofNat 15132376222941642752])) (tF (rF' (hF (tF (tF (hF (cF a) (wF (iF (lF a)).fst)))) (hF (cF a) (wF (iF (lF a)).fst))) (List.take t.length (List.drop 0 t))));letI zb':=hF (cF a) (wF (iF (lF a)).fst);cD (aaJ iF lF wF cF tF hF rF' t) v9 300 Tryz.f108 (flat (ae Tryz.f108)) (ah Tryz.f108 [ai4 a] [])=(.vc (0+t.length<=t.length/\t.length<1125899906842624/\0=0/\1=1) (.leaf (some ((hF (hF (rF' (rF' za' [UInt64.ofNat 15132376222941642752]) [UInt64.ofNat 15132376222941642752]) (hF (tF (tF za')) (cF za'))) (hF (tF (tF zb')) zb'),.t))))):=by kernel_rfl
end
set_option maxRecDepth 100000
section
def tMl (o:Fp12) (wF:Fp->Fp) (w2:Fp2->Fp2) (h2 a2 s2 qF:Fp2->Fp2->Fp2) (hF:Fp12->Fp12->Fp12) (lF:Pg2->Fp2->Pg1->Fp12) (oF:Pg2->Fp2->Fp2->Pg2):cQ :=
 [(160,K0 rF12.res o),(136,Kf wF),(151,Kf2 w2),(177,afF h2),(178,afF a2),(179,afF s2),(192,afF qF),(154,Ks2 hF),(193,K3 (aa Pg2).arg (aa Fp2).arg (aa Pg1).arg rF12.res lF),(194,K3 (aa Pg2).arg (aa Fp2).arg (aa Fp2).arg (aa Pg2).rs.res oF)]
def Ve (p:Pg1) (q:Pg2) (f:Fp12) (t:Pg2) (z:Int):St:=ar 87 [(2,a8 0),(3,a8 1),(4,a8 2),(5,a8 3),(6,a8 4),(7,vI z)] [own 33 (Row.cs p),own 42 (Row.cs q),own 145 (bJ 72),own 145 (Row.cs f),own 42 (Row.cs t)]
theorem Ya (T:cQ) (p:Pg1) (q:Pg2):b7 (En T) 100 ((flat (ae Tryz.f161)).take 1) (ah Tryz.f161 [.one (kg1.av p),.one (kg2.av q)] []) [2,3,4] [0,1,2]=(.leaf (ar 87 [(2,.one (.c (.ptr 0 0))),(3,.one (.c (.ptr 1 0))),(4,.one (.c (.ptr 2 0)))] [.live ⟨true,33,0,(.row (Row.cs (p:Pg1))),false⟩,.live ⟨true,42,0,(.row (Row.cs (q:Pg2))),false⟩,.live ⟨true,145,0,(.row [(.lit .u64 0),(.lit .u64 0),(.lit .u64 0),(.lit .u64 0),(.lit .u64 0),(.lit .u64 0),(.lit .u64 0),(.lit .u64 0),(.lit .u64 0),(.lit .u64 0),(.lit .u64 0),(.lit .u64 0),(.lit .u64 0),(.lit .u64 0),(.lit .u64 0),(.lit .u64 0),(.lit .u64 0),(.lit .u64 0),(.lit .u64 0),(.lit .u64 0),(.lit .u64 0),(.lit .u64 0),(.lit .u64 0),(.lit .u64 0),(.lit .u64 0),(.lit .u64 0),(.lit .u64 0),(.lit .u64 0),(.lit .u64 0),(.lit .u64 0),(.lit .u64 0),(.lit .u64 0),(.lit .u64 0),(.lit .u64 0),(.lit .u64 0),(.lit .u64 0),(.lit .u64 0),(.lit .u64 0),(.lit .u64 0),(.lit .u64 0),(.lit .u64 0),(.lit .u64 0),(.lit .u64 0),(.lit .u64 0),(.lit .u64 0),(.lit .u64 0),(.lit .u64 0),(.lit .u64 0),(.lit .u64 0),(.lit .u64 0),(.lit .u64 0),(.lit .u64 0),(.lit .u64 0),(.lit .u64 0),(.lit .u64 0),(.lit .u64 0),(.lit .u64 0),(.lit .u64 0),(.lit .u64 0),(.lit .u64 0),(.lit .u64 0),(.lit .u64 0),(.lit .u64 0),(.lit .u64 0),(.lit .u64 0),(.lit .u64 0),(.lit .u64 0),(.lit .u64 0),(.lit .u64 0),(.lit .u64 0),(.lit .u64 0),(.lit .u64 0)]),false⟩])):=by kernel_rfl
theorem X8 (o:Fp12) (wF:Fp->Fp) (w2:Fp2->Fp2) (h2 a2 s2 qF:Fp2->Fp2->Fp2) (hF:Fp12->Fp12->Fp12) (lF:Pg2->Fp2->Pg1->Fp12) (oF:Pg2->Fp2->Fp2->Pg2) (p:Pg1) (q:Pg2):stageG (En (tMl o wF w2 h2 a2 s2 qF hF lF oF)) 100 ((flat (aC Tryz.f161)).take 5) (ar 87 [(2,a8 0),(3,a8 1),(4,a8 2)] [own 33 (Row.cs p),own 42 (Row.cs q),own 145 (bJ 72)]) [2,3,4,5,6,7] [0,1,2,3,4] [(2,.as),(3,.as),(4,.as),(5,.as),(6,.as),(7,.int)] [.one .g1,.one .g2,.as,.as,.one .g2] []=(.leaf (ar 87 [(2,.one (.c (.ptr 0 0))),(3,.one (.c (.ptr 1 0))),(4,.one (.c (.ptr 2 0))),(5,.one (.c (.ptr 3 0))),(6,.one (.c (.ptr 4 0))),(7,.one (.c (.int .i64 63)))] [.live ⟨true,33,0,(.row (Row.cs ({ x:=wF p.x,y:=wF p.y,inf:=false }:Pg1))),false⟩,.live ⟨true,42,0,(.row (Row.cs ({ x:=w2 q.x,y:=w2 q.y,inf:=false }:Pg2))),false⟩,.live ⟨true,145,0,(.row [(.lit .u64 0),(.lit .u64 0),(.lit .u64 0),(.lit .u64 0),(.lit .u64 0),(.lit .u64 0),(.lit .u64 0),(.lit .u64 0),(.lit .u64 0),(.lit .u64 0),(.lit .u64 0),(.lit .u64 0),(.lit .u64 0),(.lit .u64 0),(.lit .u64 0),(.lit .u64 0),(.lit .u64 0),(.lit .u64 0),(.lit .u64 0),(.lit .u64 0),(.lit .u64 0),(.lit .u64 0),(.lit .u64 0),(.lit .u64 0),(.lit .u64 0),(.lit .u64 0),(.lit .u64 0),(.lit .u64 0),(.lit .u64 0),(.lit .u64 0),(.lit .u64 0),(.lit .u64 0),(.lit .u64 0),(.lit .u64 0),(.lit .u64 0),(.lit .u64 0),(.lit .u64 0),(.lit .u64 0),(.lit .u64 0),(.lit .u64 0),(.lit .u64 0),(.lit .u64 0),(.lit .u64 0),(.lit .u64 0),(.lit .u64 0),(.lit .u64 0),(.lit .u64 0),(.lit .u64 0),(.lit .u64 0),(.lit .u64 0),(.lit .u64 0),(.lit .u64 0),(.lit .u64 0),(.lit .u64 0),(.lit .u64 0),(.lit .u64 0),(.lit .u64 0),(.lit .u64 0),(.lit .u64 0),(.lit .u64 0),(.lit .u64 0),(.lit .u64 0),(.lit .u64 0),(.lit .u64 0),(.lit .u64 0),(.lit .u64 0),(.lit .u64 0),(.lit .u64 0),(.lit .u64 0),(.lit .u64 0),(.lit .u64 0),(.lit .u64 0)]),false⟩,.live ⟨true,145,0,(.row (Row.cs (o:Fp12))),false⟩,.live ⟨true,42,0,(.row (Row.cs ({ x:=w2 q.x,y:=w2 q.y,inf:=false }:Pg2))),false⟩])):=by kernel_rfl
theorem ael (o:Fp12) (wF:Fp->Fp) (w2:Fp2->Fp2) (h2 a2 s2 qF:Fp2->Fp2->Fp2) (hF:Fp12->Fp12->Fp12) (lF:Pg2->Fp2->Pg1->Fp12) (oF:Pg2->Fp2->Fp2->Pg2) (p:Pg1) (q:Pg2) (f:Fp12) (t:Pg2) (z:Int):letI za':=qF (a2 (a2 (h2 t.x t.x) (h2 t.x t.x)) (h2 t.x t.x)) (a2 t.y t.y);letI zb':=oF t za' t.x;letI zc':=qF (s2 q.y zb'.y) (s2 q.x zb'.x);letI zd':=IntKind.i64.wrap (z-1);gR (En (tMl o wF w2 h2 a2 s2 qF hF lF oF)) v9 300 Tryz.f161 ((flat (aC Tryz.f161)).drop 5) (Ve p q f t z) [2,3,4,5,6,7] [0,1,2,3,4]=(.br (decide (IntKind.i64.wrap (z-1)<0)) (.leaf (.inr (some ((f,.t))))) (.br (bits BinOp.and IntKind.u64 (xj IntKind.u64 15132376222941642752 (↑(UInt64.ofNat (IntKind.i64.wrap (z-1) % 18446744073709551616).toNat).toNat:Int)) 1==1) (.leaf (.inl ((.goto 0,ar 87 [(2,.one (.c (.ptr 0 0))),(3,.one (.c (.ptr 1 0))),(4,.one (.c (.ptr 2 0))),(5,.one (.c (.ptr 3 0))),(6,.one (.c (.ptr 4 0))),(7,.one (.c (.int .i64 zd')))] [.live ⟨true,33,0,(.row (Row.cs (p:Pg1))),false⟩,.live ⟨true,42,0,(.row (Row.cs (q:Pg2))),false⟩,.live ⟨true,145,0,(.row [(.lit .u64 0),(.lit .u64 0),(.lit .u64 0),(.lit .u64 0),(.lit .u64 0),(.lit .u64 0),(.lit .u64 0),(.lit .u64 0),(.lit .u64 0),(.lit .u64 0),(.lit .u64 0),(.lit .u64 0),(.lit .u64 0),(.lit .u64 0),(.lit .u64 0),(.lit .u64 0),(.lit .u64 0),(.lit .u64 0),(.lit .u64 0),(.lit .u64 0),(.lit .u64 0),(.lit .u64 0),(.lit .u64 0),(.lit .u64 0),(.lit .u64 0),(.lit .u64 0),(.lit .u64 0),(.lit .u64 0),(.lit .u64 0),(.lit .u64 0),(.lit .u64 0),(.lit .u64 0),(.lit .u64 0),(.lit .u64 0),(.lit .u64 0),(.lit .u64 0),(.lit .u64 0),(.lit .u64 0),(.lit .u64 0),(.lit .u64 0),(.lit .u64 0),(.lit .u64 0),(.lit .u64 0),(.lit .u64 0),(.lit .u64 0),(.lit .u64 0),(.lit .u64 0),(.lit .u64 0),(.lit .u64 0),(.lit .u64 0),(.lit .u64 0),(.lit .u64 0),(.lit .u64 0),(.lit .u64 0),(.lit .u64 0),(.lit .u64 0),(.lit .u64 0),(.lit .u64 0),(.lit .u64 0),(.lit .u64 0),(.lit .u64 0),(.lit .u64 0),(.lit .u64 0),(.lit .u64 0),(.lit .u64 0),(.lit .u64 0),(.lit .u64 0),(.lit .u64 0),(.lit .u64 0),(.lit .u64 0),(.lit .u64 0),(.lit .u64 0)]),false⟩,.live ⟨true,145,0,(.row (Row.cs (hF (hF (hF f f) (lF t za' p)) (lF zb' zc' p):Fp12))),false⟩,.live ⟨true,42,0,(.row (Row.cs (oF zb' zc' q.x:Pg2))),false⟩])))) (.leaf (.inl ((.goto 0,ar 87 [(2,.one (.c (.ptr 0 0))),(3,.one (.c (.ptr 1 0))),(4,.one (.c (.ptr 2 0))),(5,.one (.c (.ptr 3 0))),(6,.one (.c (.ptr 4 0))),(7,.one (.c (.int .i64 zd')))] [.live ⟨true,33,0,(.row (Row.cs (p:Pg1))),false⟩,.live ⟨true,42,0,(.row (Row.cs (q:Pg2))),false⟩,.live ⟨true,145,0,(.row [(.lit .u64 0),(.lit .u64 0),(.lit .u64 0),(.lit .u64 0),(.lit .u64 0),(.lit .u64 0),(.lit .u64 0),(.lit .u64 0),(.lit .u64 0),(.lit .u64 0),(.lit .u64 0),(.lit .u64 0),(.lit .u64 0),(.lit .u64 0),(.lit .u64 0),(.lit .u64 0),(.lit .u64 0),(.lit .u64 0),(.lit .u64 0),(.lit .u64 0),(.lit .u64 0),(.lit .u64 0),(.lit .u64 0),(.lit .u64 0),(.lit .u64 0),(.lit .u64 0),(.lit .u64 0),(.lit .u64 0),(.lit .u64 0),(.lit .u64 0),(.lit .u64 0),(.lit .u64 0),(.lit .u64 0),(.lit .u64 0),(.lit .u64 0),(.lit .u64 0),(.lit .u64 0),(.lit .u64 0),(.lit .u64 0),(.lit .u64 0),(.lit .u64 0),(.lit .u64 0),(.lit .u64 0),(.lit .u64 0),(.lit .u64 0),(.lit .u64 0),(.lit .u64 0),(.lit .u64 0),(.lit .u64 0),(.lit .u64 0),(.lit .u64 0),(.lit .u64 0),(.lit .u64 0),(.lit .u64 0),(.lit .u64 0),(.lit .u64 0),(.lit .u64 0),(.lit .u64 0),(.lit .u64 0),(.lit .u64 0),(.lit .u64 0),(.lit .u64 0),(.lit .u64 0),(.lit .u64 0),(.lit .u64 0),(.lit .u64 0),(.lit .u64 0),(.lit .u64 0),(.lit .u64 0),(.lit .u64 0),(.lit .u64 0),(.lit .u64 0)]),false⟩,.live ⟨true,145,0,(.row (Row.cs (hF (hF f f) (lF t za' p):Fp12))),false⟩,.live ⟨true,42,0,(.row (Row.cs (oF t za' t.x:Pg2))),false⟩])))))):=by kernel_rfl
end
set_option maxRecDepth 100000
section
def sixthV:Fp:=⟨UInt64.ofNat 5308195848297902535,UInt64.ofNat 368356918586201429,UInt64.ofNat 16611565823685306630,UInt64.ofNat 16578843054827078431,UInt64.ofNat 902017296411783715,UInt64.ofNat 312299769607923311⟩
theorem VZ:CallOk Tryz.prog 190 (K0 (rS 22) sixthV) :=
 G0 (E:=En []) Tryz.func190 (c:=ae Tryz.f190) (by kernel_rfl) (ab Tryz.func190 (by kernel_rfl) (by kernel_rfl)) (oS 22) sixthV (DoesL.ends (aj .nil) 100 (QS ()) ⟨.t,rfl,trivial⟩)
def thirdL:List UInt64 := [UInt64.ofNat 10088250816726084267,UInt64.ofNat 4137836090706223446]
theorem VN:CallOk Tryz.prog 159 (K0 oL.res thirdL) :=
 G0 (E:=En []) Tryz.func159 (c:=ae Tryz.f159) (by kernel_rfl) (ab Tryz.func159 (by kernel_rfl) (by kernel_rfl)) oL thirdL (DoesL.ends (aj .nil) 100 (QD ()) ⟨.t,rfl,trivial⟩)
def w6 (k0 g:Fp2) (cF:Fp2->Fp2) (hF:Fp2->Fp2->Fp2) (a:Fp12):Fp12 :=
 ⟨⟨hF (cF a.c0.c0) k0,hF (cF a.c0.c1) (hF (hF k0 g) g),hF (cF a.c0.c2) (hF (hF (hF (hF k0 g) g) g) g)⟩,⟨hF (cF a.c1.c0) (hF k0 g),hF (cF a.c1.c1) (hF (hF (hF k0 g) g) g),hF (cF a.c1.c2) (hF (hF (hF (hF (hF k0 g) g) g) g) g)⟩⟩
def dC (a:Fp12):Fp12:=w6 (ay oneFp2) (ay (pg xiFp2 sixthV.list)) dm ag a
theorem Qp:CallOk Tryz.prog 157 (P9 dC) :=
 G1 (E:=Oc sixthV pg ay dm ag) Tryz.func157 (c:=ae Tryz.f157) (by kernel_rfl) (ab Tryz.func157 (by kernel_rfl) (by kernel_rfl)) (aa Fp12).inp v9 dC fun a _ =>
  DoesL.ends (bn (.cons ahl (.cons VZ (.cons gh (.cons CI (.cons cS .nil)))))) 900 (JN sixthV pg ay dm ag a) ⟨.t,rfl,trivial⟩
section
variable (iF : Fp12 -> Fp12 × Int) (lF wF cF tF : Fp12 -> Fp12) (hF : Fp12 -> Fp12 -> Fp12) (rF' : Fp12 -> List UInt64 -> Fp12) (t : List UInt64)
def pw0 (a:Fp12):Fp12:=hF (cF a) (wF (iF (lF a)).1)
def pw1 (z:Fp12):Fp12:=hF (tF (tF z)) z
def pwX:List UInt64 := [UInt64.ofNat 15132376222941642752]
def pwA (z:Fp12):Fp12:=hF (cF (rF' (rF' z t) pwX)) (tF (rF' z t))
def pwB (z:Fp12):Fp12:=hF (rF' (rF' z pwX) pwX) (hF (tF (tF z)) (cF z))
def Fd (a:Fp12):Fp12:=hF (pwB cF tF hF rF' (pwA cF tF hF rF' t (pw1 tF hF (pw0 iF lF wF cF hF a)))) (pw1 tF hF (pw0 iF lF wF cF hF a))
end
theorem RE (iF:Fp12->Fp12 × Int) (lF wF cF tF:Fp12->Fp12) (hF:Fp12->Fp12->Fp12) (rF':Fp12->List UInt64->Fp12) {t:List UInt64} (ht:t.length<1125899906842624) (a:Fp12) {E:Env} (hE:EnvOk E) {fn:Func} {cs:List Code} {st:St}
  {T:Tree (Option (Fp12 × Pr))} (e:cD E v9 300 fn cs st=T) (hT:T = .vc (0+t.length<=t.length/\t.length<1125899906842624/\0=0/\1=1) (.leaf (some (Fd iF lF wF cF tF hF rF' (List.take t.length (List.drop 0 t)) a,.t)))):DoesL E cs st (EndsAs E fn (bO v9 (Fd iF lF wF cF tF hF rF' t a))):=by
 subst hT
 refine DoesL.ends hE 300 e ⟨⟨by omega,ht,rfl,rfl⟩,fun _=>⟨.t,?_,trivial⟩⟩
 rw [whole]
def lq (a:Fp12):Fp12:=Fd iC fj bi cM dC ax cU thirdL a
theorem WS:CallOk Tryz.prog 108 (P9 lq) :=
 G1 (E:=aaJ iC fj bi cM dC ax cU thirdL) Tryz.func108 (c:=ae Tryz.f108) (by kernel_rfl) (ab Tryz.func108 (by kernel_rfl) (by kernel_rfl)) (aa Fp12).inp v9 lq fun a _ =>
  RE iC fj bi cM dC ax cU (t:=thirdL) (show 2<1125899906842624 by decide) a (bn (.cons Tp (.cons B7 (.cons oo (.cons MH (.cons Qp (.cons mU (.cons Rg (.cons VN .nil))))))))) (RF iC fj bi cM dC ax cU thirdL a) rfl
section
variable (h2 a2 s2 qF : Fp2 -> Fp2 -> Fp2) (hF : Fp12 -> Fp12 -> Fp12) (lF : Pg2 -> Fp2 -> Pg1 -> Fp12) (oF : Pg2 -> Fp2 -> Fp2 -> Pg2)
def Og (t:Pg2):Fp2:=qF (a2 (a2 (h2 t.x t.x) (h2 t.x t.x)) (h2 t.x t.x)) (a2 t.y t.y)
def PR (q t:Pg2):Fp2:=qF (s2 q.y t.y) (s2 q.x t.x)
def vk (p:Pg1) (s:Fp12 × Pg2):Fp12 × Pg2:=(hF (hF s.1 s.1) (lF s.2 (Og h2 a2 qF s.2) p),oF s.2 (Og h2 a2 qF s.2) s.2.x)
def LI (p:Pg1) (q:Pg2) (s:Fp12 × Pg2):Fp12 × Pg2:=(hF s.1 (lF s.2 (PR s2 qF q s.2) p),oF s.2 (PR s2 qF q s.2) q.x)
def loopN:Nat:=15132376222941642752
def nU (p:Pg1) (q:Pg2):Nat->Fp12 × Pg2->Fp12 × Pg2
 | 0,s=>s
 | n+1,s=>match loopN.testBit n with
  | true=>nU p q n (LI s2 qF hF lF oF p q (vk h2 a2 qF hF lF oF p s))
  | false=>nU p q n (vk h2 a2 qF hF lF oF p s)
end
def acj (z:Int):Bool:=bits BinOp.and IntKind.u64 (xj IntKind.u64 15132376222941642752 (↑(UInt64.ofNat (z % 18446744073709551616).toNat).toNat:Int)) 1==1
theorem S2:((List.range 63).all fun n=>acj (n:Int)==loopN.testBit n)=true:=by decide +kernel
theorem Yp {n:Nat} (h:n<63):acj (n:Int)=loopN.testBit n:=eq_of_beq (List.all_eq_true.1 S2 n (List.mem_range.2 h))
section
variable (o : Fp12) (wF : Fp -> Fp) (w2 : Fp2 -> Fp2) (h2 a2 s2 qF : Fp2 -> Fp2 -> Fp2) (hF : Fp12 -> Fp12 -> Fp12) (lF : Pg2 -> Fp2 -> Pg1 -> Fp12) (oF : Pg2 -> Fp2 -> Fp2 -> Pg2)
theorem X9 (p:Pg1) (q:Pg2) (f:Fp12) (t:Pg2) (z:Int):gR (En (tMl o wF w2 h2 a2 s2 qF hF lF oF)) v9 300 Tryz.f161 ((flat (aC Tryz.f161)).drop 5) (Ve p q f t z) [2,3,4,5,6,7] [0,1,2,3,4] =
  .br (decide (IntKind.i64.wrap (z-1)<0)) (.leaf (.inr (some (f,.t)))) (.br (acj (IntKind.i64.wrap (z-1)))
   (.leaf (.inl (.goto 0,Ve p q (LI s2 qF hF lF oF p q (vk h2 a2 qF hF lF oF p (f,t))).1 (LI s2 qF hF lF oF p q (vk h2 a2 qF hF lF oF p (f,t))).2 (IntKind.i64.wrap (z-1)))))
   (.leaf (.inl (.goto 0,Ve p q (vk h2 a2 qF hF lF oF p (f,t)).1 (vk h2 a2 qF hF lF oF p (f,t)).2 (IntKind.i64.wrap (z-1)))))):=(ael o wF w2 h2 a2 s2 qF hF lF oF p q f t z).trans (by kernel_rfl)
theorem SJ (p:Pg1) (q:Pg2):stageG (En (tMl o wF w2 h2 a2 s2 qF hF lF oF)) 100 ((flat (aC Tryz.f161)).take 5) (ar 87 [(2,a8 0),(3,a8 1),(4,a8 2)] [own 33 (Row.cs p),own 42 (Row.cs q),own 145 (bJ 72)]) [2,3,4,5,6,7] [0,1,2,3,4] [(2,.as),(3,.as),(4,.as),(5,.as),(6,.as),(7,.int)] [.one .g1,.one .g2,.as,.as,.one .g2] [] =
  .leaf (Ve ⟨wF p.x,wF p.y,false⟩ ⟨w2 q.x,w2 q.y,false⟩ o ⟨w2 q.x,w2 q.y,false⟩ 63):=(X8 o wF w2 h2 a2 s2 qF hF lF oF p q).trans (by kernel_rfl)
theorem SK (T:cQ) (p:Pg1) (q:Pg2):b7 (En T) 100 ((flat (ae Tryz.f161)).take 1) (ah Tryz.f161 [.one (kg1.av p),.one (kg2.av q)] []) [2,3,4] [0,1,2] =
  .leaf (ar 87 [(2,a8 0),(3,a8 1),(4,a8 2)] [own 33 (Row.cs p),own 42 (Row.cs q),own 145 (bJ 72)]):=(Ya T p q).trans (by kernel_rfl)
abbrev ak0 (p:Pg1) (q:Pg2):Type := { s:Nat × Fp12 × Pg2 // s.1<=63/\nU h2 a2 s2 qF hF lF oF p q s.1 s.2=nU h2 a2 s2 qF hF lF oF p q 63 (o,q) }
def akO (p:Pg1) (q:Pg2) (s:ak0 o h2 a2 s2 qF hF lF oF p q):St:=Ve p q s.1.2.1 s.1.2.2 (s.1.1:Int)
theorem Gw (hE:EnvOk (En (tMl o wF w2 h2 a2 s2 qF hF lF oF))) (p:Pg1) (q:Pg2):DoesL (En (tMl o wF w2 h2 a2 s2 qF hF lF oF)) (flat (ae Tryz.f161)) (ah Tryz.f161 [.one (kg1.av p),.one (kg2.av q)] [])
  (EndsAs (En (tMl o wF w2 h2 a2 s2 qF hF lF oF)) Tryz.f161 (bO v9 (nU h2 a2 s2 qF hF lF oF ⟨wF p.x,wF p.y,false⟩ ⟨w2 q.x,w2 q.y,false⟩ 63 (o,⟨w2 q.x,w2 q.y,false⟩)).1)):=by
 refine DoesL.stageE hE 100 1 [2,3,4] [0,1,2] (SK _ p q) ?_
 have st:=SJ o wF w2 h2 a2 s2 qF hF lF oF p q
 generalize (⟨wF p.x,wF p.y,false⟩:Pg1)=p' at *
 generalize (⟨w2 q.x,w2 q.y,false⟩:Pg2)=q' at *
 refine DoesL.scopeFnG (body:=aC Tryz.f161) (rest:=mc Tryz.f161) (tail := []) (l:=0) hE (by kernel_rfl) (by kernel_rfl) 5 (by kernel_rfl) (akO o h2 a2 s2 qF hF lF oF p' q') (fun s=>s.1.1)
  ⟨(63,o,q'),Nat.le_refl _,rfl⟩ ?_ fun s => ?_
 ·rw [<- show List.take 5 (List.take 5 (flat (aC Tryz.f161)))=List.take 5 (flat (aC Tryz.f161)) by rw [List.take_take];rfl] at st
  refine DoesL.stageG hE 100 5 _ _ _ _ _ st ?_
  show DoesL (En (tMl o wF w2 h2 a2 s2 qF hF lF oF)) (List.drop 5 (List.take 5 (flat (aC Tryz.f161)))) (Ve p' q' o q' 63) _
  rw [show List.drop 5 (List.take 5 (flat (aC Tryz.f161))) = [] by kernel_rfl]
  exact ⟨_,Wk.refl _,rfl⟩
 ·obtain ⟨⟨m,f,t⟩,h0,h1⟩:=s
  simp only [] at h0 h1
  have hz:IntKind.i64.wrap ((m:Int)-1)=(m:Int)-1:=IntWalk.i64_in _ (by omega)
  refine DoesL.iter hE 300 [2,3,4,5,6,7] [0,1,2,3,4] (X9 o wF w2 h2 a2 s2 qF hF lF oF p' q' f t m) ?_
  rw [hz]
  refine ⟨fun h => ?_,fun h => ?_⟩
  ·simp only [decide_eq_true_eq] at h
   obtain rfl:m=0:=by omega
   exact ⟨.t,by rw [<- h1];rfl,trivial⟩
  ·simp only [decide_eq_false_iff_not] at h
   obtain ⟨n,rfl⟩ : ∃ n:Nat,m=n+1:=⟨m-1,by omega⟩
   have e1:((n+1:Nat):Int)-1=(n:Int):=by omega
   rw [e1,Yp (by omega)]
   unfold nU at h1
   refine ⟨fun h3 => ?_,fun h3 => ?_⟩
   all_goals
    rw [h3] at h1
    simp only [] at h1
   ·exact ⟨rfl,⟨(n,LI s2 qF hF lF oF p' q' (vk h2 a2 qF hF lF oF p' (f,t))),by show n<=63;omega,h1⟩,Nat.lt_succ_self n,rfl⟩
   ·exact ⟨rfl,⟨(n,vk h2 a2 qF hF lF oF p' (f,t)),by show n<=63;omega,h1⟩,Nat.lt_succ_self n,rfl⟩
end
def eE (p:Pg1) (q:Pg2):Fp12:=(nU ag aI aH cR ax fD mK ⟨bj p.x,bj p.y,false⟩ ⟨ay q.x,ay q.y,false⟩ 63 (prOne,⟨ay q.x,ay q.y,false⟩)).1
theorem SN:CallOk Tryz.prog 161 (K2 kg1.arg kg2.arg rF12.res eE) :=
 G2 (E:=En (tMl prOne bj ay ag aI aH cR ax fD mK)) Tryz.func161 (c:=ae Tryz.f161) (by kernel_rfl) (ab Tryz.func161 (by kernel_rfl) (by kernel_rfl)) kg1.inp kg2.inp v9 eE fun p q _ _ =>
  Gw prOne bj ay ag aI aH cR ax fD mK (aj (.cons H5 (.cons oH (.cons gh (.cons cS (.cons f9 (.cons fV (.cons Rw (.cons mU (.cons RB (.cons adA .nil))))))))))) p q
end
set_option maxRecDepth 100000
section
noncomputable abbrev pdC:List Code:=flat (ae Tryz.f109)
def pdT (o:Fp12) (mF:Pg1->Pg2->Fp12) (hF:Fp12->Fp12->Fp12):cQ := [(160,K0 rF12.res o),(161,K2 kg1.arg kg2.arg rF12.res mF),(154,Ks2 hF)]
def adL (l:List Duo) (f:Fp12) (z:Int):St:=ar 32 [(2,a8 1),(3,a8 2),(7,rwV .duo 0 l),(8,vI (l.length:Int)),(9,vI z)] [bz .duo l,own 145 (bJ 72),own 145 (Row.cs f)]
theorem Xb (o:Fp12) (mF:Pg1->Pg2->Fp12) (hF:Fp12->Fp12->Fp12) (l:List Duo):stageG (En (pdT o mF hF)) 100 (pdC.take 3) (ah Tryz.f109 [rwV .duo 0 l] [bz .duo l]) [2,3,7,8,9] [0,1,2] [(2,.as),(3,.as),(7,.as),(8,.int),(9,.int)] [.as,.as,.as] []=(.vc (0+l.length*38<=(ad RK.duo l).length/\0<38) (.leaf (ar 32 [(2,.one (.c (.ptr 1 0))),(3,.one (.c (.ptr 2 0))),(7,.one (.c (.slc 0 0 (l.length) 38 (.of 0) false))),(8,.one (.c (.int .i64 ((↑l.length:Int))))),(9,.one (.c (.int .i64 0)))] [.live ⟨false,0,38,(.rows .duo (l:List Duo)),false⟩,.live ⟨true,145,0,(.row [(.lit .u64 0),(.lit .u64 0),(.lit .u64 0),(.lit .u64 0),(.lit .u64 0),(.lit .u64 0),(.lit .u64 0),(.lit .u64 0),(.lit .u64 0),(.lit .u64 0),(.lit .u64 0),(.lit .u64 0),(.lit .u64 0),(.lit .u64 0),(.lit .u64 0),(.lit .u64 0),(.lit .u64 0),(.lit .u64 0),(.lit .u64 0),(.lit .u64 0),(.lit .u64 0),(.lit .u64 0),(.lit .u64 0),(.lit .u64 0),(.lit .u64 0),(.lit .u64 0),(.lit .u64 0),(.lit .u64 0),(.lit .u64 0),(.lit .u64 0),(.lit .u64 0),(.lit .u64 0),(.lit .u64 0),(.lit .u64 0),(.lit .u64 0),(.lit .u64 0),(.lit .u64 0),(.lit .u64 0),(.lit .u64 0),(.lit .u64 0),(.lit .u64 0),(.lit .u64 0),(.lit .u64 0),(.lit .u64 0),(.lit .u64 0),(.lit .u64 0),(.lit .u64 0),(.lit .u64 0),(.lit .u64 0),(.lit .u64 0),(.lit .u64 0),(.lit .u64 0),(.lit .u64 0),(.lit .u64 0),(.lit .u64 0),(.lit .u64 0),(.lit .u64 0),(.lit .u64 0),(.lit .u64 0),(.lit .u64 0),(.lit .u64 0),(.lit .u64 0),(.lit .u64 0),(.lit .u64 0),(.lit .u64 0),(.lit .u64 0),(.lit .u64 0),(.lit .u64 0),(.lit .u64 0),(.lit .u64 0),(.lit .u64 0),(.lit .u64 0)]),false⟩,.live ⟨true,145,0,(.row (Row.cs (o:Fp12))),false⟩]))):=by kernel_rfl
theorem Xc (o:Fp12) (mF:Pg1->Pg2->Fp12) (hF:Fp12->Fp12->Fp12) (l:List Duo) (f:Fp12) (z:Int):letI za':=(↑l.length:Int);letI zb':=IntKind.i64.wrap (z+1);letI zc':=(Row.cs (f:Fp12));bk (En (pdT o mF hF)) 300 (aP Tryz.f109 0) (adL l f z) (same [2,3,7,8,9] [0,1,2])=(.br (decide (z<za')) (.vc ((0<=z/\z<za')/\0+l.length*38<=(ad RK.duo l).length/\0<38/\0=0) (.vc (0+z.toNat<l.length) (.br (!((l.getD (0+z.toNat) { p:=dK,q:=BX }).p.inf)) (.br (!((l.getD (0+z.toNat) { p:=dK,q:=BX }).q.inf)) (.leaf ((.normal,ar 32 [(2,.one (.c (.ptr 1 0))),(3,.one (.c (.ptr 2 0))),(7,.one (.c (.slc 0 0 (l.length) 38 (.of 0) false))),(8,.one (.c (.int .i64 (za')))),(9,.one (.c (.int .i64 zb')))] [.live ⟨false,0,38,(.rows .duo (l:List Duo)),false⟩,.live ⟨true,145,0,(.row [(.lit .u64 0),(.lit .u64 0),(.lit .u64 0),(.lit .u64 0),(.lit .u64 0),(.lit .u64 0),(.lit .u64 0),(.lit .u64 0),(.lit .u64 0),(.lit .u64 0),(.lit .u64 0),(.lit .u64 0),(.lit .u64 0),(.lit .u64 0),(.lit .u64 0),(.lit .u64 0),(.lit .u64 0),(.lit .u64 0),(.lit .u64 0),(.lit .u64 0),(.lit .u64 0),(.lit .u64 0),(.lit .u64 0),(.lit .u64 0),(.lit .u64 0),(.lit .u64 0),(.lit .u64 0),(.lit .u64 0),(.lit .u64 0),(.lit .u64 0),(.lit .u64 0),(.lit .u64 0),(.lit .u64 0),(.lit .u64 0),(.lit .u64 0),(.lit .u64 0),(.lit .u64 0),(.lit .u64 0),(.lit .u64 0),(.lit .u64 0),(.lit .u64 0),(.lit .u64 0),(.lit .u64 0),(.lit .u64 0),(.lit .u64 0),(.lit .u64 0),(.lit .u64 0),(.lit .u64 0),(.lit .u64 0),(.lit .u64 0),(.lit .u64 0),(.lit .u64 0),(.lit .u64 0),(.lit .u64 0),(.lit .u64 0),(.lit .u64 0),(.lit .u64 0),(.lit .u64 0),(.lit .u64 0),(.lit .u64 0),(.lit .u64 0),(.lit .u64 0),(.lit .u64 0),(.lit .u64 0),(.lit .u64 0),(.lit .u64 0),(.lit .u64 0),(.lit .u64 0),(.lit .u64 0),(.lit .u64 0),(.lit .u64 0),(.lit .u64 0)]),false⟩,.live ⟨true,145,0,(.row (Row.cs (hF f (mF (l.getD (0+z.toNat) { p:=dK,q:=BX }).p (l.getD (0+z.toNat) { p:=dK,q:=BX }).q):Fp12))),false⟩]))) (.leaf ((.normal,ar 32 [(2,.one (.c (.ptr 1 0))),(3,.one (.c (.ptr 2 0))),(7,.one (.c (.slc 0 0 (l.length) 38 (.of 0) false))),(8,.one (.c (.int .i64 (za')))),(9,.one (.c (.int .i64 zb')))] [.live ⟨false,0,38,(.rows .duo (l:List Duo)),false⟩,.live ⟨true,145,0,(.row [(.lit .u64 0),(.lit .u64 0),(.lit .u64 0),(.lit .u64 0),(.lit .u64 0),(.lit .u64 0),(.lit .u64 0),(.lit .u64 0),(.lit .u64 0),(.lit .u64 0),(.lit .u64 0),(.lit .u64 0),(.lit .u64 0),(.lit .u64 0),(.lit .u64 0),(.lit .u64 0),(.lit .u64 0),(.lit .u64 0),(.lit .u64 0),(.lit .u64 0),(.lit .u64 0),(.lit .u64 0),(.lit .u64 0),(.lit .u64 0),(.lit .u64 0),(.lit .u64 0),(.lit .u64 0),(.lit .u64 0),(.lit .u64 0),(.lit .u64 0),(.lit .u64 0),(.lit .u64 0),(.lit .u64 0),(.lit .u64 0),(.lit .u64 0),(.lit .u64 0),(.lit .u64 0),(.lit .u64 0),(.lit .u64 0),(.lit .u64 0),(.lit .u64 0),(.lit .u64 0),(.lit .u64 0),(.lit .u64 0),(.lit .u64 0),(.lit .u64 0),(.lit .u64 0),(.lit .u64 0),(.lit .u64 0),(.lit .u64 0),(.lit .u64 0),(.lit .u64 0),(.lit .u64 0),(.lit .u64 0),(.lit .u64 0),(.lit .u64 0),(.lit .u64 0),(.lit .u64 0),(.lit .u64 0),(.lit .u64 0),(.lit .u64 0),(.lit .u64 0),(.lit .u64 0),(.lit .u64 0),(.lit .u64 0),(.lit .u64 0),(.lit .u64 0),(.lit .u64 0),(.lit .u64 0),(.lit .u64 0),(.lit .u64 0),(.lit .u64 0)]),false⟩,.live ⟨true,145,0,(.row zc'),false⟩])))) (.leaf ((.normal,ar 32 [(2,.one (.c (.ptr 1 0))),(3,.one (.c (.ptr 2 0))),(7,.one (.c (.slc 0 0 (l.length) 38 (.of 0) false))),(8,.one (.c (.int .i64 (za')))),(9,.one (.c (.int .i64 zb')))] [.live ⟨false,0,38,(.rows .duo (l:List Duo)),false⟩,.live ⟨true,145,0,(.row [(.lit .u64 0),(.lit .u64 0),(.lit .u64 0),(.lit .u64 0),(.lit .u64 0),(.lit .u64 0),(.lit .u64 0),(.lit .u64 0),(.lit .u64 0),(.lit .u64 0),(.lit .u64 0),(.lit .u64 0),(.lit .u64 0),(.lit .u64 0),(.lit .u64 0),(.lit .u64 0),(.lit .u64 0),(.lit .u64 0),(.lit .u64 0),(.lit .u64 0),(.lit .u64 0),(.lit .u64 0),(.lit .u64 0),(.lit .u64 0),(.lit .u64 0),(.lit .u64 0),(.lit .u64 0),(.lit .u64 0),(.lit .u64 0),(.lit .u64 0),(.lit .u64 0),(.lit .u64 0),(.lit .u64 0),(.lit .u64 0),(.lit .u64 0),(.lit .u64 0),(.lit .u64 0),(.lit .u64 0),(.lit .u64 0),(.lit .u64 0),(.lit .u64 0),(.lit .u64 0),(.lit .u64 0),(.lit .u64 0),(.lit .u64 0),(.lit .u64 0),(.lit .u64 0),(.lit .u64 0),(.lit .u64 0),(.lit .u64 0),(.lit .u64 0),(.lit .u64 0),(.lit .u64 0),(.lit .u64 0),(.lit .u64 0),(.lit .u64 0),(.lit .u64 0),(.lit .u64 0),(.lit .u64 0),(.lit .u64 0),(.lit .u64 0),(.lit .u64 0),(.lit .u64 0),(.lit .u64 0),(.lit .u64 0),(.lit .u64 0),(.lit .u64 0),(.lit .u64 0),(.lit .u64 0),(.lit .u64 0),(.lit .u64 0),(.lit .u64 0)]),false⟩,.live ⟨true,145,0,(.row zc'),false⟩])))))) (.leaf ((.exit 0,ar 32 [(2,.one (.c (.ptr 1 0))),(3,.one (.c (.ptr 2 0))),(7,.one (.c (.slc 0 0 (l.length) 38 (.of 0) false))),(8,.one (.c (.int .i64 (za')))),(9,.one (.c (.int .i64 (z))))] [.live ⟨false,0,38,(.rows .duo (l:List Duo)),false⟩,.live ⟨true,145,0,(.row [(.lit .u64 0),(.lit .u64 0),(.lit .u64 0),(.lit .u64 0),(.lit .u64 0),(.lit .u64 0),(.lit .u64 0),(.lit .u64 0),(.lit .u64 0),(.lit .u64 0),(.lit .u64 0),(.lit .u64 0),(.lit .u64 0),(.lit .u64 0),(.lit .u64 0),(.lit .u64 0),(.lit .u64 0),(.lit .u64 0),(.lit .u64 0),(.lit .u64 0),(.lit .u64 0),(.lit .u64 0),(.lit .u64 0),(.lit .u64 0),(.lit .u64 0),(.lit .u64 0),(.lit .u64 0),(.lit .u64 0),(.lit .u64 0),(.lit .u64 0),(.lit .u64 0),(.lit .u64 0),(.lit .u64 0),(.lit .u64 0),(.lit .u64 0),(.lit .u64 0),(.lit .u64 0),(.lit .u64 0),(.lit .u64 0),(.lit .u64 0),(.lit .u64 0),(.lit .u64 0),(.lit .u64 0),(.lit .u64 0),(.lit .u64 0),(.lit .u64 0),(.lit .u64 0),(.lit .u64 0),(.lit .u64 0),(.lit .u64 0),(.lit .u64 0),(.lit .u64 0),(.lit .u64 0),(.lit .u64 0),(.lit .u64 0),(.lit .u64 0),(.lit .u64 0),(.lit .u64 0),(.lit .u64 0),(.lit .u64 0),(.lit .u64 0),(.lit .u64 0),(.lit .u64 0),(.lit .u64 0),(.lit .u64 0),(.lit .u64 0),(.lit .u64 0),(.lit .u64 0),(.lit .u64 0),(.lit .u64 0),(.lit .u64 0),(.lit .u64 0)]),false⟩,.live ⟨true,145,0,(.row zc'),false⟩])))):=by kernel_rfl
theorem ahs (o:Fp12) (mF:Pg1->Pg2->Fp12) (hF:Fp12->Fp12->Fp12) (l:List Duo) (f:Fp12) (z:Int):cD (En (pdT o mF hF)) v9 100 Tryz.f109 (pdC.drop 4) (adL l f z) =
 (.leaf (some ((f,.t)))):=by kernel_rfl
noncomputable abbrev ckC:List Code:=flat (ae Tryz.f66)
def ckT (o:Fp12) (mF:Pg1->Pg2->Bool) (pF:List Duo->Fp12) (wF lF:Fp12->Fp12):cQ := [(110,K0 rF12.res o),(106,K2 kg1.arg kg2.arg kBool.rs.res mF),(109,K1 (ba .duo) rF12.res pF),(108,P9 wF),(107,P9 lF)]
def ae9 (l:List Duo) (z:Int):St:=ar 27 [(0,rwV .duo 0 l),(8,rwV .duo 0 l),(9,vI (l.length:Int)),(10,vI z)] [bz .duo l]
theorem ZF (o:Fp12) (mF:Pg1->Pg2->Bool) (pF:List Duo->Fp12) (wF lF:Fp12->Fp12) (l:List Duo):letI za':=0+l.length*38<=(ad RK.duo l).length/\0<38;HL (En (ckT o mF pF wF lF)) oB 100 Tryz.f66 (ckC.take 4) (ah Tryz.f66 [rwV .duo 0 l] [bz .duo l]) [0,8,9,10] [0] [(0,.as),(8,.as),(9,.int),(10,.int)] [.as] []=(.vc za' (.br (decide ((↑l.length:Int) > 20)) (.leaf (.inr (some ((false,.t))))) (.vc za' (.leaf (.inl (ar 27 [(0,.one (.c (.slc 0 0 (l.length) 38 (.of 0) false))),(8,.one (.c (.slc 0 0 (l.length) 38 (.of 0) false))),(9,.one (.c (.int .i64 ((↑l.length:Int))))),(10,.one (.c (.int .i64 0)))] [.live ⟨false,0,38,(.rows .duo (l:List Duo)),false⟩])))))):=by kernel_rfl
theorem ZG (o:Fp12) (mF:Pg1->Pg2->Bool) (pF:List Duo->Fp12) (wF lF:Fp12->Fp12) (l:List Duo) (z:Int):letI za':=(↑l.length:Int);gR (En (ckT o mF pF wF lF)) oB 300 Tryz.f66 [aP Tryz.f66 0] (ae9 l z) [0,8,9,10] [0]=(.br (decide (z<za')) (.vc ((0<=z/\z<za')/\0+l.length*38<=(ad RK.duo l).length/\0<38/\0=0) (.vc (0+z.toNat<l.length) (.br (!(mF (l.getD (0+z.toNat) { p:=dK,q:=BX }).p (l.getD (0+z.toNat) { p:=dK,q:=BX }).q)) (.leaf (.inr (some ((false,.t))))) (.leaf (.inl ((.normal,ar 27 [(0,.one (.c (.slc 0 0 (l.length) 38 (.of 0) false))),(8,.one (.c (.slc 0 0 (l.length) 38 (.of 0) false))),(9,.one (.c (.int .i64 (za')))),(10,.one (.c (.int .i64 (IntKind.i64.wrap (z+1)))))] [.live ⟨false,0,38,(.rows .duo (l:List Duo)),false⟩]))))))) (.leaf (.inl ((.exit 0,ar 27 [(0,.one (.c (.slc 0 0 (l.length) 38 (.of 0) false))),(8,.one (.c (.slc 0 0 (l.length) 38 (.of 0) false))),(9,.one (.c (.int .i64 (za')))),(10,.one (.c (.int .i64 (z))))] [.live ⟨false,0,38,(.rows .duo (l:List Duo)),false⟩]))))):=by kernel_rfl
theorem aiD (o:Fp12) (mF:Pg1->Pg2->Bool) (pF:List Duo->Fp12) (wF lF:Fp12->Fp12) (l:List Duo) (z:Int):letI za':=lF (wF (pF (List.take l.length (List.drop 0 l))));cD (En (ckT o mF pF wF lF)) oB 100 Tryz.f66 (ckC.drop 5) (ae9 l z)=(.vc (0+l.length*38<=(ad RK.duo l).length/\0=0/\l.length<1125899906842624/\0=0/\38=38) (.leaf (some ((za'.c0.c0.c0.l0==o.c0.c0.c0.l0 && (za'.c0.c0.c0.l1==o.c0.c0.c0.l1 && (za'.c0.c0.c0.l2==o.c0.c0.c0.l2 && (za'.c0.c0.c0.l3==o.c0.c0.c0.l3 && (za'.c0.c0.c0.l4==o.c0.c0.c0.l4 && (za'.c0.c0.c0.l5==o.c0.c0.c0.l5 && true))))) && (za'.c0.c0.c1.l0==o.c0.c0.c1.l0 && (za'.c0.c0.c1.l1==o.c0.c0.c1.l1 && (za'.c0.c0.c1.l2==o.c0.c0.c1.l2 && (za'.c0.c0.c1.l3==o.c0.c0.c1.l3 && (za'.c0.c0.c1.l4==o.c0.c0.c1.l4 && (za'.c0.c0.c1.l5==o.c0.c0.c1.l5 && true))))) && true) && (za'.c0.c1.c0.l0==o.c0.c1.c0.l0 && (za'.c0.c1.c0.l1==o.c0.c1.c0.l1 && (za'.c0.c1.c0.l2==o.c0.c1.c0.l2 && (za'.c0.c1.c0.l3==o.c0.c1.c0.l3 && (za'.c0.c1.c0.l4==o.c0.c1.c0.l4 && (za'.c0.c1.c0.l5==o.c0.c1.c0.l5 && true))))) && (za'.c0.c1.c1.l0==o.c0.c1.c1.l0 && (za'.c0.c1.c1.l1==o.c0.c1.c1.l1 && (za'.c0.c1.c1.l2==o.c0.c1.c1.l2 && (za'.c0.c1.c1.l3==o.c0.c1.c1.l3 && (za'.c0.c1.c1.l4==o.c0.c1.c1.l4 && (za'.c0.c1.c1.l5==o.c0.c1.c1.l5 && true))))) && true) && (za'.c0.c2.c0.l0==o.c0.c2.c0.l0 && (za'.c0.c2.c0.l1==o.c0.c2.c0.l1 && (za'.c0.c2.c0.l2==o.c0.c2.c0.l2 && (za'.c0.c2.c0.l3==o.c0.c2.c0.l3 && (za'.c0.c2.c0.l4==o.c0.c2.c0.l4 && (za'.c0.c2.c0.l5==o.c0.c2.c0.l5 && true))))) && (za'.c0.c2.c1.l0==o.c0.c2.c1.l0 && (za'.c0.c2.c1.l1==o.c0.c2.c1.l1 && (za'.c0.c2.c1.l2==o.c0.c2.c1.l2 && (za'.c0.c2.c1.l3==o.c0.c2.c1.l3 && (za'.c0.c2.c1.l4==o.c0.c2.c1.l4 && (za'.c0.c2.c1.l5==o.c0.c2.c1.l5 && true))))) && true) && true)) && (za'.c1.c0.c0.l0==o.c1.c0.c0.l0 && (za'.c1.c0.c0.l1==o.c1.c0.c0.l1 && (za'.c1.c0.c0.l2==o.c1.c0.c0.l2 && (za'.c1.c0.c0.l3==o.c1.c0.c0.l3 && (za'.c1.c0.c0.l4==o.c1.c0.c0.l4 && (za'.c1.c0.c0.l5==o.c1.c0.c0.l5 && true))))) && (za'.c1.c0.c1.l0==o.c1.c0.c1.l0 && (za'.c1.c0.c1.l1==o.c1.c0.c1.l1 && (za'.c1.c0.c1.l2==o.c1.c0.c1.l2 && (za'.c1.c0.c1.l3==o.c1.c0.c1.l3 && (za'.c1.c0.c1.l4==o.c1.c0.c1.l4 && (za'.c1.c0.c1.l5==o.c1.c0.c1.l5 && true))))) && true) && (za'.c1.c1.c0.l0==o.c1.c1.c0.l0 && (za'.c1.c1.c0.l1==o.c1.c1.c0.l1 && (za'.c1.c1.c0.l2==o.c1.c1.c0.l2 && (za'.c1.c1.c0.l3==o.c1.c1.c0.l3 && (za'.c1.c1.c0.l4==o.c1.c1.c0.l4 && (za'.c1.c1.c0.l5==o.c1.c1.c0.l5 && true))))) && (za'.c1.c1.c1.l0==o.c1.c1.c1.l0 && (za'.c1.c1.c1.l1==o.c1.c1.c1.l1 && (za'.c1.c1.c1.l2==o.c1.c1.c1.l2 && (za'.c1.c1.c1.l3==o.c1.c1.c1.l3 && (za'.c1.c1.c1.l4==o.c1.c1.c1.l4 && (za'.c1.c1.c1.l5==o.c1.c1.c1.l5 && true))))) && true) && (za'.c1.c2.c0.l0==o.c1.c2.c0.l0 && (za'.c1.c2.c0.l1==o.c1.c2.c0.l1 && (za'.c1.c2.c0.l2==o.c1.c2.c0.l2 && (za'.c1.c2.c0.l3==o.c1.c2.c0.l3 && (za'.c1.c2.c0.l4==o.c1.c2.c0.l4 && (za'.c1.c2.c0.l5==o.c1.c2.c0.l5 && true))))) && (za'.c1.c2.c1.l0==o.c1.c2.c1.l0 && (za'.c1.c2.c1.l1==o.c1.c2.c1.l1 && (za'.c1.c2.c1.l2==o.c1.c2.c1.l2 && (za'.c1.c2.c1.l3==o.c1.c2.c1.l3 && (za'.c1.c2.c1.l4==o.c1.c2.c1.l4 && (za'.c1.c2.c1.l5==o.c1.c2.c1.l5 && true))))) && true) && true)) && true),.t))))):=by kernel_rfl
end
set_option maxRecDepth 100000
section
theorem CB {α:Type} (l:List α) {i:Nat} (h:i<l.length) (d:α):l.drop i=l.getD i d :: l.drop (i+1):=by
 rw [List.drop_eq_getElem_cons h,List.getD_eq_getElem?_getD,List.getElem?_eq_getElem h]
 rfl
section
variable (o : Fp12) (mF : Pg1 -> Pg2 -> Fp12) (hF : Fp12 -> Fp12 -> Fp12)
def Fi (x:Duo) (f:Fp12):Fp12:=match !x.p.inf with
 | true=>match !x.q.inf with
  | true=>hF f (mF x.p x.q)
  | false=>f
 | false=>f
def sA:List Duo->Fp12->Fp12
 | [],f=>f
 | x :: l,f=>sA l (Fi mF hF x f)
theorem xD (x:Duo) (l:List Duo) (f:Fp12):sA mF hF (x :: l) f=sA mF hF l (Fi mF hF x f):=rfl
abbrev PdQ (l:List Duo):Type := { s:Nat × Fp12 // s.1<=l.length/\sA mF hF (l.drop s.1) s.2=sA mF hF l o }
def pdI (l:List Duo) (s:PdQ o mF hF l):St:=adL l s.1.2 (s.1.1:Int)
theorem Di (hE:EnvOk (En (pdT o mF hF))) (l:List Duo) (hl:l.length<aW):DoesL (En (pdT o mF hF)) pdC (ah Tryz.f109 [rwV .duo 0 l] [bz .duo l])
  (EndsAs (En (pdT o mF hF)) Tryz.f109 (bO v9 (sA mF hF l o))):=by
 have hl:l.length<1125899906842624:=hl
 refine DoesL.stageG hE 100 3 _ _ _ _ _ (Xb o mF hF l) ⟨zd l,fun _ => ?_⟩
 refine (?_:DoesL _ _ (adL l o ((0:Nat):Int)) _)
 refine DoesL.blockLoop (B:=aP Tryz.f109 0) (rest:=pdC.drop 4) (id:=0) (by kernel_rfl) (pdI o mF hF l) (fun s=>l.length-s.1.1) ⟨(0,o),Nat.zero_le _,rfl⟩ fun s => ?_
 obtain ⟨⟨i,f⟩,h0,h1⟩:=s
 simp only [] at h0 h1
 refine (?_:Does _ _ (adL l f (i:Int)) _)
 refine Does.round hE 300 _ (Xc o mF hF l f (i:Int)) ⟨fun h => ?_,fun h => ?_⟩
 ·simp only [decide_eq_true_eq] at h
  have hi:i<l.length:=by omega
  refine ⟨Ht hi,fun _=>⟨Hu hi,fun _ => ?_⟩⟩
  have hw:IntKind.i64.wrap ((i:Int)+1)=((i+1:Nat):Int):=(IntWalk.i64_in _ (by omega)).trans (by omega)
  have hd:=CB l hi (⟨dK,BX⟩:Duo)
  rw [hd] at h1
  have e0:0+(i:Int).toNat=i:=by omega
  rw [e0,hw]
  rw [xD] at h1
  unfold Fi at h1
  generalize l.getD i (⟨dK,BX⟩:Duo)=x at *
  refine ⟨fun h2=>⟨fun h3 => ?_,fun h3 => ?_⟩,fun h2 => ?_⟩
  ·rw [h2,h3] at h1
   exact ⟨⟨(i+1,hF f (mF x.p x.q)),hi,h1⟩,by show l.length-(i+1)<l.length-i;omega,rfl⟩
  ·rw [h2,h3] at h1
   exact ⟨⟨(i+1,f),hi,h1⟩,by show l.length-(i+1)<l.length-i;omega,rfl⟩
  ·rw [h2] at h1
   exact ⟨⟨(i+1,f),hi,h1⟩,by show l.length-(i+1)<l.length-i;omega,rfl⟩
 ·simp only [decide_eq_false_iff_not] at h
  obtain rfl:i=l.length:=by omega
  refine ⟨rfl,DoesL.ends hE 100 (ahs o mF hF l f _) ⟨.t,?_,trivial⟩⟩
  rw [<- h1,List.drop_length]
  rfl
end
def fX (l:List Duo):Fp12:=sA eE ax l prOne
theorem KJ:CallOk Tryz.prog 109 (K1 (ba .duo) rF12.res fX) :=
 G1 (E:=En (pdT prOne eE ax)) Tryz.func109 (c:=ae Tryz.f109) (by kernel_rfl) (ab Tryz.func109 (by kernel_rfl) (by kernel_rfl)) (gA .duo) v9 fX fun l hl =>
  Di prOne eE ax (aj (.cons H5 (.cons SN (.cons mU .nil)))) l hl
section
variable (o : Fp12) (mF : Pg1 -> Pg2 -> Bool) (pF : List Duo -> Fp12) (wF lF : Fp12 -> Fp12)
def jB:List Duo->Bool
 | []=>true
 | x :: l=>match !(mF x.p x.q) with
  | true=>false
  | false=>jB l
theorem u7 (x:Duo) (l:List Duo):jB mF (x :: l)=match !(mF x.p x.q) with | true=>false | false=>jB mF l:=rfl
def sa (l:List Duo):Bool:=match decide ((l.length:Int) > 20) with
 | true=>false
 | false=>match jB mF l with
  | false=>false
  | true=>r9 (lF (wF (pF l))) o
abbrev CkQ (l:List Duo):Type := { i:Nat // i<=l.length/\jB mF (l.drop i)=jB mF l }
def ckI (l:List Duo) (i:CkQ mF l):St:=ae9 l (i.1:Int)
theorem MN (hE:EnvOk (En (ckT o mF pF wF lF))) (l:List Duo) (hl:l.length<aW):DoesL (En (ckT o mF pF wF lF)) ckC (ah Tryz.f66 [rwV .duo 0 l] [bz .duo l])
  (EndsAs (En (ckT o mF pF wF lF)) Tryz.f66 (bO oB (sa o mF pF wF lF l))):=by
 have hl:l.length<1125899906842624:=hl
 refine DoesL.seg hE 100 4 _ _ _ _ _ (ZF o mF pF wF lF l) ⟨zd l,fun _=>⟨fun h => ?_,fun h=>⟨zd l,fun _ => ?_⟩⟩⟩
 ·exact ⟨.t,by unfold sa;rw [h],trivial⟩
 have hc:sa o mF pF wF lF l=match jB mF l with | false=>false | true=>r9 (lF (wF (pF l))) o:=by unfold sa;rw [h]
 refine (?_:DoesL _ _ (ae9 l ((0:Nat):Int)) _)
 refine DoesL.blockLoopR (B:=aP Tryz.f66 0) (rest:=ckC.drop 5) (id:=0) (by kernel_rfl) (ckI mF l) (fun i=>l.length-i.1) ⟨0,Nat.zero_le _,rfl⟩ fun s => ?_
 obtain ⟨i,h0,h1⟩:=s
 refine (?_:DoesL _ _ (ae9 l (i:Int)) _)
 refine DoesL.iter hE 300 _ _ (ZG o mF pF wF lF l (i:Int)) ⟨fun h => ?_,fun h => ?_⟩
 ·simp only [decide_eq_true_eq] at h
  have hi:i<l.length:=by omega
  refine ⟨Ht hi,fun _=>⟨Hu hi,fun _ => ?_⟩⟩
  have hw:IntKind.i64.wrap ((i:Int)+1)=((i+1:Nat):Int):=(IntWalk.i64_in _ (by omega)).trans (by omega)
  have hd:=CB l hi (⟨dK,BX⟩:Duo)
  rw [hd] at h1
  have e0:0+(i:Int).toNat=i:=by omega
  rw [e0,hw]
  rw [u7] at h1
  generalize l.getD i (⟨dK,BX⟩:Duo)=x at *
  refine ⟨fun h2 => ?_,fun h2 => ?_⟩
  ·rw [h2] at h1
   have h1:false=jB mF l:=h1
   exact ⟨.t,by rw [hc,<- h1],trivial⟩
  ·rw [h2] at h1
   exact ⟨⟨i+1,hi,h1⟩,by show l.length-(i+1)<l.length-i;omega,rfl⟩
 ·simp only [decide_eq_false_iff_not] at h
  obtain rfl:i=l.length:=by omega
  rw [List.drop_length] at h1
  have h1:true=jB mF l:=h1
  refine ⟨rfl,DoesL.ends hE 100 (aiD o mF pF wF lF l _) ⟨Vq hl,fun _=>⟨.t,?_,trivial⟩⟩⟩
  rw [hc,<- h1,CW rfl]
  rfl
end
def gH (l:List Duo):Bool:=sa fg qX fX lq fj l
theorem KR:CallOk Tryz.prog 66 (K1 (ba .duo) kBool.rs.res gH) :=
 G1 (E:=En (ckT fg qX fX lq fj)) Tryz.func66 (c:=ae Tryz.f66) (by kernel_rfl) (ab Tryz.func66 (by kernel_rfl) (by kernel_rfl)) (gA .duo) oB gH fun l hl =>
  MN fg qX fX lq fj (aj (.cons uh (.cons WQ (.cons KJ (.cons WS (.cons B7 .nil)))))) l hl
end
section
def J0 (pl:Sp1->Sp1->Sp1) (s:Sp1):Nat->Sp1
 | 0=>dF
 | i+1=>pl (J0 pl s i) s
def mH (pl:Sp1->Sp1->Sp1) (s:Sp1):Tab .sp1:=⟨ke (J0 pl s),rfl⟩
theorem VO (pl:Sp1->Sp1->Sp1) (s:Sp1):ac (En [(92,K2 ks1.arg ks1.arg ks1.rs.res pl)]) (aa (Tab .sp1)).rs 300 Tryz.f88 [.one (ks1.av s)] = .leaf (some (mH pl s)):=by kernel_rfl
theorem JZ:CallOk Tryz.prog 88 (K1 ks1.arg (aa (Tab .sp1)).rs.res (mH aR)) :=
 P1 (E:=En [(92,K2 ks1.arg ks1.arg ks1.rs.res aR)]) (aj (.cons ud .nil)) Tryz.func88 (ab Tryz.func88 (by kernel_rfl) (by kernel_rfl)) 300 ks1 (aa (Tab .sp1)).rs (mH aR) (fun s=>VO aR s) (fun s=>Tree.sat_leaf rfl)
noncomputable abbrev sum1C:List Code:=flat (aC Tryz.f55)
noncomputable abbrev UK (k:Nat):Code:=aP Tryz.f55 k
def sn (lf:Pg1->Sp1) (tb:Sp1->Tab .sp1) (tw:Sp1->Sp1) (pl:Sp1->Sp1->Sp1) (ly:Sp1->Pg1):cQ := [(89,K1 kg1.arg ks1.rs.res lf),(88,K1 ks1.arg (aa (Tab .sp1)).rs.res tb),(91,K1 ks1.arg ks1.rs.res tw),(92,K2 ks1.arg ks1.arg ks1.rs.res pl),(90,K1 ks1.arg kg1.rs.res ly)]
def pE:List Cell:=bJ 12 ++ [.ff]
theorem J5 (T:cQ) (ps:List Pg1) (ks:List Fr):b7 (En T) 100 ((flat (ae Tryz.f55)).take 1) (ah Tryz.f55 [rwV .g1 0 ps,rwV .fr 1 ks] [bz .g1 ps,bz .fr ks]) [0,1,4] [0,1,2] = .leaf (ar 67 [(0,rwV .g1 0 ps),(1,rwV .fr 1 ks),(4,a8 2)] [bz .g1 ps,bz .fr ks,own 33 pE]):=by kernel_rfl
theorem J2 (lf:Pg1->Sp1) (tb:Sp1->Tab .sp1) (tw:Sp1->Sp1) (pl:Sp1->Sp1->Sp1) (ly:Sp1->Pg1) (ps:List Pg1) (ks:List Fr):letI za':=(if (↑ks.length:Int)<(↑ps.length:Int) then (↑ks.length:Int) else (↑ps.length:Int));letI zb':=ad RK.g1 ps;letI zc':=za'.toNat-0;letI zd':=(↑ks.length:Int);letI ze':=(↑ps.length:Int);stageG (En (sn lf tb tw pl ly)) 300 (sum1C.take 3) (ar 67 [(0,rwV .g1 0 ps),(1,rwV .fr 1 ks),(4,a8 2)] [bz .g1 ps,bz .fr ks,own 33 pE]) [0,1,4,5,6,19,20,21] [0,1,2] [(0,.as),(1,.as),(4,.as),(5,.int),(6,.nilE 3 288),(19,.slc),(20,.int),(21,.int)] [.as,.as,.as] [(123,.rowsM .sp1 15)]=(.vc (0+ps.length*13<=zb'.length/\0<13) (.vc (0+ks.length*4<=(ad RK.fr ks).length/\0<4) (.vc ((0<=if zd'<ze' then zd' else ze')/\0<=za'.toNat/\za'.toNat<=ps.length/\0+ps.length*13<=zb'.length/\0<13/\(0=0 \/ 0<za'.toNat)/\0=0/\13=13) (.vc (0+zc'*13<=zb'.length/\0<13) (.leaf (ar 67 [(0,.one (.c (.slc 0 0 (ps.length) 13 (.of 0) false))),(1,.one (.c (.slc 1 0 (ks.length) 4 (.of 0) false))),(4,.one (.c (.ptr 2 0))),(5,.one (.c (.int .i64 za'))),(6,.one (.c (.slc 3 0 0 288 (.of 0) false))),(19,.one (.c (.slc 0 0 zc' 13 (.of 0) false))),(20,.one (.c (.int .i64 ((↑zc':Int))))),(21,.one (.c (.int .i64 0)))] [.live ⟨false,0,13,(.rows .g1 (ps:List Pg1)),false⟩,.live ⟨false,0,4,(.rows .fr (ks:List Fr)),false⟩,.live ⟨true,33,0,(.row [(.lit .u64 0),(.lit .u64 0),(.lit .u64 0),(.lit .u64 0),(.lit .u64 0),(.lit .u64 0),(.lit .u64 0),(.lit .u64 0),(.lit .u64 0),(.lit .u64 0),(.lit .u64 0),(.lit .u64 0),.ff]),false⟩,.live ⟨true,123,288,(.rows .sp1 ([]:List Sp1)),false⟩])))))):=by kernel_rfl
def Ei (l:List Sp1):HE := .live ⟨true,123,288,.rows .sp1 l,false⟩
def vH (ps:List Pg1) (ks:List Fr) (n z:Int) (c:Nat) (tl:List Sp1):St:=ar 67 [(0,rwV .g1 0 ps),(1,rwV .fr 1 ks),(4,a8 2),(5,vI n),(6,.one (.c (.slc 3 0 c 288 (.of 0) false))),(19,.one (.c (.slc 0 0 n.toNat 13 (.of 0) false))),(20,vI n),(21,vI z)] [bz .g1 ps,bz .fr ks,own 33 pE,Ei tl]
theorem F6 (lf:Pg1->Sp1) (tb:Sp1->Tab .sp1) (tw:Sp1->Sp1) (pl:Sp1->Sp1->Sp1) (ly:Sp1->Pg1) (ps:List Pg1) (ks:List Fr) (n z:Int) (c:Nat) (tl:List Sp1):letI za':=tb (lf (ps.getD (0+z.toNat) dK));roundP (En (sn lf tb tw pl ly)) 300 (UK 0) (vH ps ks n z c tl) (dM [0,1,4,5,6,19,20,21] [0,1,2] [6])=(.br (decide (z<n)) (.vc ((0<=z/\z<(↑n.toNat:Int))/\0+n.toNat*13<=(ad RK.g1 ps).length/\0<13/\0=0) (.vc (0+z.toNat<ps.length) (.vc ((0+c*288<=(ad RK.sp1 tl).length/\0=0)/\c+1<=9223372036854775807/\(c+1)*2304<=140737488355328) (.leaf ((.normal,ar 67 [(0,.one (.c (.slc 0 0 (ps.length) 13 (.of 0) false))),(1,.one (.c (.slc 1 0 (ks.length) 4 (.of 0) false))),(4,.one (.c (.ptr 2 0))),(5,.one (.c (.int .i64 (n)))),(6,.one (.c (.slc 3 0 (c+1) 288 (.of 0) false))),(19,.one (.c (.slc 0 0 (n.toNat) 13 (.of 0) false))),(20,.one (.c (.int .i64 (n)))),(21,.one (.c (.int .i64 (IntKind.i64.wrap (z+1)))))] [.live ⟨false,0,13,(.rows .g1 (ps:List Pg1)),false⟩,.live ⟨false,0,4,(.rows .fr (ks:List Fr)),false⟩,.live ⟨true,33,0,(.row [(.lit .u64 0),(.lit .u64 0),(.lit .u64 0),(.lit .u64 0),(.lit .u64 0),(.lit .u64 0),(.lit .u64 0),(.lit .u64 0),(.lit .u64 0),(.lit .u64 0),(.lit .u64 0),(.lit .u64 0),.ff]),false⟩,.live ⟨true,123,288,(.rows .sp1 (List.take (jc c (288 / 18)) (List.drop 0 tl) ++ [za'.xs.getD 0 { x:=fp0,y:=fp0,z:=fp0 },za'.xs.getD 1 { x:=fp0,y:=fp0,z:=fp0 },za'.xs.getD 2 { x:=fp0,y:=fp0,z:=fp0 },za'.xs.getD 3 { x:=fp0,y:=fp0,z:=fp0 },za'.xs.getD 4 { x:=fp0,y:=fp0,z:=fp0 },za'.xs.getD 5 { x:=fp0,y:=fp0,z:=fp0 },za'.xs.getD 6 { x:=fp0,y:=fp0,z:=fp0 },za'.xs.getD 7 { x:=fp0,y:=fp0,z:=fp0 },za'.xs.getD 8 { x:=fp0,y:=fp0,z:=fp0 },za'.xs.getD 9 { x:=fp0,y:=fp0,z:=fp0 },za'.xs.getD 10 { x:=fp0,y:=fp0,z:=fp0 },za'.xs.getD 11 { x:=fp0,y:=fp0,z:=fp0 },za'.xs.getD 12 { x:=fp0,y:=fp0,z:=fp0 },za'.xs.getD 13 { x:=fp0,y:=fp0,z:=fp0 },za'.xs.getD 14 { x:=fp0,y:=fp0,z:=fp0 },za'.xs.getD 15 { x:=fp0,y:=fp0,z:=fp0 }]:List Sp1)),false⟩])))))) (.leaf ((.exit 0,ar 67 [(0,.one (.c (.slc 0 0 (ps.length) 13 (.of 0) false))),(1,.one (.c (.slc 1 0 (ks.length) 4 (.of 0) false))),(4,.one (.c (.ptr 2 0))),(5,.one (.c (.int .i64 (n)))),(6,.one (.c (.slc 3 0 (c) 288 (.of 0) false))),(19,.one (.c (.slc 0 0 (n.toNat) 13 (.of 0) false))),(20,.one (.c (.int .i64 (n)))),(21,.one (.c (.int .i64 (z))))] [.live ⟨false,0,13,(.rows .g1 (ps:List Pg1)),false⟩,.live ⟨false,0,4,(.rows .fr (ks:List Fr)),false⟩,.live ⟨true,33,0,(.row [(.lit .u64 0),(.lit .u64 0),(.lit .u64 0),(.lit .u64 0),(.lit .u64 0),(.lit .u64 0),(.lit .u64 0),(.lit .u64 0),(.lit .u64 0),(.lit .u64 0),(.lit .u64 0),(.lit .u64 0),.ff]),false⟩,.live ⟨true,123,288,(.rows .sp1 (tl:List Sp1)),false⟩])))):=by kernel_rfl
theorem VS (lf:Pg1->Sp1) (tb:Sp1->Tab .sp1) (tw:Sp1->Sp1) (pl:Sp1->Sp1->Sp1) (ly:Sp1->Pg1) (ps:List Pg1) (ks:List Fr) (n z:Int) (c:Nat) (tl:List Sp1):letI za':Fp := { l0:=UInt64.ofNat 0,l1:=UInt64.ofNat 0,l2:=UInt64.ofNat 0,l3:=UInt64.ofNat 0,l4:=UInt64.ofNat 0,l5:=UInt64.ofNat 0 };stageG (En (sn lf tb tw pl ly)) 300 ((sum1C.drop 4).take 3) (vH ps ks n z c tl) [1,4,5,6,9,10] [1,2,3,4] [(1,.as),(4,.as),(5,.as),(6,.as),(9,.as),(10,.int)] [.as,.as,.as,.one .sp1] []=(.leaf (ar 67 [(1,.one (.c (.slc 0 0 (ks.length) 4 (.of 0) false))),(4,.one (.c (.ptr 1 0))),(5,.one (.c (.int .i64 (n)))),(6,.one (.c (.slc 2 0 (c) 288 (.of 0) false))),(9,.one (.c (.ptr 3 0))),(10,.one (.c (.int .i64 256)))] [.live ⟨false,0,4,(.rows .fr (ks:List Fr)),false⟩,.live ⟨true,33,0,(.row [(.lit .u64 0),(.lit .u64 0),(.lit .u64 0),(.lit .u64 0),(.lit .u64 0),(.lit .u64 0),(.lit .u64 0),(.lit .u64 0),(.lit .u64 0),(.lit .u64 0),(.lit .u64 0),(.lit .u64 0),.ff]),false⟩,.live ⟨true,123,288,(.rows .sp1 (tl:List Sp1)),false⟩,.live ⟨true,122,0,(.row (Row.cs ({ x:=za',y:=za',z:=za' }:Sp1))),false⟩])):=by kernel_rfl
def rW (ks:List Fr) (n z:Int) (c:Nat) (tl:List Sp1) (o:Sp1):St:=ar 67 [(1,rwV .fr 0 ks),(4,a8 1),(5,vI n),(6,.one (.c (.slc 2 0 c 288 (.of 0) false))),(9,a8 3),(10,vI z)] [bz .fr ks,own 33 pE,Ei tl,own 122 (Row.cs o)]
theorem VQ (lf:Pg1->Sp1) (tb:Sp1->Tab .sp1) (tw:Sp1->Sp1) (pl:Sp1->Sp1->Sp1) (ly:Sp1->Pg1) (ks:List Fr) (n z:Int) (c:Nat) (tl:List Sp1) (o:Sp1):HL (En (sn lf tb tw pl ly)) kg1.rs.out 300 Tryz.f55 ((sum1C.drop 7).take 6) (rW ks n z c tl o) [1,4,5,6,9,10,43,44] [0,1,2,3] [(1,.as),(4,.as),(5,.as),(6,.as),(9,.as),(10,.as),(43,.as),(44,.int)] [.as,.as,.as,.as] []=(.br (decide (IntKind.i64.wrap (z-4)<0)) (.leaf (.inr (some ((ly o,.t))))) (.leaf (.inl (ar 67 [(1,.one (.c (.slc 0 0 (ks.length) 4 (.of 0) false))),(4,.one (.c (.ptr 1 0))),(5,.one (.c (.int .i64 (n)))),(6,.one (.c (.slc 2 0 (c) 288 (.of 0) false))),(9,.one (.c (.ptr 3 0))),(10,.one (.c (.int .i64 (IntKind.i64.wrap (z-4))))),(43,.one (.c (.int .i64 (n)))),(44,.one (.c (.int .i64 0)))] [.live ⟨false,0,4,(.rows .fr (ks:List Fr)),false⟩,.live ⟨true,33,0,(.row [(.lit .u64 0),(.lit .u64 0),(.lit .u64 0),(.lit .u64 0),(.lit .u64 0),(.lit .u64 0),(.lit .u64 0),(.lit .u64 0),(.lit .u64 0),(.lit .u64 0),(.lit .u64 0),(.lit .u64 0),.ff]),false⟩,.live ⟨true,123,288,(.rows .sp1 (tl:List Sp1)),false⟩,.live ⟨true,122,0,(.row (Row.cs (tw (tw (tw (tw o))):Sp1))),false⟩])))):=by kernel_rfl
def rV (ks:List Fr) (n z j:Int) (c:Nat) (tl:List Sp1) (o:Sp1):St:=ar 67 [(1,rwV .fr 0 ks),(4,a8 1),(5,vI n),(6,.one (.c (.slc 2 0 c 288 (.of 0) false))),(9,a8 3),(10,vI z),(43,vI n),(44,vI j)] [bz .fr ks,own 33 pE,Ei tl,own 122 (Row.cs o)]
def Vk (k:Fr) (z:Int):UInt64:=iY (k.limb (IntKind.i64.wrap (z.tdiv 64)).toNat) ((UInt64.ofNat (z.tmod 64 % 18446744073709551616).toNat).toNat:Int) % UInt64.ofNat 16
def fr0:Fr:=⟨0,0,0,0⟩
def sp0:Sp1:=⟨fp0,fp0,fp0⟩
theorem F5 (lf:Pg1->Sp1) (tb:Sp1->Tab .sp1) (tw:Sp1->Sp1) (pl:Sp1->Sp1->Sp1) (ly:Sp1->Pg1) (ks:List Fr) (n z j:Int) (c:Nat) (tl:List Sp1) (o:Sp1):letI za':=((Vk (ks.getD (0+j.toNat) fr0) z).toNat:Int);bk (En (sn lf tb tw pl ly)) 300 (UK 2) (rV ks n z j c tl o) (same [1,4,5,6,9,10,43,44] [0,1,2,3]) = .br (decide (j<n)) (.vc ((0<=j/\j<(ks.length:Int))/\0+ks.length*4<=(ad RK.fr ks).length/\0<4/\0=0) (.vc ((0<=IntKind.i64.wrap (z.tdiv 64)/\IntKind.i64.wrap (z.tdiv 64)<4)/\(0+j.toNat)*4<(ad RK.fr ks).length) (.vc (0+j.toNat<ks.length/\(IntKind.i64.wrap (z.tdiv 64)).toNat<4) (.vc ((0<=j/\j<(c:Int))/\0+c*288<=(ad RK.sp1 tl).length/\0<288/\0=0) (.vc ((0<=za'/\za'<16)/\(0+j.toNat)*288<(ad RK.sp1 tl).length) (.vc ((0+j.toNat)*16+za'.toNat<tl.length) (.leaf (.normal,rV ks n z (IntKind.i64.wrap (j+1)) c tl (pl o (tl.getD ((0+j.toNat)*16+za'.toNat) sp0)))))))))) (.leaf (.exit 4,rV ks n z j c tl o)):=by kernel_rfl
theorem QH (T:cQ) (ks:List Fr) (n z j:Int) (c:Nat) (tl:List Sp1) (o:Sp1):gR (En T) kg1.rs.out 100 Tryz.f55 [.goto 0] (rV ks n z j c tl o) [1,4,5,6,9,10] [0,1,2,3] = .leaf (.inl (.goto 0,rW ks n z c tl o)):=by kernel_rfl
theorem ae5 (k:Fr) (z:Int):(Vk k z).toNat<16:=by
 unfold Vk
 rw [UInt64.toNat_mod]
 exact Nat.mod_lt _ (by decide)
def mb (pl:Sp1->Sp1->Sp1) (tl:List Sp1) (ks:List Fr) (z:Int):Nat->Sp1->Sp1
 | 0,o=>o
 | j+1,o=>pl (mb pl tl ks z j o) (tl.getD (j*16+(Vk (ks.getD j fr0) z).toNat) sp0)
def np (tw:Sp1->Sp1) (pl:Sp1->Sp1->Sp1) (tl:List Sp1) (ks:List Fr) (n:Nat):Nat->Sp1->Sp1
 | 0,o=>o
 | m+1,o=>np tw pl tl ks n m (mb pl tl ks ((4*m:Nat):Int) n (tw (tw (tw (tw o)))))
def eM (f:Pg1->Tab .sp1) (ps:List Pg1):List Sp1:=ps.flatMap fun p=>(f p).xs
theorem tW (f:Pg1->Tab .sp1) : ∀ ps:List Pg1,(eM f ps).length=ps.length*16
 | []=>rfl
 | p :: ps=>by
  have:=tW f ps
  have h16:(f p).xs.length=16:=(f p).len
  simp only [eM,List.flatMap_cons,List.length_append,List.length_cons] at this ⊢
  rw [this,h16]
  omega
theorem JY (f:Pg1->Tab .sp1) (ps:List Pg1) (p:Pg1):eM f (ps ++ [p])=eM f ps++ke (fun i=>(f p).xs.getD i sp0):=by
 have:=Tab.cells (f p)
 simp only [eM,List.flatMap_append,List.flatMap_cons,List.flatMap_nil,List.append_nil]
 exact congrArg _ this.symm
abbrev aQ (ps:List Pg1) (ks:List Fr):Nat:=min ks.length ps.length
def jH (p:Pg1):Tab .sp1:=mH aR (dR p)
def dH (ps:List Pg1) (ks:List Fr):Pg1:=fk (np a9 aR (eM jH (ps.take (aQ ps ks))) ks (aQ ps ks) 64 dF)
theorem LK (a b:Nat):(if (a:Int)<(b:Int) then (a:Int) else (b:Int))=((min a b:Nat):Int):=by
 split <;> omega
theorem Vp (c:Nat) (tl:List Sp1) (h:tl.length=c*16):List.take (jc c 16) (List.drop 0 tl)=tl:=by
 rw [kU,List.drop_zero,<- h,List.take_length]
theorem zi:EnvOk (En (sn dR (mH aR) a9 aR fk)):=aj (.cons Cc (.cons JZ (.cons qO (.cons ud (.cons Tc .nil)))))
theorem J6 (ps:List Pg1) (ks:List Fr) (hp:ps.length<aW) (hk:ks.length<aW) (hs:aQ ps ks<4294967296) :
  DoesL (En (sn dR (mH aR) a9 aR fk)) (sum1C.take 7) (ar 67 [(0,rwV .g1 0 ps),(1,rwV .fr 1 ks),(4,a8 2)] [bz .g1 ps,bz .fr ks,own 33 pE])
   fun r=>match r.1 with | .normal=>r.2=rW ks (aQ ps ks:Nat) 256 (aQ ps ks) (eM jH (ps.take (aQ ps ks))) dF | _=>False:=by
 have hE:=zi
 have hN:aQ ps ks<=ps.length:=Nat.min_le_right _ _
 refine DoesL.stageG hE 300 3 _ _ _ _ _ ((congrArg (fun c=>stageG _ 300 c _ _ _ _ _ _) (List.take_take (i:=3) (j:=7) (l:=sum1C))).trans (J2 dR (mH aR) a9 aR fk ps ks)) ?_
 rw [LK]
 refine ⟨⟨by rw [fW];omega,by decide⟩,fun _=>⟨⟨by rw [aN];omega,by decide⟩,fun _=>⟨⟨by omega,by omega,by rw [Int.toNat_natCast];exact hN,by rw [fW];omega,by decide,.inl rfl,rfl,rfl⟩,fun _=>⟨⟨by rw [fW,Int.toNat_natCast,Nat.sub_zero];have:=Nat.mul_le_mul_right 13 hN;omega,by decide⟩,?_⟩⟩⟩⟩
 intro _
 show DoesL _ _ (vH ps ks ((aQ ps ks:Nat):Int) ((0:Nat):Int) 0 (eM jH (ps.take 0))) _
 refine DoesL.blockLoop (B:=UK 0) (rest:=(sum1C.take 7).drop 4) (id:=0) (by kernel_rfl) (fun j : { j:Nat // j<=aQ ps ks }=>vH ps ks ((aQ ps ks:Nat):Int) (j.1:Int) j.1 (eM jH (ps.take j.1))) (fun j=>aQ ps ks-j.1) ⟨0,Nat.zero_le _⟩ fun j => ?_
 obtain ⟨j,hj⟩:=j
 show Does _ _ (vH ps ks ((aQ ps ks:Nat):Int) (j:Int) j (eM jH (ps.take j))) _
 have hlen:(eM jH (ps.take j)).length=j*16:=by rw [tW,List.length_take,Nat.min_eq_left (by omega)]
 refine Does.roundP hE 300 _ (F6 dR (mH aR) a9 aR fk ps ks ((aQ ps ks:Nat):Int) (j:Int) j (eM jH (ps.take j))) ⟨fun h => ?_,fun h => ?_⟩
 ·simp only [decide_eq_true_eq] at h
  have hj1:j<aQ ps ks:=by omega
  refine ⟨⟨⟨by omega,by rw [Int.toNat_natCast];omega⟩,by rw [fW,Int.toNat_natCast];have:=Nat.mul_le_mul_right 13 hN;omega,by decide,rfl⟩,fun _=>⟨by rw [Int.toNat_natCast];omega,fun _=>⟨⟨⟨by rw [t9,hlen];omega,rfl⟩,by omega,by omega⟩,fun _ => ?_⟩⟩⟩
  refine ⟨⟨j+1,hj1⟩,by show aQ ps ks-(j+1)<aQ ps ks-j;omega,?_⟩
  rw [lT j (by omega),Int.toNat_natCast,Nat.zero_add,Vp j _ hlen]
  have e1:ps.take (j+1)=ps.take j ++ [ps.getD j dK]:=by
   rw [List.take_add_one,List.getD]
   rw [List.getElem?_eq_getElem (by omega)]
   rfl
  have e2:eM jH (ps.take (j+1))=eM jH (ps.take j)++ke (fun i=>(jH (ps.getD j dK)).xs.getD i sp0):=by rw [e1,JY]
  show _=vH ps ks ((aQ ps ks:Nat):Int) ((j+1:Nat):Int) (j+1) (eM jH (ps.take (j+1)))
  rw [e2]
  rfl
 ·simp only [decide_eq_false_iff_not] at h
  obtain rfl:j=aQ ps ks:=by omega
  refine ⟨rfl,?_⟩
  refine DoesL.stageG hE 300 3 _ _ _ _ _ ((congrArg (fun c=>stageG _ 300 c _ _ _ _ _ _) (show List.take 3 (List.drop 4 (List.take 7 sum1C))=(sum1C.drop 4).take 3 by kernel_rfl)).trans (VS dR (mH aR) a9 aR fk ps ks ((aQ ps ks:Nat):Int) ((aQ ps ks:Nat):Int) (aQ ps ks) (eM jH (ps.take (aQ ps ks))))) ?_
  exact ⟨_,Wk.refl _,rfl⟩
abbrev FP (ps:List Pg1) (ks:List Fr):Type := { q:Nat × Sp1 // q.1<=64/\fk (np a9 aR (eM jH (ps.take (aQ ps ks))) ks (aQ ps ks) q.1 q.2)=dH ps ks }
def J7 (ps:List Pg1) (ks:List Fr) (q:FP ps ks):St:=rW ks (aQ ps ks:Nat) ((4*q.1.1:Nat):Int) (aQ ps ks) (eM jH (ps.take (aQ ps ks))) q.1.2
def DQ (ps:List Pg1) (ks:List Fr):FP ps ks:=⟨(64,dF),Nat.le_refl _,by unfold dH;rfl⟩
theorem J4 (ps:List Pg1) (ks:List Fr):J7 ps ks (DQ ps ks)=rW ks (aQ ps ks:Nat) 256 (aQ ps ks) (eM jH (ps.take (aQ ps ks))) dF:=by
 unfold J7
 have e:((4*(DQ ps ks).1.1:Nat):Int)=256:=by
  show ((4*64:Nat):Int)=256
  decide
 rw [e]
 rfl
theorem J3 (ps:List Pg1) (ks:List Fr) (hp:ps.length<aW) (hk:ks.length<aW) (hf:ps.length<4294967296) (m:Nat) (hm:m<=64) (o:Sp1) (tl:List Sp1) (htl:eM jH (ps.take (aQ ps ks))=tl)
  (hq:fk (np a9 aR tl ks (aQ ps ks) m o)=dH ps ks) :
  DoesL (En (sn dR (mH aR) a9 aR fk)) (sum1C.drop 7) (rW ks (aQ ps ks:Nat) ((4*m:Nat):Int) (aQ ps ks) tl o)
   (Within (En (sn dR (mH aR) a9 aR fk)) Tryz.f55 kg1.rs.out (dH ps ks) (Wn fun r=>match r.1 with | .goto l'=>l'=0 /\ ∃ j:FP ps ks,j.1.1<m/\r.2=J7 ps ks j | _=>False)):=by
  have hE:=zi
  have hN:aQ ps ks<=ps.length:=Nat.min_le_right _ _
  have hK:aQ ps ks<=ks.length:=Nat.min_le_left _ _
  have hlen:tl.length=aQ ps ks*16:=by rw [<- htl,tW,List.length_take,Nat.min_eq_left hN]
  refine DoesL.segW hE 300 6 _ _ _ _ _ (VQ dR (mH aR) a9 aR fk ks ((aQ ps ks:Nat):Int) ((4*m:Nat):Int) (aQ ps ks) tl o) ?_
  rw [IntWalk.i64_in (((4*m:Nat):Int)-4) (by omega)]
  refine ⟨fun h => ?_,fun h => ?_⟩
  ·simp only [decide_eq_true_eq] at h
   obtain rfl:m=0:=by omega
   exact ⟨.t,by rw [<- hq];rfl,trivial⟩
  ·simp only [decide_eq_false_iff_not] at h
   obtain ⟨m',rfl⟩ : ∃ m',m=m'+1:=⟨m-1,by omega⟩
   rw [show ((4*(m'+1):Nat):Int)-4=((4*m':Nat):Int) by omega]
   simp only [np] at hq
   obtain ⟨o4,ho4⟩ : ∃ o4,a9 (a9 (a9 (a9 o)))=o4:=⟨_,rfl⟩
   rw [ho4] at hq ⊢
   show DoesL _ _ (rV ks (aQ ps ks:Nat) ((4*m':Nat):Int) ((0:Nat):Int) (aQ ps ks) tl (mb aR tl ks ((4*m':Nat):Int) 0 o4)) _
   refine DoesL.blockLoop (B:=UK 2) (rest := [.goto 0]) (id:=4) (by kernel_rfl) (fun j : { j:Nat // j<=aQ ps ks }=>rV ks (aQ ps ks:Nat) ((4*m':Nat):Int) (j.1:Int) (aQ ps ks) tl (mb aR tl ks ((4*m':Nat):Int) j.1 o4)) (fun j=>aQ ps ks-j.1) ⟨0,Nat.zero_le _⟩ fun j => ?_
   obtain ⟨j,hj⟩:=j
   show Does _ _ (rV ks (aQ ps ks:Nat) ((4*m':Nat):Int) (j:Int) (aQ ps ks) tl (mb aR tl ks ((4*m':Nat):Int) j o4)) _
   refine Does.round hE 300 _ (F5 dR (mH aR) a9 aR fk ks ((aQ ps ks:Nat):Int) ((4*m':Nat):Int) (j:Int) (aQ ps ks) tl (mb aR tl ks ((4*m':Nat):Int) j o4)) ⟨fun h => ?_,fun h => ?_⟩
   ·simp only [decide_eq_true_eq] at h
    have hj1:j<aQ ps ks:=by omega
    have hw:IntKind.i64.wrap (((4*m':Nat):Int).tdiv 64)=((4*m' / 64:Nat):Int):=by
     rw [show (((4*m':Nat):Int).tdiv 64)=((4*m' / 64:Nat):Int) from rfl]
     exact IntWalk.i64_in _ (by omega)
    have hd:=ae5 (ks.getD j fr0) ((4*m':Nat):Int)
    rw [show (0+((j:Nat):Int).toNat)=j by omega,Int.toNat_natCast]
    refine ⟨⟨⟨by omega,by omega⟩,by rw [aN];omega,by decide,rfl⟩,fun _=>⟨⟨⟨by rw [hw];omega,by rw [hw];omega⟩,by rw [aN];omega⟩,fun _=>⟨⟨by omega,by rw [hw,Int.toNat_natCast];omega⟩,fun _=>⟨⟨⟨by omega,by omega⟩,by rw [t9,hlen];omega,by decide,rfl⟩,fun _ => ?_⟩⟩⟩⟩
    refine ⟨⟨⟨by omega,?_⟩,by rw [t9,hlen];omega⟩,fun _=>⟨?_,fun _ => ?_⟩⟩
    ·omega
    ·rw [hlen]
     omega
    ·refine ⟨⟨j+1,hj1⟩,by show aQ ps ks-(j+1)<aQ ps ks-j;omega,?_⟩
     rw [lT j (by omega)]
     rw [mb]
   ·simp only [decide_eq_false_iff_not] at h
    obtain rfl:j=aQ ps ks:=by omega
    refine ⟨rfl,?_⟩
    refine DoesL.mono (DoesL.iter (o:=kg1.rs.out) (fn:=Tryz.f55) (x:=dH ps ks) (R:=fun r=>match r.1 with | .goto l'=>l'=0 /\ ∃ j:FP ps ks,j.1.1<m'+1/\r.2=J7 ps ks j | _=>False) hE 100 _ _ (QH _ ks _ _ _ _ _ _) ?_) fun r hr=>hr
    refine ⟨rfl,⟨(m',mb aR tl ks ((4*m':Nat):Int) (aQ ps ks) o4),by show m'<=64;omega,by rw [htl];exact hq⟩,Nat.lt_succ_self _,?_⟩
    exact congrArg (fun t=>rW ks (aQ ps ks:Nat) ((4*m':Nat):Int) (aQ ps ks) t (mb aR tl ks ((4*m':Nat):Int) (aQ ps ks) o4)) htl.symm
abbrev few (xs:List Pg1):Prop:=xs.length<4294967296
theorem zh:CallOk Tryz.prog 55 (K2 ((ba .g1).such few) (ba .fr) kg1.rs.res dH) :=
 Go.Proofs.YtgpafcehehaiiaaGreat.G2 (E:=En (sn dR (mH aR) a9 aR fk)) Tryz.func55 (c:=ae Tryz.f55) (by kernel_rfl) (ab Tryz.func55 (by kernel_rfl) (by kernel_rfl)) ((gA .g1).such few) (gA .fr) kg1.rs.out dH fun ps ks hp hk=>by
  have hE:=zi
  obtain ⟨hp,hf⟩:=hp
  have hp:ps.length<aW:=hp
  have hk:ks.length<aW:=hk
  have hf:ps.length<4294967296:=hf
  have hN:aQ ps ks<=ps.length:=Nat.min_le_right _ _
  have hK:aQ ps ks<=ks.length:=Nat.min_le_left _ _
  refine DoesL.stageE hE 100 1 [0,1,4] [0,1,2] (J5 _ ps ks) ?_
  refine DoesL.scopeFnG (body:=aC Tryz.f55) (rest:=mc Tryz.f55) (tail := []) (l:=0) hE (by kernel_rfl) (by kernel_rfl) 7 (by kernel_rfl) (J7 ps ks) (fun q=>q.1.1)
   (DQ ps ks) (by rw [J4];exact J6 ps ks hp hk (by omega)) fun q => ?_
  obtain ⟨⟨m,o⟩,hm,hq⟩:=q
  exact J3 ps ks hp hk hf m hm o _ rfl hq
end
section
abbrev kp6:Kd Fp6:=aa Fp6
noncomputable abbrev tmRC:List Code:=flat (ae Tryz.f75)
noncomputable abbrev ako:Code:=aP Tryz.f75 0
abbrev akh (F:Fp6->Fp6->Bool->Fp6):au:=K3 kp6.arg kp6.arg kBool.arg kp6.rs.res F
noncomputable abbrev acW (o:Fp6) (aF:Fp6->Fp6->Bool->Fp6) (bF:List UInt64->Nat->Bool):Env:=En [(119,K0 kp6.rs.res o),(73,akh aF),(121,akC bF)]
def UJ (e:List UInt64) (b:Bool) (p x:Fp6) (z:Int):St:=ar 30 [(1,inV 0 e),(2,.one (kBool.av b)),(3,a8 1),(6,a8 2),(7,a8 3),(8,vI z)] [dJ eU64 e,own 106 (Row.cs p),own 106 (bJ 36),own 106 (Row.cs x)]
theorem Qr (o:Fp6) (aF:Fp6->Fp6->Bool->Fp6) (bF:List UInt64->Nat->Bool) (p:Fp6) (e:List UInt64) (b:Bool):b7 (acW o aF bF) 100 (tmRC.take 3) (ah Tryz.f75 [.one (kp6.av p),iL.av 0 e,.one (kBool.av b)] [dJ eU64 e]) [1,2,3,6,7,8] [0,1,2,3]=(.vc (0+e.length*1<=(List.map EK.u64.cell e).length/\0<1) (.leaf (ar 30 [(1,.one (.c (.slc 0 0 (e.length) 1 (.of 0) false))),(2,.one (.c (.bool (b)))),(3,.one (.c (.ptr 1 0))),(6,.one (.c (.ptr 2 0))),(7,.one (.c (.ptr 3 0))),(8,.one (.c (.int .i64 (IntKind.i64.wrap (IntKind.i64.wrap (64*(↑e.length:Int))-1)))))] [.live ⟨false,0,1,(.elts .u64 (e:List UInt64)),false⟩,.live ⟨true,106,0,(.row (Row.cs (p:Fp6))),false⟩,.live ⟨true,106,0,(.row [(.lit .u64 0),(.lit .u64 0),(.lit .u64 0),(.lit .u64 0),(.lit .u64 0),(.lit .u64 0),(.lit .u64 0),(.lit .u64 0),(.lit .u64 0),(.lit .u64 0),(.lit .u64 0),(.lit .u64 0),(.lit .u64 0),(.lit .u64 0),(.lit .u64 0),(.lit .u64 0),(.lit .u64 0),(.lit .u64 0),(.lit .u64 0),(.lit .u64 0),(.lit .u64 0),(.lit .u64 0),(.lit .u64 0),(.lit .u64 0),(.lit .u64 0),(.lit .u64 0),(.lit .u64 0),(.lit .u64 0),(.lit .u64 0),(.lit .u64 0),(.lit .u64 0),(.lit .u64 0),(.lit .u64 0),(.lit .u64 0),(.lit .u64 0),(.lit .u64 0)]),false⟩,.live ⟨true,106,0,(.row (Row.cs (o:Fp6))),false⟩]))):=by kernel_rfl
theorem Qs (o:Fp6) (aF:Fp6->Fp6->Bool->Fp6) (bF:List UInt64->Nat->Bool) (p x:Fp6) (e:List UInt64) (b:Bool) (z:Int):letI za':=List.take e.length (List.drop 0 e);letI zb':=(Row.cs (p:Fp6));letI zc':=IntKind.i64.wrap (z-1);bk (acW o aF bF) 100 ako (UJ e b p x z) (same [1,2,3,6,7,8] [0,1,2,3])=(.br (decide (z >= 0)) (.vc (((0+e.length<=e.length/\e.length<1125899906842624/\0=0/\1=1)/\0<=z)/\acu za' z.toNat) (.br (bF za' z.toNat) (.leaf ((.normal,ar 30 [(1,.one (.c (.slc 0 0 (e.length) 1 (.of 0) false))),(2,.one (.c (.bool (b)))),(3,.one (.c (.ptr 1 0))),(6,.one (.c (.ptr 2 0))),(7,.one (.c (.ptr 3 0))),(8,.one (.c (.int .i64 zc')))] [.live ⟨false,0,1,(.elts .u64 (e:List UInt64)),false⟩,.live ⟨true,106,0,(.row zb'),false⟩,.live ⟨true,106,0,(.row [(.lit .u64 0),(.lit .u64 0),(.lit .u64 0),(.lit .u64 0),(.lit .u64 0),(.lit .u64 0),(.lit .u64 0),(.lit .u64 0),(.lit .u64 0),(.lit .u64 0),(.lit .u64 0),(.lit .u64 0),(.lit .u64 0),(.lit .u64 0),(.lit .u64 0),(.lit .u64 0),(.lit .u64 0),(.lit .u64 0),(.lit .u64 0),(.lit .u64 0),(.lit .u64 0),(.lit .u64 0),(.lit .u64 0),(.lit .u64 0),(.lit .u64 0),(.lit .u64 0),(.lit .u64 0),(.lit .u64 0),(.lit .u64 0),(.lit .u64 0),(.lit .u64 0),(.lit .u64 0),(.lit .u64 0),(.lit .u64 0),(.lit .u64 0),(.lit .u64 0)]),false⟩,.live ⟨true,106,0,(.row (Row.cs (aF (aF x x b) p b:Fp6))),false⟩]))) (.leaf ((.normal,ar 30 [(1,.one (.c (.slc 0 0 (e.length) 1 (.of 0) false))),(2,.one (.c (.bool (b)))),(3,.one (.c (.ptr 1 0))),(6,.one (.c (.ptr 2 0))),(7,.one (.c (.ptr 3 0))),(8,.one (.c (.int .i64 zc')))] [.live ⟨false,0,1,(.elts .u64 (e:List UInt64)),false⟩,.live ⟨true,106,0,(.row zb'),false⟩,.live ⟨true,106,0,(.row [(.lit .u64 0),(.lit .u64 0),(.lit .u64 0),(.lit .u64 0),(.lit .u64 0),(.lit .u64 0),(.lit .u64 0),(.lit .u64 0),(.lit .u64 0),(.lit .u64 0),(.lit .u64 0),(.lit .u64 0),(.lit .u64 0),(.lit .u64 0),(.lit .u64 0),(.lit .u64 0),(.lit .u64 0),(.lit .u64 0),(.lit .u64 0),(.lit .u64 0),(.lit .u64 0),(.lit .u64 0),(.lit .u64 0),(.lit .u64 0),(.lit .u64 0),(.lit .u64 0),(.lit .u64 0),(.lit .u64 0),(.lit .u64 0),(.lit .u64 0),(.lit .u64 0),(.lit .u64 0),(.lit .u64 0),(.lit .u64 0),(.lit .u64 0),(.lit .u64 0)]),false⟩,.live ⟨true,106,0,(.row (Row.cs (aF x x b:Fp6))),false⟩]))))) (.leaf ((.exit 0,ar 30 [(1,.one (.c (.slc 0 0 (e.length) 1 (.of 0) false))),(2,.one (.c (.bool (b)))),(3,.one (.c (.ptr 1 0))),(6,.one (.c (.ptr 2 0))),(7,.one (.c (.ptr 3 0))),(8,.one (.c (.int .i64 (z))))] [.live ⟨false,0,1,(.elts .u64 (e:List UInt64)),false⟩,.live ⟨true,106,0,(.row zb'),false⟩,.live ⟨true,106,0,(.row [(.lit .u64 0),(.lit .u64 0),(.lit .u64 0),(.lit .u64 0),(.lit .u64 0),(.lit .u64 0),(.lit .u64 0),(.lit .u64 0),(.lit .u64 0),(.lit .u64 0),(.lit .u64 0),(.lit .u64 0),(.lit .u64 0),(.lit .u64 0),(.lit .u64 0),(.lit .u64 0),(.lit .u64 0),(.lit .u64 0),(.lit .u64 0),(.lit .u64 0),(.lit .u64 0),(.lit .u64 0),(.lit .u64 0),(.lit .u64 0),(.lit .u64 0),(.lit .u64 0),(.lit .u64 0),(.lit .u64 0),(.lit .u64 0),(.lit .u64 0),(.lit .u64 0),(.lit .u64 0),(.lit .u64 0),(.lit .u64 0),(.lit .u64 0),(.lit .u64 0)]),false⟩,.live ⟨true,106,0,(.row (Row.cs (x:Fp6))),false⟩])))):=by kernel_rfl
theorem acV (o:Fp6) (aF:Fp6->Fp6->Bool->Fp6) (bF:List UInt64->Nat->Bool) (p x:Fp6) (e:List UInt64) (b:Bool) (z:Int):cD (acW o aF bF) kp6.rs.out 100 Tryz.f75 (tmRC.drop 4) (UJ e b p x z) =
 (.leaf (some ((x,.t)))):=by kernel_rfl
def jU (p:Fp6) (e:List UInt64) (b:Bool):Fp6:=vb (fun x=>jL x x b) (fun x=>jL x p b) e (64*e.length) jb
abbrev aka (p:Fp6) (e:List UInt64) (b:Bool):Type := { q:Int × Fp6 // -1<=q.1/\q.1<64*e.length/\vb (fun x=>jL x x b) (fun x=>jL x p b) e (q.1+1).toNat q.2=jU p e b }
theorem Bz:CallOk Tryz.prog 75 (K3 kp6.arg aL kBool.arg kp6.rs.res jU) :=
 Go.Proofs.YtgpafcehehaiiaaGreat.G3 (E:=acW jb jL df) Tryz.func75 (c:=ae Tryz.f75) (by kernel_rfl) (ab Tryz.func75 (by kernel_rfl) (by kernel_rfl)) kp6.inp iL kBool.inp kp6.rs.out jU fun p e b _ he _=>by
  have hE:EnvOk (acW jb jL df):=aj (.cons zF (.cons Z7 (.cons afg .nil)))
  have he:e.length<1125899906842624:=he
  refine DoesL.stageE hE 100 3 _ _ (Qr jb jL df p e b) ⟨pc e,fun _ => ?_⟩
  have hw:IntKind.i64.wrap (IntKind.i64.wrap (64*(e.length:Int))-1)=64*(e.length:Int)-1:=by rw [IntWalk.i64_in (64*(e.length:Int)) (by omega),IntWalk.i64_in _ (by omega)]
  rw [hw]
  refine DoesL.blockLoop (B:=ako) (rest:=tmRC.drop 4) (id:=0) (by kernel_rfl) (fun q:aka p e b=>UJ e b p q.1.2 q.1.1) (fun q=>(q.1.1+1).toNat) ⟨(64*(e.length:Int)-1,jb),by simp only [];omega,by simp only [];omega,by
   simp only []
   rw [show (64*(e.length:Int)-1+1).toNat=64*e.length by omega]
   simp only [jU]⟩ fun q => ?_
  obtain ⟨⟨z,x⟩,h0,h1,h2⟩:=q
  simp only [] at h0 h1 h2
  show Does _ _ (UJ e b p x z) _
  refine Does.round hE 100 _ (Qs jb jL df p x e b z) ⟨fun h => ?_,fun h => ?_⟩
  ·simp only [ge_iff_le,decide_eq_true_eq] at h
   obtain ⟨n,rfl⟩ : ∃ n:Nat,z=(n:Int):=⟨z.toNat,by omega⟩
   rw [jQ n (by omega),whole,Int.toNat_natCast]
   rw [show ((n:Int)+1).toNat=n+1 by omega] at h2
   simp only [vb] at h2
   refine ⟨⟨⟨OM he,by omega⟩,by show n<64*e.length;omega⟩,fun _=>⟨fun h3 => ?_,fun h3 => ?_⟩⟩
   all_goals
    have hn:((n:Int)-1+1).toNat=n:=by omega
    rw [h3] at h2
    simp only [] at h2
   ·refine ⟨⟨((n:Int)-1,jL (jL x x b) p b),?_,?_,?_⟩,?_,?_⟩
    ·show -1<=(n:Int)-1;omega
    ·show (n:Int)-1<64*e.length;omega
    ·simpa only [hn] using h2
    ·show ((n:Int)-1+1).toNat<((n:Int)+1).toNat;omega
    ·kernel_rfl
   ·refine ⟨⟨((n:Int)-1,jL x x b),?_,?_,?_⟩,?_,?_⟩
    ·show -1<=(n:Int)-1;omega
    ·show (n:Int)-1<64*e.length;omega
    ·simpa only [hn] using h2
    ·show ((n:Int)-1+1).toNat<((n:Int)+1).toNat;omega
    ·kernel_rfl
  ·simp only [ge_iff_le,decide_eq_false_iff_not] at h
   obtain rfl:z = -1:=by omega
   exact ⟨rfl,DoesL.ends hE 100 (acV jb jL df p x e b (-1)) (bB (by
    rw [show ((-1:Int)+1).toNat=0 from rfl] at h2
    simp only [vb] at h2
    exact h2))⟩
def tV (f0:Fp6->Pg1) (f1:Fp6->List UInt64->Bool->Fp6) (f2:Pg1->Fp6) (a:Pg1) (k:Fr):Pg1:=(f0 (f1 (f2 a) [k.l0,k.l1,k.l2,k.l3] true))
def BB (f0:Fp6->Pg1) (f1:Fp6->List UInt64->Bool->Fp6) (f2:Pg1->Fp6) (a:Pg1) (k:Fr):Tree (Option (Pg1)) :=
 (.leaf (some (f0 (f1 (f2 a) [k.l0,k.l1,k.l2,k.l3] true))))
theorem F3 (f0:Fp6->Pg1) (f1:Fp6->List UInt64->Bool->Fp6) (f2:Pg1->Fp6) (a:Pg1) (k:Fr):ac (En [(72,K1 (aa Fp6).arg (aa Pg1).rs.res f0),(75,K3 kp6.arg aL kBool.arg kp6.rs.res f1),(74,K1 (aa Pg1).arg (aa Fp6).rs.res f2)]) (aa Pg1).rs 300 Tryz.f36 [.one ((aa Pg1).av a),.one ((aa Fr).av k)]=BB f0 f1 f2 a k:=by kernel_rfl
theorem F2 (f0:Fp6->Pg1) (f1:Fp6->List UInt64->Bool->Fp6) (f2:Pg1->Fp6) (a:Pg1) (k:Fr):(BB f0 f1 f2 a k).sat fun q=>q=some (tV f0 f1 f2 a k):=(show some _=some _ from rfl)
def jh (a:Pg1) (k:Fr):Pg1:=tV Oe jU Vd a k
theorem JW:CallOk Tryz.prog 36 (K2 (aa Pg1).arg (aa Fr).arg (aa Pg1).rs.res jh) :=
 P2 (aj (.cons acU (.cons Bz (.cons ad8 .nil)))) Tryz.func36 (ab Tryz.func36 (by kernel_rfl) (by kernel_rfl)) 300 (aa Pg1) (aa Fr) (aa Pg1).rs jh (F3 Oe jU Vd) (F2 Oe jU Vd)
def tU (f0:Fp6->Pg2) (f1:Fp6->List UInt64->Bool->Fp6) (f2:Pg2->Fp6) (a:Pg2) (k:Fr):Pg2:=(f0 (f1 (f2 a) [k.l0,k.l1,k.l2,k.l3] false))
def BA (f0:Fp6->Pg2) (f1:Fp6->List UInt64->Bool->Fp6) (f2:Pg2->Fp6) (a:Pg2) (k:Fr):Tree (Option (Pg2)) :=
 (.leaf (some (f0 (f1 (f2 a) [k.l0,k.l1,k.l2,k.l3] false))))
theorem F0 (f0:Fp6->Pg2) (f1:Fp6->List UInt64->Bool->Fp6) (f2:Pg2->Fp6) (a:Pg2) (k:Fr):ac (En [(112,K1 (aa Fp6).arg (aa Pg2).rs.res f0),(75,K3 kp6.arg aL kBool.arg kp6.rs.res f1),(113,K1 (aa Pg2).arg (aa Fp6).rs.res f2)]) (aa Pg2).rs 300 Tryz.f69 [.one ((aa Pg2).av a),.one ((aa Fr).av k)]=BA f0 f1 f2 a k:=by kernel_rfl
theorem FZ (f0:Fp6->Pg2) (f1:Fp6->List UInt64->Bool->Fp6) (f2:Pg2->Fp6) (a:Pg2) (k:Fr):(BA f0 f1 f2 a k).sat fun q=>q=some (tU f0 f1 f2 a k):=(show some _=some _ from rfl)
def j7 (a:Pg2) (k:Fr):Pg2:=tU Od jU Vc a k
theorem JU:CallOk Tryz.prog 69 (K2 (aa Pg2).arg (aa Fr).arg (aa Pg2).rs.res j7) :=
 P2 (aj (.cons acR (.cons Bz (.cons ad4 .nil)))) Tryz.func69 (ab Tryz.func69 (by kernel_rfl) (by kernel_rfl)) 300 (aa Pg2) (aa Fr) (aa Pg2).rs j7 (F0 Od jU Vc) (FZ Od jU Vc)
end
set_option maxRecDepth 100000
section
def aaY (n:UInt64):Fr:=({ l0:=n,l1:=UInt64.ofNat 0,l2:=UInt64.ofNat 0,l3:=UInt64.ofNat 0 })
def aaX (n:UInt64):Tree (Option (Fr)) :=
 (.leaf (some ({ l0:=n,l1:=UInt64.ofNat 0,l2:=UInt64.ofNat 0,l3:=UInt64.ofNat 0 })))
theorem Xy (n:UInt64):ac (En []) (aa Fr).rs 300 Tryz.f46 [.one (kU64.av n)]=aaX n:=by kernel_rfl
theorem Xx (n:UInt64):(aaX n).sat fun q=>q=some (aaY n):=(show some _=some _ from rfl)
def kB (n:UInt64):Fr:=aaY  n
theorem th:CallOk Tryz.prog 46 (K1 kU64.arg (aa Fr).rs.res kB) :=
 P1 (aj .nil) Tryz.func46 (ab Tryz.func46 (by kernel_rfl) (by kernel_rfl)) 300 kU64 (aa Fr).rs kB (Xy ) (Xx )
def EL (f0:Pg1->Fr->Pg1) (f1:Pg1) (k:Fr):Pg1:=(f0 f1 k)
def PM (f0:Pg1->Fr->Pg1) (f1:Pg1) (k:Fr):Tree (Option (Pg1)) :=
 (.leaf (some (f0 f1 k)))
theorem T5 (f0:Pg1->Fr->Pg1) (f1:Pg1) (k:Fr):ac (En [(36,K2 (aa Pg1).arg (aa Fr).arg (aa Pg1).rs.res f0),(39,K0 (aa Pg1).rs.res f1)]) (aa Pg1).rs 300 Tryz.f32 [.one ((aa Fr).av k)]=PM f0 f1 k:=by kernel_rfl
theorem T4 (f0:Pg1->Fr->Pg1) (f1:Pg1) (k:Fr):(PM f0 f1 k).sat fun q=>q=some (EL f0 f1 k):=(show some _=some _ from rfl)
def ej (k:Fr):Pg1:=EL jh nX k
theorem Ah:CallOk Tryz.prog 32 (K1 (aa Fr).arg (aa Pg1).rs.res ej) :=
 P1 (aj (.cons JW (.cons I4 .nil))) Tryz.func32 (ab Tryz.func32 (by kernel_rfl) (by kernel_rfl)) 300 (aa Fr) (aa Pg1).rs ej (T5 jh nX) (T4 jh nX)
def EJ (f0:Pg2->Fr->Pg2) (f1:Pg2) (k:Fr):Pg2:=(f0 f1 k)
def PL (f0:Pg2->Fr->Pg2) (f1:Pg2) (k:Fr):Tree (Option (Pg2)) :=
 (.leaf (some (f0 f1 k)))
theorem TZ (f0:Pg2->Fr->Pg2) (f1:Pg2) (k:Fr):ac (En [(69,K2 (aa Pg2).arg (aa Fr).arg (aa Pg2).rs.res f0),(70,K0 (aa Pg2).rs.res f1)]) (aa Pg2).rs 300 Tryz.f31 [.one ((aa Fr).av k)]=PL f0 f1 k:=by kernel_rfl
theorem TY (f0:Pg2->Fr->Pg2) (f1:Pg2) (k:Fr):(PL f0 f1 k).sat fun q=>q=some (EJ f0 f1 k):=(show some _=some _ from rfl)
def n6 (k:Fr):Pg2:=EJ j7 Bl k
theorem Je:CallOk Tryz.prog 31 (K1 (aa Fr).arg (aa Pg2).rs.res n6) :=
 P1 (aj (.cons JU (.cons Y5 .nil))) Tryz.func31 (ab Tryz.func31 (by kernel_rfl) (by kernel_rfl)) 300 (aa Fr) (aa Pg2).rs n6 (TZ j7 Bl) (TY j7 Bl)
noncomputable abbrev poC:List Code:=flat (ae Tryz.f17)
noncomputable abbrev poE (hF:Fr->Pg2) (oF:UInt64->Fr) (gF:Fr->Pg1) (mF:Fr->Fr->Fr):Env:=En [(31,K1 (aa Fr).arg kg2.rs.res hF),(46,K1 kU64.arg r4.res oF),(32,K1 (aa Fr).arg kg1.rs.res gF),(29,Kr2 mF)]
abbrev oPow:Out (List Pg1 × Pg2):=ajF .g1 Pg2 33
def akK:List Cell := .nils :: (bJ 24 ++ [.ff])
def adH (x k:Fr) (t:Pg2) (n z:Int) (c:Nat) (l:List Pg1):St:=ar 28 [(1,vI n),(2,a8 0),(4,a8 1),(5,a8 2),(6,a8 3),(7,vI z)] [own 24 (Row.cs x),own 44 akK,own 44 (.slc 4 0 c 13 (.of 0) false :: Row.cs t),own 24 (Row.cs k),.live ⟨true,33,13,.rows .g1 l,false⟩]
theorem WZ (hF:Fr->Pg2) (oF:UInt64->Fr) (gF:Fr->Pg1) (mF:Fr->Fr->Fr) (x:Fr) (n:Int):stageN (poE hF oF gF mF) 100 (poC.take 4) (ah Tryz.f17 [v4 x,vI n] []) [1,2,4,5,6,7] [0,1,2,3] [(1,.as),(2,.as),(4,.as),(5,.as),(6,.as),(7,.int)] [] [] [(2,0,33,.rows .g1)]=(.leaf (ar 28 [(1,.one (.c (.int .i64 (n)))),(2,.one (.c (.ptr 0 0))),(4,.one (.c (.ptr 1 0))),(5,.one (.c (.ptr 2 0))),(6,.one (.c (.ptr 3 0))),(7,.one (.c (.int .i64 0)))] [.live ⟨true,24,0,(.row (Row.cs (x:Fr))),false⟩,.live ⟨true,44,0,(.row [.nils,(.lit .u64 0),(.lit .u64 0),(.lit .u64 0),(.lit .u64 0),(.lit .u64 0),(.lit .u64 0),(.lit .u64 0),(.lit .u64 0),(.lit .u64 0),(.lit .u64 0),(.lit .u64 0),(.lit .u64 0),(.lit .u64 0),(.lit .u64 0),(.lit .u64 0),(.lit .u64 0),(.lit .u64 0),(.lit .u64 0),(.lit .u64 0),(.lit .u64 0),(.lit .u64 0),(.lit .u64 0),(.lit .u64 0),(.lit .u64 0),.ff]),false⟩,.live ⟨true,44,0,(.row [(.slc 4 0 0 13 (.of 0) false),(.u64 ((hF x).x.c0.l0)),(.u64 ((hF x).x.c0.l1)),(.u64 ((hF x).x.c0.l2)),(.u64 ((hF x).x.c0.l3)),(.u64 ((hF x).x.c0.l4)),(.u64 ((hF x).x.c0.l5)),(.u64 ((hF x).x.c1.l0)),(.u64 ((hF x).x.c1.l1)),(.u64 ((hF x).x.c1.l2)),(.u64 ((hF x).x.c1.l3)),(.u64 ((hF x).x.c1.l4)),(.u64 ((hF x).x.c1.l5)),(.u64 ((hF x).y.c0.l0)),(.u64 ((hF x).y.c0.l1)),(.u64 ((hF x).y.c0.l2)),(.u64 ((hF x).y.c0.l3)),(.u64 ((hF x).y.c0.l4)),(.u64 ((hF x).y.c0.l5)),(.u64 ((hF x).y.c1.l0)),(.u64 ((hF x).y.c1.l1)),(.u64 ((hF x).y.c1.l2)),(.u64 ((hF x).y.c1.l3)),(.u64 ((hF x).y.c1.l4)),(.u64 ((hF x).y.c1.l5)),(.bool ((hF x).inf))]),false⟩,.live ⟨true,24,0,(.row (Row.cs (oF (UInt64.ofNat 1):Fr))),false⟩,.live ⟨true,33,13,(.rows .g1 ([]:List Pg1)),false⟩])):=by kernel_rfl
theorem W1 (hF:Fr->Pg2) (oF:UInt64->Fr) (gF:Fr->Pg1) (mF:Fr->Fr->Fr) (x k:Fr) (t:Pg2) (n z:Int) (c:Nat) (l:List Pg1):roundP (poE hF oF gF mF) 300 (aP Tryz.f17 0) (adH x k t n z c l) (Mq [1,2,4,5,6,7] [0,1,2,3] [] [2])=(.br (decide (z<n)) (.vc ((0+c*13<=(ad RK.g1 l).length/\0=0)/\c+1<=9223372036854775807/\(c+1)*104<=140737488355328) (.leaf ((.normal,ar 28 [(1,.one (.c (.int .i64 (n)))),(2,.one (.c (.ptr 0 0))),(4,.one (.c (.ptr 1 0))),(5,.one (.c (.ptr 2 0))),(6,.one (.c (.ptr 3 0))),(7,.one (.c (.int .i64 (IntKind.i64.wrap (z+1)))))] [.live ⟨true,24,0,(.row (Row.cs (x:Fr))),false⟩,.live ⟨true,44,0,(.row [.nils,(.lit .u64 0),(.lit .u64 0),(.lit .u64 0),(.lit .u64 0),(.lit .u64 0),(.lit .u64 0),(.lit .u64 0),(.lit .u64 0),(.lit .u64 0),(.lit .u64 0),(.lit .u64 0),(.lit .u64 0),(.lit .u64 0),(.lit .u64 0),(.lit .u64 0),(.lit .u64 0),(.lit .u64 0),(.lit .u64 0),(.lit .u64 0),(.lit .u64 0),(.lit .u64 0),(.lit .u64 0),(.lit .u64 0),(.lit .u64 0),.ff]),false⟩,.live ⟨true,44,0,(.row [(.slc 4 0 (c+1) 13 (.of 0) false),(.u64 (t.x.c0.l0)),(.u64 (t.x.c0.l1)),(.u64 (t.x.c0.l2)),(.u64 (t.x.c0.l3)),(.u64 (t.x.c0.l4)),(.u64 (t.x.c0.l5)),(.u64 (t.x.c1.l0)),(.u64 (t.x.c1.l1)),(.u64 (t.x.c1.l2)),(.u64 (t.x.c1.l3)),(.u64 (t.x.c1.l4)),(.u64 (t.x.c1.l5)),(.u64 (t.y.c0.l0)),(.u64 (t.y.c0.l1)),(.u64 (t.y.c0.l2)),(.u64 (t.y.c0.l3)),(.u64 (t.y.c0.l4)),(.u64 (t.y.c0.l5)),(.u64 (t.y.c1.l0)),(.u64 (t.y.c1.l1)),(.u64 (t.y.c1.l2)),(.u64 (t.y.c1.l3)),(.u64 (t.y.c1.l4)),(.u64 (t.y.c1.l5)),(.bool (t.inf))]),false⟩,.live ⟨true,24,0,(.row (Row.cs (mF k x:Fr))),false⟩,.live ⟨true,33,13,(.rows .g1 (List.take (jc c (13 / 13)) (List.drop 0 l) ++ [gF k]:List Pg1)),false⟩])))) (.leaf ((.exit 0,ar 28 [(1,.one (.c (.int .i64 (n)))),(2,.one (.c (.ptr 0 0))),(4,.one (.c (.ptr 1 0))),(5,.one (.c (.ptr 2 0))),(6,.one (.c (.ptr 3 0))),(7,.one (.c (.int .i64 (z))))] [.live ⟨true,24,0,(.row (Row.cs (x:Fr))),false⟩,.live ⟨true,44,0,(.row [.nils,(.lit .u64 0),(.lit .u64 0),(.lit .u64 0),(.lit .u64 0),(.lit .u64 0),(.lit .u64 0),(.lit .u64 0),(.lit .u64 0),(.lit .u64 0),(.lit .u64 0),(.lit .u64 0),(.lit .u64 0),(.lit .u64 0),(.lit .u64 0),(.lit .u64 0),(.lit .u64 0),(.lit .u64 0),(.lit .u64 0),(.lit .u64 0),(.lit .u64 0),(.lit .u64 0),(.lit .u64 0),(.lit .u64 0),(.lit .u64 0),.ff]),false⟩,.live ⟨true,44,0,(.row [(.slc 4 0 (c) 13 (.of 0) false),(.u64 (t.x.c0.l0)),(.u64 (t.x.c0.l1)),(.u64 (t.x.c0.l2)),(.u64 (t.x.c0.l3)),(.u64 (t.x.c0.l4)),(.u64 (t.x.c0.l5)),(.u64 (t.x.c1.l0)),(.u64 (t.x.c1.l1)),(.u64 (t.x.c1.l2)),(.u64 (t.x.c1.l3)),(.u64 (t.x.c1.l4)),(.u64 (t.x.c1.l5)),(.u64 (t.y.c0.l0)),(.u64 (t.y.c0.l1)),(.u64 (t.y.c0.l2)),(.u64 (t.y.c0.l3)),(.u64 (t.y.c0.l4)),(.u64 (t.y.c0.l5)),(.u64 (t.y.c1.l0)),(.u64 (t.y.c1.l1)),(.u64 (t.y.c1.l2)),(.u64 (t.y.c1.l3)),(.u64 (t.y.c1.l4)),(.u64 (t.y.c1.l5)),(.bool (t.inf))]),false⟩,.live ⟨true,24,0,(.row (Row.cs (k:Fr))),false⟩,.live ⟨true,33,13,(.rows .g1 (l:List Pg1)),false⟩])))):=by kernel_rfl
theorem ahp (hF:Fr->Pg2) (oF:UInt64->Fr) (gF:Fr->Pg1) (mF:Fr->Fr->Fr) (x k:Fr) (t:Pg2) (n z:Int) (c:Nat) (l:List Pg1):cD (poE hF oF gF mF) oPow 100 Tryz.f17 (poC.drop 5) (adH x k t n z c l)=(.leaf (some (((List.take c l,t),(.p (c<=l.length)))))):=by kernel_rfl
end
set_option maxRecDepth 100000
section
section
variable {hF : Fr -> Pg2} {oF : UInt64 -> Fr} {gF : Fr -> Pg1} {mF : Fr -> Fr -> Fr}
def Ee (o:Fr) (mF:Fr->Fr->Fr) (x:Fr):Nat->Fr
 | 0=>o
 | n+1=>mF (Ee o mF x n) x
theorem BV (o:Fr) (mF:Fr->Fr->Fr) (x:Fr) (n:Nat):Ee o mF x (n+1)=mF (Ee o mF x n) x:=rfl
def AI (o:Fr) (gF:Fr->Pg1) (mF:Fr->Fr->Fr) (x:Fr) (n:Nat):List Pg1:=(List.range n).map fun i=>gF (Ee o mF x i)
theorem Ia (o:Fr) (gF:Fr->Pg1) (mF:Fr->Fr->Fr) (x:Fr) (n:Nat):(AI o gF mF x n).length=n:=by unfold AI;rw [List.length_map,List.length_range]
theorem RJ (o:Fr) (gF:Fr->Pg1) (mF:Fr->Fr->Fr) (x:Fr) (n:Nat):AI o gF mF x (n+1)=AI o gF mF x n ++ [gF (Ee o mF x n)]:=by unfold AI;rw [List.range_succ,List.map_append];rfl
theorem adG (hE:EnvOk (poE hF oF gF mF)) (x:Fr) (n:Nat) (hn:n<65536):DoesL (poE hF oF gF mF) (flat (ae Tryz.f17)) (ah Tryz.f17 [v4 x,vI n] [])
  (EndsAs (poE hF oF gF mF) Tryz.f17 (bO oPow (AI (oF 1) gF mF x n,hF x))):=by
 have st:=WZ hF oF gF mF x n
 generalize hF x=t at *
 refine DoesL.stageN hE 100 4 _ _ _ _ _ _ st ?_
 refine (?_:DoesL _ _ (adH x (Ee (oF 1) mF x 0) t n ((0:Nat):Int) 0 (AI (oF 1) gF mF x 0)) _)
 refine DoesL.blockLoop (B:=aP Tryz.f17 0) (rest:=poC.drop 5) (id:=0) (by kernel_rfl) (fun j : { j:Nat // j<=n }=>adH x (Ee (oF 1) mF x j.1) t n (j.1:Int) j.1 (AI (oF 1) gF mF x j.1)) (fun j=>n-j.1) ⟨0,Nat.zero_le _⟩ fun j => ?_
 obtain ⟨j,hj⟩:=j
 refine (?_:Does _ _ (adH x (Ee (oF 1) mF x j) t n (j:Int) j (AI (oF 1) gF mF x j)) _)
 have hlen:=Ia (oF 1) gF mF x j
 refine Does.roundP hE 300 _ (W1 hF oF gF mF x (Ee (oF 1) mF x j) t n (j:Int) j (AI (oF 1) gF mF x j)) ⟨fun h => ?_,fun h => ?_⟩
 ·simp only [decide_eq_true_eq] at h
  refine ⟨⟨⟨by rw [fW,hlen];omega,rfl⟩,by omega,by omega⟩,fun _ => ?_⟩
  refine ⟨⟨j+1,by omega⟩,by show n-(j+1)<n-j;omega,?_⟩
  rw [qJ j (by omega),wQ hlen,<- RJ,<- BV (oF 1) mF x j]
  rfl
 ·simp only [decide_eq_false_iff_not] at h
  obtain rfl:j=n:=by omega
  refine ⟨rfl,DoesL.ends hE 100 (ahp hF oF gF mF x _ t _ _ _ _) ?_⟩
  rw [List.take_of_length_le (Nat.le_of_eq hlen)]
  exact ⟨_,rfl,Nat.le_of_eq hlen.symm⟩
end
def Mr (i:Int):Prop:=0<=i/\i<65536
def co (x:Fr) (n:Int):List Pg1 × Pg2:=(AI (kB 1) ej aw x n.toNat,n6 x)
theorem H9:CallOk Tryz.prog 17 (K2 (aa Fr).arg (kInt.arg.such Mr) oPow.res co) :=
 G2 (E:=poE n6 kB ej aw) Tryz.func17 (c:=ae Tryz.f17) (by kernel_rfl) (ab Tryz.func17 (by kernel_rfl) (by kernel_rfl)) (aa Fr).inp (kInt.inp.such Mr) oPow co fun x n _ hn=>by
  obtain ⟨h1,h2⟩:Mr n:=hn.2
  obtain ⟨m,rfl⟩ : ∃ m:Nat,n=(m:Int):=⟨n.toNat,by omega⟩
  exact adG (aj (.cons Je (.cons th (.cons Ah (.cons qk .nil))))) x m (by omega)
abbrev Vi (p:List Pg1 × Pg2):Prop:=few p.1
abbrev A4:Arg (List Pg1 × Pg2):=(agw .g1 Pg2).such Vi
abbrev iPow:Inp (List Pg1 × Pg2):=(UU .g1 Pg2).such Vi
def jX (f0:List Fr->List Fr) (f1:List Pg1->List Fr->Pg1) (p:List Pg1 × Pg2) (f:List Fr):Tree (Option ((Pg1 × Int) × Pr)):=letI za':=f0 (List.take f.length (List.drop 0 f));letI zb':Fp := { l0:=UInt64.ofNat 0,l1:=UInt64.ofNat 0,l2:=UInt64.ofNat 0,l3:=UInt64.ofNat 0,l4:=UInt64.ofNat 0,l5:=UInt64.ofNat 0 };letI zc':=List.take p.fst.length (List.drop 0 p.fst);
 (.vc ((0+f.length*4<=(ad RK.fr f).length/\0=0/\f.length<1125899906842624/\0=0/\4=4)/\bQ (List.take f.length (List.drop 0 f))) (.vc (0+za'.length*4<=(ad RK.fr za').length/\0<4) (.vc (0+p.fst.length*13<=(ad RK.g1 p.fst).length/\0<13) (.br (decide ((↑za'.length:Int) > (↑p.fst.length:Int))) (.leaf (some ((({ x:=zb',y:=zb',inf:=false },8),.t)))) (.vc (((0+p.fst.length*13<=(ad RK.g1 p.fst).length/\0=0/\p.fst.length<1125899906842624/\0=0/\13=13)/\few zc')/\0+za'.length*4<=(ad RK.fr za').length/\0=0/\za'.length<1125899906842624/\0=0/\4=4) (.leaf (some (((f1 zc' (List.take za'.length (List.drop 0 za')),0),.t)))))))))
theorem GA (f0:List Fr->List Fr) (f1:List Pg1->List Fr->Pg1) (p:List Pg1 × Pg2) (f:List Fr):cD (Ens [(54,CV f0),(55,K2 ((ba .g1).such few) (ba .fr) kg1.rs.res f1)] [54]) ((aa Pg1).rs2 kInt).out 300 Tryz.f23 (flat (ae Tryz.f23)) (ah Tryz.f23 [(UU .g1 Pg2).av 0 p,rwV .fr 1 f] [bz .g1 p.1,bz .fr f])=jX f0 f1 p f:=by kernel_rfl
def dD (p:List Pg1 × Pg2) (f:List Fr):Pg1 × Int:=(jX aO dH p f).outD (dK,0)
theorem GC (h : ∀ (p:List Pg1 × Pg2) (f:List Fr),iPow.fact p->iFew.fact f->(jX aO dH p f).full=true/\(jX aO dH p f).okAll):CallOk Tryz.prog 23 (K2 A4 bV ((aa Pg1).rs2 kInt).out.res dD) :=
 Go.Proofs.YtgpafcehehaiiaaGreat.G2 (E:=Ens [(54,CV aO),(55,K2 ((ba .g1).such few) (ba .fr) kg1.rs.res dH)] [54]) Tryz.func23 (c:=ae Tryz.f23) (by kernel_rfl) (ab Tryz.func23 (by kernel_rfl) (by kernel_rfl)) iPow iFew ((aa Pg1).rs2 kInt).out dD fun p f hp hf=>DoesL.outs (bn (.cons tf (.cons zh .nil))) 300 (dK,0) (GA aO dH p f) (h p f hp hf).1 (h p f hp hf).2
theorem en (f:List Fr):List.take f.length (List.drop 0 f)=f:=am rfl
theorem wL (f:List Pg1):List.take f.length (List.drop 0 f)=f:=uJ rfl
theorem sk {f:List Fr} (h:bQ f):(0+f.length*4<=(ad RK.fr f).length/\0=0/\f.length<1125899906842624/\0=0/\4=4)/\bQ (List.take f.length (List.drop 0 f)):=by
 rw [en]
 exact ⟨cj (Nat.lt_of_lt_of_le h (by decide)),h⟩
theorem M7 {f:List Fr} (h:bQ f):(0+f.length*4<=(ad RK.fr f).length/\0=0/\f.length<1125899906842624/\0=0/\4=4)/\bQ f:=⟨cj (Nat.lt_of_lt_of_le h (by decide)),h⟩
theorem An {f:List Pg1} (h:few f):(0+f.length*13<=(ad RK.g1 f).length/\0=0/\f.length<1125899906842624/\0=0/\13=13)/\few (List.take f.length (List.drop 0 f)):=by
 rw [wL]
 exact ⟨s7 (Nat.lt_of_lt_of_le h (by decide)),h⟩
theorem Zh {f:List Fr} (h:bQ f):bQ (aO f):=Nat.lt_of_le_of_lt (dE f) h
theorem L2:CallOk Tryz.prog 23 (K2 A4 bV ((aa Pg1).rs2 kInt).out.res dD):=GC fun p f hp hf=>by
 have hp:few p.1:=hp.2
 have hf:bQ f:=hf.2
 refine ⟨rfl,sk hf,?_⟩
 rw [en]
 exact ⟨bc _,pI _,fun _=>trivial,fun _=>⟨⟨An hp,cj (Nat.lt_of_lt_of_le (Zh hf) (by decide))⟩,trivial⟩⟩
def nz (f0:List Fr->List Fr) (f1:List Fr->Fr->List Fr × Fr) (f2:List Pg1 × Pg2->List Fr->Pg1 × Int) (p:List Pg1 × Pg2) (f:List Fr) (z:Fr):Tree (Option ((Fr × Pg1 × Int) × Pr)):=letI za':=List.take f.length (List.drop 0 f);letI zb':Fp := { l0:=UInt64.ofNat 0,l1:=UInt64.ofNat 0,l2:=UInt64.ofNat 0,l3:=UInt64.ofNat 0,l4:=UInt64.ofNat 0,l5:=UInt64.ofNat 0 };letI zc':=f2 (List.take p.fst.length (List.drop 0 p.fst),p.snd) (List.take (f1 za' z).fst.length (List.drop 0 (f1 za' z).fst));letI zd':=(0+f.length*4<=(ad RK.fr f).length/\0=0/\f.length<1125899906842624/\0=0/\4=4)/\bQ za';letI ze':Fr := { l0:=UInt64.ofNat 0,l1:=UInt64.ofNat 0,l2:=UInt64.ofNat 0,l3:=UInt64.ofNat 0 };
 (.vc zd' (.vc (0+(f0 za').length*4<=(ad RK.fr (f0 za')).length/\0<4) (.vc (0+p.fst.length*13<=(ad RK.g1 p.fst).length/\0<13) (.br (decide ((↑(f0 za').length:Int) > (↑p.fst.length:Int))) (.leaf (some (((ze',{ x:=zb',y:=zb',inf:=false },8),.t)))) (.vc zd' (.vc (((0+p.fst.length*13<=(ad RK.g1 p.fst).length/\0=0/\p.fst.length<1125899906842624/\0=0/\13=13)/\Vi (List.take p.fst.length (List.drop 0 p.fst),p.snd))/\(0+(f1 za' z).fst.length*4<=(ad RK.fr (f1 za' z).fst).length/\0=0/\(f1 za' z).fst.length<1125899906842624/\0=0/\4=4)/\bQ (List.take (f1 za' z).fst.length (List.drop 0 (f1 za' z).fst))) (.br (zc'.snd != 0) (.leaf (some (((ze',{ x:=zb',y:=zb',inf:=false },zc'.snd),.t)))) (.leaf (some ((((f1 za' z).snd,zc'.fst,0),.t)))))))))))
theorem Tf (f0:List Fr->List Fr) (f1:List Fr->Fr->List Fr × Fr) (f2:List Pg1 × Pg2->List Fr->Pg1 × Int) (p:List Pg1 × Pg2) (f:List Fr) (z:Fr):cD (Ens [(54,CV f0),(56,K2 bV (aa Fr).arg oLin.res f1),(23,K2 A4 bV ((aa Pg1).rs2 kInt).out.res f2)] [54,56]) ((aa Fr).rs3 (aa Pg1) kInt).out 300 Tryz.f24 (flat (ae Tryz.f24)) (ah Tryz.f24 [(UU .g1 Pg2).av 0 p,rwV .fr 1 f,.one ((aa Fr).av z)] [bz .g1 p.1,bz .fr f])=nz f0 f1 f2 p f z:=by kernel_rfl
def du (p:List Pg1 × Pg2) (f:List Fr) (z:Fr):Fr × Pg1 × Int:=(nz aO gV dD p f z).outD (⟨0,0,0,0⟩,dK,0)
theorem Tg (h : ∀ (p:List Pg1 × Pg2) (f:List Fr) (z:Fr),iPow.fact p->iFew.fact f->(nz aO gV dD p f z).full=true/\(nz aO gV dD p f z).okAll):CallOk Tryz.prog 24 (K3 A4 bV (aa Fr).arg ((aa Fr).rs3 (aa Pg1) kInt).out.res du) :=
 Go.Proofs.YtgpafcehehaiiaaGreat.G3 (E:=Ens [(54,CV aO),(56,K2 bV (aa Fr).arg oLin.res gV),(23,K2 A4 bV ((aa Pg1).rs2 kInt).out.res dD)] [54,56]) Tryz.func24 (c:=ae Tryz.f24) (by kernel_rfl) (ab Tryz.func24 (by kernel_rfl) (by kernel_rfl)) iPow iFew (aa Fr).inp ((aa Fr).rs3 (aa Pg1) kInt).out du fun p f z hp hf _=>by
  have hd:=DoesL.outs (bn (.cons tf (.cons aeB (.cons L2 .nil)))) 300 (⟨0,0,0,0⟩,dK,0) (Tf aO gV dD p f z) (h p f z hp hf).1 (h p f z hp hf).2
  rw [show du p f z=(nz aO gV dD p f z).outD (⟨0,0,0,0⟩,dK,0) from rfl]
  exact hd
theorem IN {aF mF:Fr->Fr->Fr} (xs:List Fr) (z:Fr) : ∀ n s,(Ca aF mF xs z n s).2.length=s.2.length
 | 0,s=>rfl
 | 1,s=>rfl
 | n+2,(r,q)=>by rw [um,IN xs z (n+1),List.length_set]
theorem zV (f:List Fr) (z:Fr):(gV f z).1.length<=f.length-1:=by
 unfold gV Vg
 refine Nat.le_trans (dE _) ?_
 rw [IN]
 unfold aK
 rw [List.length_replicate]
 exact Nat.le_refl _
theorem YA {f:List Fr} (h:bQ f) (z:Fr):bQ (gV f z).1:=Nat.lt_of_le_of_lt (zV f z) (Nat.lt_of_le_of_lt (Nat.sub_le _ _) h)
theorem YE:CallOk Tryz.prog 24 (K3 A4 bV (aa Fr).arg ((aa Fr).rs3 (aa Pg1) kInt).out.res du):=Tg fun p f z hp hf=>by
 have hp:few p.1:=hp.2
 have hf:bQ f:=hf.2
 refine ⟨rfl,sk hf,?_⟩
 rw [en]
 refine ⟨bc _,pI _,fun _=>trivial,fun _=>⟨M7 hf,?_⟩⟩
 rw [en,wL]
 exact ⟨⟨⟨s7 (Nat.lt_of_lt_of_le hp (by decide)),hp⟩,M7 (YA hf z)⟩,fun _=>trivial,fun _=>trivial⟩
end
set_option maxRecDepth 100000
section
def qB (f0:List Fr->Fr->Fr) (f1:Fr->Pg1) (tau:Fr) (f:List Fr):Tree (Option ((Pg1) × Pr)) :=
 (.vc (0+f.length*4<=(ad RK.fr f).length/\0=0/\f.length<1125899906842624/\0=0/\4=4)
  (.leaf (some ((f1 (f0 (List.take f.length (List.drop 0 f)) tau),.t)))))
theorem T7 (f0:List Fr->Fr->Fr) (f1:Fr->Pg1) (tau:Fr) (f:List Fr):cD (Ens [(26,K2 (ba .fr) (aa Fr).arg r4.res f0),(32,K1 (aa Fr).arg (aa Pg1).rs.res f1)] []) (aa Pg1).rs.out 300 Tryz.f19 (flat (ae Tryz.f19)) (ah Tryz.f19 [.one ((aa Fr).av tau),rwV .fr 0 f] [bz .fr f])=qB f0 f1 tau f:=by kernel_rfl
def lR (tau:Fr) (f:List Fr):Pg1:=(qB fC ej tau f).outD dK
theorem T8 (h : ∀ (tau:Fr) (f:List Fr),(gA .fr).fact f->(qB fC ej tau f).full=true/\(qB fC ej tau f).okAll):CallOk Tryz.prog 19 (K2 (aa Fr).arg (ba .fr) (aa Pg1).rs.out.res lR) :=
 Go.Proofs.YtgpafcehehaiiaaGreat.G2 (E:=Ens [(26,K2 (ba .fr) (aa Fr).arg r4.res fC),(32,K1 (aa Fr).arg (aa Pg1).rs.res ej)] []) Tryz.func19 (c:=ae Tryz.f19) (by kernel_rfl) (ab Tryz.func19 (by kernel_rfl) (by kernel_rfl)) (aa Fr).inp (gA .fr) (aa Pg1).rs.out lR fun tau f _ hf=>DoesL.outs (bn (.cons Eb (.cons Ah .nil))) 300 dK (T7 fC ej tau f) (h tau f hf).1 (h tau f hf).2
end
set_option maxRecDepth 100000
section
theorem adP (l:List Fr) (i:Int):cD (En []) r4.out 100 Tryz.f170 (flat (ae Tryz.f170)) (ah Tryz.f170 [rwV .fr 0 l,vI i] [bz .fr l])=(.vc (0+l.length*4<=(ad RK.fr l).length/\0<4) (.br (decide (i<(↑l.length:Int))) (.vc ((0<=i/\i<(↑l.length:Int))/\0+l.length*4<=(ad RK.fr l).length/\0<4/\0=0) (.vc (0+i.toNat<l.length) (.leaf (some ((l.getD (0+i.toNat) { l0:=0,l1:=0,l2:=0,l3:=0 },.t)))))) (.leaf (some (({ l0:=UInt64.ofNat 0,l1:=UInt64.ofNat 0,l2:=UInt64.ofNat 0,l3:=UInt64.ofNat 0 },.t)))))):=by kernel_rfl
noncomputable abbrev pbC:List Code:=flat (ae Tryz.f129)
abbrev aAt:Arg Int:=kInt.arg.such B4
noncomputable abbrev pbE (tF:List Fr->Int->Fr) (aF:Fr->Fr->Fr) (cF:List Fr->List Fr):Env:=Ens [(170,K2 (ba .fr) aAt r4.res tF),(85,Kr2 aF),(54,CV cF)] [54]
def aaO (l m:List Fr) (n z:Int) (c:Nat) (q:List Fr):St:=ar 34 [(0,rwV .fr 0 l),(1,rwV .fr 1 m),(2,.one ((kFn 85).av ())),(7,qT 2 c),(16,vI n),(17,vI z)] [bz .fr l,bz .fr m,eP q]
theorem Xg (tF:List Fr->Int->Fr) (aF:Fr->Fr->Fr) (cF:List Fr->List Fr) (l m:List Fr):letI za':=(if (↑m.length:Int) > (↑l.length:Int) then (↑m.length:Int) else (↑l.length:Int));letI zb':=(↑m.length:Int);letI zc':=(↑l.length:Int);letI zd':Fr := { l0:=0,l1:=0,l2:=0,l3:=0 };stageG (pbE tF aF cF) 100 (pbC.take 3) (ah Tryz.f129 [rwV .fr 0 l,rwV .fr 1 m,.one ((kFn 85).av ())] [bz .fr l,bz .fr m]) [0,1,2,7,16,17] [0,1,2] [(0,.as),(1,.as),(2,.as),(7,.as),(16,.as),(17,.int)] [.as,.as,.as] []=(.vc (0+l.length*4<=(ad RK.fr l).length/\0<4) (.vc (0+m.length*4<=(ad RK.fr m).length/\0<4) (.vc ((0<=if zb' > zc' then zb' else zc')/\(za'<=if zb' > zc' then zb' else zc')/\((↑32:Int)*if zb' > zc' then zb' else zc')<=281474976710656/\za'<1125899906842624) (.vc (0+za'.toNat*4<=(ad RK.fr (List.replicate za'.toNat zd')).length/\0<4) (.leaf (ar 34 [(0,.one (.c (.slc 0 0 (l.length) 4 (.of 0) false))),(1,.one (.c (.slc 1 0 (m.length) 4 (.of 0) false))),(2,.one (.c (.fn 85))),(7,.one (.c (.slc 2 0 (za'.toNat) 4 (.of 0) false))),(16,.one (.c (.int .i64 ((↑za'.toNat:Int))))),(17,.one (.c (.int .i64 0)))] [.live ⟨false,0,4,(.rows .fr (l:List Fr)),false⟩,.live ⟨false,0,4,(.rows .fr (m:List Fr)),false⟩,.live ⟨true,24,4,(.rows .fr (List.replicate za'.toNat zd':List Fr)),false⟩])))))):=by kernel_rfl
theorem Xh (tF:List Fr->Int->Fr) (aF:Fr->Fr->Fr) (cF:List Fr->List Fr) (l m:List Fr) (n z:Int) (c:Nat) (q:List Fr):bk (pbE tF aF cF) 300 (aP Tryz.f129 0) (aaO l m n z c q) (same [0,1,2,7,16,17] [0,1,2])=(.br (decide (z<n)) (.vc ((0+l.length*4<=(ad RK.fr l).length/\0=0/\l.length<1125899906842624/\0=0/\4=4)/\B4 z) (.vc ((0+m.length*4<=(ad RK.fr m).length/\0=0/\m.length<1125899906842624/\0=0/\4=4)/\B4 z) (.vc ((0<=z/\z<(↑c:Int))/\0+c*4<=(ad RK.fr q).length/\0<4/\0=0) (.vc (0+z.toNat<q.length) (.leaf ((.normal,ar 34 [(0,.one (.c (.slc 0 0 (l.length) 4 (.of 0) false))),(1,.one (.c (.slc 1 0 (m.length) 4 (.of 0) false))),(2,.one (.c (.fn 85))),(7,.one (.c (.slc 2 0 (c) 4 (.of 0) false))),(16,.one (.c (.int .i64 (n)))),(17,.one (.c (.int .i64 (IntKind.i64.wrap (z+1)))))] [.live ⟨false,0,4,(.rows .fr (l:List Fr)),false⟩,.live ⟨false,0,4,(.rows .fr (m:List Fr)),false⟩,.live ⟨true,24,4,(.rows .fr (q.set (0+z.toNat) (aF (tF (List.take l.length (List.drop 0 l)) z) (tF (List.take m.length (List.drop 0 m)) z)):List Fr)),false⟩]))))))) (.leaf ((.exit 0,ar 34 [(0,.one (.c (.slc 0 0 (l.length) 4 (.of 0) false))),(1,.one (.c (.slc 1 0 (m.length) 4 (.of 0) false))),(2,.one (.c (.fn 85))),(7,.one (.c (.slc 2 0 (c) 4 (.of 0) false))),(16,.one (.c (.int .i64 (n)))),(17,.one (.c (.int .i64 (z))))] [.live ⟨false,0,4,(.rows .fr (l:List Fr)),false⟩,.live ⟨false,0,4,(.rows .fr (m:List Fr)),false⟩,.live ⟨true,24,4,(.rows .fr (q:List Fr)),false⟩])))):=by kernel_rfl
theorem ahv (tF:List Fr->Int->Fr) (aF:Fr->Fr->Fr) (cF:List Fr->List Fr) (l m:List Fr) (n z:Int) (c:Nat) (q:List Fr):letI za':=List.take c (List.drop 0 q);cD (pbE tF aF cF) oFrs 100 Tryz.f129 (pbC.drop 4) (aaO l m n z c q)=(.vc ((0+c*4<=(ad RK.fr q).length/\0=0/\c<1125899906842624/\0=0/\4=4)/\bQ za') (.leaf (some ((List.take (cF za').length (cF za'),(.p ((cF za').length<=(cF za').length))))))):=by kernel_rfl
noncomputable abbrev pcE (tF:List Fr->Int->Fr) (gF:Fr->Fr->Fr->Fr) (cF:List Fr->List Fr):Env:=Ens [(170,K2 (ba .fr) aAt r4.res tF),(130,K3 (aa Fr).arg (aa Fr).arg (NZ Fr) r4.res gF),(54,CV cF)] [54]
def aaN (l m:List Fr) (x:Fr) (n z:Int) (c:Nat) (q:List Fr):St:=ar 34 [(0,rwV .fr 0 l),(1,rwV .fr 1 m),(2,.one (.c (.clo 130 2 0))),(7,qT 3 c),(16,vI n),(17,vI z)] [bz .fr l,bz .fr m,vr Fr x,eP q]
theorem Xe (tF:List Fr->Int->Fr) (gF:Fr->Fr->Fr->Fr) (cF:List Fr->List Fr) (l m:List Fr) (x:Fr):letI za':=(if (↑m.length:Int) > (↑l.length:Int) then (↑m.length:Int) else (↑l.length:Int));letI zb':=(↑m.length:Int);letI zc':=(↑l.length:Int);letI zd':Fr := { l0:=0,l1:=0,l2:=0,l3:=0 };stageG (pcE tF gF cF) 100 (pbC.take 3) (ah Tryz.f129 [rwV .fr 0 l,rwV .fr 1 m,.one (.c (.clo 130 2 0))] [bz .fr l,bz .fr m,vr Fr x]) [0,1,2,7,16,17] [0,1,2,3] [(0,.as),(1,.as),(2,.as),(7,.as),(16,.as),(17,.int)] [.as,.as,.as,.as] []=(.vc (0+l.length*4<=(ad RK.fr l).length/\0<4) (.vc (0+m.length*4<=(ad RK.fr m).length/\0<4) (.vc ((0<=if zb' > zc' then zb' else zc')/\(za'<=if zb' > zc' then zb' else zc')/\((↑32:Int)*if zb' > zc' then zb' else zc')<=281474976710656/\za'<1125899906842624) (.vc (0+za'.toNat*4<=(ad RK.fr (List.replicate za'.toNat zd')).length/\0<4) (.leaf (ar 34 [(0,.one (.c (.slc 0 0 (l.length) 4 (.of 0) false))),(1,.one (.c (.slc 1 0 (m.length) 4 (.of 0) false))),(2,.one (.c (.clo 130 2 0))),(7,.one (.c (.slc 3 0 (za'.toNat) 4 (.of 0) false))),(16,.one (.c (.int .i64 ((↑za'.toNat:Int))))),(17,.one (.c (.int .i64 0)))] [.live ⟨false,0,4,(.rows .fr (l:List Fr)),false⟩,.live ⟨false,0,4,(.rows .fr (m:List Fr)),false⟩,.live ⟨false,0,0,(.row (Row.cs (x:Fr))),false⟩,.live ⟨true,24,4,(.rows .fr (List.replicate za'.toNat zd':List Fr)),false⟩])))))):=by kernel_rfl
theorem Xf (tF:List Fr->Int->Fr) (gF:Fr->Fr->Fr->Fr) (cF:List Fr->List Fr) (l m:List Fr) (x:Fr) (n z:Int) (c:Nat) (q:List Fr):bk (pcE tF gF cF) 300 (aP Tryz.f129 0) (aaN l m x n z c q) (same [0,1,2,7,16,17] [0,1,2,3])=(.br (decide (z<n)) (.vc ((0+l.length*4<=(ad RK.fr l).length/\0=0/\l.length<1125899906842624/\0=0/\4=4)/\B4 z) (.vc ((0+m.length*4<=(ad RK.fr m).length/\0=0/\m.length<1125899906842624/\0=0/\4=4)/\B4 z) (.vc ((0<=z/\z<(↑c:Int))/\0+c*4<=(ad RK.fr q).length/\0<4/\0=0) (.vc (0+z.toNat<q.length) (.leaf ((.normal,ar 34 [(0,.one (.c (.slc 0 0 (l.length) 4 (.of 0) false))),(1,.one (.c (.slc 1 0 (m.length) 4 (.of 0) false))),(2,.one (.c (.clo 130 2 0))),(7,.one (.c (.slc 3 0 (c) 4 (.of 0) false))),(16,.one (.c (.int .i64 (n)))),(17,.one (.c (.int .i64 (IntKind.i64.wrap (z+1)))))] [.live ⟨false,0,4,(.rows .fr (l:List Fr)),false⟩,.live ⟨false,0,4,(.rows .fr (m:List Fr)),false⟩,.live ⟨false,0,0,(.row (Row.cs (x:Fr))),false⟩,.live ⟨true,24,4,(.rows .fr (q.set (0+z.toNat) (gF (tF (List.take l.length (List.drop 0 l)) z) (tF (List.take m.length (List.drop 0 m)) z) x):List Fr)),false⟩]))))))) (.leaf ((.exit 0,ar 34 [(0,.one (.c (.slc 0 0 (l.length) 4 (.of 0) false))),(1,.one (.c (.slc 1 0 (m.length) 4 (.of 0) false))),(2,.one (.c (.clo 130 2 0))),(7,.one (.c (.slc 3 0 (c) 4 (.of 0) false))),(16,.one (.c (.int .i64 (n)))),(17,.one (.c (.int .i64 (z))))] [.live ⟨false,0,4,(.rows .fr (l:List Fr)),false⟩,.live ⟨false,0,4,(.rows .fr (m:List Fr)),false⟩,.live ⟨false,0,0,(.row (Row.cs (x:Fr))),false⟩,.live ⟨true,24,4,(.rows .fr (q:List Fr)),false⟩])))):=by kernel_rfl
theorem aht (tF:List Fr->Int->Fr) (gF:Fr->Fr->Fr->Fr) (cF:List Fr->List Fr) (l m:List Fr) (x:Fr) (n z:Int) (c:Nat) (q:List Fr):letI za':=List.take c (List.drop 0 q);cD (pcE tF gF cF) oFrs 100 Tryz.f129 (pbC.drop 4) (aaN l m x n z c q)=(.vc ((0+c*4<=(ad RK.fr q).length/\0=0/\c<1125899906842624/\0=0/\4=4)/\bQ za') (.leaf (some ((List.take (cF za').length (cF za'),(.p ((cF za').length<=(cF za').length))))))):=by kernel_rfl
noncomputable abbrev psE (bF:List Fr->List Fr->Fr->List Fr):Env:=Ens [(129,K3 bV bV (NY Fr 130) oFrs.res bF)] [129]
theorem ahm (bF:List Fr->List Fr->Fr->List Fr) (l:List Fr) (x:Fr):letI za':=List.take l.length (List.drop 0 l);cD (psE bF) oFrs 100 Tryz.f83 (flat (ae Tryz.f83)) (ah Tryz.f83 [rwV .fr 0 l,v4 x] [bz .fr l])=(.vc (((0+l.length*4<=(ad RK.fr l).length/\0=0/\l.length<1125899906842624/\0=0/\4=4)/\bQ za')/\bQ []) (.leaf (some ((List.take (bF za' [] x).length (bF za' [] x),(.p ((bF za' [] x).length<=(bF za' [] x).length))))))):=by kernel_rfl
noncomputable abbrev paE (bF:List Fr->List Fr->Unit->List Fr):Env:=Ens [(129,K3 bV bV (kFn 85).arg oFrs.res bF)] [129]
theorem ahy (bF:List Fr->List Fr->Unit->List Fr) (l m:List Fr):letI za':=bF (List.take l.length (List.drop 0 l)) (List.take m.length (List.drop 0 m)) ();cD (paE bF) oFrs 100 Tryz.f82 (flat (ae Tryz.f82)) (ah Tryz.f82 [rwV .fr 0 l,rwV .fr 1 m] [bz .fr l,bz .fr m])=(.vc (((0+l.length*4<=(ad RK.fr l).length/\0=0/\l.length<1125899906842624/\0=0/\4=4)/\bQ (List.take l.length (List.drop 0 l)))/\(0+m.length*4<=(ad RK.fr m).length/\0=0/\m.length<1125899906842624/\0=0/\4=4)/\bQ (List.take m.length (List.drop 0 m))) (.leaf (some ((List.take za'.length za',(.p (za'.length<=za'.length))))))):=by kernel_rfl
noncomputable abbrev s1E (mF:Fr->Fr->Fr):Env:=En [(86,Kr2 mF)]
theorem ag3 (mF:Fr->Fr->Fr) (x y k:Fr):cD (s1E mF) r4.out 100 Tryz.f130 (flat (ae Tryz.f130)) (ah Tryz.f130 [v4 x,v4 y,.one (.c (.ptr 0 0))] [vr Fr k]) =
 (.leaf (some ((mF x k,.t)))):=by kernel_rfl
end
end Go.Proofs.YtgpafcehehaiiaaGreat
