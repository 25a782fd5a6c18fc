/- Texts of the proof, joined. -/
import Derived.Test.YtcbplfkeeaecgaaGreatZG5
set_option linter.unusedSectionVars false
set_option linter.unusedSimpArgs false
set_option linter.unusedVariables false
namespace Go.Proofs.YtcbplfkeeaecgaaGreat
open Go.RowKit
section
def OQ  : Pg1:=({ x := { l0:=UInt64.ofNat 18103045581585958587,l1:=UInt64.ofNat 7806400890582735599,l2:=UInt64.ofNat 11623291730934869080,l3:=UInt64.ofNat 14080658508445169925,l4:=UInt64.ofNat 2780237799254240271,l5:=UInt64.ofNat 1725392847304644500 },y := { l0:=UInt64.ofNat 912580534683953121,l1:=UInt64.ofNat 15005087156090211044,l2:=UInt64.ofNat 61670280795567085,l3:=UInt64.ofNat 18227722000993880822,l4:=UInt64.ofNat 11573741888802228964,l5:=UInt64.ofNat 627113611842199793 },inf:=false })
def OP  : Tree (Option (Pg1)) :=
 (.leaf (some ({ x := { l0:=UInt64.ofNat 18103045581585958587,l1:=UInt64.ofNat 7806400890582735599,l2:=UInt64.ofNat 11623291730934869080,l3:=UInt64.ofNat 14080658508445169925,l4:=UInt64.ofNat 2780237799254240271,l5:=UInt64.ofNat 1725392847304644500 },y := { l0:=UInt64.ofNat 912580534683953121,l1:=UInt64.ofNat 15005087156090211044,l2:=UInt64.ofNat 61670280795567085,l3:=UInt64.ofNat 18227722000993880822,l4:=UInt64.ofNat 11573741888802228964,l5:=UInt64.ofNat 627113611842199793 },inf:=false })))
theorem Tx  : ab (En []) (aa Pg1).rs 300 Tryz.f22 []=OP  := by kernel_rfl
theorem Tw  : (OP ).sat fun q=>q=some (OQ ):=(show some _=some _ from rfl)
def om  : Pg1:=OQ
theorem HX:CallOk Tryz.prog 22 (K0 (aa Pg1).rs.res om) :=
 P0 (ag .nil) Tryz.func22 (ac Tryz.func22 (by kernel_rfl) (by kernel_rfl)) 300  (aa Pg1).rs om (Tx ) (Tw )
def ON  : Pg2:=({ x := { c0 := { l0:=UInt64.ofNat 15312334153293348280,l1:=UInt64.ofNat 841050694974028783,l2:=UInt64.ofNat 12993178926126977399,l3:=UInt64.ofNat 14331714969349929730,l4:=UInt64.ofNat 2740446039084699729,l5:=UInt64.ofNat 165123225776229009 },c1 := { l0:=UInt64.ofNat 16549740192668593022,l1:=UInt64.ofNat 3696594454104530263,l2:=UInt64.ofNat 13103893525273989193,l3:=UInt64.ofNat 6443473286224459290,l4:=UInt64.ofNat 9055845637167730533,l5:=UInt64.ofNat 1432192374203850592 } },y := { c0 := { l0:=UInt64.ofNat 16254428414758889473,l1:=UInt64.ofNat 10536956157198377609,l2:=UInt64.ofNat 7873024875724591404,l3:=UInt64.ofNat 12537348094477325223,l4:=UInt64.ofNat 10144865889576432922,l5:=UInt64.ofNat 929383263523139089 },c1 := { l0:=UInt64.ofNat 12297368366147926462,l1:=UInt64.ofNat 4555124010822409633,l2:=UInt64.ofNat 2771000935339432363,l3:=UInt64.ofNat 14645187562128761775,l4:=UInt64.ofNat 3651525051980876697,l5:=UInt64.ofNat 434250606344352972 } },inf:=false })
def OM  : Tree (Option (Pg2)) :=
 (.leaf (some ({ x := { c0 := { l0:=UInt64.ofNat 15312334153293348280,l1:=UInt64.ofNat 841050694974028783,l2:=UInt64.ofNat 12993178926126977399,l3:=UInt64.ofNat 14331714969349929730,l4:=UInt64.ofNat 2740446039084699729,l5:=UInt64.ofNat 165123225776229009 },c1 := { l0:=UInt64.ofNat 16549740192668593022,l1:=UInt64.ofNat 3696594454104530263,l2:=UInt64.ofNat 13103893525273989193,l3:=UInt64.ofNat 6443473286224459290,l4:=UInt64.ofNat 9055845637167730533,l5:=UInt64.ofNat 1432192374203850592 } },y := { c0 := { l0:=UInt64.ofNat 16254428414758889473,l1:=UInt64.ofNat 10536956157198377609,l2:=UInt64.ofNat 7873024875724591404,l3:=UInt64.ofNat 12537348094477325223,l4:=UInt64.ofNat 10144865889576432922,l5:=UInt64.ofNat 929383263523139089 },c1 := { l0:=UInt64.ofNat 12297368366147926462,l1:=UInt64.ofNat 4555124010822409633,l2:=UInt64.ofNat 2771000935339432363,l3:=UInt64.ofNat 14645187562128761775,l4:=UInt64.ofNat 3651525051980876697,l5:=UInt64.ofNat 434250606344352972 } },inf:=false })))
theorem Tv  : ab (En []) (aa Pg2).rs 300 Tryz.f23 []=OM  := by kernel_rfl
theorem Tu  : (OM ).sat fun q=>q=some (ON ):=(show some _=some _ from rfl)
def oj  : Pg2:=ON
theorem HV:CallOk Tryz.prog 23 (K0 (aa Pg2).rs.res oj) :=
 P0 (ag .nil) Tryz.func23 (ac Tryz.func23 (by kernel_rfl) (by kernel_rfl)) 300  (aa Pg2).rs oj (Tv ) (Tu )
def uR (f0:Fp->Fp->Fp) (f1:Fp2->Fp2->Fp2) (a:Fp2) (b:Fp2) (small:Bool):Fp2:=(match (small) with | true=>({ c0:=f0 a.c0 b.c0,c1:=zeroFp }) | false=>(f1 a b))
def aar (f0:Fp->Fp->Fp) (f1:Fp2->Fp2->Fp2) (a:Fp2) (b:Fp2) (small:Bool):Tree (Option (Fp2)) :=
 (.br (small)
  (.leaf (some ({ c0:=f0 a.c0 b.c0,c1:=zeroFp })))
  (.leaf (some (f1 a b))))
theorem XI (f0:Fp->Fp->Fp) (f1:Fp2->Fp2->Fp2) (a:Fp2) (b:Fp2) (small:Bool):ab (En [(43,Kff f0),(134,K2 (aa Fp2).arg (aa Fp2).arg (aa Fp2).rs.res f1)]) (aa Fp2).rs 300 Tryz.f141 [.one ((aa Fp2).av a),.one ((aa Fp2).av b),.one (kBool.av small)]=aar f0 f1 a b small:=by kernel_rfl
theorem XH (f0:Fp->Fp->Fp) (f1:Fp2->Fp2->Fp2) (a:Fp2) (b:Fp2) (small:Bool):(aar f0 f1 a b small).sat fun q=>q=some (uR f0 f1 a b small):=⟨fun h0=>(show some _=some _ from congrArg some (by unfold uR;rw [h0])),fun h0=>(show some _=some _ from congrArg some (by unfold uR;rw [h0]))⟩
def Df (a:Fp2) (b:Fp2) (small:Bool):Fp2:=uR cL je a b small
theorem adZ:CallOk Tryz.prog 141 (K3 (aa Fp2).arg (aa Fp2).arg kBool.arg (aa Fp2).rs.res Df) :=
 P3 (ag (.cons pg (.cons rP .nil))) Tryz.func141 (ac Tryz.func141 (by kernel_rfl) (by kernel_rfl)) 300 (aa Fp2) (aa Fp2) kBool (aa Fp2).rs Df (XI cL je) (XH cL je)
def EC (f0:Fp2->Fp2->Fp2) (f1:Fp2->Fp2->Fp2) (f2:Fp2) (a:Fp2) (small:Bool):Fp2:=(match (small) with | true=>(f0 (f0 (f0 (f0 a a) (f0 a a)) (f0 (f0 a a) (f0 a a))) (f0 (f0 a a) (f0 a a))) | false=>(f1 (f0 (f0 (f0 (f0 a a) (f0 a a)) (f0 (f0 a a) (f0 a a))) (f0 (f0 a a) (f0 a a))) f2))
def agd (f0:Fp2->Fp2->Fp2) (f1:Fp2->Fp2->Fp2) (f2:Fp2) (a:Fp2) (small:Bool):Tree (Option (Fp2)):=letI za':=f0 (f0 a a) (f0 a a);letI zb':=f0 (f0 za' za') za';
 (.br (small) (.leaf (some zb')) (.leaf (some (f1 zb' f2))))
theorem ae2 (f0:Fp2->Fp2->Fp2) (f1:Fp2->Fp2->Fp2) (f2:Fp2) (a:Fp2) (small:Bool):ab (En [(143,K2 (aa Fp2).arg (aa Fp2).arg (aa Fp2).rs.res f0),(134,K2 (aa Fp2).arg (aa Fp2).arg (aa Fp2).rs.res f1),(183,K0 (aa Fp2).rs.res f2)]) (aa Fp2).rs 300 Tryz.f144 [.one ((aa Fp2).av a),.one (kBool.av small)]=agd f0 f1 f2 a small:=by kernel_rfl
theorem ae1 (f0:Fp2->Fp2->Fp2) (f1:Fp2->Fp2->Fp2) (f2:Fp2) (a:Fp2) (small:Bool):(agd f0 f1 f2 a small).sat fun q=>q=some (EC f0 f1 f2 a small):=⟨fun h0=>(show some _=some _ from congrArg some (by unfold EC;rw [h0])),fun h0=>(show some _=some _ from congrArg some (by unfold EC;rw [h0]))⟩
def b3R (a:Fp2) (small:Bool):Fp2:=EC ml je xi2R a small
theorem aip:CallOk Tryz.prog 144 (K2 (aa Fp2).arg kBool.arg (aa Fp2).rs.res b3R) :=
 P2 (ag (.cons Iz (.cons rP (.cons abY .nil)))) Tryz.func144 (ac Tryz.func144 (by kernel_rfl) (by kernel_rfl)) 300 (aa Fp2) kBool (aa Fp2).rs b3R (ae2 ml je xi2R) (ae1 ml je xi2R)
def kX (f0:Fp2->Fp2->Bool->Fp2) (f1:Fp2->Fp2->Fp2) (f2:Fp2->Fp2->Fp2) (f3:Fp2->Bool->Fp2) (s:Fp6) (t:Fp6) (small:Bool):Fp6:=({ c0:=f2 (f0 (f2 (f2 (f0 (f1 s.c0 s.c1) (f1 t.c0 t.c1) small) (f0 s.c0 t.c0 small)) (f0 s.c1 t.c1 small)) (f2 (f0 s.c1 t.c1 small) (f3 (f0 s.c2 t.c2 small) small)) small) (f0 (f2 (f2 (f0 (f1 s.c1 s.c2) (f1 t.c1 t.c2) small) (f0 s.c1 t.c1 small)) (f0 s.c2 t.c2 small)) (f3 (f2 (f2 (f0 (f1 s.c0 s.c2) (f1 t.c0 t.c2) small) (f0 s.c0 t.c0 small)) (f0 s.c2 t.c2 small)) small) small),c1:=f1 (f0 (f2 (f0 s.c1 t.c1 small) (f3 (f0 s.c2 t.c2 small) small)) (f1 (f0 s.c1 t.c1 small) (f3 (f0 s.c2 t.c2 small) small)) small) (f0 (f3 (f2 (f2 (f0 (f1 s.c0 s.c2) (f1 t.c0 t.c2) small) (f0 s.c0 t.c0 small)) (f0 s.c2 t.c2 small)) small) (f1 (f1 (f0 s.c0 t.c0 small) (f0 s.c0 t.c0 small)) (f0 s.c0 t.c0 small)) small),c2:=f1 (f0 (f1 (f0 s.c1 t.c1 small) (f3 (f0 s.c2 t.c2 small) small)) (f2 (f2 (f0 (f1 s.c1 s.c2) (f1 t.c1 t.c2) small) (f0 s.c1 t.c1 small)) (f0 s.c2 t.c2 small)) small) (f0 (f1 (f1 (f0 s.c0 t.c0 small) (f0 s.c0 t.c0 small)) (f0 s.c0 t.c0 small)) (f2 (f2 (f0 (f1 s.c0 s.c1) (f1 t.c0 t.c1) small) (f0 s.c0 t.c0 small)) (f0 s.c1 t.c1 small)) small) })
def Pf (f0:Fp2->Fp2->Bool->Fp2) (f1:Fp2->Fp2->Fp2) (f2:Fp2->Fp2->Fp2) (f3:Fp2->Bool->Fp2) (s:Fp6) (t:Fp6) (small:Bool):Tree (Option (Fp6)):=letI za':=f0 s.c0 t.c0 small;letI zb':=f0 s.c1 t.c1 small;letI zc':=f0 s.c2 t.c2 small;letI zd':=f3 (f2 (f2 (f0 (f1 s.c0 s.c2) (f1 t.c0 t.c2) small) za') zc') small;letI ze':=f2 (f2 (f0 (f1 s.c0 s.c1) (f1 t.c0 t.c1) small) za') zb';letI zf':=f2 (f2 (f0 (f1 s.c1 s.c2) (f1 t.c1 t.c2) small) zb') zc';letI zg':=f3 zc' small;letI zh':=f1 (f1 za' za') za';
 (.leaf (some ({ c0:=f2 (f0 ze' (f2 zb' zg') small) (f0 zf' zd' small),c1:=f1 (f0 (f2 zb' zg') (f1 zb' zg') small) (f0 zd' zh' small),c2:=f1 (f0 (f1 zb' zg') zf' small) (f0 zh' ze' small) })))
theorem Um (f0:Fp2->Fp2->Bool->Fp2) (f1:Fp2->Fp2->Fp2) (f2:Fp2->Fp2->Fp2) (f3:Fp2->Bool->Fp2) (s:Fp6) (t:Fp6) (small:Bool):ab (En [(141,K3 (aa Fp2).arg (aa Fp2).arg kBool.arg (aa Fp2).rs.res f0),(143,K2 (aa Fp2).arg (aa Fp2).arg (aa Fp2).rs.res f1),(142,K2 (aa Fp2).arg (aa Fp2).arg (aa Fp2).rs.res f2),(144,K2 (aa Fp2).arg kBool.arg (aa Fp2).rs.res f3)]) (aa Fp6).rs 300 Tryz.f84 [.one ((aa Fp6).av s),.one ((aa Fp6).av t),.one (kBool.av small)]=Pf f0 f1 f2 f3 s t small:=by kernel_rfl
theorem Ul (f0:Fp2->Fp2->Bool->Fp2) (f1:Fp2->Fp2->Fp2) (f2:Fp2->Fp2->Fp2) (f3:Fp2->Bool->Fp2) (s:Fp6) (t:Fp6) (small:Bool):(Pf f0 f1 f2 f3 s t small).sat fun q=>q=some (kX f0 f1 f2 f3 s t small):=(show some _=some _ from rfl)
def ji (s:Fp6) (t:Fp6) (small:Bool):Fp6:=kX Df ml pQ b3R s t small
theorem Zy:CallOk Tryz.prog 84 (K3 (aa Fp6).arg (aa Fp6).arg kBool.arg (aa Fp6).rs.res ji) :=
 P3 (ag (.cons adZ (.cons Iz (.cons VF (.cons aip .nil))))) Tryz.func84 (ac Tryz.func84 (by kernel_rfl) (by kernel_rfl)) 300 (aa Fp6) (aa Fp6) kBool (aa Fp6).rs ji (Um Df ml pQ b3R) (Ul Df ml pQ b3R)
def Od (f0:Fp2):Fp6:=({ c0:=zeroFp2,c1:=f0,c2:=zeroFp2 })
def Oc (f0:Fp2):Tree (Option (Fp6)) :=
 (.leaf (some ({ c0:=zeroFp2,c1:=f0,c2:=zeroFp2 })))
theorem RV (f0:Fp2):ab (En [(86,K0 (aa Fp2).rs.res f0)]) (aa Fp6).rs 300 Tryz.f83 []=Oc f0:=by kernel_rfl
theorem RU (f0:Fp2):(Oc f0).sat fun q=>q=some (Od f0):=(show some _=some _ from rfl)
def iI  : Fp6:=Od mM
theorem yn:CallOk Tryz.prog 83 (K0 (aa Fp6).rs.res iI) :=
 P0 (ag (.cons yf .nil)) Tryz.func83 (ac Tryz.func83 (by kernel_rfl) (by kernel_rfl)) 300  (aa Fp6).rs iI (RV mM) (RU mM)
def pd (f0:Fp6) (f1:Fp2) (a:Pg1):Fp6:=(match (a.inf) with | true=>(f0) | false=>({ c0 := { c0:=a.x,c1:=zeroFp },c1 := { c0:=a.y,c1:=zeroFp },c2:=f1 }))
def aao (f0:Fp6) (f1:Fp2) (a:Pg1):Tree (Option (Fp6)) :=
 (.br (a.inf)
  (.leaf (some (f0)))
  (.leaf (some ({ c0 := { c0:=a.x,c1:=zeroFp },c1 := { c0:=a.y,c1:=zeroFp },c2:=f1 }))))
theorem Xu (f0:Fp6) (f1:Fp2) (a:Pg1):ab (En [(83,K0 (aa Fp6).rs.res f0),(86,K0 (aa Fp2).rs.res f1)]) (aa Fp6).rs 300 Tryz.f46 [.one ((aa Pg1).av a)]=aao f0 f1 a:=by kernel_rfl
theorem Xt (f0:Fp6) (f1:Fp2) (a:Pg1):(aao f0 f1 a).sat fun q=>q=some (pd f0 f1 a):=⟨fun h0=>(show some _=some _ from congrArg some (by unfold pd;rw [h0])),fun h0=>(show some _=some _ from congrArg some (by unfold pd;rw [h0]))⟩
def Hn (a:Pg1):Fp6:=pd iI mM a
theorem Oa:CallOk Tryz.prog 46 (K1 (aa Pg1).arg (aa Fp6).rs.res Hn) :=
 P1 (ag (.cons yn (.cons yf .nil))) Tryz.func46 (ac Tryz.func46 (by kernel_rfl) (by kernel_rfl)) 300 (aa Pg1) (aa Fp6).rs Hn (Xu iI mM) (Xt iI mM)
def pc (f0:Fp6) (f1:Fp2) (a:Pg2):Fp6:=(match (a.inf) with | true=>(f0) | false=>({ c0:=a.x,c1:=a.y,c2:=f1 }))
def aan (f0:Fp6) (f1:Fp2) (a:Pg2):Tree (Option (Fp6)) :=
 (.br (a.inf)
  (.leaf (some (f0)))
  (.leaf (some ({ c0:=a.x,c1:=a.y,c2:=f1 }))))
theorem Xs (f0:Fp6) (f1:Fp2) (a:Pg2):ab (En [(83,K0 (aa Fp6).rs.res f0),(86,K0 (aa Fp2).rs.res f1)]) (aa Fp6).rs 300 Tryz.f73 [.one ((aa Pg2).av a)]=aan f0 f1 a:=by kernel_rfl
theorem Xr (f0:Fp6) (f1:Fp2) (a:Pg2):(aan f0 f1 a).sat fun q=>q=some (pc f0 f1 a):=⟨fun h0=>(show some _=some _ from congrArg some (by unfold pc;rw [h0])),fun h0=>(show some _=some _ from congrArg some (by unfold pc;rw [h0]))⟩
def UX (a:Pg2):Fp6:=pc iI mM a
theorem adO:CallOk Tryz.prog 73 (K1 (aa Pg2).arg (aa Fp6).rs.res UX) :=
 P1 (ag (.cons yn (.cons yf .nil))) Tryz.func73 (ac Tryz.func73 (by kernel_rfl) (by kernel_rfl)) 300 (aa Pg2) (aa Fp6).rs UX (Xs iI mM) (Xr iI mM)
def oH (f0:Fp->Fp × Int) (f1:Fp->Fp->Fp) (s:Fp6):Pg1:=(match ((f0 s.c2.c0).snd != 0) with | true=>(infG1) | false=>({ x:=f1 s.c0.c0 (f0 s.c2.c0).fst,y:=f1 s.c1.c0 (f0 s.c2.c0).fst,inf:=false }))
def ZM (f0:Fp->Fp × Int) (f1:Fp->Fp->Fp) (s:Fp6):Tree (Option (Pg1)) :=
 (.br ((f0 s.c2.c0).snd != 0)
  (.leaf (some (infG1)))
  (.leaf (some ({ x:=f1 s.c0.c0 (f0 s.c2.c0).fst,y:=f1 s.c1.c0 (f0 s.c2.c0).fst,inf:=false }))))
theorem Vr (f0:Fp->Fp × Int) (f1:Fp->Fp->Fp) (s:Fp6):ab (En [(82,afd f0),(43,Kff f1)]) (aa Pg1).rs 300 Tryz.f44 [.one ((aa Fp6).av s)]=ZM f0 f1 s:=by kernel_rfl
theorem Vq (f0:Fp->Fp × Int) (f1:Fp->Fp->Fp) (s:Fp6):(ZM f0 f1 s).sat fun q=>q=some (oH f0 f1 s):=⟨fun h0=>(show some _=some _ from congrArg some (by unfold oH;rw [h0])),fun h0=>(show some _=some _ from congrArg some (by unfold oH;rw [h0]))⟩
def CJ (s:Fp6):Pg1:=oH oe cL s
theorem Nn:CallOk Tryz.prog 44 (K1 (aa Fp6).arg (aa Pg1).rs.res CJ) :=
 P1 (ag (.cons OE (.cons pg .nil))) Tryz.func44 (ac Tryz.func44 (by kernel_rfl) (by kernel_rfl)) 300 (aa Fp6) (aa Pg1).rs CJ (Vr oe cL) (Vq oe cL)
def oG (f0:Fp2->Fp2 × Int) (f1:Fp2->Fp2->Fp2) (s:Fp6):Pg2:=(match ((f0 s.c2).snd != 0) with | true=>(infG2) | false=>({ x:=f1 s.c0 (f0 s.c2).fst,y:=f1 s.c1 (f0 s.c2).fst,inf:=false }))
def ZL (f0:Fp2->Fp2 × Int) (f1:Fp2->Fp2->Fp2) (s:Fp6):Tree (Option (Pg2)) :=
 (.br ((f0 s.c2).snd != 0)
  (.leaf (some (infG2)))
  (.leaf (some ({ x:=f1 s.c0 (f0 s.c2).fst,y:=f1 s.c1 (f0 s.c2).fst,inf:=false }))))
theorem Vp (f0:Fp2->Fp2 × Int) (f1:Fp2->Fp2->Fp2) (s:Fp6):ab (En [(133,K1 (aa Fp2).arg ((aa Fp2).rs2 kInt).res f0),(134,K2 (aa Fp2).arg (aa Fp2).arg (aa Fp2).rs.res f1)]) (aa Pg2).rs 300 Tryz.f72 [.one ((aa Fp6).av s)]=ZL f0 f1 s:=by kernel_rfl
theorem Vo (f0:Fp2->Fp2 × Int) (f1:Fp2->Fp2->Fp2) (s:Fp6):(ZL f0 f1 s).sat fun q=>q=some (oG f0 f1 s):=⟨fun h0=>(show some _=some _ from congrArg some (by unfold oG;rw [h0])),fun h0=>(show some _=some _ from congrArg some (by unfold oG;rw [h0]))⟩
def Nl (s:Fp6):Pg2:=oG uy je s
theorem acl:CallOk Tryz.prog 72 (K1 (aa Fp6).arg (aa Pg2).rs.res Nl) :=
 P1 (ag (.cons Ys (.cons rP .nil))) Tryz.func72 (ac Tryz.func72 (by kernel_rfl) (by kernel_rfl)) 300 (aa Fp6) (aa Pg2).rs Nl (Vp uy je) (Vo uy je)
end
end Go.Proofs.YtcbplfkeeaecgaaGreat
namespace Go.Proofs.YtcbplfkeeaecgaaGreat
def W64:Nat:=18446744073709551616
def pN:Nat:=0x1a0111ea397fe69a4b1ba7b6434bacd764774b84f38512bf6730d2a0f6b0f6241eabfffeb153ffffb9feffffffffaaab
def rN:Nat:=0x1000000000000000000000000000000000000000000000000000000000000000000000000000000000000000000000000
def Fp.nat (a:Fp):Nat:=a.l0.toNat+W64*(a.l1.toNat+W64*(a.l2.toNat+W64*(a.l3.toNat+W64*(a.l4.toNat+W64*a.l5.toNat))))
theorem Fp.nat_lt (a:Fp):a.nat<rN:=by
 have h0:=a.l0.toNat_lt
 have h1:=a.l1.toNat_lt
 have h2:=a.l2.toNat_lt
 have h3:=a.l3.toNat_lt
 have h4:=a.l4.toNat_lt
 have h5:=a.l5.toNat_lt
 unfold Fp.nat rN W64
 omega
theorem Fp.nat_inj {a b:Fp} (h:a.nat=b.nat):a=b:=by
 have h0:=a.l0.toNat_lt
 have h1:=a.l1.toNat_lt
 have h2:=a.l2.toNat_lt
 have h3:=a.l3.toNat_lt
 have h4:=a.l4.toNat_lt
 have h5:=a.l5.toNat_lt
 have k0:=b.l0.toNat_lt
 have k1:=b.l1.toNat_lt
 have k2:=b.l2.toNat_lt
 have k3:=b.l3.toNat_lt
 have k4:=b.l4.toNat_lt
 have k5:=b.l5.toNat_lt
 unfold Fp.nat W64 at h
 obtain ⟨a0,a1,a2,a3,a4,a5⟩:=a
 obtain ⟨b0,b1,b2,b3,b4,b5⟩:=b
 simp only [] at *
 have e0:a0=b0:=UInt64.toNat.inj (by omega)
 have e1:a1=b1:=UInt64.toNat.inj (by omega)
 have e2:a2=b2:=UInt64.toNat.inj (by omega)
 have e3:a3=b3:=UInt64.toNat.inj (by omega)
 have e4:a4=b4:=UInt64.toNat.inj (by omega)
 have e5:a5=b5:=UInt64.toNat.inj (by omega)
 rw [e0,e1,e2,e3,e4,e5]
theorem gZ:pLimbs.nat=pN:=by decide +kernel
theorem ft (x y:UInt64) (c:Bool):(eg x y c).toNat+W64*(ci x y c).toNat=x.toNat+y.toNat+c.toNat:=by
 rw [nO,j0]
 unfold W64
 omega
theorem VE (x y:UInt64) (c:Bool):(du x y c).toNat=if x.toNat<y.toNat+c.toNat then 1 else 0:=by
 rw [Gx]
 by_cases h:x.toNat<y.toNat+c.toNat <;> simp [h]
theorem fj (x y:UInt64) (c:Bool):(fe x y c).toNat+y.toNat+c.toNat=x.toNat+W64*(du x y c).toNat:=by
 have hx:=x.toNat_lt
 have hy:=y.toNat_lt
 have hc:c.toNat<=1:=by cases c <;> simp
 rw [Gu,VE]
 unfold W64
 split <;> omega
theorem Iv (a b:Fp):(jl a b).1.nat+rN*(jl a b).2.toNat=a.nat+b.nat:=by
 unfold jl
 simp only []
 have s0:=ft a.l0 b.l0 false
 generalize ci a.l0 b.l0 false=c0 at *
 have s1:=ft a.l1 b.l1 c0
 generalize ci a.l1 b.l1 c0=c1 at *
 have s2:=ft a.l2 b.l2 c1
 generalize ci a.l2 b.l2 c1=c2 at *
 have s3:=ft a.l3 b.l3 c2
 generalize ci a.l3 b.l3 c2=c3 at *
 have s4:=ft a.l4 b.l4 c3
 generalize ci a.l4 b.l4 c3=c4 at *
 have s5:=ft a.l5 b.l5 c4
 generalize ci a.l5 b.l5 c4=c5 at *
 unfold Fp.nat rN W64 at *
 simp only [Bool.toNat_false] at *
 omega
theorem xS (a b:Fp):(dr a b).1.nat+b.nat=a.nat+rN*(dr a b).2.toNat:=by
 unfold dr
 simp only []
 have s0:=fj a.l0 b.l0 false
 generalize du a.l0 b.l0 false=c0 at *
 have s1:=fj a.l1 b.l1 c0
 generalize du a.l1 b.l1 c0=c1 at *
 have s2:=fj a.l2 b.l2 c1
 generalize du a.l2 b.l2 c1=c2 at *
 have s3:=fj a.l3 b.l3 c2
 generalize du a.l3 b.l3 c2=c3 at *
 have s4:=fj a.l4 b.l4 c3
 generalize du a.l4 b.l4 c3=c4 at *
 have s5:=fj a.l5 b.l5 c4
 generalize du a.l5 b.l5 c4=c5 at *
 unfold Fp.nat rN W64 at *
 simp only [Bool.toNat_false] at *
 omega
theorem yA (a:Fp):Ei a=dr a pLimbs:=rfl
theorem Bd (a:Fp) (o:UInt64) (ho:o.toNat<=1) (h:a.nat+rN*o.toNat<2*pN):(l6 a o).nat=(a.nat+rN*o.toNat) % pN:=by
 have h1:=xS a pLimbs
 rw [gZ] at h1
 have h2:=(dr a pLimbs).1.nat_lt
 have h3:=a.nat_lt
 have hb:(dr a pLimbs).2.toNat<=1:=by cases (dr a pLimbs).2 <;> simp
 have hd:decide (o<b2u (Ei a).2)=decide (o.toNat<(dr a pLimbs).2.toNat):=by
  rw [yA]
  refine decide_eq_decide.2 ?_
  rw [UInt64.lt_iff_toNat_lt,cG]
 unfold l6
 rw [hd,yA]
 have hp:pN<rN:=by decide +kernel
 have hp0:0<pN:=by decide +kernel
 by_cases hc:o.toNat<(dr a pLimbs).2.toNat
 ·simp only [hc,decide_true]
  have e0:o.toNat=0:=by omega
  have e1:(dr a pLimbs).2.toNat=1:=by omega
  rw [e0] at h ⊢
  rw [e1] at h1
  rw [Nat.mod_eq_of_lt (by omega)]
  omega
 ·simp only [hc,decide_false]
  have e2:(dr a pLimbs).1.nat+pN=a.nat+rN*o.toNat:=by
   rcases Nat.lt_or_ge (dr a pLimbs).2.toNat o.toNat with hl | hl
   ·have e0:o.toNat=1:=by omega
    have e1:(dr a pLimbs).2.toNat=0:=by omega
    rw [e1] at h1
    rw [e0] at h ⊢
    omega
   ·have e1:(dr a pLimbs).2.toNat=o.toNat:=by omega
    rw [e1] at h1
    exact h1
  rw [<- e2,Nat.add_mod_right,Nat.mod_eq_of_lt (by omega)]
theorem Ix {a b:Fp} (ha:a.nat<pN) (hb:b.nat<pN):(cP a b).nat=(a.nat+b.nat) % pN:=by
 unfold cP
 have h:=Iv a b
 rw [Bd _ _ (by rw [cG];cases (jl a b).2 <;> simp) (by rw [cG,h];omega),cG,h]
theorem xT {a b:Fp} (ha:a.nat<pN) (hb:b.nat<pN):(dM a b).nat=(a.nat+pN-b.nat) % pN:=by
 have h1:=xS a b
 have h2:=(dr a b).1.nat_lt
 have hp:pN<rN:=by decide +kernel
 have hd:decide (b2u (dr a b).2=0)=decide ((dr a b).2.toNat=0):=by
  refine decide_eq_decide.2 ⟨fun h=>by rw [<- cG,h];rfl,fun h=>UInt64.toNat.inj (by rw [cG,h];rfl)⟩
 unfold dM
 rw [hd]
 by_cases hc:(dr a b).2.toNat=0
 ·simp only [hc,decide_true]
  rw [hc] at h1
  rw [show a.nat+pN-b.nat=(dr a b).1.nat+pN by omega,Nat.add_mod_right,Nat.mod_eq_of_lt (by omega)]
 ·simp only [hc,decide_false]
  have e1:(dr a b).2.toNat=1:=by cases h:(dr a b).2 <;> simp [h] at hc ⊢
  rw [e1] at h1
  have h3:=Iv (dr a b).1 pLimbs
  rw [gZ] at h3
  have h4:=(jl (dr a b).1 pLimbs).1.nat_lt
  have e2:(jl (dr a b).1 pLimbs).2.toNat=1:=by
   cases h:(jl (dr a b).1 pLimbs).2 with
   | true=>rfl
   | false=>rw [h] at h3;simp only [Bool.toNat_false] at h3;omega
  rw [e2] at h3
  rw [Nat.mod_eq_of_lt (by omega)]
  omega
end Go.Proofs.YtcbplfkeeaecgaaGreat
namespace Go.Proofs.YtcbplfkeeaecgaaGreat
def L7.nat (t:L7):Nat:=t.t0.toNat+W64*(t.t1.toNat+W64*(t.t2.toNat+W64*(t.t3.toNat+W64*(t.t4.toNat+W64*(t.t5.toNat+W64*t.t6.toNat)))))
theorem L7.nat_low (t:L7):t.nat=t.low.nat+rN*t.t6.toNat:=by
 unfold L7.nat L7.low Fp.nat rN W64
 simp only []
 omega
theorem afh (y t U:Nat):y+t+W64*U=(t+W64*U)+y:=by omega
theorem vp {y t U T Y:Nat} (h:U=T+Y):y+t+W64*U=(t+W64*T)+(y+W64*Y):=by
 subst h
 unfold W64
 omega
theorem ajT {A d T Y t y:Nat} (h:A=T+Y) (q:d*W64=y+t):(A+d)*W64=(t+W64*T)+(y+W64*Y):=by
 rw [h,Nat.add_mul,q,Nat.add_mul,Nat.mul_comm T,Nat.mul_comm Y]
 omega
theorem n7 (x y t c:UInt64):(fg x y t c).toNat*W64+(jd x y t c).toNat=x.toNat*y.toNat+t.toNat+c.toNat:=aec x y t c
theorem bC {m d y t c R U:Nat} (q:d*W64+m=y+t+c) (h:R=U+d):m+W64*R=(y+t+W64*U)+c:=by
 subst h
 unfold W64 at *
 omega
theorem Ye (t:UInt64):(fD (t*wG) pLimbs.l0+b2u (ci (t*wG*pLimbs.l0) t false)).toNat*W64=(t*wG).toNat*pLimbs.l0.toNat+t.toNat:=by
 generalize hx:t*wG=x
 have hx':x.toNat=t.toNat*9940570264628428797 % 18446744073709551616:=by rw [<- hx,UInt64.toNat_mul];rfl
 have hp:pLimbs.l0.toNat=13402431016077863595:=rfl
 have ht:=t.toNat_lt
 have hlt:=x.toNat_lt
 rw [UInt64.toNat_add,cG,j0,il,UInt64.toNat_mul,hp]
 simp only [Bool.toNat_false,Nat.add_zero]
 unfold W64
 have key:(x.toNat*13402431016077863595 % 18446744073709551616+t.toNat) % 18446744073709551616=0:=by
  rw [hx']
  omega
 omega
theorem JF (t0 t1 t2 t3 t4 t5 top:UInt64) (more:Bool) :
  (zh t0 t1 t2 t3 t4 t5 top more).nat*W64=(t0.toNat+W64*(t1.toNat+W64*(t2.toNat+W64*(t3.toNat+W64*(t4.toNat+W64*(t5.toNat+W64*(top.toNat+W64*more.toNat)))))))+(t0*wG).toNat*pN:=by
 have q0:=Ye t0
 unfold zh
 simp only [L7.nat]
 generalize fD (t0*wG) pLimbs.l0+b2u (ci (t0*wG*pLimbs.l0) t0 false)=d0 at *
 generalize t0*wG=x at *
 have q1:=n7 x pLimbs.l1 t1 d0
 generalize fg x pLimbs.l1 t1 d0=d1 at *
 have q2:=n7 x pLimbs.l2 t2 d1
 generalize fg x pLimbs.l2 t2 d1=d2 at *
 have q3:=n7 x pLimbs.l3 t3 d2
 generalize fg x pLimbs.l3 t3 d2=d3 at *
 have q4:=n7 x pLimbs.l4 t4 d3
 generalize fg x pLimbs.l4 t4 d3=d4 at *
 have q5:=n7 x pLimbs.l5 t5 d4
 generalize fg x pLimbs.l5 t5 d4=d5 at *
 have q6:=ft top d5 false
 have q7:(b2u more+b2u (ci top d5 false)).toNat=more.toNat+(ci top d5 false).toNat:=by
  rw [UInt64.toNat_add,cG,cG]
  cases more <;> cases ci top d5 false <;> rfl
 rw [q7]
 have ep:pN=pLimbs.l0.toNat+W64*(pLimbs.l1.toNat+W64*(pLimbs.l2.toNat+W64*(pLimbs.l3.toNat+W64*(pLimbs.l4.toNat+W64*pLimbs.l5.toNat)))):=by decide +kernel
 have exp:x.toNat*pN=x.toNat*pLimbs.l0.toNat+W64*(x.toNat*pLimbs.l1.toNat+W64*(x.toNat*pLimbs.l2.toNat+W64*(x.toNat*pLimbs.l3.toNat+W64*(x.toNat*pLimbs.l4.toNat+W64*(x.toNat*pLimbs.l5.toNat))))):=by
  rw [ep]
  simp only [Nat.mul_add,Nat.mul_left_comm x.toNat W64]
 rw [exp]
 have s6:(eg top d5 false).toNat+W64*(more.toNat+(ci top d5 false).toNat)=(top.toNat+W64*more.toNat)+d5.toNat:=by
  simp only [Bool.toNat_false] at q6
  unfold W64 at *
  omega
 have s5:=bC q5 s6
 have s4:=bC q4 s5
 have s3:=bC q3 s4
 have s2:=bC q2 s3
 have s1:=bC q1 s2
 rw [s1]
 generalize x.toNat*pLimbs.l0.toNat=y0 at *
 generalize x.toNat*pLimbs.l1.toNat=y1 at *
 generalize x.toNat*pLimbs.l2.toNat=y2 at *
 generalize x.toNat*pLimbs.l3.toNat=y3 at *
 generalize x.toNat*pLimbs.l4.toNat=y4 at *
 generalize x.toNat*pLimbs.l5.toNat=y5 at *
 exact ajT (vp (vp (vp (vp (afh _ _ _))))) q0
theorem fz (a:Fp) (b:UInt64) (t:L7) : ∃ m:Nat,m<W64/\(eo a b t).nat*W64=t.nat+a.nat*b.toNat+m*pN:=by
 unfold eo
 simp only []
 have q0:=n7 a.l0 b t.t0 0
 generalize fg a.l0 b t.t0 0=c0 at *
 have q1:=n7 a.l1 b t.t1 c0
 generalize fg a.l1 b t.t1 c0=c1 at *
 have q2:=n7 a.l2 b t.t2 c1
 generalize fg a.l2 b t.t2 c1=c2 at *
 have q3:=n7 a.l3 b t.t3 c2
 generalize fg a.l3 b t.t3 c2=c3 at *
 have q4:=n7 a.l4 b t.t4 c3
 generalize fg a.l4 b t.t4 c3=c4 at *
 have q5:=n7 a.l5 b t.t5 c4
 generalize fg a.l5 b t.t5 c4=c5 at *
 have q6:=ft t.t6 c5 false
 refine ⟨(jd a.l0 b t.t0 0*wG).toNat,UInt64.toNat_lt _,?_⟩
 rw [JF]
 refine congrArg (fun z=>z+(jd a.l0 b t.t0 0*wG).toNat*pN) ?_
 have e:a.nat*b.toNat=a.l0.toNat*b.toNat+W64*(a.l1.toNat*b.toNat+W64*(a.l2.toNat*b.toNat+W64*(a.l3.toNat*b.toNat+W64*(a.l4.toNat*b.toNat+W64*(a.l5.toNat*b.toNat))))):=by
  unfold Fp.nat
  simp only [Nat.add_mul,Nat.mul_assoc]
 rw [e]
 have s6:(eg t.t6 c5 false).toNat+W64*(ci t.t6 c5 false).toNat=t.t6.toNat+c5.toNat:=by simpa using q6
 have s5:=bC q5 s6
 have s4:=bC q4 s5
 have s3:=bC q3 s4
 have s2:=bC q2 s3
 have s1:=bC q1 s2
 have s0:=bC q0 s1
 rw [s0]
 have z:(0:UInt64).toNat=0:=rfl
 rw [z,L7.nat]
 generalize a.l0.toNat*b.toNat=x0 at *
 generalize a.l1.toNat*b.toNat=x1 at *
 generalize a.l2.toNat*b.toNat=x2 at *
 generalize a.l3.toNat*b.toNat=x3 at *
 generalize a.l4.toNat*b.toNat=x4 at *
 generalize a.l5.toNat*b.toNat=x5 at *
 rw [Nat.add_zero]
 exact vp (vp (vp (vp (vp (afh _ _ _)))))
theorem fI {a:Fp} {b:UInt64} {t:L7} (h:t.nat<a.nat+pN):(eo a b t).nat<a.nat+pN:=by
 obtain ⟨m,hm,e⟩:=fz a b t
 have hb:=b.toNat_lt
 have h1:a.nat*b.toNat<=a.nat*(W64-1):=Nat.mul_le_mul_left _ (by unfold W64;omega)
 have h2:m*pN<=(W64-1)*pN:=Nat.mul_le_mul_right _ (by omega)
 have h3:(eo a b t).nat*W64<(a.nat+pN)*W64:=by
  rw [e]
  unfold W64 at *
  omega
 exact Nat.lt_of_mul_lt_mul_right h3
set_option maxRecDepth 100000 in
theorem Bg (a b:Fp) : ∃ k:Nat,(gj a b).nat*rN=a.nat*b.nat+k*pN/\(gj a b).nat<a.nat+pN:=by
 have hp0:0<pN:=by decide +kernel
 obtain ⟨m0,_,e0⟩:=fz a b.l0 ⟨0,0,0,0,0,0,0⟩
 obtain ⟨m1,_,e1⟩:=fz a b.l1 (Ak a b)
 obtain ⟨m2,_,e2⟩:=fz a b.l2 (Aj a b)
 obtain ⟨m3,_,e3⟩:=fz a b.l3 (Ai a b)
 obtain ⟨m4,_,e4⟩:=fz a b.l4 (Ah a b)
 obtain ⟨m5,_,e5⟩:=fz a b.l5 (Ag a b)
 have z:(L7.mk 0 0 0 0 0 0 0).nat=0:=by decide +kernel
 have b0:(Ak a b).nat<a.nat+pN:=fI (by rw [z];omega)
 have b1:(Aj a b).nat<a.nat+pN:=fI b0
 have b2:(Ai a b).nat<a.nat+pN:=fI b1
 have b3:(Ah a b).nat<a.nat+pN:=fI b2
 have b4:(Ag a b).nat<a.nat+pN:=fI b3
 refine ⟨m0+W64*(m1+W64*(m2+W64*(m3+W64*(m4+W64*m5)))),?_,fI b4⟩
 rw [z] at e0
 change (Ak a b).nat*W64=_ at e0
 change (Aj a b).nat*W64=_ at e1
 change (Ai a b).nat*W64=_ at e2
 change (Ah a b).nat*W64=_ at e3
 change (Ag a b).nat*W64=_ at e4
 change (gj a b).nat*W64=_ at e5
 have er:rN=W64*(W64*(W64*(W64*(W64*W64)))):=by decide +kernel
 have eb:a.nat*b.nat=a.nat*b.l0.toNat+W64*(a.nat*b.l1.toNat+W64*(a.nat*b.l2.toNat+W64*(a.nat*b.l3.toNat+W64*(a.nat*b.l4.toNat+W64*(a.nat*b.l5.toNat))))):=by
  rw [show b.nat=b.l0.toNat+W64*(b.l1.toNat+W64*(b.l2.toNat+W64*(b.l3.toNat+W64*(b.l4.toNat+W64*b.l5.toNat)))) from rfl]
  simp only [Nat.mul_add,Nat.mul_left_comm a.nat W64]
 have ek:(m0+W64*(m1+W64*(m2+W64*(m3+W64*(m4+W64*m5)))))*pN=m0*pN+W64*(m1*pN+W64*(m2*pN+W64*(m3*pN+W64*(m4*pN+W64*(m5*pN))))):=by
  simp only [Nat.add_mul,Nat.mul_assoc]
 rw [er,eb,ek]
 have st : ∀ {t' t z R:Nat},t'*W64=t+z -> ∀ s:Nat,t'*(W64*s)=(t+z)*s:=fun h s=>by rw [<- Nat.mul_assoc,h]
 rw [st (R:=0) (t:=(Ag a b).nat) (z:=a.nat*b.l5.toNat+m5*pN) (by rw [e5,Nat.add_assoc])]
 rw [Nat.add_mul,st (R:=0) (t:=(Ah a b).nat) (z:=a.nat*b.l4.toNat+m4*pN) (by rw [e4,Nat.add_assoc])]
 rw [Nat.add_mul _ _ (W64*(W64*(W64*W64))),st (R:=0) (t:=(Ai a b).nat) (z:=a.nat*b.l3.toNat+m3*pN) (by rw [e3,Nat.add_assoc])]
 rw [Nat.add_mul _ _ (W64*(W64*W64)),st (R:=0) (t:=(Aj a b).nat) (z:=a.nat*b.l2.toNat+m2*pN) (by rw [e2,Nat.add_assoc])]
 rw [Nat.add_mul _ _ (W64*W64),st (R:=0) (t:=(Ak a b).nat) (z:=a.nat*b.l1.toNat+m1*pN) (by rw [e1,Nat.add_assoc])]
 rw [Nat.add_mul _ _ W64,e0]
 generalize a.nat*b.l0.toNat=x0
 generalize a.nat*b.l1.toNat=x1
 generalize a.nat*b.l2.toNat=x2
 generalize a.nat*b.l3.toNat=x3
 generalize a.nat*b.l4.toNat=x4
 generalize a.nat*b.l5.toNat=x5
 generalize m0*pN=y0
 generalize m1*pN=y1
 generalize m2*pN=y2
 generalize m3*pN=y3
 generalize m4*pN=y4
 generalize m5*pN=y5
 clear e0 e1 e2 e3 e4 e5 eb ek st
 unfold W64
 omega
theorem fT {a b:Fp} (ha:a.nat<pN):(aP a b).nat<pN/\((aP a b).nat*rN) % pN=(a.nat*b.nat) % pN:=by
 obtain ⟨k,h1,h2⟩:=Bg a b
 rw [L7.nat_low] at h1 h2
 have hlt:=(gj a b).low.nat_lt
 have hpr:2*pN<rN:=by decide +kernel
 have hp0:0<pN:=by decide +kernel
 have h6:(gj a b).t6.toNat<=1:=by
  rcases Nat.lt_or_ge (gj a b).t6.toNat 1 with h | h
  ·omega
  ·have:rN*1<=rN*(gj a b).t6.toNat:=Nat.mul_le_mul_left _ h
   omega
 have h:=Bd (gj a b).low (gj a b).t6 h6 (by omega)
 have e:(aP a b).nat=((gj a b).low.nat+rN*(gj a b).t6.toNat) % pN:=h
 rw [e]
 refine ⟨Nat.mod_lt _ hp0,?_⟩
 rw [Nat.mod_mul_mod,h1,Nat.add_mul_mod_self_right]
end Go.Proofs.YtcbplfkeeaecgaaGreat
namespace Go.Proofs.YtcbplfkeeaecgaaGreat
def ajZ:Nat:=0x14fec701e8fb0ce9ed5e64273c4f538b1797ab1458a88de9343ea97914956dc87fe11274d898fafbf4d38259380b4820
theorem ai9:rN*ajZ % pN=1:=by decide +kernel
theorem rq {x y:Nat} (h:x*rN % pN=y*rN % pN):x % pN=y % pN:=by
 have e : ∀ z:Nat,z % pN=(z*rN % pN)*ajZ % pN:=by
  intro z
  rw [Nat.mod_mul_mod,Nat.mul_assoc,Nat.mul_mod,ai9,Nat.mul_one,Nat.mod_mod]
 rw [e x,e y,h]
theorem Mk:sqLimbs.nat=rN*rN % pN:=by decide +kernel
theorem o7:oneFp.nat=1:=by decide +kernel
theorem lj:zeroFp.nat=0:=by decide +kernel
theorem fK:0<pN:=by decide +kernel
theorem ju {a:Fp} (ha:a.nat<pN):(bf a).nat=a.nat*rN % pN:=by
 obtain ⟨h1,h2⟩:=fT (b:=sqLimbs) ha
 have h3:(bf a).nat*rN % pN=(a.nat*rN)*rN % pN:=by
  rw [show (bf a).nat=(aP a sqLimbs).nat from rfl,h2,Mk,Nat.mul_mod_mod,Nat.mul_assoc]
 rw [<- rq h3]
 exact (Nat.mod_eq_of_lt h1).symm
theorem yy {a:Fp} (ha:a.nat<pN):(iR a).nat<pN/\(iR a).nat*rN % pN=a.nat:=by
 obtain ⟨h1,h2⟩:=fT (b:=oneFp) ha
 rw [o7,Nat.mul_one,Nat.mod_eq_of_lt ha] at h2
 exact ⟨h1,h2⟩
theorem yr {a b:Fp} (ha:a.nat<pN):(bT a b).nat=a.nat*b.nat % pN:=by
 obtain ⟨h1,h2⟩:=fT (b:=b) ha
 rw [show bT a b=bf (aP a b) from rfl,ju h1,h2]
theorem ad2 {a b:Fp} (ha:a.nat<pN):(bT a b).nat<pN:=by rw [yr ha];exact Nat.mod_lt _ fK
theorem ae8 {a b:Fp} (ha:a.nat<pN) (hb:b.nat<pN):(cP a b).nat<pN:=by rw [Ix ha hb];exact Nat.mod_lt _ fK
theorem acz {a b:Fp} (ha:a.nat<pN) (hb:b.nat<pN):(dM a b).nat<pN:=by rw [xT ha hb];exact Nat.mod_lt _ fK
theorem XE {a:Fp} (ha:a.nat<pN):(dV a).nat=(pN-a.nat) % pN:=by
 rw [show dV a=dM zeroFp a from rfl,xT (by rw [lj];exact fK) ha,lj,Nat.zero_add]
def gu (e:List UInt64):Nat->Nat
 | 0=>0
 | n+1=>gu e n+(dH e n).toNat*2 ^ n
theorem tc {x:Fp} {a:Nat} (e:List UInt64) (hx:x.nat=a*rN % pN) : ∀ (n:Nat) (o:Fp) (v:Nat),o.nat=v*rN % pN ->
  (z9 x e n o).nat=v ^ 2 ^ n*a ^ gu e n % pN
 | 0,o,v,ho=>by
  have hlt:o.nat<pN:=by rw [ho];exact Nat.mod_lt _ fK
  obtain ⟨h1,h2⟩:=yy hlt
  have h3:=rq (h2.trans ho)
  simp only [z9,gu,Nat.pow_zero,Nat.pow_one,Nat.mul_one]
  rw [<- h3]
  exact (Nat.mod_eq_of_lt h1).symm
 | n+1,o,v,ho=>by
  have hlt:o.nat<pN:=by rw [ho];exact Nat.mod_lt _ fK
  have hmul : ∀ {p q:Fp} {s t:Nat},p.nat=s*rN % pN->q.nat=t*rN % pN->(aP p q).nat=(s*t)*rN % pN:=by
   intro p q s t hp hq
   obtain ⟨h1,h2⟩:=fT (a:=p) (b:=q) (by rw [hp];exact Nat.mod_lt _ fK)
   have h3:(aP p q).nat*rN % pN=((s*t)*rN)*rN % pN:=by
    rw [h2,hp,hq,<- Nat.mul_mod]
    refine congrArg (fun z=>z % pN) ?_
    simp only [Nat.mul_assoc,Nat.mul_left_comm,Nat.mul_comm]
   have h4:=rq h3
   rw [<- h4]
   exact (Nat.mod_eq_of_lt h1).symm
  have h1:=hmul ho ho
  simp only [z9]
  cases hb:dH e n with
  | true =>
   simp only []
   rw [tc e hx n _ _ (hmul h1 hx)]
   simp only [gu,hb,Bool.toNat_true,Nat.one_mul]
   refine congrArg (fun z=>z % pN) ?_
   rw [Nat.mul_pow,<- Nat.pow_two,<- Nat.pow_mul,show 2 ^ (n+1)=2*2 ^ n by rw [Nat.pow_succ,Nat.mul_comm],Nat.pow_add a,Nat.mul_assoc,Nat.mul_comm (a ^ 2 ^ n)]
  | false =>
   simp only []
   rw [tc e hx n _ _ h1]
   simp only [gu,hb,Bool.toNat_false,Nat.zero_mul,Nat.add_zero]
   refine congrArg (fun z=>z % pN) ?_
   rw [<- Nat.pow_two,<- Nat.pow_mul,show 2 ^ (n+1)=2*2 ^ n by rw [Nat.pow_succ,Nat.mul_comm]]
theorem rE {a:Fp} (ha:a.nat<pN) (e:List UInt64):(ub a e).nat=a.nat ^ gu e (64*e.length) % pN:=by
 unfold ub
 have h1:(1:Nat)<pN:=by decide +kernel
 rw [tc e (ju ha) _ _ 1 (by rw [ju (by rw [o7];exact h1),o7])]
 rw [Nat.one_pow,Nat.one_mul]
end Go.Proofs.YtcbplfkeeaecgaaGreat
namespace Go.Proofs.YtcbplfkeeaecgaaGreat
def IsPrime (p:Nat):Prop:=1<p /\ ∀ d,d ∣ p->d=1 \/ d=p
theorem IsPrime.pos {p:Nat} (h:IsPrime p):0<p:=by have:=h.1;omega
theorem IsPrime.coprime {p a:Nat} (h:IsPrime p) (ha : ¬ p ∣ a):Nat.gcd p a=1:=by
 rcases h.2 _ (Nat.gcd_dvd_left p a) with h1 | h1
 ·exact h1
 ·exact absurd (h1 ▸ Nat.gcd_dvd_right p a) ha
theorem IsPrime.dvd_mul {p a b:Nat} (h:IsPrime p) (hd:p ∣ a*b):p ∣ a \/ p ∣ b:=by
 by_cases ha:p ∣ a
 ·exact .inl ha
 ·exact .inr (Nat.Coprime.dvd_of_dvd_mul_left (h.coprime ha) hd)
def ch:Nat->Nat->Nat
 | _,0=>1
 | 0,_+1=>0
 | n+1,k+1=>ch n k+ch n (k+1)
theorem pv (n:Nat):ch n 0=1:=by cases n <;> rfl
theorem zK : ∀ {n k:Nat},n<k->ch n k=0
 | 0,k+1,_=>rfl
 | n+1,k+1,h=>by simp only [ch];rw [zK (by omega),zK (by omega)]
theorem Dz : ∀ n:Nat,ch n n=1
 | 0=>rfl
 | n+1=>by simp only [ch];rw [Dz n,zK (by omega)]
theorem EB : ∀ n k:Nat,(k+1)*ch (n+1) (k+1)=(n+1)*ch n k
 | 0,0=>rfl
 | 0,k+1=>by simp [ch]
 | n+1,0=>by
  have h:=EB n 0
  simp only [pv,Nat.zero_add,Nat.one_mul,Nat.mul_one] at h ⊢
  show ch (n+1) 0+ch (n+1) 1=n+1+1
  rw [pv,h]
  omega
 | n+1,j+1=>by
  have h1:=EB n j
  have h2:=EB n (j+1)
  have e:ch (n+1) (j+1)=ch n j+ch n (j+1):=rfl
  show (j+1+1)*(ch (n+1) (j+1)+ch (n+1) (j+1+1))=(n+1+1)*ch (n+1) (j+1)
  rw [Nat.mul_add,h2,Nat.succ_mul (j+1),h1]
  rw [Nat.succ_mul (n+1),e,Nat.mul_add]
  omega
def bs (a n:Nat):Nat->Nat
 | 0=>0
 | m+1=>bs a n m+ch n m*a ^ m
theorem O8 (a n:Nat) : ∀ m:Nat,bs a (n+1) (m+1)=bs a n (m+1)+a*bs a n m
 | 0=>by simp [bs,pv]
 | m+1=>by
  have h:=O8 a n m
  show bs a (n+1) (m+1)+ch (n+1) (m+1)*a ^ (m+1)=bs a n (m+1)+ch n (m+1)*a ^ (m+1)+a*(bs a n m+ch n m*a ^ m)
  rw [h,show ch (n+1) (m+1)=ch n m+ch n (m+1) from rfl,Nat.add_mul,Nat.mul_add,Nat.pow_succ]
  have:ch n m*(a ^ m*a)=a*(ch n m*a ^ m):=by rw [<- Nat.mul_assoc,Nat.mul_comm]
  omega
theorem aga (a:Nat) : ∀ n:Nat,(a+1) ^ n=bs a n (n+1)
 | 0=>by simp [bs,ch]
 | n+1=>by
  rw [O8 a n (n+1),show bs a n (n+1+1)=bs a n (n+1)+ch n (n+1)*a ^ (n+1) from rfl,zK (Nat.lt_succ_self n),Nat.zero_mul,Nat.add_zero,<- aga a n,Nat.pow_succ,Nat.mul_add,Nat.mul_one,Nat.mul_comm a]
  omega
theorem If {p k:Nat} (h:IsPrime p) (h0:0<k) (hk:k<p):p ∣ ch p k:=by
 obtain ⟨j,rfl⟩ : ∃ j,k=j+1:=⟨k-1,by omega⟩
 obtain ⟨n,rfl⟩ : ∃ n,p=n+1:=⟨p-1,by omega⟩
 have hd:n+1 ∣ (j+1)*ch (n+1) (j+1):=⟨ch n j,EB n j⟩
 rcases h.dvd_mul hd with h1 | h1
 ·exact absurd (Nat.le_of_dvd (by omega) h1) (by omega)
 ·exact h1
theorem Il {p:Nat} (h:IsPrime p) (a:Nat) : ∀ m:Nat,m<p->bs a p (m+1) % p=1
 | 0,_=>by
  simp only [bs,pv,Nat.pow_zero,Nat.mul_one,Nat.zero_add]
  exact Nat.mod_eq_of_lt h.1
 | m+1,hm=>by
  have ih:=Il h a m (by omega)
  obtain ⟨c,hc⟩:=If h (Nat.succ_pos m) hm
  show (bs a p (m+1)+ch p (m+1)*a ^ (m+1)) % p=1
  rw [hc,Nat.mul_assoc,Nat.add_mul_mod_self_left]
  exact ih
theorem H4 {p:Nat} (h:IsPrime p) : ∀ a:Nat,a ^ p % p=a % p
 | 0=>by
  have:=h.pos
  rw [Nat.zero_pow this]
 | a+1=>by
  have ih:=H4 h a
  have hp:=h.1
  obtain ⟨n,rfl⟩ : ∃ n,p=n+1:=⟨p-1,by omega⟩
  rw [aga a (n+1),show bs a (n+1) (n+1+1)=bs a (n+1) (n+1)+ch (n+1) (n+1)*a ^ (n+1) from rfl,Dz,Nat.one_mul,Nat.add_mod,Il h a n (by omega),ih]
  rw [Nat.add_mod a 1,Nat.mod_eq_of_lt hp,Nat.add_comm]
theorem fermat {p a:Nat} (h:IsPrime p) (ha : ¬ p ∣ a):a ^ (p-1) % p=1:=by
 have hp:=h.1
 have h1:=H4 h a
 obtain ⟨n,rfl⟩ : ∃ n,p=n+1:=⟨p-1,by omega⟩
 rw [Nat.add_sub_cancel]
 have h0:0<a:=Nat.pos_of_ne_zero (by rintro rfl;exact ha ⟨0,rfl⟩)
 have hle:a<=a ^ (n+1):=Nat.le_self_pow (by omega) a
 have hd:n+1 ∣ a ^ (n+1)-a:=Nat.dvd_of_mod_eq_zero (Nat.sub_mod_eq_zero_of_mod_eq h1)
 have h2:1<=a ^ n:=Nat.one_le_pow _ _ h0
 have e:a ^ (n+1)-a=a*(a ^ n-1):=by rw [Nat.pow_succ,Nat.mul_sub,Nat.mul_one,Nat.mul_comm]
 rw [e] at hd
 rcases h.dvd_mul hd with h3 | h3
 ·exact absurd h3 ha
 ·obtain ⟨c,hc⟩:=h3
  rw [show a ^ n=(n+1)*c+1 by omega,Nat.mul_add_mod]
  exact Nat.mod_eq_of_lt hp
theorem ef : ∀ n:Nat,1<n -> ∃ p,IsPrime p/\p ∣ n:=by
 intro n
 induction n using Nat.strongRecOn with
 | ind n ih =>
  intro hn
  by_cases h:IsPrime n
  ·exact ⟨n,h,Nat.dvd_refl n⟩
  ·have : ∃ d,d ∣ n/\d ≠ 1/\d ≠ n:=by
    apply Classical.byContradiction
    intro hc
    refine h ⟨hn,fun d hd => ?_⟩
    by_cases h1:d=1
    ·exact .inl h1
    ·by_cases h2:d=n
     ·exact .inr h2
     ·exact absurd ⟨d,hd,h1,h2⟩ hc
   obtain ⟨d,hd,h1,h2⟩:=this
   have hdn:=Nat.le_of_dvd (by omega) hd
   have hd0:d ≠ 0:=by
    rintro rfl
    have:=Nat.eq_zero_of_zero_dvd hd
    omega
   obtain ⟨p,hp,hpd⟩:=ih d (by omega) (by omega)
   exact ⟨p,hp,Nat.dvd_trans hpd hd⟩
theorem adn {d b:Nat} (hd:1<d) : ∀ m n:Nat,b ^ m % d=1->b ^ n % d=1->b ^ Nat.gcd m n % d=1:=by
 intro m n
 induction m,n using Nat.gcd.induction with
 | H0 n=>intro _ h;rw [Nat.gcd_zero_left];exact h
 | H1 m n hm ih =>
  intro h1 h2
  rw [Nat.gcd_rec]
  refine ih ?_ h1
  have e:b ^ n % d=(b ^ m) ^ (n / m)*b ^ (n % m) % d:=by rw [<- Nat.pow_mul,<- Nat.pow_add,Nat.div_add_mod]
  rw [h2,Nat.mul_mod,Nat.pow_mod,h1,Nat.one_pow,Nat.mod_eq_of_lt hd,Nat.one_mul,Nat.mod_mod] at e
  exact e.symm
theorem Hc {n q r a:Nat} (hn:n=q*r+1) (hq:IsPrime q) (hr:0<r) (h1:a ^ (q*r) % n=1) (h2:Nat.gcd (a ^ r % n+(n-1)) n=1) {d:Nat} (hd:IsPrime d) (hdn:d ∣ n):q ∣ d-1:=by
 have hq1:=hq.1
 have hn1:1<n:=by
  have:0<q*r:=Nat.mul_pos (by omega) hr
  omega
 have hd1:=hd.1
 have hb:(a ^ r) ^ q % d=1:=by
  rw [<- Nat.pow_mul,Nat.mul_comm r q]
  have:a ^ (q*r) % n % d=a ^ (q*r) % d:=Nat.mod_mod_of_dvd _ hdn
  rw [<- this,h1,Nat.mod_eq_of_lt hd1]
 have hnd : ¬ d ∣ a ^ r:=by
  intro h
  obtain ⟨c,hc⟩:=h
  rw [hc,Nat.mul_pow,Nat.mul_mod] at hb
  have:d ^ q % d=0:=by
   obtain ⟨k,rfl⟩ : ∃ k,q=k+1:=⟨q-1,by omega⟩
   rw [Nat.pow_succ,Nat.mul_mod_left]
  rw [this] at hb
  simp at hb
 have hf:=fermat hd hnd
 have hne:a ^ r % d ≠ 1:=by
  intro h
  have hdd:d ∣ a ^ r % n+(n-1):=by
   have e:(a ^ r % n) % d=1:=by rw [Nat.mod_mod_of_dvd _ hdn];exact h
   have e2:(a ^ r % n+(n-1)+1) % d=1:=by
    rw [show a ^ r % n+(n-1)+1=a ^ r % n+n by omega,Nat.add_mod,e]
    obtain ⟨c,hc⟩:=hdn
    rw [hc,Nat.mul_mod_right,Nat.add_zero,Nat.mod_eq_of_lt hd1]
   have e3:=Nat.sub_mod_eq_zero_of_mod_eq (e2.trans (Nat.mod_eq_of_lt hd1).symm)
   rw [Nat.add_sub_cancel] at e3
   exact Nat.dvd_of_mod_eq_zero e3
  have:=Nat.dvd_gcd hdd hdn
  rw [h2] at this
  have:=Nat.le_of_dvd (by omega) this
  omega
 apply Classical.byContradiction
 intro hc
 have hg:=hq.coprime hc
 have:=adn hd1 q (d-1) hb hf
 rw [hg,Nat.pow_one] at this
 exact hne this
theorem Fi {n q r a K:Nat} (hn:n=q*r+1) (hq:IsPrime q) (hr:0<r) (hK : ∀ k,k<K -> ¬ (q*(k+1)+1) ∣ n) (hqq:n<(q*(K+1)+1)*(q*(K+1)+1)) (h1:a ^ (q*r) % n=1) (h2:Nat.gcd (a ^ r % n+(n-1)) n=1):IsPrime n:=by
 have hq1:=hq.1
 have hn1:1<n:=by
  have:0<q*r:=Nat.mul_pos (by omega) hr
  omega
 refine ⟨hn1,fun x hx => ?_⟩
 have key : ∀ d,IsPrime d->d ∣ n->q*(K+1)+1<=d:=by
  intro d hd hdn
  obtain ⟨c,hc⟩:=Hc hn hq hr h1 h2 hd hdn
  have hd1:=hd.1
  have hdc:d=q*c+1:=by omega
  rcases Nat.lt_or_ge K c with h | h
  ·have:=Nat.mul_le_mul_left q (show K+1<=c from h)
   omega
  ·have hc0:c ≠ 0:=by rintro rfl;omega
   obtain ⟨k,rfl⟩ : ∃ k,c=k+1:=⟨c-1,by omega⟩
   exact absurd (hdc ▸ hdn) (hK k (by omega))
 by_cases hx1:x=1
 ·exact .inl hx1
 ·right
  obtain ⟨y,hy⟩:=hx
  have hx0:x ≠ 0:=by rintro rfl;omega
  by_cases hy1:y=1
  ·subst hy1;omega
  ·have hy0:y ≠ 0:=by rintro rfl;omega
   obtain ⟨d,hd,hdx⟩:=ef x (by omega)
   obtain ⟨e,he,hey⟩:=ef y (by omega)
   have k1:=key d hd (Nat.dvd_trans hdx ⟨y,hy⟩)
   have k2:=key e he (Nat.dvd_trans hey ⟨x,by rw [hy,Nat.mul_comm]⟩)
   have l1:=Nat.le_of_dvd (by omega) hdx
   have l2:=Nat.le_of_dvd (by omega) hey
   have:=Nat.mul_le_mul (show q*(K+1)+1<=x by omega) (show q*(K+1)+1<=y by omega)
   omega
end Go.Proofs.YtcbplfkeeaecgaaGreat
namespace Go.Proofs.YtcbplfkeeaecgaaGreat
def A6:Nat->Nat->Nat->Nat->Nat
 | 0,_,_,n=>1 % n
 | k+1,a,e,n=>match Nat.beq e 0 with
  | true=>1 % n
  | false=>match Nat.beq (e % 2) 1 with
   | true=>a*A6 k (a*a % n) (e / 2) n % n
   | false=>A6 k (a*a % n) (e / 2) n
theorem gN (n:Nat) : ∀ (k a e:Nat),e<2 ^ k->A6 k a e n=a ^ e % n
 | 0,a,e,h=>by
  obtain rfl:e=0:=by simpa using h
  rfl
 | k+1,a,e,h=>by
  unfold A6
  cases h0:Nat.beq e 0 with
  | true =>
   have:=Nat.eq_of_beq_eq_true h0
   subst this
   rfl
  | false =>
   have hlt:e / 2<2 ^ k:=by rw [Nat.pow_succ] at h;omega
   have ih:=gN n k (a*a % n) (e / 2) hlt
   have e1:(a*a % n) ^ (e / 2) % n=a ^ (2*(e / 2)) % n:=by rw [<- Nat.pow_mod,<- Nat.pow_two,<- Nat.pow_mul]
   cases h1:Nat.beq (e % 2) 1 with
   | true =>
    have h1:=Nat.eq_of_beq_eq_true h1
    simp only []
    rw [ih,e1,Nat.mul_mod_mod]
    refine congrArg (fun z=>z % n) ?_
    rw [show a ^ e=a ^ (2*(e / 2)+1) by congr 1;omega,Nat.pow_succ,Nat.mul_comm]
   | false =>
    have h1:=Nat.ne_of_beq_eq_false h1
    simp only []
    rw [ih,e1]
    refine congrArg (fun z=>a ^ z % n) ?_
    omega
theorem J0 {n q r a k:Nat} (K:Nat) (hn:n=q*r+1) (hq:IsPrime q) (hr:0<r) (hK : ∀ k,k<K -> ¬ (q*(k+1)+1) ∣ n) (hqq:n<(q*(K+1)+1)*(q*(K+1)+1)) (hk:q*r<2 ^ k) (h1:A6 k a (q*r) n=1) (h2:Nat.gcd (A6 k a r n+(n-1)) n=1):IsPrime n:=by
 have hrq:r<2 ^ k:=Nat.lt_of_le_of_lt (Nat.le_mul_of_pos_left r (by have:=hq.1;omega)) hk
 rw [gN n k a _ hk] at h1
 rw [gN n k a _ hrq] at h2
 exact Fi hn hq hr hK hqq h1 h2
def UD (n:Nat):Nat->Nat->Bool
 | 0,_=>true
 | k+1,d=>match Nat.beq (n % d) 0 with
  | true=>false
  | false=>UD n k (d+1)
theorem p9 {n:Nat} : ∀ {k d:Nat},UD n k d=true -> ∀ x,d<=x->x<d+k -> ¬ x ∣ n
 | 0,d,_,x,h1,h2=>by omega
 | k+1,d,h,x,h1,h2=>by
  simp only [UD] at h
  split at h
  ·cases h
  ·rename_i hb
   have hb:=Nat.ne_of_beq_eq_false hb
   rcases Nat.lt_or_ge d x with hlt | hge
   ·exact p9 h x hlt (by omega)
   ·obtain rfl:x=d:=by omega
    exact fun hd=>hb (Nat.mod_eq_zero_of_dvd hd)
theorem bW {n k:Nat} (hn:1<n) (h:UD n k 2=true) (hk:n<(k+2)*(k+2)):IsPrime n:=by
 refine ⟨hn,fun d hd => ?_⟩
 obtain ⟨y,hy⟩:=hd
 have hd0:d ≠ 0:=by rintro rfl;omega
 have hy0:y ≠ 0:=by rintro rfl;omega
 by_cases h1:d=1
 ·exact .inl h1
 ·right
  by_cases h2:y=1
  ·subst h2;omega
  ·have k1:k+2<=d:=by
    rcases Nat.lt_or_ge d (2+k) with hl | hl
    ·exact absurd ⟨y,hy⟩ (p9 h d (by omega) hl)
    ·omega
   have k2:k+2<=y:=by
    rcases Nat.lt_or_ge y (2+k) with hl | hl
    ·exact absurd ⟨d,by rw [hy,Nat.mul_comm]⟩ (p9 h y (by omega) hl)
    ·omega
   have:=Nat.mul_le_mul k1 k2
   omega
theorem adc:IsPrime 421987:=bW (k:=700) (by decide) (by decide +kernel) (by decide)
theorem ade:IsPrime 13090036741:=J0 0 (q:=421987) (r:=31020) (a:=2) (k:=34) (by decide) adc (by decide) (fun k h=>absurd h (by omega)) (by decide) (by decide) (by decide +kernel) (by decide +kernel)
theorem adf:IsPrime 3819663927398918131021:=J0 4 (q:=13090036741) (r:=291799328220) (a:=2) (k:=72) (by decide) ade (by decide) (by decide +kernel) (by decide +kernel) (by decide +kernel) (by decide +kernel) (by decide +kernel)
theorem adg:IsPrime 1125266252156850182658904441386709967:=J0 0 (q:=3819663927398918131021) (r:=294598235223046) (a:=2) (k:=120) (by decide +kernel) adf (by decide) (fun k h=>absurd h (by omega)) (by decide +kernel) (by decide +kernel) (by decide +kernel) (by decide +kernel)
theorem adh:IsPrime 15778400344354997994418419698270088123916926905054652752758194827714659:=J0 0 (q:=1125266252156850182658904441386709967) (r:=14021926201120671579994175730661374) (a:=2) (k:=234) (by decide +kernel) adg (by decide +kernel) (fun k h=>absurd h (by omega)) (by decide +kernel) (by decide +kernel) (by decide +kernel) (by decide +kernel)
theorem mo:IsPrime pN:=J0 0 (q:=15778400344354997994418419698270088123916926905054652752758194827714659) (r:=253663835868735594330404923636534084567099854) (a:=2) (k:=381) (by decide +kernel) adh (by decide +kernel) (fun k h=>absurd h (by omega)) (by decide +kernel) (by decide +kernel) (by decide +kernel) (by decide +kernel)
end Go.Proofs.YtcbplfkeeaecgaaGreat
namespace Go.Proofs.YtcbplfkeeaecgaaGreat
def bj (xs:List UInt64):Nat->Nat
 | 0=>0
 | n+1=>bj xs n+(atF xs n).toNat*W64 ^ n
theorem nt (xs:List UInt64) : ∀ n,bj xs n<W64 ^ n
 | 0=>by simp [bj]
 | n+1=>by
  have ih:=nt xs n
  have h:=(atF xs n).toNat_lt
  have h1:(atF xs n).toNat*W64 ^ n<=(W64-1)*W64 ^ n:=Nat.mul_le_mul_right _ (by unfold W64;omega)
  have h2:W64 ^ (n+1)=(W64-1)*W64 ^ n+W64 ^ n:=by
   rw [Nat.pow_succ,Nat.mul_comm,Nat.sub_mul,Nat.one_mul]
   have:W64 ^ n<=W64*W64 ^ n:=Nat.le_mul_of_pos_left _ (by unfold W64;omega)
   omega
  simp only [bj]
  omega
theorem Gl {x y p q:Nat} {w a b:Nat} (hp:p<w) (hq:q<w):a<b->p+a*w<q+b*w:=by
 intro h
 have:(a+1)*w<=b*w:=Nat.mul_le_mul_right _ h
 rw [Nat.add_mul,Nat.one_mul] at this
 omega
theorem tG (xs ys:List UInt64) : ∀ n,mg xs ys n=if bj xs n<bj ys n then -1 else if bj xs n > bj ys n then 1 else 0
 | 0=>by simp [mg,bj]
 | n+1=>by
  have ih:=tG xs ys n
  have h1:=nt xs n
  have h2:=nt ys n
  have e1:bj xs (n+1)=bj xs n+(atF xs n).toNat*W64 ^ n:=rfl
  have e2:bj ys (n+1)=bj ys n+(atF ys n).toNat*W64 ^ n:=rfl
  rw [e1,e2]
  show (if atF xs n<atF ys n then -1 else if atF xs n > atF ys n then 1 else mg xs ys n)=_
  by_cases ha:atF xs n<atF ys n
  ·have:=UInt64.lt_iff_toNat_lt.1 ha
   have:=Gl (x:=0) (y:=0) h1 h2 this
   rw [if_pos ha,if_pos this]
  ·rw [if_neg ha]
   by_cases hb:atF xs n > atF ys n
   ·have:=UInt64.lt_iff_toNat_lt.1 hb
    have:=Gl (x:=0) (y:=0) h2 h1 this
    rw [if_pos hb,if_neg (by omega),if_pos this]
   ·rw [if_neg hb,ih]
    have e:(atF xs n).toNat=(atF ys n).toNat:=by
     have h3:=mt UInt64.lt_iff_toNat_lt.2 ha
     have h4:=mt UInt64.lt_iff_toNat_lt.2 hb
     omega
    rw [e]
    simp only [Nat.add_lt_add_iff_right,gt_iff_lt]
theorem rT (a:Fp):bj a.list 6=a.nat:=by
 simp only [bj,atF,Fp.list,Fp.nat,List.getD_eq_getElem?_getD,List.getElem?_cons_zero,List.getElem?_cons_succ,Option.getD_some]
 generalize a.l0.toNat=x0
 generalize a.l1.toNat=x1
 generalize a.l2.toNat=x2
 generalize a.l3.toNat=x3
 generalize a.l4.toNat=x4
 generalize a.l5.toNat=x5
 simp only [Nat.pow_succ,Nat.pow_zero,Nat.one_mul,Nat.mul_one,Nat.mul_add,Nat.mul_assoc,Nat.mul_comm,Nat.mul_left_comm,Nat.zero_add]
 omega
theorem O5 (a b:Fp):Ie a.list b.list=if a.nat<b.nat then -1 else if a.nat > b.nat then 1 else 0:=by
 have h:Ie a.list b.list=mg a.list b.list 6:=by
  unfold Ie UZ
  rfl
 rw [h,tG,rT,rT]
theorem Yb (a:Fp):qG a=decide (a.nat<pN):=by
 unfold qG
 rw [O5,gZ]
 refine decide_eq_decide.2 ?_
 split
 ·rename_i h;simp [h]
 ·rename_i h
  simp only [h,iff_false]
  split <;> omega
def hN:Nat:=pN / 2
theorem K5:(e9 pLimbs).nat=hN:=by decide +kernel
theorem mb (a:Fp):bB a=decide (hN<a.nat):=by
 unfold bB
 rw [O5,K5]
 refine decide_eq_decide.2 ?_
 split
 ·rename_i h;constructor <;> intro h' <;> omega
 ·split
  ·rename_i h h2;constructor <;> intro h' <;> omega
  ·rename_i h h2;constructor <;> intro h' <;> omega
theorem u64_ne {x y:UInt64}:(x != y)=true <-> x.toNat ≠ y.toNat:=by
 simp only [bne_iff_ne,ne_eq]
 exact ⟨fun h e=>h (UInt64.toNat.inj e),fun h e=>h (by rw [e])⟩
theorem xv (a m:Fp):cN a m=decide (a.nat<m.nat):=by
 have h0:=a.l0.toNat_lt
 have h1:=a.l1.toNat_lt
 have h2:=a.l2.toNat_lt
 have h3:=a.l3.toNat_lt
 have h4:=a.l4.toNat_lt
 have k0:=m.l0.toNat_lt
 have k1:=m.l1.toNat_lt
 have k2:=m.l2.toNat_lt
 have k3:=m.l3.toNat_lt
 have k4:=m.l4.toNat_lt
 have same : ∀ {x y:UInt64},(x != y)=false->x.toNat=y.toNat:=fun h=>by
  simp only [bne_eq_false_iff_eq] at h
  rw [h]
 unfold cN
 cases e5:a.l5 != m.l5 with
 | true =>
  have:=u64_ne.1 e5
  refine decide_eq_decide.2 ?_
  rw [UInt64.lt_iff_toNat_lt]
  unfold Fp.nat W64
  omega
 | false =>
  have e5:=same e5
  simp only []
  cases e4:a.l4 != m.l4 with
  | true =>
   have:=u64_ne.1 e4
   refine decide_eq_decide.2 ?_
   rw [UInt64.lt_iff_toNat_lt]
   unfold Fp.nat W64
   omega
  | false =>
   have e4:=same e4
   simp only []
   cases e3:a.l3 != m.l3 with
   | true =>
    have:=u64_ne.1 e3
    refine decide_eq_decide.2 ?_
    rw [UInt64.lt_iff_toNat_lt]
    unfold Fp.nat W64
    omega
   | false =>
    have e3:=same e3
    simp only []
    cases e2:a.l2 != m.l2 with
    | true =>
     have:=u64_ne.1 e2
     refine decide_eq_decide.2 ?_
     rw [UInt64.lt_iff_toNat_lt]
     unfold Fp.nat W64
     omega
    | false =>
     have e2:=same e2
     simp only []
     cases e1:a.l1 != m.l1 with
     | true =>
      have:=u64_ne.1 e1
      refine decide_eq_decide.2 ?_
      rw [UInt64.lt_iff_toNat_lt]
      unfold Fp.nat W64
      omega
     | false =>
      have e1:=same e1
      simp only []
      cases e0:a.l0 != m.l0 with
      | true =>
       have:=u64_ne.1 e0
       refine decide_eq_decide.2 ?_
       rw [UInt64.lt_iff_toNat_lt]
       unfold Fp.nat W64
       omega
      | false =>
       have e0:=same e0
       refine (decide_eq_false ?_).symm
       unfold Fp.nat W64
       omega
theorem YR (a b:Fp):cH a b=decide (a.nat=b.nat):=by
 by_cases h:a=b
 ·subst h;rw [(gH a a).2 rfl];simp
 ·have h1:cH a b=false:=by
   cases e:cH a b with
   | true=>exact absurd ((gH a b).1 e) h
   | false=>rfl
  rw [h1]
  exact (decide_eq_false fun e=>h (Fp.nat_inj e)).symm
end Go.Proofs.YtcbplfkeeaecgaaGreat
namespace Go.Proofs.YtcbplfkeeaecgaaGreat
theorem of_nat (n:UInt64):(ofF n).nat=n.toNat:=by
 unfold ofF Fp.nat
 simp only [show (0:UInt64).toNat=0 from rfl,Nat.mul_zero,Nat.add_zero]
theorem akr:gu [pLimbs.l0-2,pLimbs.l1,pLimbs.l2,pLimbs.l3,pLimbs.l4,pLimbs.l5] (64*6)=pN-2:=by decide +kernel
theorem Ob {a:Nat} (h:a<pN) (h0:a ≠ 0) : ¬ pN ∣ a:=fun hd=>absurd (Nat.le_of_dvd (by omega) hd) (by omega)
theorem DN:2<pN:=by decide +kernel
theorem aeq {x:Fp} (hx:x.nat<pN):(x.nat=0->(dc x).2=7)/\(x.nat ≠ 0->(dc x).2=0/\(dc x).1.nat<pN/\x.nat*(dc x).1.nat % pN=1):=by
 unfold dc
 rw [YR,lj]
 refine ⟨fun h => ?_,fun h => ?_⟩
 ·rw [decide_eq_true h]
 ·rw [decide_eq_false h]
  simp only []
  have e:(ub x [pLimbs.l0-2,pLimbs.l1,pLimbs.l2,pLimbs.l3,pLimbs.l4,pLimbs.l5]).nat=x.nat ^ (pN-2) % pN:=by
   rw [rE hx,show 64 * [pLimbs.l0-2,pLimbs.l1,pLimbs.l2,pLimbs.l3,pLimbs.l4,pLimbs.l5].length=64*6 from rfl,akr]
  refine ⟨trivial,by rw [e];exact Nat.mod_lt _ fK,?_⟩
  rw [e,Nat.mul_mod_mod]
  have h2:=DN
  have:x.nat*x.nat ^ (pN-2)=x.nat ^ (pN-1):=by rw [show pN-1=(pN-2)+1 by omega,Nat.pow_succ,Nat.mul_comm]
  rw [this]
  exact fermat mo (Ob hx h)
end Go.Proofs.YtcbplfkeeaecgaaGreat
namespace Go.Proofs.YtcbplfkeeaecgaaGreat
instance : NeZero pN := ⟨by decide +kernel⟩
def V1:Type:=Fin pN
def V1.of (n:Nat):V1:=Fin.ofNat pN n
def V1.nat (a:V1):Nat:=Fin.val a
theorem V1.nat_lt (a:V1):a.nat<pN:=Fin.isLt a
theorem V1.nat_of (n:Nat):(V1.of n).nat=n % pN:=rfl
theorem V1.ext {a b:V1} (h:a.nat=b.nat):a=b:=Fin.eq_of_val_eq h
theorem V1.of_nat (a:V1):V1.of a.nat=a:=V1.ext (by rw [V1.nat_of,Nat.mod_eq_of_lt a.nat_lt])
def V1.add (a b:V1):V1:=V1.of (a.nat+b.nat)
def V1.mul (a b:V1):V1:=V1.of (a.nat*b.nat)
def V1.neg (a:V1):V1:=V1.of (pN-a.nat)
def V1.sub (a b:V1):V1:=V1.of (a.nat+(pN-b.nat))
def V1.inv (a:V1):V1:=V1.of (A6 381 a.nat (pN-2) pN)
theorem yd:1<pN:=by decide +kernel
theorem V1.one_mod:1 % pN=1:=Nat.mod_eq_of_lt yd
instance : CR V1 where
 add:=V1.add
 mul:=V1.mul
 neg:=V1.neg
 sub:=V1.sub
 z:=V1.of 0
 o:=V1.of 1
 add_zero:=fun a=>V1.ext (by show (a.nat+0 % pN) % pN=a.nat;rw [Nat.zero_mod,Nat.add_zero,Nat.mod_eq_of_lt a.nat_lt])
 add_comm:=fun a b=>V1.ext (by show (a.nat+b.nat) % pN=(b.nat+a.nat) % pN;rw [Nat.add_comm])
 add_assoc:=fun a b c=>V1.ext (by show ((a.nat+b.nat) % pN+c.nat) % pN=(a.nat+(b.nat+c.nat) % pN) % pN;rw [Nat.mod_add_mod,Nat.add_mod_mod,Nat.add_assoc])
 mul_assoc:=fun a b c=>V1.ext (by show ((a.nat*b.nat) % pN*c.nat) % pN=(a.nat*((b.nat*c.nat) % pN)) % pN;rw [Nat.mod_mul_mod,Nat.mul_mod_mod,Nat.mul_assoc])
 mul_comm:=fun a b=>V1.ext (by show (a.nat*b.nat) % pN=(b.nat*a.nat) % pN;rw [Nat.mul_comm])
 mul_one:=fun a=>V1.ext (by show (a.nat*(1 % pN)) % pN=a.nat;rw [V1.one_mod,Nat.mul_one,Nat.mod_eq_of_lt a.nat_lt])
 dist:=fun a b c=>V1.ext (by
  show (a.nat*((b.nat+c.nat) % pN)) % pN=((a.nat*b.nat) % pN+(a.nat*c.nat) % pN) % pN
  rw [Nat.mul_mod_mod,<- Nat.add_mod,Nat.mul_add])
 neg_add:=fun a=>V1.ext (by
  show ((pN-a.nat) % pN+a.nat) % pN=0 % pN
  rw [Nat.mod_add_mod,Nat.sub_add_cancel (Nat.le_of_lt a.nat_lt),Nat.mod_self,Nat.zero_mod])
 sub_eq:=fun a b=>V1.ext (by
  show (a.nat+(pN-b.nat)) % pN=(a.nat+(pN-b.nat) % pN) % pN
  rw [Nat.add_mod_mod])
theorem V1.nat_add (a b:V1):(a+b).nat=(a.nat+b.nat) % pN:=rfl
theorem V1.nat_mul (a b:V1):(a*b).nat=(a.nat*b.nat) % pN:=rfl
theorem V1.nat_zero:(0:V1).nat=0:=Nat.zero_mod _
theorem V1.nat_one:(1:V1).nat=1:=V1.one_mod
theorem V1.nat_pow (a:V1) : ∀ n:Nat,(a ^ n).nat=a.nat ^ n % pN
 | 0=>rfl
 | n+1=>by rw [aq,V1.nat_mul,V1.nat_pow a n,Nat.mod_mul_mod,Nat.pow_succ]
theorem V1.ne_zero {a:V1} (h:a ≠ 0):a.nat ≠ 0:=fun e=>h (V1.ext (by rw [e,V1.nat_zero]))
theorem V1.fermat {a:V1} (h:a ≠ 0):a ^ (pN-1)=1:=V1.ext (by
 rw [V1.nat_pow,V1.nat_one]
 exact Go.Proofs.YtcbplfkeeaecgaaGreat.fermat mo (Ob a.nat_lt (V1.ne_zero h)))
theorem V1.inv_eq (a:V1):V1.inv a=a ^ (pN-2):=V1.ext (by
 show A6 381 a.nat (pN-2) pN % pN=_
 rw [gN pN 381 _ _ (by decide +kernel),V1.nat_pow,Nat.mod_mod])
instance : Fld V1 where
 inv:=V1.inv
 mul_inv:=fun a h=>by
  rw [V1.inv_eq]
  have:=V1.fermat h
  rw [show pN-1=(pN-2)+1 by have:=DN;omega,aq] at this
  rw [CR.mul_comm]
  exact this
 one_ne:=fun e=>by
  have:=congrArg V1.nat e
  rw [V1.nat_one,V1.nat_zero] at this
  omega
def Fp.ok (a:Fp):Prop:=a.nat<pN
def Fp.v (a:Fp):V1:=V1.of a.nat
theorem Fp.v_nat {a:Fp} (h:a.ok):a.v.nat=a.nat:=Nat.mod_eq_of_lt h
theorem Fp.v_inj {a b:Fp} (ha:a.ok) (hb:b.ok) (h:a.v=b.v):a=b:=Fp.nat_inj (by rw [<- Fp.v_nat ha,<- Fp.v_nat hb,h])
theorem Es {a b:Fp} (ha:a.ok) (hb:b.ok):cH a b=true <-> a.v=b.v:=⟨fun h=>by rw [(gH a b).1 h],fun h=>(gH a b).2 (Fp.v_inj ha hb h)⟩
theorem cO {a b:Fp} (ha:a.ok) (hb:b.ok):(cP a b).ok:=ae8 ha hb
theorem fQ {a b:Fp} (ha:a.ok) (hb:b.ok):(dM a b).ok:=acz ha hb
theorem bc {a b:Fp} (ha:a.ok):(bT a b).ok:=ad2 ha
theorem a9:zeroFp.ok:=by unfold Fp.ok;rw [lj];exact fK
theorem jD:oneFp.ok:=by unfold Fp.ok;rw [o7];exact yd
theorem iQ {a:Fp} (ha:a.ok):(dV a).ok:=fQ a9 ha
theorem NS {a:Fp} (ha:a.ok) (e:List UInt64):(ub a e).ok:=by unfold Fp.ok;rw [rE ha];exact Nat.mod_lt _ fK
theorem gS:zeroFp.v=0:=V1.ext (by rw [Fp.v_nat a9,lj,V1.nat_zero])
theorem zU:oneFp.v=1:=V1.ext (by rw [Fp.v_nat jD,o7,V1.nat_one])
theorem lM {a b:Fp} (ha:a.ok) (hb:b.ok):(cP a b).v=a.v+b.v:=V1.ext (by
 rw [Fp.v_nat (cO ha hb),Ix ha hb,V1.nat_add,Fp.v_nat ha,Fp.v_nat hb])
theorem gb {a b:Fp} (ha:a.ok) (hb:b.ok):(bT a b).v=a.v*b.v:=V1.ext (by
 rw [Fp.v_nat (bc ha),yr ha,V1.nat_mul,Fp.v_nat ha,Fp.v_nat hb])
theorem pJ {a b:Fp} (ha:a.ok) (hb:b.ok):(dM a b).v=a.v-b.v:=V1.ext (by
 rw [Fp.v_nat (fQ ha hb),xT ha hb]
 show _=(a.v.nat+(pN-b.v.nat)) % pN
 rw [Fp.v_nat ha,Fp.v_nat hb]
 congr 1
 have:b.nat<pN:=hb
 omega)
theorem ra {a:Fp} (ha:a.ok):(dV a).v = - a.v:=by
 rw [show dV a=dM zeroFp a from rfl,pJ a9 ha,gS]
 grind
theorem aiZ {a:Fp} (ha:a.ok) (e:List UInt64):(ub a e).v=a.v ^ gu e (64*e.length):=V1.ext (by
 rw [Fp.v_nat (NS ha e),rE ha,V1.nat_pow,Fp.v_nat ha])
theorem PB {a:Fp} (ha:a.ok):a.v=0 <-> a=zeroFp:=⟨fun h=>Fp.v_inj ha a9 (by rw [h,gS]),fun h=>by rw [h,gS]⟩
end Go.Proofs.YtcbplfkeeaecgaaGreat
namespace Go.Proofs.YtcbplfkeeaecgaaGreat
theorem Wy (pF:Fp->List UInt64->Fp) (hF:Fp->Fp) (m a:Fp):UA pF hF m a=pF a (hF (hF ⟨m.l0+1,m.l1,m.l2,m.l3,m.l4,m.l5⟩)).list:=rfl
def rootX:Fp:=e9 (e9 ⟨pLimbs.l0+1,pLimbs.l1,pLimbs.l2,pLimbs.l3,pLimbs.l4,pLimbs.l5⟩)
theorem Ww:rootX=e9 (e9 ⟨pLimbs.l0+1,pLimbs.l1,pLimbs.l2,pLimbs.l3,pLimbs.l4,pLimbs.l5⟩):=rfl
theorem Wz (a:Fp):zY a=UA ub e9 pLimbs a:=rfl
theorem xW (a:Fp):zY a=ub a rootX.list:=by rw [Wz,Wy,Ww]
theorem ai4:gu rootX.list (64*6)=(pN+1) / 4:=by decide +kernel
theorem Yj (a:Fp):a.list.length=6:=rfl
theorem xX {a:Fp} (ha:a.ok):(zY a).ok:=by
 rw [xW]
 exact NS ha _
theorem agu {a:Fp} (ha:a.ok):(zY a).v=a.v ^ ((pN+1) / 4):=by
 rw [xW,aiZ ha,Yj,ai4]
theorem VI {nF:Fp->Fp} {mF:Fp->Fp->Fp} {gF:Fp->Bool} {x a:Fp} (h:cH (mF x x) a=false):gf nF mF gF x a=(zeroFp,false):=by unfold gf;rw [h];rfl
theorem EX {nF:Fp->Fp} {mF:Fp->Fp->Fp} {gF:Fp->Bool} {x a:Fp} (h:cH (mF x x) a=true) (h2:gF x=true):gf nF mF gF x a=(nF x,true):=by unfold gf;rw [h,h2];rfl
theorem Qn {nF:Fp->Fp} {mF:Fp->Fp->Fp} {gF:Fp->Bool} {x a:Fp} (h:cH (mF x x) a=true) (h2:gF x=false):gf nF mF gF x a=(x,true):=by unfold gf;rw [h,h2];rfl
theorem Gz (a:Fp):aT a=gf dV bT bB (zY a) a:=rfl
theorem YM:(pN+1) / 4+(pN+1) / 4=1+(pN-1) / 2:=by decide +kernel
theorem Th:(pN-1) / 2+(pN-1) / 2=pN-1:=by decide +kernel
theorem YK:(pN-1) / 2=2*((pN-3) / 4)+1:=by decide +kernel
def V1.chi (a:V1):V1:=a ^ ((pN-1) / 2)
theorem NH (a:V1):a ^ ((pN+1) / 4)*a ^ ((pN+1) / 4)=a*a.chi:=by
 rw [<- bL,YM,bL,dl]
 rfl
theorem EA {a:V1} (h:a ≠ 0):a.chi*a.chi=1:=by
 unfold V1.chi
 rw [<- bL,Th]
 exact V1.fermat h
theorem BF {a:V1} (h:a ≠ 0):a.chi=1 \/ a.chi = -1:=DP (by rw [EA h];grind)
theorem xt (a b:V1):(a*b).chi=a.chi*b.chi:=aO a b _
theorem Kn:(-1:V1) * -1=1:=by grind
theorem ul:(-1:V1).chi = -1:=by
 unfold V1.chi
 rw [YK,bL,aD,dl,aq _ 1,dl,Kn,bh]
 grind
theorem aeP (a:V1):(-a).chi = - a.chi:=by
 rw [show -a = -1*a by grind,xt,ul]
 grind
theorem p8:(1:V1) ≠ -1:=fun e=>by
 have:=congrArg V1.nat e
 rw [V1.nat_one] at this
 have h2:(-1:V1).nat=(pN-1 % pN) % pN:=rfl
 rw [h2,V1.one_mod] at this
 have h3:=yd
 rw [Nat.mod_eq_of_lt (by omega)] at this
 have h4:=DN
 omega
theorem DO (a:V1):(∃ y:V1,y*y=a) <-> a*a.chi=a:=by
 constructor
 ·rintro ⟨y,rfl⟩
  by_cases h:y=0
  ·subst h;grind
  ·rw [xt,EA h];grind
 ·intro h
  exact ⟨a ^ ((pN+1) / 4),by rw [NH,h]⟩
theorem ajd:pN=2*hN+1:=by decide +kernel
theorem og {a:Fp} (ha:a.ok) (h:a.v ≠ 0):bB (dV a) = !bB a:=by
 have h0:a.nat ≠ 0:=by
  have:=V1.ne_zero h
  rwa [Fp.v_nat ha] at this
 have h1:a.nat<pN:=ha
 have h2:=ajd
 rw [mb,mb,XE ha,Nat.mod_eq_of_lt (by omega)]
 by_cases h3:hN<a.nat
 ·rw [decide_eq_true h3,decide_eq_false (by omega)];rfl
 ·rw [decide_eq_false h3,decide_eq_true (by omega)];rfl
theorem xb:bB zeroFp=false:=by rw [mb,lj];exact decide_eq_false (by omega)
theorem Qo {nF:Fp->Fp} {mF:Fp->Fp->Fp} {gF:Fp->Bool} {x a:Fp} (hr:x.ok) (ha:a.ok) (hm:(mF x x).v=a.v*a.v.chi) (hm2:(mF x x).v=x.v*x.v) (hmo:(mF x x).ok)
  (hn:(nF x).ok) (hnv:(nF x).v = - x.v) (hz:gF zeroFp=false) (hg:x.v ≠ 0->gF (nF x) = !gF x) :
  ((∃ y:V1,y*y=a.v)->(gf nF mF gF x a).2=true/\(gf nF mF gF x a).1.ok/\(gf nF mF gF x a).1.v*(gf nF mF gF x a).1.v=a.v/\gF (gf nF mF gF x a).1=false) /\
  ((¬ ∃ y:V1,y*y=a.v)->(gf nF mF gF x a)=(zeroFp,false)):=by
 constructor
 ·intro h
  have h1:=(DO _).1 h
  have e:cH (mF x x) a=true:=(Es hmo ha).2 (by rw [hm,h1])
  have hrr:x.v*x.v=a.v:=by rw [<- hm2,hm,h1]
  cases hg':gF x with
  | true =>
   rw [EX e hg']
   have hne:x.v ≠ 0:=fun e0=>by
    rw [(PB hr).1 e0,hz] at hg'
    cases hg'
   refine ⟨rfl,hn,?_,?_⟩
   ·show (nF x).v*(nF x).v=a.v
    rw [hnv];grind
   ·show gF (nF x)=false
    rw [hg hne,hg'];rfl
  | false =>
   rw [Qn e hg']
   exact ⟨rfl,hr,hrr,hg'⟩
 ·intro h
  have e:cH (mF x x) a=false:=by
   cases he:cH (mF x x) a with
   | false=>rfl
   | true=>exact absurd ((DO _).2 (by rw [<- hm];exact (Es hmo ha).1 he)) h
  rw [VI e]
theorem rl {a:Fp} (ha:a.ok) :
  ((∃ y:V1,y*y=a.v)->(aT a).2=true/\(aT a).1.ok/\(aT a).1.v*(aT a).1.v=a.v/\bB (aT a).1=false) /\
  ((¬ ∃ y:V1,y*y=a.v)->(aT a)=(zeroFp,false)):=by
 have hr:=xX ha
 rw [Gz]
 refine Qo hr ha ?_ (gb hr hr) (bc hr) (iQ hr) (ra hr) xb (og hr)
 rw [gb hr hr,agu ha,NH]
theorem ZS {a:V1} (h:a ≠ 0):(∃ y:V1,y*y = -a) <-> ¬ ∃ y:V1,y*y=a:=by
 rw [DO,DO,aeP]
 rcases BF h with e | e <;> rw [e]
 ·constructor
  ·intro h1 h2
   have:(1+1)*a=0:=by grind
   rcases au this with h3 | h3
   ·exact p8 (by grind)
   ·exact h h3
  ·intro h1;exact absurd (by grind) h1
 ·constructor
  ·intro h1 h2
   have:(1+1)*a=0:=by grind
   rcases au this with h3 | h3
   ·exact p8 (by grind)
   ·exact h h3
  ·intro h1;grind
theorem D6 (n:UInt64):(ofF n).ok:=by
 unfold Fp.ok
 rw [of_nat]
 exact Nat.lt_trans n.toNat_lt (by decide +kernel)
theorem ajV (n:UInt64):(ofF n).v=V1.of n.toNat:=by unfold Fp.v;rw [of_nat]
theorem sx (a:Fp):qG a=true <-> a.ok:=by rw [Yb];exact decide_eq_true_iff
theorem jP {a:Fp} (ha:a.ok):(aT a).2=true <-> ∃ y:V1,y*y=a.v:=by
 obtain ⟨h1,h2⟩:=rl ha
 constructor
 ·intro h
  apply Classical.byContradiction
  intro hn
  rw [h2 hn] at h
  cases h
 ·intro h;exact (h1 h).1
end Go.Proofs.YtcbplfkeeaecgaaGreat
namespace Go.Proofs.YtcbplfkeeaecgaaGreat
theorem LP (a b:Fp):(dr a b).2=decide (a.nat<b.nat):=by
 have h:=xS a b
 have h1:=(dr a b).1.nat_lt
 cases e:(dr a b).2 with
 | true =>
  rw [e,Bool.toNat_true,Nat.mul_one] at h
  exact (decide_eq_true (by omega)).symm
 | false =>
  rw [e,Bool.toNat_false,Nat.mul_zero] at h
  exact (decide_eq_false (by omega)).symm
theorem HJ (a:Fp) (o:UInt64):l6 a o=match decide (o<b2u (decide (a.nat<pN))) with | true=>a | false=>(dr a pLimbs).1:=by
 have h:=LP a pLimbs
 rw [gZ] at h
 unfold l6
 rw [yA,h]
 all_goals rfl
theorem Sq (t:L7) (h6:t.t6.toNat<=1):qR pLimbs t=l6 t.low t.t6:=by
 rw [HJ]
 unfold qR
 rw [xv,gZ]
 by_cases h:t.t6.toNat=0
 ·have e0:t.t6=0:=UInt64.toNat.inj h
  rw [e0]
  by_cases hl:t.low.nat<pN
  ·rw [decide_eq_true hl];rfl
  ·rw [decide_eq_false hl];rfl
 ·have e0:t.t6=1:=UInt64.toNat.inj (by rw [UInt64.toNat_one];omega)
  rw [e0]
  by_cases hl:t.low.nat<pN
  ·rw [decide_eq_true hl];rfl
  ·rw [decide_eq_false hl];rfl
theorem SH (x y t c:UInt64):jd x y t c=jd y x t c:=by unfold jd;rw [UInt64.mul_comm]
theorem Kq (x y:UInt64):fD x y=fD y x:=UInt64.toNat.inj (by rw [il,il,Nat.mul_comm])
theorem SJ (x y t c:UInt64):fg x y t c=fg y x t c:=by unfold fg;rw [UInt64.mul_comm,Kq]
theorem XV (t0 t1 t2 t3 t4 t5 top:UInt64) (more:Bool):abF pLimbs wG t0 t1 t2 t3 t4 t5 top more=zh t0 t1 t2 t3 t4 t5 top more:=by
 unfold abF zh
 simp only [zi,zj,tI t0]
theorem XT (ai:UInt64) (b:Fp) (t:L7):lV pLimbs wG ai b t=eo b ai t:=by
 unfold lV eo
 rw [XV]
 simp only [zi,zj,SH ai,SJ ai]
theorem Kv:bG pLimbs.l0=wG:=by decide +kernel
theorem XW (a b:Fp):wP a b pLimbs=gj b a:=by
 unfold wP D9 Ea Eb Ec Ed
 rw [Kv]
 simp only [XT]
 rfl
theorem Ti {a b:Fp} (ha:a.nat<pN):(gj a b).t6.toNat<=1:=by
 obtain ⟨k,h1,h2⟩:=Bg a b
 rw [L7.nat_low] at h1 h2
 have hlt:=(gj a b).low.nat_lt
 have hpr:2*pN<rN:=by decide +kernel
 rcases Nat.lt_or_ge (gj a b).t6.toNat 1 with h | h
 ·omega
 ·have:rN*1<=rN*(gj a b).t6.toNat:=Nat.mul_le_mul_left _ h
  rcases Nat.lt_or_ge (gj a b).t6.toNat 2 with h3 | h3
  ·omega
  ·have:rN*2<=rN*(gj a b).t6.toNat:=Nat.mul_le_mul_left _ h3
   omega
theorem wO (a:Fp) {b:Fp} (hb:b.ok):Ac a b pLimbs=aP b a:=by
 unfold Ac aP
 rw [XW]
 exact Sq _ (Ti hb)
theorem afy:sqLimbs.ok:=by unfold Fp.ok;rw [Mk];exact Nat.mod_lt _ fK
theorem n4 (a:Fp) {b:Fp} (hb:b.ok):(cL a b).nat=a.nat*b.nat % pN:=by
 unfold cL
 rw [wO a hb,wO _ afy]
 obtain ⟨h1,h2⟩:=fT (b:=a) hb
 obtain ⟨h3,h4⟩:=fT (b:=aP b a) afy
 rw [<- Nat.mod_eq_of_lt h3]
 refine rq ?_
 rw [h4,Mk,Nat.mod_mul_mod]
 have e:rN*rN*(aP b a).nat=(aP b a).nat*rN*rN:=by rw [Nat.mul_comm,Nat.mul_assoc]
 rw [e,<- Nat.mod_mul_mod,h2,Nat.mod_mul_mod,Nat.mul_comm a.nat]
theorem fq {a b:Fp} (ha:a.ok) (hb:b.ok):cL a b=bT a b:=Fp.nat_inj (by rw [n4 a hb,yr ha])
theorem rh (a b:Fp):mG a b=dM a b:=by
 unfold mG qT dM
 cases (dr a b).2 <;> rfl
theorem Hq (a:Fp):qc a=dV a:=rh zeroFp a
theorem se (a b:Fp):mi a b=cP a b:=by
 unfold mi uv cP
 rw [HJ,xv,gZ]
 cases (jl a b).2
 ·by_cases hl:(jl a b).1.nat<pN
  ·rw [decide_eq_true hl];rfl
  ·rw [decide_eq_false hl];rfl
 ·by_cases hl:(jl a b).1.nat<pN
  ·rw [decide_eq_true hl];rfl
  ·rw [decide_eq_false hl];rfl
theorem Hu (a:Fp) {b:Fp} (hb:b.ok):(cL a b).ok:=by unfold Fp.ok;rw [n4 a hb];exact Nat.mod_lt _ fK
theorem pZ {a:Fp} (ha:a.ok) (e:List UInt64) : ∀ (n:Nat) (o:Fp),o.ok->(o6 a e n o).nat=o.nat ^ 2 ^ n*a.nat ^ gu e n % pN
 | 0,o,ho=>by
  simp only [o6,gu,Nat.pow_zero,Nat.pow_one,Nat.mul_one]
  exact (Nat.mod_eq_of_lt ho).symm
 | n+1,o,ho=>by
  have h1:=n4 o ho
  simp only [o6]
  cases hb:dH e n with
  | true =>
   simp only []
   rw [pZ ha e n _ (Hu _ ha),n4 _ ha,h1]
   simp only [gu,hb,Bool.toNat_true,Nat.one_mul]
   rw [Nat.mod_mul_mod,<- Nat.mod_mul_mod,<- Nat.pow_mod,Nat.mod_mul_mod]
   refine congrArg (fun z=>z % pN) ?_
   rw [Nat.mul_pow,<- Nat.pow_two,<- Nat.pow_mul,show 2 ^ (n+1)=2*2 ^ n by rw [Nat.pow_succ,Nat.mul_comm],Nat.pow_add a.nat,Nat.mul_assoc,Nat.mul_comm (a.nat ^ 2 ^ n)]
  | false =>
   simp only []
   rw [pZ ha e n _ (Hu _ ho),h1]
   simp only [gu,hb,Bool.toNat_false,Nat.zero_mul,Nat.add_zero]
   rw [<- Nat.mod_mul_mod,<- Nat.pow_mod,Nat.mod_mul_mod]
   refine congrArg (fun z=>z % pN) ?_
   rw [<- Nat.pow_two,<- Nat.pow_mul,show 2 ^ (n+1)=2*2 ^ n by rw [Nat.pow_succ,Nat.mul_comm]]
theorem Mu:ofF 1=oneFp:=rfl
theorem Ha {a:Fp} (ha:a.ok) (e:List UInt64):nY a e=ub a e:=Fp.nat_inj (by
 unfold nY
 rw [rE ha,Mu,pZ ha e _ _ jD,o7,Nat.one_pow,Nat.one_mul])
theorem ahc:pm2 = [pLimbs.l0-2,pLimbs.l1,pLimbs.l2,pLimbs.l3,pLimbs.l4,pLimbs.l5]:=by decide +kernel
theorem rU {a:Fp} (ha:a.ok):oe a=dc a:=by
 unfold oe dc
 rw [Ha ha,ahc]
 all_goals rfl
theorem Wx:abz=rootX.list:=by decide +kernel
def fw (xs:List UInt64):Nat:=bj xs xs.length
theorem It (xs:List UInt64) {n i:Nat} (h:i<n):atF (xs.take n) i=atF xs i:=by
 unfold atF
 rw [List.getD_eq_getElem?_getD,List.getD_eq_getElem?_getD,List.getElem?_take_of_lt h]
theorem vz (xs:List UInt64) {n:Nat} : ∀ {k:Nat},k<=n->bj (xs.take n) k=bj xs k
 | 0,_=>rfl
 | k+1,h=>by
  simp only [bj]
  rw [vz xs (k:=k) (by omega),It xs (by omega)]
theorem xJ (xs:List UInt64) : ∀ n,bj xs (mf xs n)=bj xs n
 | 0=>rfl
 | n+1=>by
  unfold mf
  split
  ·rename_i h
   rw [xJ xs n]
   simp only [bj,h]
   simp
  ·rfl
theorem nn (xs:List UInt64):(aY xs).length=mf xs xs.length:=by
 unfold aY
 rw [List.length_take]
 have:=OX xs xs.length
 omega
theorem ll (xs:List UInt64):fw (aY xs)=fw xs:=by
 unfold fw
 rw [nn]
 unfold aY
 rw [vz xs (Nat.le_refl _),xJ]
theorem yK (xs:List UInt64) : ∀ n,0<mf xs n->atF xs (mf xs n-1) ≠ 0
 | 0,h=>by simp [mf] at h
 | n+1,h=>by
  unfold mf at h ⊢
  split
  ·rename_i h0
   rw [if_pos h0] at h
   exact yK xs n h
  ·rename_i h0
   simpa using h0
theorem Bv (xs:List UInt64) (h:0<(aY xs).length):W64 ^ ((aY xs).length-1)<=fw xs:=by
 rw [nn] at h ⊢
 have h1:=yK xs xs.length h
 have h2:=xJ xs xs.length
 unfold fw
 rw [<- h2]
 obtain ⟨k,hk⟩ : ∃ k,mf xs xs.length=k+1:=⟨mf xs xs.length-1,by omega⟩
 rw [hk] at h1 ⊢
 simp only [Nat.add_sub_cancel] at h1 ⊢
 simp only [bj]
 have h3:1<=(atF xs k).toNat:=by
  rcases Nat.eq_zero_or_pos (atF xs k).toNat with h | h
  ·exact absurd (UInt64.toNat.inj h) h1
  ·exact h
 calc W64 ^ k=1*W64 ^ k:=(Nat.one_mul _).symm
  _<=(atF xs k).toNat*W64 ^ k:=Nat.mul_le_mul_right _ h3
  _<=_:=Nat.le_add_left _ _
theorem TE (xs:List UInt64):fw xs<W64 ^ (aY xs).length:=by
 rw [<- ll]
 exact nt _ _
theorem w5 {xs ys:List UInt64} (h:(aY xs).length<(aY ys).length):fw xs<fw ys:=by
 have h1:=TE xs
 have h2:=Bv ys (by omega)
 have h3:W64 ^ (aY xs).length<=W64 ^ ((aY ys).length-1):=Nat.pow_le_pow_right (by decide) (by omega)
 omega
theorem Zi (xs ys:List UInt64):xr xs ys=if fw xs<fw ys then -1 else if fw xs > fw ys then 1 else 0:=by
 unfold xr
 by_cases h:(aY xs).length=(aY ys).length
 ·rw [if_neg (by simp [h]),tG]
  have e1:bj (aY xs) (aY xs).length=fw xs:=ll xs
  have e2:bj (aY ys) (aY xs).length=fw ys:=by rw [h];exact ll ys
  rw [e1,e2]
 ·rw [if_pos h]
  rcases Nat.lt_or_gt_of_ne h with h1 | h1
  ·have:=w5 h1
   rw [if_pos h1,if_pos this]
  ·have:=w5 h1
   rw [if_neg (by omega),if_neg (by omega),if_pos this]
theorem sQ (a:Fp):fw a.list=a.nat:=rT a
theorem YI:fw (i9 pLimbs.list)=hN:=by decide +kernel
theorem ql (a:Fp):cf a=bB a:=by
 rw [mb]
 unfold cf
 rw [Zi,sQ,YI]
 refine decide_eq_decide.2 ?_
 split
 ·omega
 ·split <;> omega
theorem EY {nF nF':Fp->Fp} {mF mF':Fp->Fp->Fp} {gF gF':Fp->Bool} {x a:Fp} (h1:nF x=nF' x) (h2:mF x x=mF' x x) (h3:gF x=gF' x):gf nF mF gF x a=gf nF' mF' gF' x a:=by
 unfold gf
 rw [h1,h2,h3]
theorem Qm {a:Fp} (ha:a.ok):qP a=aT a:=by
 rw [Gz]
 unfold qP
 rw [Ha ha,Wx,<- xW]
 exact EY (Hq _) (fq (xX ha) (xX ha)) (ql _)
end Go.Proofs.YtcbplfkeeaecgaaGreat
namespace Go.Proofs.YtcbplfkeeaecgaaGreat
section
variable {R : Type} [CR R]
theorem CR.nat_add (m:Nat) : ∀ n:Nat,(CR.nat (m+n):R)=CR.nat m+CR.nat n
 | 0=>by show CR.nat m=CR.nat m+CR.z;rw [CR.add_zero]
 | n+1=>by
  rw [<- Nat.add_assoc,CR.nat_succ,CR.nat_add m n,CR.nat_succ,CR.add_assoc]
theorem CR.nat_mul (m:Nat) : ∀ n:Nat,(CR.nat (m*n):R)=CR.nat m*CR.nat n
 | 0=>by
  show CR.z=CR.nat m*CR.z
  rw [CR.mul_zero]
 | n+1=>by
  rw [Nat.mul_succ,CR.nat_add,CR.nat_mul m n,CR.nat_succ,CR.dist,CR.mul_one]
def bsR (a:R) (n:Nat):Nat->R
 | 0=>0
 | m+1=>bsR a n m+CR.nat (ch n m)*a ^ m
theorem Im (a:R) (n:Nat) : ∀ m:Nat,bsR a (n+1) (m+1)=bsR a n (m+1)+a*bsR a n m
 | 0=>by
  simp only [bsR,pv]
  grind
 | m+1=>by
  have h:=Im a n m
  show bsR a (n+1) (m+1)+CR.nat (ch (n+1) (m+1))*a ^ (m+1)=bsR a n (m+1)+CR.nat (ch n (m+1))*a ^ (m+1)+a*(bsR a n m+CR.nat (ch n m)*a ^ m)
  rw [h,show ch (n+1) (m+1)=ch n m+ch n (m+1) from rfl,CR.nat_add,aq]
  generalize (CR.nat (ch n m):R)=c
  generalize (CR.nat (ch n (m+1)):R)=d
  generalize a ^ m=e
  grind
theorem aa7 (a:R) : ∀ n:Nat,(a+1) ^ n=bsR a n (n+1)
 | 0=>by
  show (1:R)=0+CR.nat 1*a ^ 0
  rw [bJ]
  show (1:R)=0+1*1
  grind
 | n+1=>by
  rw [Im a n (n+1),show bsR a n (n+1+1)=bsR a n (n+1)+CR.nat (ch n (n+1))*a ^ (n+1) from rfl,zK (Nat.lt_succ_self n),<- aa7 a n,aq]
  show _=(a+1) ^ n+0*a ^ (n+1)+a*(a+1) ^ n
  grind
theorem BJ {p:Nat} (h:IsPrime p) (h0:(CR.nat p:R)=0) (a:R) : ∀ m:Nat,m<p->bsR a p (m+1)=1
 | 0,_=>by
  simp only [bsR,pv]
  show (0:R)+1*a ^ 0=1
  rw [bJ]
  grind
 | m+1,hm=>by
  have ih:=BJ h h0 a m (by omega)
  obtain ⟨c,hc⟩:=If h (Nat.succ_pos m) hm
  show bsR a p (m+1)+CR.nat (ch p (m+1))*a ^ (m+1)=1
  rw [hc,CR.nat_mul,h0,ih]
  grind
theorem ah5 {p:Nat} (h:IsPrime p) (h0:(CR.nat p:R)=0) (a:R):(a+1) ^ p=a ^ p+1:=by
 have hp:=h.1
 obtain ⟨n,rfl⟩ : ∃ n,p=n+1:=⟨p-1,by omega⟩
 rw [aa7 a (n+1),show bsR a (n+1) (n+1+1)=bsR a (n+1) (n+1)+CR.nat (ch (n+1) (n+1))*a ^ (n+1) from rfl,Dz,BJ h h0 a n (by omega)]
 show (1:R)+1*a ^ (n+1)=_
 grind
end
section
variable {K : Type} [Fld K]
theorem abN {p:Nat} (h:IsPrime p) (h0:(CR.nat p:K)=0) (a b:K):(a+b) ^ p=a ^ p+b ^ p:=by
 by_cases hb:b=0
 ·rw [hb,k8 p (by have:=h.1;omega)]
  have e:a+0=a:=by grind
  rw [e]
  grind
 ·have hi:=aQ hb
  have h1:=ah5 h h0 (a*Fld.inv b)
  have e1:(a+b)=(a*Fld.inv b+1)*b:=by grind
  have e2:a=(a*Fld.inv b)*b:=by grind
  have e3:a ^ p=(a*Fld.inv b) ^ p*b ^ p:=by rw [<- aO,<- e2]
  rw [e1,aO,h1,e3]
  grind
end
theorem Qd.nat_eq {K:Type} [CR K] [QP K] : ∀ n:Nat,(CR.nat n:Qd K)=Qd.of (CR.nat n)
 | 0=>rfl
 | n+1=>by
  rw [CR.nat_succ,Qd.nat_eq n,CR.nat_succ]
  exact Qd.ext' rfl (show (0:K)+0=0 by grind)
theorem Cb.nat_eq {K:Type} [CR K] [CP K] : ∀ n:Nat,(CR.nat n:Cb K)=Cb.of (CR.nat n)
 | 0=>rfl
 | n+1=>by
  rw [CR.nat_succ,Cb.nat_eq n,CR.nat_succ]
  exact Cb.ext' rfl (show (0:K)+0=0 by grind) (show (0:K)+0=0 by grind)
theorem V1.nat_nat : ∀ n:Nat,V1.nat (CR.nat n)=n % pN
 | 0=>V1.nat_zero
 | n+1=>by
  rw [CR.nat_succ]
  show V1.nat (CR.nat n+1)=_
  rw [V1.nat_add,V1.nat_nat n,V1.nat_one,Nat.mod_add_mod]
theorem V1.char:(CR.nat pN:V1)=0:=V1.ext (by rw [V1.nat_nat,Nat.mod_self,V1.nat_zero])
theorem V1.two_nat:V1.nat (2:V1)=2:=by
 show V1.nat (CR.nat 2)=2
 rw [V1.nat_nat]
 exact Nat.mod_eq_of_lt DN
instance : QF V1 where
 nr := -1
 no:=fun x h=>by
  have h1:(x*x).chi=x.chi*x.chi:=xt x x
  rw [h,ul] at h1
  have hx:x ≠ 0:=fun e=>by
   rw [e] at h
   have:=cd (K:=V1)
   grind
  rw [EA hx] at h1
  exact p8 h1.symm
abbrev V2:Type:=Qd V1
theorem V1.nr_eq:(QP.nr:V1) = -1:=rfl
def xi:V2:=⟨1,1⟩
theorem vq:xi.norm=2:=by
 unfold Qd.norm xi
 rw [V1.nr_eq]
 show (1:V1)*1 - -1*(1*1)=2
 grind
theorem two_ne:(2:V1) ≠ 0:=fun h=>by
 have h1:=congrArg V1.nat h
 rw [V1.two_nat,V1.nat_zero] at h1
 exact absurd h1 (by decide)
theorem abv:(pN-1) / 3*3=pN-1:=by decide +kernel
theorem PD:((2:V1) ^ ((pN-1) / 3)) ≠ 1:=fun h=>by
 have h1:=congrArg V1.nat h
 rw [V1.nat_pow,V1.two_nat,V1.nat_one,<- gN pN 381 2 _ (by decide +kernel)] at h1
 exact absurd h1 (by decide +kernel)
theorem Gp:(2:V1).chi ≠ 1:=fun h=>by
 have h1:=congrArg V1.nat h
 unfold V1.chi at h1
 rw [V1.nat_pow,V1.two_nat,V1.nat_one,<- gN pN 381 2 _ (by decide +kernel)] at h1
 exact absurd h1 (by decide +kernel)
theorem Pn {R:Type} [CR R] (a:R):a*0=0:=CR.mul_zero a
instance : CF V2 where
 cr:=xi
 no:=fun x h=>by
  have h1:x.norm*x.norm*x.norm=2:=by rw [<- Qd.norm_mul,<- Qd.norm_mul,h,vq]
  have hx:x.norm ≠ 0:=fun e=>by
   exact two_ne (by rw [<- h1,e,Pn])
  apply PD
  have e:(2:V1)=x.norm ^ 3:=by rw [<- h1];grind
  rw [e,<- aD,Nat.mul_comm,abv]
  exact V1.fermat hx
abbrev V6:Type:=Cb V2
theorem V2.cr_eq:(CP.cr:V2)=xi:=rfl
def vv:V6:=⟨0,1,0⟩
theorem ab0:vv.norm=xi:=by
 unfold Cb.norm vv
 rw [V2.cr_eq]
 show (0:V2)*(0*0-xi*(1*0))+xi*(0*(xi*(0*0)-0*1)+1*(1*1-0*0))=xi
 generalize xi=x
 grind
instance : QF V6 where
 nr:=vv
 no:=fun x h=>by
  have h1:x.norm*x.norm=xi:=by rw [<- Cb.norm_mul,h,ab0]
  have h2:x.norm.norm*x.norm.norm=2:=by rw [<- Qd.norm_mul,h1,vq]
  have hx:x.norm.norm ≠ 0:=fun e=>by
   exact two_ne (by rw [<- h2,e,Pn])
  apply Gp
  rw [<- h2,xt,EA hx]
abbrev V12:Type:=Qd V6
theorem V2.char:(CR.nat pN:V2)=0:=by rw [Qd.nat_eq,V1.char];rfl
theorem V6.char:(CR.nat pN:V6)=0:=by rw [Cb.nat_eq,V2.char];rfl
theorem V12.char:(CR.nat pN:V12)=0:=by rw [Qd.nat_eq,V6.char];rfl
theorem V1.pow_p (a:V1):a ^ pN=a:=by
 by_cases h:a=0
 ·rw [h];exact k8 _ fK
 ·have e:pN=(pN-1)+1:=by have:=fK;omega
  rw [e,aq,V1.fermat h]
  grind
theorem Qd.of_pow {K:Type} [CR K] [QP K] (a:K) : ∀ n:Nat,(Qd.of a) ^ n=Qd.of (a ^ n)
 | 0=>rfl
 | n+1=>by rw [aq,Qd.of_pow a n,aq,Qd.of_mul]
def uu:V2:=⟨0,1⟩
theorem ai0:uu*uu = -1:=Qd.ext' (by rw [Qd.mul_a,V1.nr_eq];show (0:V1)*0 + -1*(1*1) = -1;grind) (by rw [Qd.mul_b];show (0:V1)*1+1*0 = -0;grind)
theorem nj {R:Type} [CR R] : ∀ k:Nat,(-1:R) ^ (2*k+1) = -1
 | 0=>by show (-1:R) ^ 1 = -1;exact dl _
 | k+1=>by
  rw [show 2*(k+1)+1=(2*k+1)+1+1 by omega,aq,aq,nj k]
  grind
theorem ahh:pN=2*(2*((pN-3) / 4)+1)+1:=by decide +kernel
theorem agB:uu ^ pN = -uu:=by
 have e:uu ^ pN=(uu ^ 2) ^ (2*((pN-3) / 4)+1)*uu:=by
  rw [<- aD,<- aq,<- ahh]
 have e2:uu ^ 2 = -1:=by
  rw [show (2:Nat)=1+1 from rfl,aq,dl,ai0]
 rw [e,e2,nj]
 grind
theorem V2.split (x:V2):x=Qd.of x.a+Qd.of x.b*uu:=Qd.ext' (by rw [Qd.add_a,Qd.mul_a];show x.a=x.a+(x.b*0+QP.nr*(0*1));grind) (by rw [Qd.add_b,Qd.mul_b];show x.b=0+(x.b*1+0*0);grind)
theorem V2.frob (x:V2):x ^ pN=x.conj:=by
 have h:x ^ pN=Qd.of x.a+Qd.of x.b * -uu:=by
  conv=>lhs;rw [V2.split x]
  rw [abN mo V2.char,aO,agB,Qd.of_pow,Qd.of_pow,V1.pow_p,V1.pow_p]
 rw [h]
 exact Qd.ext' (by rw [Qd.add_a,Qd.mul_a];show x.a+(x.b * -0+QP.nr*(0 * -1))=x.a;grind) (by rw [Qd.add_b,Qd.mul_b];show 0+(x.b * -1+0 * -0) = -x.b;grind)
end Go.Proofs.YtcbplfkeeaecgaaGreat
namespace Go.Proofs.YtcbplfkeeaecgaaGreat
open Go.RowKit
section
def rv:V1:=V1.of rN
def ri:V1:=Fld.inv rv
theorem ai3:rv ≠ 0:=fun e=>by
 have h:=congrArg V1.nat e
 rw [V1.nat_zero] at h
 exact absurd h (by decide +kernel)
theorem DR:rv*ri=1:=aQ ai3
theorem cW {a b:Fp} (ha:a.ok):(aP a b).ok:=(fT ha).1
theorem uL {a b:Fp} (ha:a.ok) (hb:b.ok):(aP a b).v=ri*(a.v*b.v):=by
 have h:(aP a b).v*rv=a.v*b.v:=V1.ext (by
  rw [V1.nat_mul,V1.nat_mul,Fp.v_nat (cW ha),Fp.v_nat ha,Fp.v_nat hb]
  show ((aP a b).nat*(rN % pN)) % pN=_
  rw [Nat.mul_mod_mod,(fT ha).2])
 have h2:=DR
 grind
theorem jn {a:Fp} (ha:a.ok):(bf a).ok:=by
 unfold Fp.ok
 rw [ju ha]
 exact Nat.mod_lt _ fK
theorem vA {a:Fp} (ha:a.ok):(bf a).v=rv*a.v:=V1.ext (by
 rw [Fp.v_nat (jn ha),ju ha,V1.nat_mul,Fp.v_nat ha]
 show _=(rN % pN*a.nat) % pN
 rw [Nat.mod_mul_mod,Nat.mul_comm])
theorem wY {a:Fp} (ha:a.ok):(iR a).ok:=(yy ha).1
theorem abt {a:Fp} (ha:a.ok):(iR a).v=ri*a.v:=by
 have h:(iR a).v*rv=a.v:=V1.ext (by
  rw [V1.nat_mul,Fp.v_nat (wY ha),Fp.v_nat ha]
  show ((iR a).nat*(rN % pN)) % pN=_
  rw [Nat.mul_mod_mod,(yy ha).2])
 have h2:=DR
 grind
theorem Ek {a:Fp} (ha:a.ok):(a.v=0->(dc a).2=7)/\(a.v ≠ 0->(dc a).2=0/\(dc a).1.ok/\(dc a).1.v=Fld.inv a.v):=by
 obtain ⟨h1,h2⟩:=aeq ha
 constructor
 ·intro h
  refine h1 ?_
  have:=congrArg V1.nat h
  rwa [Fp.v_nat ha,V1.nat_zero] at this
 ·intro h
  have h0:=V1.ne_zero h
  rw [Fp.v_nat ha] at h0
  obtain ⟨i1,i2,i3⟩:=h2 h0
  refine ⟨i1,i2,nk (V1.ext ?_)⟩
  rw [V1.nat_mul,Fp.v_nat ha,Fp.v_nat i2,i3,V1.nat_one]
def Fp2.ok (a:Fp2):Prop:=a.c0.ok/\a.c1.ok
def Fp2.v (a:Fp2):V2:=⟨a.c0.v,a.c1.v⟩
theorem Fp2.v_a (a:Fp2):a.v.a=a.c0.v:=rfl
theorem Fp2.v_b (a:Fp2):a.v.b=a.c1.v:=rfl
theorem Fp2.v_inj {a b:Fp2} (ha:a.ok) (hb:b.ok) (h:a.v=b.v):a=b:=by
 have h1:a.c0=b.c0:=Fp.v_inj ha.1 hb.1 (congrArg Qd.a h)
 have h2:a.c1=b.c1:=Fp.v_inj ha.2 hb.2 (congrArg Qd.b h)
 cases a;cases b
 simp only [] at h1 h2
 subst h1 h2
 rfl
theorem sE {a b:Fp2} (ha:a.ok) (hb:b.ok):dj a b=true <-> a.v=b.v:=⟨fun h=>by rw [(fU a b).1 h],fun h=>(fU a b).2 (Fp2.v_inj ha hb h)⟩
theorem sf (a b:Fp2):az a b=⟨cP a.c0 b.c0,cP a.c1 b.c1⟩:=by unfold az DF;rfl
theorem rj (a b:Fp2):aG a b=⟨dM a.c0 b.c0,dM a.c1 b.c1⟩:=by unfold aG CT;rfl
theorem rI (a:Fp2):b9 a=⟨dV a.c0,dV a.c1⟩:=by unfold b9 De;rfl
theorem tC (a:Fp2):cU a=⟨a.c0,dV a.c1⟩:=by unfold cU yM;rfl
theorem Nf (a:Fp2):iv a=⟨dM a.c0 a.c1,cP a.c0 a.c1⟩:=by unfold iv Mg;rfl
theorem Bj (a b:Fp2):ad a b=⟨dM (aP a.c0 b.c0) (aP a.c1 b.c1),dM (aP (cP a.c0 a.c1) (cP b.c0 b.c1)) (cP (aP a.c0 b.c0) (aP a.c1 b.c1))⟩:=by unfold ad yG;rfl
theorem vw (a:Fp2):ax a=⟨bf a.c0,bf a.c1⟩:=by unfold ax sP;rfl
theorem HD (a:Fp2):cM a=⟨iR a.c0,iR a.c1⟩:=by unfold cM Do;rfl
theorem Hw (a b:Fp2):aR a b=ax (ad a b):=by unfold aR Dj;rfl
theorem Fl (f g:Fp->Fp->Fp) (a:Fp2):ym f g a=f (g a.c0 a.c0) (g a.c1 a.c1):=rfl
theorem A0 (a:Fp2):eS a=cP (bT a.c0 a.c0) (bT a.c1 a.c1):=by
 unfold eS
 exact Fl cP bT a
theorem tY (a:Fp2) (k:Fp):gB a k=⟨bT a.c0 k,bT a.c1 k⟩:=by unfold gB pS;rfl
theorem Fp2.mk_ok {a b:Fp} (ha:a.ok) (hb:b.ok):(⟨a,b⟩:Fp2).ok:=⟨ha,hb⟩
theorem Fp2.mk_v {a b:Fp} {x:V2} (ha:a.v=x.a) (hb:b.v=x.b):(⟨a,b⟩:Fp2).v=x:=Qd.ext' ha hb
theorem Hy (a:Fp2):Ad a=true <-> a.ok:=by
 unfold Ad sy Fp2.ok
 rw [<- sx,<- sx]
 cases qG a.c0 <;> simp
theorem cI:zeroFp2.ok:=⟨a9,a9⟩
theorem gK:zeroFp2.v=0:=Qd.ext' gS gS
theorem jC:oneFp2.ok:=⟨jD,a9⟩
theorem uJ:oneFp2.v=1:=Qd.ext' zU gS
theorem vB {a:Fp2} (ha:a.ok):a.v=0 <-> a=zeroFp2:=⟨fun h=>Fp2.v_inj ha cI (by rw [h,gK]),fun h=>by rw [h,gK]⟩
theorem aV {a b:Fp2} (ha:a.ok) (hb:b.ok):(az a b).ok:=by rw [sf];exact Fp2.mk_ok (cO ha.1 hb.1) (cO ha.2 hb.2)
theorem fG {a b:Fp2} (ha:a.ok) (hb:b.ok):(az a b).v=a.v+b.v:=by rw [sf];exact Fp2.mk_v (lM ha.1 hb.1) (lM ha.2 hb.2)
theorem bQ {a b:Fp2} (ha:a.ok) (hb:b.ok):(aG a b).ok:=by rw [rj];exact Fp2.mk_ok (fQ ha.1 hb.1) (fQ ha.2 hb.2)
theorem lm {a b:Fp2} (ha:a.ok) (hb:b.ok):(aG a b).v=a.v-b.v:=by rw [rj];exact Fp2.mk_v (pJ ha.1 hb.1) (pJ ha.2 hb.2)
theorem sv {a:Fp2} (ha:a.ok):(b9 a).ok:=by rw [rI];exact Fp2.mk_ok (iQ ha.1) (iQ ha.2)
theorem yT {a:Fp2} (ha:a.ok):(b9 a).v = -a.v:=by rw [rI];exact Fp2.mk_v (ra ha.1) (ra ha.2)
theorem gI {a:Fp2} (ha:a.ok):(cU a).ok:=by rw [tC];exact Fp2.mk_ok (ha.1) (iQ ha.2)
theorem vC {a:Fp2} (ha:a.ok):(cU a).v=a.v.conj:=by rw [tC];exact Fp2.mk_v rfl (ra ha.2)
theorem jp {a:Fp2} (ha:a.ok):(iv a).ok:=by rw [Nf];exact Fp2.mk_ok (fQ ha.1 ha.2) (cO ha.1 ha.2)
theorem V2.mul_a (x y:V2):(x*y).a=x.a*y.a-x.b*y.b:=by rw [Qd.mul_a,V1.nr_eq];grind
theorem V2.mul_b (x y:V2):(x*y).b=x.a*y.b+x.b*y.a:=Qd.mul_b x y
theorem afk:xi.a=1:=rfl
theorem afj:xi.b=1:=rfl
theorem zT {a:Fp2} (ha:a.ok):(iv a).v=xi*a.v:=by
 rw [Nf]
 exact Fp2.mk_v (by rw [V2.mul_a,afk,afj,pJ ha.1 ha.2,Fp2.v_a,Fp2.v_b];grind)
  (by rw [V2.mul_b,afk,afj,lM ha.1 ha.2,Fp2.v_a,Fp2.v_b];grind)
def rv2:V2:=Qd.of rv
def ri2:V2:=Qd.of ri
theorem uN:rv2*ri2=1:=by unfold rv2 ri2;rw [<- Qd.of_mul,DR];rfl
theorem an {a b:Fp2} (ha:a.ok) (hb:b.ok):(ad a b).ok:=by rw [Bj];exact Fp2.mk_ok (fQ (cW ha.1) (cW ha.2)) (fQ (cW (cO ha.1 ha.2)) (cO (cW ha.1) (cW ha.2)))
theorem iK {a b:Fp2} (ha:a.ok) (hb:b.ok):(ad a b).v=ri2*(a.v*b.v):=by
 rw [Bj]
 exact Fp2.mk_v (by
  rw [pJ (cW ha.1) (cW ha.2),uL ha.1 hb.1,uL ha.2 hb.2,V2.mul_a,V2.mul_a,V2.mul_b]
  rw [show ri2.a=ri from rfl,show ri2.b=0 from rfl,Fp2.v_a,Fp2.v_b,Fp2.v_a,Fp2.v_b]
  grind)
  (by
  rw [pJ (cW (cO ha.1 ha.2)) (cO (cW ha.1) (cW ha.2)),uL (cO ha.1 ha.2) (cO hb.1 hb.2),lM (cW ha.1) (cW ha.2),uL ha.1 hb.1,uL ha.2 hb.2,lM ha.1 ha.2,lM hb.1 hb.2,V2.mul_b,V2.mul_a,V2.mul_b]
  rw [show ri2.a=ri from rfl,show ri2.b=0 from rfl,Fp2.v_a,Fp2.v_b,Fp2.v_a,Fp2.v_b]
  grind)
theorem bV {a:Fp2} (ha:a.ok):(ax a).ok:=by rw [vw];exact Fp2.mk_ok (jn ha.1) (jn ha.2)
theorem yi (k:V1) (x:V2):(Qd.of k*x).a=k*x.a:=by rw [V2.mul_a];show k*x.a-0*x.b=_;grind
theorem yh (k:V1) (x:V2):(Qd.of k*x).b=k*x.b:=by rw [V2.mul_b];show k*x.b+0*x.a=_;grind
theorem iJ {a:Fp2} (ha:a.ok):(ax a).v=rv2*a.v:=by rw [vw];exact Fp2.mk_v (by unfold rv2;rw [yi];exact vA ha.1) (by unfold rv2;rw [yh];exact vA ha.2)
theorem kQ {a:Fp2} (ha:a.ok):(cM a).ok:=by rw [HD];exact Fp2.mk_ok (wY ha.1) (wY ha.2)
theorem uK {a:Fp2} (ha:a.ok):(cM a).v=ri2*a.v:=by rw [HD];exact Fp2.mk_v (by unfold ri2;rw [yi];exact abt ha.1) (by unfold ri2;rw [yh];exact abt ha.2)
theorem bg {a b:Fp2} (ha:a.ok) (hb:b.ok):(aR a b).ok:=by rw [Hw];exact bV (an ha hb)
theorem bK {a b:Fp2} (ha:a.ok) (hb:b.ok):(aR a b).v=a.v*b.v:=by
 rw [Hw,iJ (an ha hb),iK ha hb]
 have:=uN
 grind
theorem jT {a:Fp2} (ha:a.ok):(eS a).ok:=by rw [A0];exact cO (bc ha.1) (bc ha.2)
theorem V2.norm_eq (x:V2):x.norm=x.a*x.a+x.b*x.b:=by unfold Qd.norm;rw [V1.nr_eq];grind
theorem sk {a:Fp2} (ha:a.ok):(eS a).v=a.v.norm:=by
 rw [V2.norm_eq,A0,lM (bc ha.1) (bc ha.2),gb ha.1 ha.1,gb ha.2 ha.2]
 rfl
theorem Jm {a:Fp2} {k:Fp} (ha:a.ok) (hk:k.ok):(gB a k).ok:=by rw [tY];exact Fp2.mk_ok (bc ha.1) (bc ha.2)
theorem PA {a:Fp2} {k:Fp} (ha:a.ok) (hk:k.ok):(gB a k).v=Qd.of k.v*a.v:=by
 rw [tY]
 exact Fp2.mk_v (by rw [yi,gb ha.1 hk];exact CR.mul_comm a.c0.v k.v)
  (by rw [yh,gb ha.2 hk];exact CR.mul_comm a.c1.v k.v)
theorem V2.inv_eq {x:V2} (h:x ≠ 0):Fld.inv x=Qd.of (Fld.inv x.norm)*x.conj:=by
 refine (nk ?_).symm
 have h1:=Qd.mul_conj x
 have h2:Qd.of x.norm*Qd.of (Fld.inv x.norm)=(1:V2):=by rw [<- Qd.of_mul,aQ (Qd.norm_ne h)];rfl
 grind
theorem V2.norm_zero:(0:V2).norm=0:=by rw [V2.norm_eq];show (0:V1)*0+0*0=0;grind
theorem Yr {f0:Fp->Fp × Int} {f1:Fp2->Fp} (f2:Fp2->Fp->Fp2) (f3:Fp2->Fp2) {a:Fp2} (h:(f0 (f1 a)).2=7):kT f0 f1 f2 f3 a=(zeroFp2,7):=by
 unfold kT
 rw [h]
 rfl
theorem S7 {f0:Fp->Fp × Int} {f1:Fp2->Fp} (f2:Fp2->Fp->Fp2) (f3:Fp2->Fp2) {a:Fp2} (h:(f0 (f1 a)).2=0):kT f0 f1 f2 f3 a=(f2 (f3 a) (f0 (f1 a)).1,0):=by
 unfold kT
 rw [h]
 rfl
theorem zD {a:Fp2} (ha:a.ok):(a.v=0->d7 a=(zeroFp2,7))/\(a.v ≠ 0->(d7 a).2=0/\(d7 a).1.ok/\(d7 a).1.v=Fld.inv a.v):=by
 obtain ⟨h1,h2⟩:=Ek (jT ha)
 rw [sk ha] at h1 h2
 unfold d7
 constructor
 ·intro h
  exact Yr _ _ (h1 (by rw [h];exact V2.norm_zero))
 ·intro h
  obtain ⟨i1,i2,i3⟩:=h2 (Qd.norm_ne h)
  rw [S7 _ _ i1]
  simp only []
  refine ⟨trivial,Jm (gI ha) i2,?_⟩
  rw [PA (gI ha) i2,i3,vC ha,V2.inv_eq h]
theorem D0 {α R:Type} [CR R] (ok:α->Prop) (v:α->R) {mF:α->α->α} (h1 : ∀ {a b},ok a->ok b->ok (mF a b)) (h2 : ∀ {a b},ok a->ok b->v (mF a b)=v a*v b) {a:α} (ha:ok a) (e:List UInt64) : ∀ (n:Nat) {o:α},ok o ->
  ok (JY mF a e n o)/\v (JY mF a e n o)=v o ^ 2 ^ n*v a ^ gu e n
 | 0,o,ho=>⟨ho,by
  show v o=v o ^ 2 ^ 0*v a ^ gu e 0
  rw [show (2 ^ 0:Nat)=1 from rfl,dl,show gu e 0=0 from rfl,bJ]
  grind⟩
 | n+1,o,ho=>by
  simp only [JY]
  have e2:(2:Nat) ^ (n+1)=2 ^ n+2 ^ n:=by rw [Nat.pow_succ];omega
  cases hb:dH e n with
  | true =>
   simp only []
   obtain ⟨i1,i2⟩:=D0 ok v h1 h2 ha e n (h1 (h1 ho ho) ha)
   refine ⟨i1,?_⟩
   rw [i2,h2 (h1 ho ho) ha,h2 ho ho]
   simp only [gu,hb,Bool.toNat_true,Nat.one_mul]
   rw [aO,aO,e2,bL,bL]
   grind
  | false =>
   simp only []
   obtain ⟨i1,i2⟩:=D0 ok v h1 h2 ha e n (h1 ho ho)
   refine ⟨i1,?_⟩
   rw [i2,h2 ho ho]
   simp only [gu,hb,Bool.toNat_false,Nat.zero_mul,Nat.add_zero]
   rw [aO,e2,bL]
theorem GS (x:Fp2) (e:List UInt64) : ∀ (n:Nat) (o:Fp2),DW x e n o=cM (JY ad x e n o)
 | 0,o=>rfl
 | n+1,o=>by
  simp only [DW,JY]
  exact GS x e n _
theorem ahb {a:Fp2} (ha:a.ok) (e:List UInt64):(nZ a e).ok/\(nZ a e).v=a.v ^ gu e (64*e.length):=by
 unfold nZ
 rw [GS]
 have h:=uN
 obtain ⟨h1,h2⟩:=D0 (mF:=ad) Fp2.ok (fun x=>ri2*x.v) an (fun {a b} ha hb=>by
  show ri2*(ad a b).v=ri2*a.v*(ri2*b.v)
  rw [iK ha hb]
  grind) (bV ha) e (64*e.length) (bV jC)
 refine ⟨kQ h1,?_⟩
 rw [uK h1]
 rw [h2,iJ jC,iJ ha,uJ,show ri2*(rv2*1)=1 by grind,bh,show ri2*(rv2*a.v)=a.v by grind]
 grind
end
section
theorem L0 (f:Fp->Fp->Fp) (a b:Fp2):DG f a b=⟨f a.c0 b.c0,f a.c1 b.c1⟩:=rfl
theorem Ja (f:Fp->Fp->Fp) (a b:Fp2):CU f a b=⟨f a.c0 b.c0,f a.c1 b.c1⟩:=rfl
theorem Kt (f g h:Fp->Fp->Fp) (a b:Fp2):Dk f g h a b=⟨f (g a.c0 b.c0) (g a.c1 b.c1),h (g a.c0 b.c1) (g a.c1 b.c0)⟩:=rfl
theorem F0 (f:Fp->Fp) (a:Fp2):yN f a=⟨a.c0,f a.c1⟩:=rfl
theorem Kh (f:UInt64->Fp):Dc f=⟨f 1,zeroFp⟩:=rfl
theorem Pv (f:UInt64->Fp):L9 f=⟨f 1,f 1⟩:=rfl
theorem IA (a b:Fp2):ml a b=az a b:=by
 unfold ml
 rw [L0,se,se,sf]
theorem Gy (a b:Fp2):pQ a b=aG a b:=by
 unfold pQ
 rw [Ja,rh,rh,rj]
theorem BD (a:Fp2):mY a=cU a:=by
 unfold mY
 rw [F0,Hq,tC]
theorem yg:mM=oneFp2:=by
 unfold mM
 rw [Kh,Mu]
 rfl
theorem Gf:xi2R=⟨oneFp,oneFp⟩:=by
 unfold xi2R
 rw [Pv,Mu]
theorem L8:xi2R.ok:=by rw [Gf];exact ⟨jD,jD⟩
theorem aiY:xi2R.v=xi:=by rw [Gf];exact Qd.ext' zU zU
theorem lB {a b:Fp2} (ha:a.ok) (hb:b.ok):je a b=aR a b:=by
 unfold je
 rw [Kt,fq ha.1 hb.1,fq ha.2 hb.2,fq ha.1 hb.2,fq ha.2 hb.1,rh,se]
 refine Fp2.v_inj (Fp2.mk_ok (fQ (bc ha.1) (bc ha.2)) (cO (bc ha.1) (bc ha.2))) (bg ha hb) ?_
 rw [bK ha hb]
 refine Fp2.mk_v ?_ ?_
 ·rw [V2.mul_a,pJ (bc ha.1) (bc ha.2),gb ha.1 hb.1,gb ha.2 hb.2,Fp2.v_a,Fp2.v_a,Fp2.v_b,Fp2.v_b]
 ·rw [V2.mul_b,lM (bc ha.1) (bc ha.2),gb ha.1 hb.2,gb ha.2 hb.1,Fp2.v_a,Fp2.v_a,Fp2.v_b,Fp2.v_b]
def dd (a:Fp2):Bool:=match cH a.c1 zeroFp with
 | true=>bB a.c0
 | false=>bB a.c1
theorem Cq (f:Fp->Bool) (a:Fp2):js f a=match cH a.c1 zeroFp with | true=>f a.c0 | false=>f a.c1:=by
 unfold js
 generalize cH a.c1 _=b
 cases b <;> rfl
theorem FQ (a:Fp2):ee a=dd a:=by
 have h:(cf:Fp->Bool)=bB:=funext ql
 unfold ee dd
 rw [Cq,h]
theorem Cp (f:Fp->Bool) (a:Fp2):jr f a=match cH a.c1 zeroFp with | true=>f a.c0 | false=>f a.c1:=by
 unfold jr
 generalize cH a.c1 _=b
 cases b <;> rfl
theorem hJ (a:Fp2):bX a=dd a:=by
 unfold bX dd
 rw [Cp]
theorem Li (a:Fp2):ee a=bX a:=by rw [FQ,hJ]
theorem Yt {f0:Fp2->Fp2->Fp2} {f1:Fp2->Fp2} {f2:Fp->Fp × Int} {a:Fp2} (h:(f2 (f0 a (f1 a)).c0).2=7):kU f0 f1 f2 a=(zeroFp2,7):=by
 unfold kU
 rw [h]
 rfl
theorem Tc {f0:Fp2->Fp2->Fp2} {f1:Fp2->Fp2} {f2:Fp->Fp × Int} {a:Fp2} (h:(f2 (f0 a (f1 a)).c0).2=0):kU f0 f1 f2 a=(f0 (f1 a) ⟨(f2 (f0 a (f1 a)).c0).1,zeroFp⟩,0):=by
 unfold kU
 rw [h]
 rfl
theorem Yu {a:Fp2} (ha:a.ok):uy a=d7 a:=by
 have hc:=gI ha
 have hn:(je a (mY a)).c0=eS a:=by
  rw [BD,lB ha hc]
  refine Fp.v_inj (bg ha hc).1 (jT ha) ?_
  rw [sk ha,<- Fp2.v_a,bK ha hc,vC ha,Qd.mul_conj]
  rfl
 obtain ⟨h1,h2⟩:=Ek (jT ha)
 obtain ⟨k1,k2⟩:=zD ha
 rw [sk ha] at h1 h2
 by_cases h0:a.v=0
 ·rw [k1 h0]
  unfold uy
  exact Yt (by rw [hn,rU (jT ha)];exact h1 (by rw [h0];exact V2.norm_zero))
 ·obtain ⟨i1,i2,i3⟩:=h2 (Qd.norm_ne h0)
  obtain ⟨j1,j2,j3⟩:=k2 h0
  have e:uy a=(je (mY a) ⟨(dc (eS a)).1,zeroFp⟩,0):=by
   unfold uy
   rw [Tc (by rw [hn,rU (jT ha)];exact i1),hn,rU (jT ha)]
  have hq:(⟨(dc (eS a)).1,zeroFp⟩:Fp2).ok:=Fp2.mk_ok i2 a9
  rw [e]
  refine Prod.ext ?_ j1.symm
  simp only []
  rw [BD,lB hc hq]
  refine Fp2.v_inj (bg hc hq) j2 ?_
  rw [j3,bK hc hq,vC ha,V2.inv_eq h0,show (⟨(dc (eS a)).1,zeroFp⟩:Fp2).v=Qd.of (Fld.inv a.v.norm) from Fp2.mk_v i3 gS]
  exact CR.mul_comm _ _
theorem qm {a:Fp2} (h:cH a.c1 zeroFp=true):dd a=bB a.c0:=by
 unfold dd
 rw [h]
theorem ui {a:Fp2} (h:cH a.c1 zeroFp=false):dd a=bB a.c1:=by
 unfold dd
 rw [h]
theorem oo {a:Fp} (ha:a.ok):cH a zeroFp=true <-> a.v=0:=by
 have:=Es ha a9
 rw [gS] at this
 exact this
theorem jg {a:Fp} (ha:a.ok):cH a zeroFp=false <-> a.v ≠ 0:=by
 rw [<- Bool.not_eq_true,oo ha]
theorem qk {a:Fp2} (ha:a.ok) (h:a.v ≠ 0):dd (b9 a) = !dd a:=by
 have e0:(b9 a).c0=dV a.c0:=by rw [rI]
 have e1:(b9 a).c1=dV a.c1:=by rw [rI]
 by_cases h1:a.c1.v=0
 ·have h0:a.c0.v ≠ 0:=fun h0=>h (Qd.ext' h0 h1)
  rw [qm ((oo ha.2).2 h1),qm (a:=b9 a) (by rw [e1,oo (iQ ha.2),ra ha.2,h1];grind),e0,og ha.1 h0]
 ·rw [ui ((jg ha.2).2 h1),ui (a:=b9 a) (by rw [e1,jg (iQ ha.2),ra ha.2];grind),e1,og ha.2 h1]
theorem FL:dd zeroFp2=false:=by
 rw [qm (a:=zeroFp2) rfl]
 exact xb
def RootOf (a:Fp2) (r:Fp2 × Bool):Prop:=((∃ y:V2,y*y=a.v)/\r.2=true/\r.1.ok/\r.1.v*r.1.v=a.v/\dd r.1=false) \/ ((¬ ∃ y:V2,y*y=a.v)/\r=(zeroFp2,false))
theorem RootOf.eq {a:Fp2} {r s:Fp2 × Bool} (h:RootOf a r) (k:RootOf a s):r=s:=by
 rcases h with ⟨h0,h1,h2,h3,h4⟩ | ⟨h0,h1⟩
 ·rcases k with ⟨k0,k1,k2,k3,k4⟩ | ⟨k0,_⟩
  ·refine Prod.ext ?_ (h1.trans k1.symm)
   rcases DP (h3.trans k3.symm) with e | e
   ·exact Fp2.v_inj h2 k2 e
   ·by_cases hz:s.1.v=0
    ·exact Fp2.v_inj h2 k2 (by rw [e,hz];grind)
    ·exfalso
     have:r.1=b9 s.1:=Fp2.v_inj h2 (sv k2) (by rw [e,yT k2])
     rw [this,qk k2 hz,k4] at h4
     cases h4
  ·exact absurd h0 k0
 ·rcases k with ⟨k0,_⟩ | ⟨_,k1⟩
  ·exact absurd k0 h0
  ·rw [h1,k1]
def aaT (g:Fp2->Bool) (n:Fp2->Fp2) (z:Fp2):Fp2 × Bool:=match g z with | true=>(n z,true) | false=>(z,true)
theorem H3 {a z:Fp2} (hz:z.ok) (h:z.v*z.v=a.v):RootOf a (aaT dd b9 z):=by
 refine .inl ⟨⟨z.v,h⟩,?_⟩
 unfold aaT
 cases hg:dd z with
 | true =>
  have hne:z.v ≠ 0:=fun e=>by
   rw [(vB hz).1 e,FL] at hg
   cases hg
  refine ⟨rfl,sv hz,?_,?_⟩
  ·show (b9 z).v*(b9 z).v=_
   rw [yT hz]
   grind
  ·show dd (b9 z)=false
   rw [qk hz hne,hg]
   rfl
 | false=>exact ⟨rfl,hz,h,hg⟩
def i2:V1:=Fld.inv 2
theorem ZJ:(2:V1)*i2=1:=aQ two_ne
theorem HP:(dc (ofF 2)).1.ok/\(dc (ofF 2)).1.v=i2:=by
 have e:(ofF 2).v=2:=by rw [ajV];exact V1.ext (by decide +kernel)
 obtain ⟨_,h1,h2⟩:=(Ek (D6 2)).2 (by rw [e];exact two_ne)
 exact ⟨h1,by rw [h2,e];rfl⟩
theorem lp {a:Fp} (ha:a.ok):(aT a).1.ok:=by
 obtain ⟨h1,h2⟩:=rl ha
 by_cases h : ∃ y:V1,y*y=a.v
 ·exact (h1 h).2.1
 ·rw [h2 h];exact a9
theorem uM {a:Fp} (ha:a.ok) (h:(aT a).2=true):(aT a).1.v*(aT a).1.v=a.v:=((rl ha).1 ((jP ha).1 h)).2.2.1
theorem EW {a:Fp} (ha:a.ok) (h:(aT a).2=false):a.v ≠ 0/\(aT (dV a)).2=true:=by
 have h1 : ¬ ∃ y:V1,y*y=a.v:=fun e=>by rw [(jP ha).2 e] at h;cases h
 have h0:a.v ≠ 0:=fun e=>h1 ⟨0,by rw [e];grind⟩
 refine ⟨h0,(jP (iQ ha)).2 ?_⟩
 rw [ra ha]
 exact (ZS h0).2 h1
theorem VJ {x y w:V1} (hw:w ≠ 0) (h:x*y = -(w*w)):(¬ ∃ z:V1,z*z=x) -> ∃ z:V1,z*z=y:=fun hn=>by
 have hx:x ≠ 0:=fun e=>by
  have:w*w=0:=by grind
  exact ay hw hw this
 obtain ⟨z,hz⟩:=(ZS hx).2 hn
 have hz0:z ≠ 0:=fun e=>hx (by grind)
 have hi:=aQ hz0
 refine ⟨w*Fld.inv z,?_⟩
 have e1:x = -(z*z):=by grind
 have e2:z*z*y=w*w:=by grind
 have:y=w*w*(Fld.inv z*Fld.inv z):=by
  have:y=(z*Fld.inv z)*(z*Fld.inv z)*y:=by rw [hi];grind
  grind
 grind
theorem QU {a:V2} (h : ∃ y:V2,y*y=a) : ∃ y:V1,y*y=a.norm:=by
 obtain ⟨y,rfl⟩:=h
 exact ⟨y.norm,(Qd.norm_mul y y).symm⟩
theorem w9 {x n:V1}:(x+n)*i2+(x-n)*i2=x:=by
 have:=ZJ
 grind
theorem KZ {a:V2} {n:V1} (h:n*n=a.norm):(a.a+n)*i2*((a.a-n)*i2) = -(a.b*i2*(a.b*i2)):=by
 rw [V2.norm_eq] at h
 grind
theorem QV {a:V2} {x k X Y:V1} (hx:x*x=X) (hk:x*k=1) (hs:X+Y=a.a) (hp:X*Y = -(a.b*i2*(a.b*i2))):(⟨x,a.b*i2*k⟩:V2)*⟨x,a.b*i2*k⟩=a:=Qd.ext'
 (by
  rw [V2.mul_a]
  show x*x-a.b*i2*k*(a.b*i2*k)=a.a
  have:a.b*i2*k*(a.b*i2*k) = -Y:=by
   have e:Y*(x*x) = -(a.b*i2*(a.b*i2)):=by rw [hx];grind
   have:(x*k)*(x*k)*Y = -(a.b*i2*k*(a.b*i2*k)):=by grind
   rw [hk] at this
   grind
  rw [this]
  grind)
 (by
  rw [V2.mul_b]
  show x*(a.b*i2*k)+a.b*i2*k*x=a.b
  have:=ZJ
  grind)
theorem Jj {f0:Fp->Fp × Bool} {f1:Fp->Fp} {a:Fp} (h:(f0 a).2=true):ed f0 f1 a=⟨(f0 a).1,zeroFp⟩:=by
 unfold ed
 rw [h]
theorem E3 {f0:Fp->Fp × Bool} {f1:Fp->Fp} {a:Fp} (h:(f0 a).2=false):ed f0 f1 a=⟨zeroFp,(f0 (f1 a)).1⟩:=by
 unfold ed
 rw [h]
theorem agL (x:V1):(⟨x,0⟩:V2)*⟨x,0⟩=Qd.of (x*x):=Qd.ext' (by rw [V2.mul_a];show x*x-0*0=x*x;grind) (by rw [V2.mul_b];show x*0+0*x=0;grind)
theorem acA (x:V1):(⟨0,x⟩:V2)*⟨0,x⟩=Qd.of (-(x*x)):=Qd.ext' (by rw [V2.mul_a];show 0*0-x*x = -(x*x);grind) (by rw [V2.mul_b];show 0*x+x*0=0;grind)
theorem afS (x:Fp):(⟨x,zeroFp⟩:Fp2).v=⟨x.v,0⟩:=Fp2.mk_v rfl gS
theorem ahG (x:Fp):(⟨zeroFp,x⟩:Fp2).v=⟨0,x.v⟩:=Fp2.mk_v gS rfl
theorem XB (x:V1) : - -x=x:=by grind
theorem VM {a:Fp} (ha:a.ok):(ez a).ok/\(ez a).v*(ez a).v=Qd.of a.v:=by
 unfold ez
 cases hs:(aT a).2 with
 | true =>
  rw [Jj hs,afS,agL,uM ha hs]
  exact ⟨Fp2.mk_ok (lp ha) a9,rfl⟩
 | false =>
  rw [E3 hs]
  obtain ⟨h0,h1⟩:=EW ha hs
  have hn:=iQ ha
  rw [ahG,acA,uM hn h1,ra ha,XB]
  exact ⟨Fp2.mk_ok a9 (lp hn),rfl⟩
theorem Zn {f0:Fp->Fp × Int} {f1:UInt64->Fp} {f2:Fp->Fp × Bool} {f3 f4 f5:Fp->Fp->Fp} {a:Fp2} {n:Fp} (h:(f2 (f5 (f3 a.c0 n) (f0 (f1 2)).1)).2=true) :
  i6 f0 f1 f2 f3 f4 f5 a n=⟨(f2 (f5 (f3 a.c0 n) (f0 (f1 2)).1)).1,f5 (f5 a.c1 (f0 (f1 2)).1) (f0 (f2 (f5 (f3 a.c0 n) (f0 (f1 2)).1)).1).1⟩:=by
 unfold i6
 rw [h]
 rfl
theorem T6 {f0:Fp->Fp × Int} {f1:UInt64->Fp} {f2:Fp->Fp × Bool} {f3 f4 f5:Fp->Fp->Fp} {a:Fp2} {n:Fp} (h:(f2 (f5 (f3 a.c0 n) (f0 (f1 2)).1)).2=false) :
  i6 f0 f1 f2 f3 f4 f5 a n=⟨(f2 (f5 (f4 a.c0 n) (f0 (f1 2)).1)).1,f5 (f5 a.c1 (f0 (f1 2)).1) (f0 (f2 (f5 (f4 a.c0 n) (f0 (f1 2)).1)).1).1⟩:=by
 unfold i6
 rw [h]
 rfl
theorem NX {a:Fp2} (ha:a.ok) (hb:a.c1.v ≠ 0) {X:Fp} {Y:V1} (hX:X.ok) (hs:(aT X).2=true) (h1:X.v+Y=a.v.a) (h2:X.v*Y = -(a.v.b*i2*(a.v.b*i2))) :
  (aT X).1.v ≠ 0/\(⟨(aT X).1,bT (bT a.c1 (dc (ofF 2)).1) (dc (aT X).1).1⟩:Fp2).ok/\(⟨(aT X).1,bT (bT a.c1 (dc (ofF 2)).1) (dc (aT X).1).1⟩:Fp2).v*(⟨(aT X).1,bT (bT a.c1 (dc (ofF 2)).1) (dc (aT X).1).1⟩:Fp2).v=a.v:=by
 obtain ⟨o2,v2⟩:=HP
 have hq:=uM hX hs
 have ho:=lp hX
 have hi2:i2 ≠ 0:=OD two_ne
 have hw:a.v.b*i2 ≠ 0:=ay hb hi2
 have hne:(aT X).1.v ≠ 0:=fun e=>by
  have hX0:X.v=0:=by rw [<- hq,e];grind
  have:a.v.b*i2*(a.v.b*i2)=0:=by rw [hX0] at h2;grind
  exact ay hw hw this
 obtain ⟨_,k1,k2⟩:=(Ek ho).2 hne
 have hm:=bc (b:=(dc (ofF 2)).1) ha.2
 refine ⟨hne,Fp2.mk_ok ho (bc hm),?_⟩
 have e:(⟨(aT X).1,bT (bT a.c1 (dc (ofF 2)).1) (dc (aT X).1).1⟩:Fp2).v=⟨(aT X).1.v,a.v.b*i2*Fld.inv (aT X).1.v⟩:=Fp2.mk_v rfl (by rw [gb hm k1,gb ha.2 o2,v2,k2,Fp2.v_b])
 rw [e]
 exact QV hq (aQ hne) h1 h2
theorem YH {a:Fp2} (ha:a.ok) {n:Fp} (hn:n.ok):(bT (cP a.c0 n) (dc (ofF 2)).1).ok/\(bT (cP a.c0 n) (dc (ofF 2)).1).v=(a.v.a+n.v)*i2/\(bT (dM a.c0 n) (dc (ofF 2)).1).ok/\(bT (dM a.c0 n) (dc (ofF 2)).1).v=(a.v.a-n.v)*i2:=by
 obtain ⟨o2,v2⟩:=HP
 have h1:=cO ha.1 hn
 have h2:=fQ ha.1 hn
 exact ⟨bc h1,by rw [gb h1 o2,v2,lM ha.1 hn,Fp2.v_a],bc h2,by rw [gb h2 o2,v2,pJ ha.1 hn,Fp2.v_a]⟩
theorem aij {a:Fp2} (ha:a.ok) (hb:a.c1.v ≠ 0) {n:Fp} (hn:n.ok) (hq:n.v*n.v=a.v.norm):(m6 a n).ok/\(m6 a n).v*(m6 a n).v=a.v:=by
 obtain ⟨p1,p2,p3,p4⟩:=YH ha hn
 have hi2:i2 ≠ 0:=OD two_ne
 have hw:a.v.b*i2 ≠ 0:=ay hb hi2
 have hp:=KZ hq
 unfold m6
 cases hs:(aT (bT (cP a.c0 n) (dc (ofF 2)).1)).2 with
 | true =>
  rw [Zn hs]
  exact (NX ha hb p1 hs (Y:=(a.v.a-n.v)*i2) (by rw [p2];exact w9) (by rw [p2];exact hp)).2
 | false =>
  rw [T6 hs]
  have hs':(aT (bT (dM a.c0 n) (dc (ofF 2)).1)).2=true:=(jP p3).2 (by
   rw [p4]
   refine VJ hw hp fun e => ?_
   rw [(jP p1).2 (by rw [p2];exact e)] at hs
   cases hs)
  exact (NX ha hb p3 hs' (Y:=(a.v.a+n.v)*i2) (by rw [p4,CR.add_comm];exact w9) (by rw [p4,CR.mul_comm];exact hp)).2
section
variable {f0 : Fp -> Fp2} {f1 : Fp2 -> Fp} {f2 : Fp -> Fp × Bool} {f3 : Fp2 -> Fp -> Fp2} {f4 : Fp2 -> Fp2 -> Fp2} {f5 : Fp2 -> Bool} {f6 : Fp2 -> Fp2} {a : Fp2}
theorem Jg (h:cH a.c1 zeroFp=true) (h2:dj (f4 (f0 a.c0) (f0 a.c0)) a=true):cJ f0 f1 f2 f3 f4 f5 f6 a=aaT f5 f6 (f0 a.c0):=by
 unfold cJ aaT
 rw [h,h2]
 cases f5 (f0 a.c0) <;> rfl
theorem EZ (h:cH a.c1 zeroFp=false) (h2:(f2 (f1 a)).2=false):cJ f0 f1 f2 f3 f4 f5 f6 a=(zeroFp2,false):=by
 unfold cJ
 rw [h,h2]
 rfl
theorem Jd (h:cH a.c1 zeroFp=false) (h1:(f2 (f1 a)).2=true) (h2:dj (f4 (f3 a (f2 (f1 a)).1) (f3 a (f2 (f1 a)).1)) a=true):cJ f0 f1 f2 f3 f4 f5 f6 a=aaT f5 f6 (f3 a (f2 (f1 a)).1):=by
 unfold cJ aaT
 rw [h,h1,h2]
 cases f5 (f3 a (f2 (f1 a)).1) <;> rfl
end
theorem vX {a:Fp2} (ha:a.ok):RootOf a (cj a):=by
 have hg:(bX:Fp2->Bool)=dd:=funext hJ
 unfold cj
 rw [hg]
 by_cases hb:a.c1.v=0
 ·obtain ⟨s1,s2⟩:=VM ha.1
  have s3:(ez a.c0).v*(ez a.c0).v=a.v:=by rw [s2];exact Qd.ext' rfl hb.symm
  rw [Jg ((oo ha.2).2 hb) ((sE (bg s1 s1) ha).2 (by rw [bK s1 s1,s3]))]
  exact H3 s1 s3
 ·have hb':=(jg ha.2).2 hb
  have hn:=jT ha
  cases hs:(aT (eS a)).2 with
  | true =>
   obtain ⟨s1,s2⟩:=aij ha hb (lp hn) (by rw [uM hn hs,sk ha])
   rw [Jd hb' hs ((sE (bg s1 s1) ha).2 (by rw [bK s1 s1,s2]))]
   exact H3 s1 s2
  | false =>
   rw [EZ hb' hs]
   refine .inr ⟨fun e => ?_,rfl⟩
   rw [(jP hn).2 (by rw [sk ha];exact QU e)] at hs
   cases hs
section
variable {f0 : Fp -> Fp × Int} {f1 : UInt64 -> Fp} {f2 : Fp -> Fp × Bool} {f3 f4 : Fp -> Fp -> Fp} {f5 : Fp -> Fp} {f6 : Fp2 -> Fp2 -> Fp2} {f7 : Fp2 -> Bool} {f8 : Fp2 -> Fp2} {a : Fp2} {n : Fp}
variable (hn : (f2 (f3 (f4 a.c0 a.c0) (f4 a.c1 a.c1))).1 = n) (h : (f2 (f3 (f4 a.c0 a.c0) (f4 a.c1 a.c1))).2 = true)
include hn h
end
end
end Go.Proofs.YtcbplfkeeaecgaaGreat
namespace Go.Proofs.YtcbplfkeeaecgaaGreat
theorem ae4 {l:List UInt64} {i:Nat} (h:l.length<=i):atF l i=0:=by
 unfold atF
 rw [List.getD_eq_getElem?_getD,List.getElem?_eq_none h]
 rfl
theorem nS (l:List UInt64) : ∀ {k:Nat},l.length<=k->bj l k=fw l
 | 0,h=>by unfold fw;rw [show l.length=0 by omega]
 | k+1,h=>by
  rcases Nat.lt_or_ge k l.length with h1 | h1
  ·unfold fw;rw [show l.length=k+1 by omega]
  ·simp only [bj]
   rw [nS l h1,ae4 h1]
   simp
theorem ae9 (k:Nat):W64 ^ k=2 ^ (64*k):=by
 rw [show W64=2 ^ 64 from rfl,<- Nat.pow_mul]
theorem Zp (x j:Nat):x % 2 ^ (j+1)=x % 2 ^ j+(x.testBit j).toNat*2 ^ j:=by
 rw [Nat.pow_succ,Nat.mod_mul]
 rw [Nat.testBit_eq_decide_div_mod_eq]
 have h:x / 2 ^ j % 2<2:=Nat.mod_lt _ (by decide)
 rcases (by omega:x / 2 ^ j % 2=0 \/ x / 2 ^ j % 2=1) with h1 | h1
 ·rw [h1];simp
 ·rw [h1];simp
theorem OU (e:List UInt64) (k:Nat) (hk:gu e (64*k)=bj e k) : ∀ j,j<=64->gu e (64*k+j)=bj e k+(atF e k).toNat % 2 ^ j*2 ^ (64*k)
 | 0,_=>by rw [Nat.add_zero,hk,Nat.pow_zero,Nat.mod_one,Nat.zero_mul,Nat.add_zero]
 | j+1,h=>by
  rw [show 64*k+(j+1)=(64*k+j)+1 from rfl]
  simp only [gu]
  rw [OU e k hk j (by omega),Zp,Nat.add_mul]
  have hb:dH e (64*k+j)=(atF e k).toNat.testBit j:=by
   unfold dH atF
   rw [show (64*k+j) / 64=k by omega,show (64*k+j) % 64=j by omega]
  rw [hb,Nat.add_assoc,show 2 ^ (64*k+j)=2 ^ j*2 ^ (64*k) by rw [Nat.pow_add,Nat.mul_comm],Nat.mul_assoc]
theorem H6 (e:List UInt64) : ∀ k,gu e (64*k)=bj e k
 | 0=>rfl
 | k+1=>by
  rw [show 64*(k+1)=64*k+64 by omega,OU e k (H6 e k) 64 (Nat.le_refl _)]
  simp only [bj]
  rw [ae9,Nat.mod_eq_of_lt (UInt64.toNat_lt _)]
theorem TC (e:List UInt64):gu e (64*e.length)=fw e:=H6 e _
theorem tP {a b:List UInt64} : ∀ {k:Nat},(∀ j,j<k->atF a j=atF b j)->bj a k=bj b k
 | 0,_=>rfl
 | k+1,h=>by
  simp only [bj]
  rw [tP (k:=k) fun j hj=>h j (by omega),h k (by omega)]
theorem adK (l:List UInt64):(ofL l).nat=bj l 6:=by
 rw [<- rT]
 refine tP fun j hj => ?_
 match j,hj with
 | 0,_=>rfl
 | 1,_=>rfl
 | 2,_=>rfl
 | 3,_=>rfl
 | 4,_=>rfl
 | 5,_=>rfl
theorem N8 {l:List UInt64} (h:l.length<=6):(ofL l).nat=fw l:=by rw [adK,nS l h]
end Go.Proofs.YtcbplfkeeaecgaaGreat
namespace Go.Proofs.YtcbplfkeeaecgaaGreat
def uj {α:Type} (tw pl:α->α) (e:List UInt64):Nat->α->α
 | 0,x=>x
 | n+1,x=>uj tw pl e n (match dH e n with | true=>pl (tw x) | false=>tw x)
theorem Du {α K:Type} [Fld K] [Crv K] (R:α->Pt K->Prop) {tw pl:α->α} {p:Pt K} (hp:p.on) (h1 : ∀ {o:α} {q:Pt K},q.on->R o q->R (tw o) (q.add q)) (h2 : ∀ {o:α} {q:Pt K},q.on->R o q->R (pl o) (q.add p)) (e:List UInt64) :
  ∀ (n:Nat) {o:α} {q:Pt K},q.on->R o q->R (uj tw pl e n o) ((q.mul (2 ^ n)).add (p.mul (gu e n)))
 | 0,o,q,hq,h=>by
  show R o ((q.mul 1).add (p.mul 0))
  rw [fC,b7,bZ]
  exact h
 | n+1,o,q,hq,h=>by
  have e2:(2:Nat) ^ (n+1)=2 ^ n+2 ^ n:=by rw [Nat.pow_succ];omega
  have hqq:=d8 hq hq
  simp only [uj]
  cases hb:dH e n with
  | true =>
   have ih:=Du R hp h1 h2 e n (d8 hqq hp) (h2 hqq (h1 hq h))
   have el:gu e (n+1)=2 ^ n+gu e n:=by simp only [gu,hb,Bool.toNat_true,Nat.one_mul];exact Nat.add_comm _ _
   rw [cY hqq hp,cY hq hq,<- dF hq,<- e2,bD (cv hq _) (cv hp _) (cv hp _),<- dF hp,<- el] at ih
   exact ih
  | false =>
   have ih:=Du R hp h1 h2 e n hqq (h1 hq h)
   have el:gu e (n+1)=gu e n:=by simp only [gu,hb,Bool.toNat_false,Nat.zero_mul,Nat.add_zero]
   rw [cY hq hq,<- dF hq,<- e2,<- el] at ih
   exact ih
theorem lH {α K:Type} [Fld K] [Crv K] (R:α->Pt K->Prop) {tw pl:α->α} {p:Pt K} (hp:p.on) (h1 : ∀ {o:α} {q:Pt K},q.on->R o q->R (tw o) (q.add q)) (h2 : ∀ {o:α} {q:Pt K},q.on->R o q->R (pl o) (q.add p)) (e:List UInt64) {o:α} (h:R o .inf) :
  R (uj tw pl e (64*e.length) o) (p.mul (fw e)):=by
 have:=Du R hp h1 h2 e (64*e.length) (q := .inf) trivial h
 rw [g7,bR,TC] at this
 exact this
theorem V1.four_cube : ∀ x:V1,x*x*x+4 ≠ 0:=fun x h=>by
 have hx:x ≠ 0:=fun e=>by
  rw [e] at h
  have h4:(4:V1)=0:=by grind
  have:=congrArg V1.nat h4
  exact absurd this (by decide +kernel)
 have h1:x ^ 3 = -4:=by grind
 have h2:(-4:V1) ^ ((pN-1) / 3)=1:=by
  rw [<- h1,<- aD,Nat.mul_comm,abv]
  exact V1.fermat hx
 have h3:=congrArg V1.nat h2
 have h4:(-4:V1).nat=pN-4:=by decide +kernel
 rw [V1.nat_pow,h4,V1.nat_one,<- gN pN 381 _ _ (by decide +kernel)] at h3
 exact absurd h3 (by decide +kernel)
instance crv1 : Crv V1 where
 b:=4
 two:=two_ne
 no:=V1.four_cube
def bb2:V2:=⟨4,4⟩
theorem Zr:bb2.norm=32:=by
 rw [V2.norm_eq]
 show (4:V1)*4+4*4=32
 grind
theorem V2.two_ne:(2:V2) ≠ 0:=fun e=>Go.Proofs.YtcbplfkeeaecgaaGreat.two_ne (by
 have:=congrArg Qd.a e
 exact this)
theorem V2.four_cube : ∀ x:V2,x*x*x+bb2 ≠ 0:=fun x h=>by
 have h1:x*x*x = -bb2:=by grind
 have h2:x.norm*x.norm*x.norm=32:=by
  rw [<- Qd.norm_mul,<- Qd.norm_mul,h1,<- Zr,V2.norm_eq,V2.norm_eq]
  show -bb2.a * -bb2.a + -bb2.b * -bb2.b=_
  grind
 have hx:x.norm ≠ 0:=fun e=>by
  rw [e] at h2
  have h4:(32:V1)=0:=h2.symm.trans (CR.mul_zero _)
  have:=congrArg V1.nat h4
  exact absurd this (by decide +kernel)
 have h3:(32:V1) ^ ((pN-1) / 3)=1:=by
  have e:(32:V1)=x.norm ^ 3:=by rw [<- h2];grind
  rw [e,<- aD,Nat.mul_comm,abv]
  exact V1.fermat hx
 have h5:=congrArg V1.nat h3
 have h4:(32:V1).nat=32:=by decide +kernel
 rw [V1.nat_pow,h4,V1.nat_one,<- gN pN 381 _ _ (by decide +kernel)] at h5
 exact absurd h5 (by decide +kernel)
instance crv2 : Crv V2 where
 b:=bb2
 two:=V2.two_ne
 no:=V2.four_cube
theorem fb {a b:Fp} (ha:a.ok) (hb:b.ok):(cP a b).ok:=cO ha hb
theorem jw {a b:Fp} (ha:a.ok) (hb:b.ok):(dM a b).ok:=fQ ha hb
theorem adV {a:Fp} (ha:a.ok):(dV a).ok:=iQ ha
theorem kP {a b:Fp} (ha:a.ok) (hb:b.ok):(bT a b).ok:=bc ha
theorem bn {a b:Fp} (ha:a.ok) (hb:b.ok):(aP a b).ok:=cW ha
theorem sM {a:Fp} (ha:a.ok):(bf a).ok:=jn ha
theorem Dm {a:Fp} (ha:a.ok):(iR a).ok:=wY ha
theorem qY:zeroFp.ok:=a9
theorem N1:oneFp.ok:=jD
theorem ZG {a b:Fp} (ha:a.ok) (hb:b.ok):(cP a b).v=a.v+b.v:=lM ha hb
theorem agt {a b:Fp} (ha:a.ok) (hb:b.ok):(dM a b).v=a.v-b.v:=pJ ha hb
theorem agx {a:Fp} (ha:a.ok):(dV a).v = -a.v:=ra ha
theorem mE {a b:Fp} (ha:a.ok) (hb:b.ok):(bT a b).v=a.v*b.v:=gb ha hb
theorem ab6 {a b:Fp} (ha:a.ok) (hb:b.ok):(aP a b).v=ri*(a.v*b.v):=uL ha hb
theorem U9 {a:Fp} (ha:a.ok):(bf a).v=rv*a.v:=vA ha
theorem agz {a:Fp} (ha:a.ok):(iR a).v=ri*a.v:=abt ha
theorem M9:zeroFp.v=0:=gS
theorem agw:oneFp.v=1:=zU
theorem ahE {a:Fp} (ha:a.ok):(a.v=0->(dc a).2=7)/\(a.v ≠ 0->(dc a).2=0/\(dc a).1.ok/\(dc a).1.v=Fld.inv a.v):=Ek ha
theorem OC {a:Fp2} (ha:a.ok):(a.v=0->(d7 a).2=7)/\(a.v ≠ 0->(d7 a).2=0/\(d7 a).1.ok/\(d7 a).1.v=Fld.inv a.v):=⟨fun h=>congrArg Prod.snd ((zD ha).1 h),(zD ha).2⟩
theorem abI {a b:Fp} (ha:a.ok) (hb:b.ok):cH a b=true <-> a.v=b.v:=Es ha hb
theorem Hz (a:Fp):qG a=true <-> a.ok:=sx a
end Go.Proofs.YtcbplfkeeaecgaaGreat
namespace Go.Proofs.YtcbplfkeeaecgaaGreat
open Go.RowKit
section
abbrev ks1:Kd Sp1:=aa Sp1
def pL (e:List UInt64) (x:Sp1) (cs:List Cell) (z:Int):St:=aw 31 [(1,inV 0 e),(2,bv 1),(4,bv 2),(5,bv 3),(6,vI z)] [bN eU64 e,own 99 (Row.cs x),own 99 (bO 18),own 99 cs]
def ZP (tw:Sp1->Sp1) (pl:Sp1->Sp1->Sp1):cQ := [(110,K1 ks1.arg ks1.rs.res tw),(111,K2 ks1.arg ks1.arg ks1.rs.res pl)]
theorem PQ (T:cQ) (x:Sp1) (e:List UInt64):b8 (En T) 100 ((flat (af Tryz.f57)).take 1) (ah Tryz.f57 [.one (ks1.av x),iL.av 0 e] [bN eU64 e]) [1,2,4] [0,1,2] = .leaf (aw 31 [(1,inV 0 e),(2,bv 1),(4,bv 2)] [bN eU64 e,own 99 (Row.cs x),own 99 (bO 18)]):=by kernel_rfl
theorem PO (tw:Sp1->Sp1) (pl:Sp1->Sp1->Sp1) (x:Sp1) (e:List UInt64):b8 (En (ZP tw pl)) 100 ((flat (aU Tryz.f57)).take 3) (aw 31 [(1,inV 0 e),(2,bv 1),(4,bv 2)] [bN eU64 e,own 99 (Row.cs x),own 99 (bO 18)]) [1,2,4,5,6] [0,1,2,3] = .vc (0+e.length*1<=(eU64.body e).cells.length/\0<1) (.leaf (pL e x (bO 18) (IntKind.i64.wrap (64*e.length)))):=by kernel_rfl
theorem Vt (tw:Sp1->Sp1) (pl:Sp1->Sp1->Sp1) (x o:Sp1) (e:List UInt64) (z:Int):letI za':=IntKind.i64.wrap (z-1);fE (En (ZP tw pl)) ks1.rs.out 100 Tryz.f57 ((flat (aU Tryz.f57)).drop 3) (pL e x (Row.cs o) z) [1,2,4,5,6] [0,1,2,3] = .br (decide (IntKind.i64.wrap (z-1)<0)) (.leaf (.inr (some (o,.t)))) (.vc ((0<=jk z/\jk z<e.length)/\0+e.length*1<=(eU64.body e).cells.length/\0<1) (.vc (0+(jk z).toNat*1<e.length) (.br (DA e z) (.leaf (.inl (.goto 0,pL e x (Row.cs (pl (tw o) x)) za'))) (.leaf (.inl (.goto 0,pL e x (Row.cs (tw o)) za')))))):=by kernel_rfl
theorem PR (tw:Sp1->Sp1) (pl:Sp1->Sp1->Sp1) (x:Sp1) (e:List UInt64) (z:Int):letI za':=IntKind.i64.wrap (z-1);fE (En (ZP tw pl)) ks1.rs.out 100 Tryz.f57 ((flat (aU Tryz.f57)).drop 3) (pL e x (bO 18) z) [1,2,4,5,6] [0,1,2,3] = .br (decide (IntKind.i64.wrap (z-1)<0)) (.leaf (.inr (some (fF,.t)))) (.vc ((0<=jk z/\jk z<e.length)/\0+e.length*1<=(eU64.body e).cells.length/\0<1) (.vc (0+(jk z).toNat*1<e.length) (.br (DA e z) (.leaf (.inl (.goto 0,pL e x (Row.cs (pl (tw fF) x)) za'))) (.leaf (.inl (.goto 0,pL e x (Row.cs (tw fF)) za')))))):=by kernel_rfl
def J9 (b:Bool) (o:Sp1):List Cell:=match b with
 | true=>bO 18
 | false=>Row.cs o
def fO (x:Sp1) (e:List UInt64):Sp1:=uj cB (fun o=>gX o x) e (64*e.length) fF
abbrev ajL (x:Sp1) (e:List UInt64):Type := { q:Bool × Int × Sp1 // 0<=q.2.1/\q.2.1<=64*e.length/\(q.1=true->q.2.2=fF)/\uj cB (fun o=>gX o x) e q.2.1.toNat q.2.2=fO x e }
def aft (x:Sp1) (e:List UInt64) (q:ajL x e):St:=pL e x (J9 q.1.1 q.1.2.2) q.1.2.1
theorem PP (x:Sp1) (e:List UInt64) (b:Bool) (o:Sp1) (hb:b=true->o=fF) (z:Int):fE (En (ZP cB gX)) ks1.rs.out 100 Tryz.f57 ((flat (aU Tryz.f57)).drop 3) (pL e x (J9 b o) z) [1,2,4,5,6] [0,1,2,3] =
  .br (decide (IntKind.i64.wrap (z-1)<0)) (.leaf (.inr (some (o,.t))))
   (.vc ((0<=jk z/\jk z<e.length)/\0+e.length*1<=(eU64.body e).cells.length/\0<1) (.vc (0+(jk z).toNat*1<e.length)
    (.br (DA e z) (.leaf (.inl (.goto 0,pL e x (Row.cs (gX (cB o) x)) (IntKind.i64.wrap (z-1))))) (.leaf (.inl (.goto 0,pL e x (Row.cs (cB o)) (IntKind.i64.wrap (z-1)))))))):=by
 cases b with
 | true =>
  rw [hb rfl]
  exact PR cB gX x e z
 | false=>exact Vt cB gX x o e z
theorem vQ:CallOk Tryz.prog 57 (K2 ks1.arg aL ks1.rs.res fO) :=
 Go.Proofs.YtcbplfkeeaecgaaGreat.G2 (E:=En (ZP cB gX)) Tryz.func57 (c:=af Tryz.f57) (by kernel_rfl) (ac Tryz.func57 (by kernel_rfl) (by kernel_rfl)) ks1.inp iL ks1.rs.out fO fun x e _ he=>by
  have hE:EnvOk (En (ZP cB gX)):=ag (.cons vJ (.cons RG .nil))
  have he:e.length<1125899906842624:=he
  have hw:IntKind.i64.wrap (64*(e.length:Int))=64*(e.length:Int):=IntWalk.i64_in _ (by omega)
  refine DoesL.stageE hE 100 1 [1,2,4] [0,1,2] (PQ _ x e) ?_
  refine DoesL.scopeFn (body:=aU Tryz.f57) (rest:=oV Tryz.f57) (tail := []) (l:=0) hE (by kernel_rfl) (by kernel_rfl) 100 3 (by kernel_rfl) [1,2,4,5,6] [0,1,2,3] (aft x e) (fun q=>q.1.2.1.toNat)
   ⟨(true,64*(e.length:Int),fF),by simp only [];omega,by simp only [];omega,fun _=>rfl,by rw [show ((true,64*(e.length:Int),fF):Bool × Int × Sp1).2.1.toNat=64*e.length by simp only [];omega];simp only [fO]⟩
   (PO cB gX x e) ⟨⟨by rw [cells_len];omega,by decide⟩,fun _=>by rw [hw];exact Tree.sat_leaf (by simp only [aft,J9])⟩ fun q => ?_
  obtain ⟨⟨b,z,o⟩,h0,h1,hb,h2⟩:=q
  simp only [] at h0 h1 h2 hb
  have hz:IntKind.i64.wrap (z-1)=z-1:=IntWalk.i64_in _ (by omega)
  refine DoesL.iter hE 100 [1,2,4,5,6] [0,1,2,3] (PP x e b o hb z) ?_
  rw [hz]
  refine ⟨fun h => ?_,fun h => ?_⟩
  ·simp only [decide_eq_true_eq] at h
   obtain rfl:z=0:=by omega
   exact ⟨.t,by rw [<- h2];rfl,trivial⟩
  ·simp only [decide_eq_false_iff_not] at h
   obtain ⟨n,rfl⟩ : ∃ n:Nat,z=(n:Int)+1:=⟨(z-1).toNat,by omega⟩
   rw [ls n (by omega),nN e n (by omega)]
   rw [show ((n:Int)+1).toNat=n+1 by omega] at h2
   simp only [uj] at h2
   refine ⟨⟨⟨by omega,by omega⟩,by rw [cells_len];omega,by decide⟩,fun _=>⟨by omega,fun _=>⟨fun h3 => ?_,fun h3 => ?_⟩⟩⟩
   all_goals
    have hn:((n:Int)+1-1).toNat=n:=by omega
    rw [h3] at h2
    simp only [] at h2
   ·refine ⟨rfl,⟨(false,(n:Int)+1-1,gX (cB o) x),?_,?_,?_,?_⟩,?_,by simp only [aft,J9]⟩
    ·show 0<=(n:Int)+1-1;omega
    ·show (n:Int)+1-1<=64*e.length;omega
    ·intro h;cases h
    ·simpa only [hn] using h2
    ·show ((n:Int)+1-1).toNat<((n:Int)+1).toNat;omega
   ·refine ⟨rfl,⟨(false,(n:Int)+1-1,cB o),?_,?_,?_,?_⟩,?_,by simp only [aft,J9]⟩
    ·show 0<=(n:Int)+1-1;omega
    ·show (n:Int)+1-1<=64*e.length;omega
    ·intro h;cases h
    ·simpa only [hn] using h2
    ·show ((n:Int)+1-1).toNat<((n:Int)+1).toNat;omega
def Dh (f0:Sp1->Pg1) (f1:Sp1->List UInt64->Sp1) (f2:Pg1->Sp1) (a:Pg1) (k:Fr):Pg1:=(f0 (f1 (f2 a) [k.l0,k.l1,k.l2,k.l3]))
def On (f0:Sp1->Pg1) (f1:Sp1->List UInt64->Sp1) (f2:Pg1->Sp1) (a:Pg1) (k:Fr):Tree (Option (Pg1)) :=
 (.leaf (some (f0 (f1 (f2 a) [k.l0,k.l1,k.l2,k.l3]))))
theorem Sh (f0:Sp1->Pg1) (f1:Sp1->List UInt64->Sp1) (f2:Pg1->Sp1) (a:Pg1) (k:Fr):ab (En [(56,K1 (aa Sp1).arg (aa Pg1).rs.res f0),(57,K2 ks1.arg aL ks1.rs.res f1),(58,K1 (aa Pg1).arg (aa Sp1).rs.res f2)]) (aa Pg1).rs 300 Tryz.f29 [.one ((aa Pg1).av a),.one ((aa Fr).av k)]=On f0 f1 f2 a k:=by kernel_rfl
theorem Sg (f0:Sp1->Pg1) (f1:Sp1->List UInt64->Sp1) (f2:Pg1->Sp1) (a:Pg1) (k:Fr):(On f0 f1 f2 a k).sat fun q=>q=some (Dh f0 f1 f2 a k):=(show some _=some _ from rfl)
def rM (a:Pg1) (k:Fr):Pg1:=Dh po fO kE a k
theorem XP:CallOk Tryz.prog 29 (K2 (aa Pg1).arg (aa Fr).arg (aa Pg1).rs.res rM) :=
 P2 (ag (.cons SY (.cons vQ (.cons Ba .nil)))) Tryz.func29 (ac Tryz.func29 (by kernel_rfl) (by kernel_rfl)) 300 (aa Pg1) (aa Fr) (aa Pg1).rs rM (Sh po fO kE) (Sg po fO kE)
def uT (f0:Pg1->Bool) (f1:Fp->Bool) (f2:Sp1->List UInt64->Sp1) (f3:Pg1->Sp1) (f4:Fr) (a:Pg1):Bool:=(match (f0 a) with | true=>((f1 (f2 (f3 a) [f4.l0,f4.l1,f4.l2,f4.l3]).z)) | false=>((false)))
def aaH (f0:Pg1->Bool) (f1:Fp->Bool) (f2:Sp1->List UInt64->Sp1) (f3:Pg1->Sp1) (f4:Fr) (a:Pg1):Tree (Option (Bool)) :=
 (.br (f0 a)
  (.leaf (some ((f1 (f2 (f3 a) [f4.l0,f4.l1,f4.l2,f4.l3]).z))))
  (.leaf (some ((false)))))
theorem YB (f0:Pg1->Bool) (f1:Fp->Bool) (f2:Sp1->List UInt64->Sp1) (f3:Pg1->Sp1) (f4:Fr) (a:Pg1):ab (Ens [(116,K1 (aa Pg1).arg kBool.rs.res f0),(117,K1 (aa Fp).arg kBool.rs.res f1),(57,K2 ks1.arg aL ks1.rs.res f2),(58,K1 (aa Pg1).arg (aa Sp1).rs.res f3),(118,K0 (rS4 24) f4)] [118]) kBool.rs 300 Tryz.f61 [.one ((aa Pg1).av a)]=aaH f0 f1 f2 f3 f4 a:=by kernel_rfl
theorem YA (f0:Pg1->Bool) (f1:Fp->Bool) (f2:Sp1->List UInt64->Sp1) (f3:Pg1->Sp1) (f4:Fr) (a:Pg1):(aaH f0 f1 f2 f3 f4 a).sat fun q=>q=some (uT f0 f1 f2 f3 f4 a):=⟨fun h0=>(show some _=some _ from congrArg some (by unfold uT;rw [h0])),fun h0=>(show some _=some _ from congrArg some (by unfold uT;rw [h0]))⟩
def j5 (a:Pg1):Bool:=uT UW gQ fO kE rLimbs a
theorem Dq:CallOk Tryz.prog 61 (K1 (aa Pg1).arg kBool.rs.res j5) :=
 P1 (cm (.cons adz (.cons Ao (.cons vQ (.cons Ba (.cons agj .nil)))))) Tryz.func61 (ac Tryz.func61 (by kernel_rfl) (by kernel_rfl)) 300 (aa Pg1) kBool.rs j5 (YB UW gQ fO kE rLimbs) (YA UW gQ fO kE rLimbs)
end
section
abbrev ks2:Kd Fp6:=aa Fp6
def pK (e:List UInt64) (x:Fp6) (cs:List Cell) (z:Int):St:=aw 31 [(1,inV 0 e),(2,bv 1),(4,bv 2),(5,bv 3),(6,vI z)] [bN eU64 e,own 94 (Row.cs x),own 94 (bO 36),own 94 cs]
def ZO (tw:Fp6->Fp6) (pl:Fp6->Fp6->Fp6):cQ := [(105,K1 ks2.arg ks2.rs.res tw),(106,K2 ks2.arg ks2.arg ks2.rs.res pl)]
theorem PL (T:cQ) (x:Fp6) (e:List UInt64):b8 (En T) 100 ((flat (af Tryz.f54)).take 1) (ah Tryz.f54 [.one (ks2.av x),iL.av 0 e] [bN eU64 e]) [1,2,4] [0,1,2] = .leaf (aw 31 [(1,inV 0 e),(2,bv 1),(4,bv 2)] [bN eU64 e,own 94 (Row.cs x),own 94 (bO 36)]):=by kernel_rfl
theorem PJ (tw:Fp6->Fp6) (pl:Fp6->Fp6->Fp6) (x:Fp6) (e:List UInt64):b8 (En (ZO tw pl)) 100 ((flat (aU Tryz.f54)).take 3) (aw 31 [(1,inV 0 e),(2,bv 1),(4,bv 2)] [bN eU64 e,own 94 (Row.cs x),own 94 (bO 36)]) [1,2,4,5,6] [0,1,2,3] = .vc (0+e.length*1<=(eU64.body e).cells.length/\0<1) (.leaf (pK e x (bO 36) (IntKind.i64.wrap (64*e.length)))):=by kernel_rfl
theorem Vs (tw:Fp6->Fp6) (pl:Fp6->Fp6->Fp6) (x o:Fp6) (e:List UInt64) (z:Int):letI za':=IntKind.i64.wrap (z-1);fE (En (ZO tw pl)) ks2.rs.out 100 Tryz.f54 ((flat (aU Tryz.f54)).drop 3) (pK e x (Row.cs o) z) [1,2,4,5,6] [0,1,2,3] = .br (decide (IntKind.i64.wrap (z-1)<0)) (.leaf (.inr (some (o,.t)))) (.vc ((0<=jk z/\jk z<e.length)/\0+e.length*1<=(eU64.body e).cells.length/\0<1) (.vc (0+(jk z).toNat*1<e.length) (.br (DA e z) (.leaf (.inl (.goto 0,pK e x (Row.cs (pl (tw o) x)) za'))) (.leaf (.inl (.goto 0,pK e x (Row.cs (tw o)) za')))))):=by kernel_rfl
theorem PM (tw:Fp6->Fp6) (pl:Fp6->Fp6->Fp6) (x:Fp6) (e:List UInt64) (z:Int):letI za':=IntKind.i64.wrap (z-1);fE (En (ZO tw pl)) ks2.rs.out 100 Tryz.f54 ((flat (aU Tryz.f54)).drop 3) (pK e x (bO 36) z) [1,2,4,5,6] [0,1,2,3] = .br (decide (IntKind.i64.wrap (z-1)<0)) (.leaf (.inr (some (zeroFp6,.t)))) (.vc ((0<=jk z/\jk z<e.length)/\0+e.length*1<=(eU64.body e).cells.length/\0<1) (.vc (0+(jk z).toNat*1<e.length) (.br (DA e z) (.leaf (.inl (.goto 0,pK e x (Row.cs (pl (tw zeroFp6) x)) za'))) (.leaf (.inl (.goto 0,pK e x (Row.cs (tw zeroFp6)) za')))))):=by kernel_rfl
def J8 (b:Bool) (o:Fp6):List Cell:=match b with
 | true=>bO 36
 | false=>Row.cs o
def fN (x:Fp6) (e:List UInt64):Fp6:=uj cz (fun o=>gW o x) e (64*e.length) zeroFp6
abbrev ajK (x:Fp6) (e:List UInt64):Type := { q:Bool × Int × Fp6 // 0<=q.2.1/\q.2.1<=64*e.length/\(q.1=true->q.2.2=zeroFp6)/\uj cz (fun o=>gW o x) e q.2.1.toNat q.2.2=fN x e }
def afs (x:Fp6) (e:List UInt64) (q:ajK x e):St:=pK e x (J8 q.1.1 q.1.2.2) q.1.2.1
theorem PK (x:Fp6) (e:List UInt64) (b:Bool) (o:Fp6) (hb:b=true->o=zeroFp6) (z:Int):fE (En (ZO cz gW)) ks2.rs.out 100 Tryz.f54 ((flat (aU Tryz.f54)).drop 3) (pK e x (J8 b o) z) [1,2,4,5,6] [0,1,2,3] =
  .br (decide (IntKind.i64.wrap (z-1)<0)) (.leaf (.inr (some (o,.t))))
   (.vc ((0<=jk z/\jk z<e.length)/\0+e.length*1<=(eU64.body e).cells.length/\0<1) (.vc (0+(jk z).toNat*1<e.length)
    (.br (DA e z) (.leaf (.inl (.goto 0,pK e x (Row.cs (gW (cz o) x)) (IntKind.i64.wrap (z-1))))) (.leaf (.inl (.goto 0,pK e x (Row.cs (cz o)) (IntKind.i64.wrap (z-1)))))))):=by
 cases b with
 | true =>
  rw [hb rfl]
  exact PM cz gW x e z
 | false=>exact Vs cz gW x o e z
theorem vP:CallOk Tryz.prog 54 (K2 ks2.arg aL ks2.rs.res fN) :=
 Go.Proofs.YtcbplfkeeaecgaaGreat.G2 (E:=En (ZO cz gW)) Tryz.func54 (c:=af Tryz.f54) (by kernel_rfl) (ac Tryz.func54 (by kernel_rfl) (by kernel_rfl)) ks2.inp iL ks2.rs.out fN fun x e _ he=>by
  have hE:EnvOk (En (ZO cz gW)):=ag (.cons vH (.cons RD .nil))
  have he:e.length<1125899906842624:=he
  have hw:IntKind.i64.wrap (64*(e.length:Int))=64*(e.length:Int):=IntWalk.i64_in _ (by omega)
  refine DoesL.stageE hE 100 1 [1,2,4] [0,1,2] (PL _ x e) ?_
  refine DoesL.scopeFn (body:=aU Tryz.f54) (rest:=oV Tryz.f54) (tail := []) (l:=0) hE (by kernel_rfl) (by kernel_rfl) 100 3 (by kernel_rfl) [1,2,4,5,6] [0,1,2,3] (afs x e) (fun q=>q.1.2.1.toNat)
   ⟨(true,64*(e.length:Int),zeroFp6),by simp only [];omega,by simp only [];omega,fun _=>rfl,by rw [show ((true,64*(e.length:Int),zeroFp6):Bool × Int × Fp6).2.1.toNat=64*e.length by simp only [];omega];simp only [fN]⟩
   (PJ cz gW x e) ⟨⟨by rw [cells_len];omega,by decide⟩,fun _=>by rw [hw];exact Tree.sat_leaf (by simp only [afs,J8])⟩ fun q => ?_
  obtain ⟨⟨b,z,o⟩,h0,h1,hb,h2⟩:=q
  simp only [] at h0 h1 h2 hb
  have hz:IntKind.i64.wrap (z-1)=z-1:=IntWalk.i64_in _ (by omega)
  refine DoesL.iter hE 100 [1,2,4,5,6] [0,1,2,3] (PK x e b o hb z) ?_
  rw [hz]
  refine ⟨fun h => ?_,fun h => ?_⟩
  ·simp only [decide_eq_true_eq] at h
   obtain rfl:z=0:=by omega
   exact ⟨.t,by rw [<- h2];rfl,trivial⟩
  ·simp only [decide_eq_false_iff_not] at h
   obtain ⟨n,rfl⟩ : ∃ n:Nat,z=(n:Int)+1:=⟨(z-1).toNat,by omega⟩
   rw [ls n (by omega),nN e n (by omega)]
   rw [show ((n:Int)+1).toNat=n+1 by omega] at h2
   simp only [uj] at h2
   refine ⟨⟨⟨by omega,by omega⟩,by rw [cells_len];omega,by decide⟩,fun _=>⟨by omega,fun _=>⟨fun h3 => ?_,fun h3 => ?_⟩⟩⟩
   all_goals
    have hn:((n:Int)+1-1).toNat=n:=by omega
    rw [h3] at h2
    simp only [] at h2
   ·refine ⟨rfl,⟨(false,(n:Int)+1-1,gW (cz o) x),?_,?_,?_,?_⟩,?_,by simp only [afs,J8]⟩
    ·show 0<=(n:Int)+1-1;omega
    ·show (n:Int)+1-1<=64*e.length;omega
    ·intro h;cases h
    ·simpa only [hn] using h2
    ·show ((n:Int)+1-1).toNat<((n:Int)+1).toNat;omega
   ·refine ⟨rfl,⟨(false,(n:Int)+1-1,cz o),?_,?_,?_,?_⟩,?_,by simp only [afs,J8]⟩
    ·show 0<=(n:Int)+1-1;omega
    ·show (n:Int)+1-1<=64*e.length;omega
    ·intro h;cases h
    ·simpa only [hn] using h2
    ·show ((n:Int)+1-1).toNat<((n:Int)+1).toNat;omega
def Dg (f0:Fp6->Pg2) (f1:Fp6->List UInt64->Fp6) (f2:Pg2->Fp6) (a:Pg2) (k:Fr):Pg2:=(f0 (f1 (f2 a) [k.l0,k.l1,k.l2,k.l3]))
def Om (f0:Fp6->Pg2) (f1:Fp6->List UInt64->Fp6) (f2:Pg2->Fp6) (a:Pg2) (k:Fr):Tree (Option (Pg2)) :=
 (.leaf (some (f0 (f1 (f2 a) [k.l0,k.l1,k.l2,k.l3]))))
theorem Se (f0:Fp6->Pg2) (f1:Fp6->List UInt64->Fp6) (f2:Pg2->Fp6) (a:Pg2) (k:Fr):ab (En [(53,K1 (aa Fp6).arg (aa Pg2).rs.res f0),(54,K2 ks2.arg aL ks2.rs.res f1),(55,K1 (aa Pg2).arg (aa Fp6).rs.res f2)]) (aa Pg2).rs 300 Tryz.f26 [.one ((aa Pg2).av a),.one ((aa Fr).av k)]=Om f0 f1 f2 a k:=by kernel_rfl
theorem Sd (f0:Fp6->Pg2) (f1:Fp6->List UInt64->Fp6) (f2:Pg2->Fp6) (a:Pg2) (k:Fr):(Om f0 f1 f2 a k).sat fun q=>q=some (Dg f0 f1 f2 a k):=(show some _=some _ from rfl)
def rK (a:Pg2) (k:Fr):Pg2:=Dg pn fN kD a k
theorem XO:CallOk Tryz.prog 26 (K2 (aa Pg2).arg (aa Fr).arg (aa Pg2).rs.res rK) :=
 P2 (ag (.cons SW (.cons vP (.cons A9 .nil)))) Tryz.func26 (ac Tryz.func26 (by kernel_rfl) (by kernel_rfl)) 300 (aa Pg2) (aa Fr) (aa Pg2).rs rK (Se pn fN kD) (Sd pn fN kD)
def uS (f0:Pg2->Bool) (f1:Fp2->Bool) (f2:Fp6->List UInt64->Fp6) (f3:Pg2->Fp6) (f4:Fr) (a:Pg2):Bool:=(match (f0 a) with | true=>((f1 (f2 (f3 a) [f4.l0,f4.l1,f4.l2,f4.l3]).c2)) | false=>((false)))
def aaG (f0:Pg2->Bool) (f1:Fp2->Bool) (f2:Fp6->List UInt64->Fp6) (f3:Pg2->Fp6) (f4:Fr) (a:Pg2):Tree (Option (Bool)) :=
 (.br (f0 a)
  (.leaf (some ((f1 (f2 (f3 a) [f4.l0,f4.l1,f4.l2,f4.l3]).c2))))
  (.leaf (some ((false)))))
theorem Yy (f0:Pg2->Bool) (f1:Fp2->Bool) (f2:Fp6->List UInt64->Fp6) (f3:Pg2->Fp6) (f4:Fr) (a:Pg2):ab (Ens [(119,K1 (aa Pg2).arg kBool.rs.res f0),(120,K1 (aa Fp2).arg kBool.rs.res f1),(54,K2 ks2.arg aL ks2.rs.res f2),(55,K1 (aa Pg2).arg (aa Fp6).rs.res f3),(118,K0 (rS4 24) f4)] [118]) kBool.rs 300 Tryz.f62 [.one ((aa Pg2).av a)]=aaG f0 f1 f2 f3 f4 a:=by kernel_rfl
theorem Yx (f0:Pg2->Bool) (f1:Fp2->Bool) (f2:Fp6->List UInt64->Fp6) (f3:Pg2->Fp6) (f4:Fr) (a:Pg2):(aaG f0 f1 f2 f3 f4 a).sat fun q=>q=some (uS f0 f1 f2 f3 f4 a):=⟨fun h0=>(show some _=some _ from congrArg some (by unfold uS;rw [h0])),fun h0=>(show some _=some _ from congrArg some (by unfold uS;rw [h0]))⟩
def mv (a:Pg2):Bool:=uS UV gP fN kD rLimbs a
theorem Dp:CallOk Tryz.prog 62 (K1 (aa Pg2).arg kBool.rs.res mv) :=
 P1 (cm (.cons ady (.cons An (.cons vP (.cons A9 (.cons agj .nil)))))) Tryz.func62 (ac Tryz.func62 (by kernel_rfl) (by kernel_rfl)) 300 (aa Pg2) kBool.rs mv (Yy UV gP fN kD rLimbs) (Yx UV gP fN kD rLimbs)
end
set_option maxRecDepth 100000
section
def NQ (f0:Fp12->Fp12) (f1:Fp12):Fp12:=(f0 f1)
def NP (f0:Fp12->Fp12) (f1:Fp12):Tree (Option (Fp12)) :=
 (.leaf (some (f0 f1)))
theorem Rm (f0:Fp12->Fp12) (f1:Fp12):ab (En [(125,K1 (aa Fp12).arg (aa Fp12).rs.res f0),(67,K0 (aa Fp12).rs.res f1)]) (aa Fp12).rs 300 Tryz.f129 []=NP f0 f1:=by kernel_rfl
theorem Rl (f0:Fp12->Fp12) (f1:Fp12):(NP f0 f1).sat fun q=>q=some (NQ f0 f1):=(show some _=some _ from rfl)
def prOne  : Fp12:=NQ ba es
theorem G6:CallOk Tryz.prog 129 (K0 (aa Fp12).rs.res prOne) :=
 P0 (ag (.cons nf (.cons th .nil))) Tryz.func129 (ac Tryz.func129 (by kernel_rfl) (by kernel_rfl)) 300  (aa Fp12).rs prOne (Rm ba es) (Rl ba es)
def G5 (f0:Fp2->Fp2 × Int) (f1:Fp2->Fp2) (f2:Fp2->Fp2->Fp2) (f3:Fp2->Fp2) (a:Fp2) (b:Fp2):Fp2:=(f2 a (f3 (f0 (f1 b)).fst))
def G4 (f0:Fp2->Fp2 × Int) (f1:Fp2->Fp2) (f2:Fp2->Fp2->Fp2) (f3:Fp2->Fp2) (a:Fp2) (b:Fp2):Tree (Option (Fp2)) :=
 (.leaf (some (f2 a (f3 (f0 (f1 b)).fst))))
theorem JQ (f0:Fp2->Fp2 × Int) (f1:Fp2->Fp2) (f2:Fp2->Fp2->Fp2) (f3:Fp2->Fp2) (a:Fp2) (b:Fp2):ab (En [(103,K1 (aa Fp2).arg ((aa Fp2).rs2 kInt).res f0),(104,K1 (aa Fp2).arg (aa Fp2).rs.res f1),(157,K2 (aa Fp2).arg (aa Fp2).arg (aa Fp2).rs.res f2),(107,K1 (aa Fp2).arg (aa Fp2).rs.res f3)]) (aa Fp2).rs 300 Tryz.f178 [.one ((aa Fp2).av a),.one ((aa Fp2).av b)]=G4 f0 f1 f2 f3 a b:=by kernel_rfl
theorem JP (f0:Fp2->Fp2 × Int) (f1:Fp2->Fp2) (f2:Fp2->Fp2->Fp2) (f3:Fp2->Fp2) (a:Fp2) (b:Fp2):(G4 f0 f1 f2 f3 a b).sat fun q=>q=some (G5 f0 f1 f2 f3 a b):=(show some _=some _ from rfl)
def cu (a:Fp2) (b:Fp2):Fp2:=G5 d7 cM ad ax a b
theorem Rk:CallOk Tryz.prog 178 (K2 (aa Fp2).arg (aa Fp2).arg (aa Fp2).rs.res cu) :=
 P2 (ag (.cons yD (.cons rR (.cons cw (.cons fv .nil))))) Tryz.func178 (ac Tryz.func178 (by kernel_rfl) (by kernel_rfl)) 300 (aa Fp2) (aa Fp2) (aa Fp2).rs cu (JQ d7 cM ad ax) (JP d7 cM ad ax)
def G8 (f0:Fp2->Fp2) (f1:Fp2->Fp2->Fp2) (f2:Fp2->Fp2->Fp2) (f3:Fp2->Fp2) (t:Pg2) (s:Fp2) (p:Pg1):Fp12:=({ c0 := { c0:=f0 { c0:=p.y,c1:=zeroFp },c1:=zeroFp2,c2:=zeroFp2 },c1 := { c0:=zeroFp2,c1:=f1 (f2 s t.x) t.y,c2:=f3 (f2 s { c0:=p.x,c1:=zeroFp }) } })
def G7 (f0:Fp2->Fp2) (f1:Fp2->Fp2->Fp2) (f2:Fp2->Fp2->Fp2) (f3:Fp2->Fp2) (t:Pg2) (s:Fp2) (p:Pg1):Tree (Option (Fp12)) :=
 (.leaf (some ({ c0 := { c0:=f0 { c0:=p.y,c1:=zeroFp },c1:=zeroFp2,c2:=zeroFp2 },c1 := { c0:=zeroFp2,c1:=f1 (f2 s t.x) t.y,c2:=f3 (f2 s { c0:=p.x,c1:=zeroFp }) } })))
theorem JS (f0:Fp2->Fp2) (f1:Fp2->Fp2->Fp2) (f2:Fp2->Fp2->Fp2) (f3:Fp2->Fp2) (t:Pg2) (s:Fp2) (p:Pg1):ab (En [(187,K1 (aa Fp2).arg (aa Fp2).rs.res f0),(163,K2 (aa Fp2).arg (aa Fp2).arg (aa Fp2).rs.res f1),(157,K2 (aa Fp2).arg (aa Fp2).arg (aa Fp2).rs.res f2),(156,K1 (aa Fp2).arg (aa Fp2).rs.res f3)]) (aa Fp12).rs 300 Tryz.f179 [.one ((aa Pg2).av t),.one ((aa Fp2).av s),.one ((aa Pg1).av p)]=G7 f0 f1 f2 f3 t s p:=by kernel_rfl
theorem JR (f0:Fp2->Fp2) (f1:Fp2->Fp2->Fp2) (f2:Fp2->Fp2->Fp2) (f3:Fp2->Fp2) (t:Pg2) (s:Fp2) (p:Pg1):(G7 f0 f1 f2 f3 t s p).sat fun q=>q=some (G8 f0 f1 f2 f3 t s p):=(show some _=some _ from rfl)
def eR (t:Pg2) (s:Fp2) (p:Pg1):Fp12:=G8 iv aG ad b9 t s p
theorem Rp:CallOk Tryz.prog 179 (K3 (aa Pg2).arg (aa Fp2).arg (aa Pg1).arg (aa Fp12).rs.res eR) :=
 P3 (ag (.cons vE (.cons fm (.cons cw (.cons yo .nil))))) Tryz.func179 (ac Tryz.func179 (by kernel_rfl) (by kernel_rfl)) 300 (aa Pg2) (aa Fp2) (aa Pg1) (aa Fp12).rs eR (JS iv aG ad b9) (JR iv aG ad b9)
def Z7 (f0:Fp2->Fp2->Fp2) (f1:Fp2->Fp2->Fp2) (t:Pg2) (s:Fp2) (x:Fp2):Pg2:=({ x:=f0 (f0 (f1 s s) t.x) x,y:=f0 (f1 s (f0 t.x (f0 (f0 (f1 s s) t.x) x))) t.y,inf:=false })
def Z6 (f0:Fp2->Fp2->Fp2) (f1:Fp2->Fp2->Fp2) (t:Pg2) (s:Fp2) (x:Fp2):Tree (Option (Pg2)) :=
 (.leaf (some ({ x:=f0 (f0 (f1 s s) t.x) x,y:=f0 (f1 s (f0 t.x (f0 (f0 (f1 s s) t.x) x))) t.y,inf:=false })))
theorem WU (f0:Fp2->Fp2->Fp2) (f1:Fp2->Fp2->Fp2) (t:Pg2) (s:Fp2) (x:Fp2):ab (En [(163,K2 (aa Fp2).arg (aa Fp2).arg (aa Fp2).rs.res f0),(157,K2 (aa Fp2).arg (aa Fp2).arg (aa Fp2).rs.res f1)]) (aa Pg2).rs 300 Tryz.f180 [.one ((aa Pg2).av t),.one ((aa Fp2).av s),.one ((aa Fp2).av x)]=Z6 f0 f1 t s x:=by kernel_rfl
theorem WT (f0:Fp2->Fp2->Fp2) (f1:Fp2->Fp2->Fp2) (t:Pg2) (s:Fp2) (x:Fp2):(Z6 f0 f1 t s x).sat fun q=>q=some (Z7 f0 f1 t s x):=(show some _=some _ from rfl)
def lT (t:Pg2) (s:Fp2) (x:Fp2):Pg2:=Z7 aG ad t s x
theorem adk:CallOk Tryz.prog 180 (K3 (aa Pg2).arg (aa Fp2).arg (aa Fp2).arg (aa Pg2).rs.res lT) :=
 P3 (ag (.cons fm (.cons cw .nil))) Tryz.func180 (ac Tryz.func180 (by kernel_rfl) (by kernel_rfl)) 300 (aa Pg2) (aa Fp2) (aa Fp2) (aa Pg2).rs lT (WU aG ad) (WT aG ad)
def wD (f0:Pg1->Bool) (f1:Pg2->Bool) (a:Pg1) (b:Pg2):Bool:=(match (f0 a) with | true=>((f1 b)) | false=>((false)))
def NR (f0:Pg1->Bool) (f1:Pg2->Bool) (a:Pg1) (b:Pg2):Tree (Option (Bool)) :=
 (.br (f0 a)
  (.leaf (some ((f1 b))))
  (.leaf (some ((false)))))
theorem Ro (f0:Pg1->Bool) (f1:Pg2->Bool) (a:Pg1) (b:Pg2):ab (En [(61,K1 (aa Pg1).arg kBool.rs.res f0),(62,K1 (aa Pg2).arg kBool.rs.res f1)]) kBool.rs 300 Tryz.f63 [.one ((aa Pg1).av a),.one ((aa Pg2).av b)]=NR f0 f1 a b:=by kernel_rfl
theorem Rn (f0:Pg1->Bool) (f1:Pg2->Bool) (a:Pg1) (b:Pg2):(NR f0 f1 a b).sat fun q=>q=some (wD f0 f1 a b):=⟨fun h0=>(show some _=some _ from congrArg some (by unfold wD;rw [h0])),fun h0=>(show some _=some _ from congrArg some (by unfold wD;rw [h0]))⟩
def pW (a:Pg1) (b:Pg2):Bool:=wD j5 mv a b
theorem WV:CallOk Tryz.prog 63 (K2 (aa Pg1).arg (aa Pg2).arg kBool.rs.res pW) :=
 P2 (ag (.cons Dq (.cons Dp .nil))) Tryz.func63 (ac Tryz.func63 (by kernel_rfl) (by kernel_rfl)) 300 (aa Pg1) (aa Pg2) kBool.rs pW (Ro j5 mv) (Rn j5 mv)
end
set_option maxRecDepth 100000
section
theorem Qs (u:Unit):dx (En []) (oS 22) 100 Tryz.f177 (flat (af Tryz.f177)) (ah Tryz.f177 [] [])=(.leaf (some (({ l0:=UInt64.ofNat 5308195848297902535,l1:=UInt64.ofNat 368356918586201429,l2:=UInt64.ofNat 16611565823685306630,l3:=UInt64.ofNat 16578843054827078431,l4:=UInt64.ofNat 902017296411783715,l5:=UInt64.ofNat 312299769607923311 },.t)))):=by kernel_rfl
theorem PS (u:Unit):dx (En []) oL 100 Tryz.f128 (flat (af Tryz.f128)) (ah Tryz.f128 [] []) =
 (.leaf (some (([UInt64.ofNat 10088250816726084267,UInt64.ofNat 4137836090706223446],.t)))):=by kernel_rfl
abbrev Kf2 (F:Fp2->Fp2):ak:=K1 (aa Fp2).arg rF2.res F
abbrev afe (F:Fp2->Fp2->Fp2):ak:=K2 (aa Fp2).arg (aa Fp2).arg rF2.res F
abbrev Pm (F:Fp12->Fp12):ak:=K1 (aa Fp12).arg rF12.res F
noncomputable abbrev Nj (s:Fp) (pF:Fp2->List UInt64->Fp2) (wF cF:Fp2->Fp2) (hF:Fp2->Fp2->Fp2):Env:=Ens [(176,K2 (aa Fp2).arg aL rF2.res pF),(177,K0 (rS 22) s),(107,Kf2 wF),(162,Kf2 cF),(157,afe hF)] [177]
theorem IS (s:Fp) (pF:Fp2->List UInt64->Fp2) (wF cF:Fp2->Fp2) (hF:Fp2->Fp2->Fp2) (a:Fp12):letI za':Fp := { l0:=UInt64.ofNat 1,l1:=UInt64.ofNat 0,l2:=UInt64.ofNat 0,l3:=UInt64.ofNat 0,l4:=UInt64.ofNat 0,l5:=UInt64.ofNat 0 };letI zb':Fp := { l0:=UInt64.ofNat 0,l1:=UInt64.ofNat 0,l2:=UInt64.ofNat 0,l3:=UInt64.ofNat 0,l4:=UInt64.ofNat 0,l5:=UInt64.ofNat 0 };dx (Nj s pF wF cF hF) u6 900 Tryz.f126 (flat (af Tryz.f126)) (ah Tryz.f126 [aiz a] [])=(.leaf (some (({ c0 := { c0:=hF (cF a.c0.c0) (wF { c0:=za',c1:=zb' }),c1:=hF (cF a.c0.c1) (hF (hF (wF { c0:=za',c1:=zb' }) (wF (pF { c0:=za',c1:=za' } [s.l0,s.l1,s.l2,s.l3,s.l4,s.l5]))) (wF (pF { c0:=za',c1:=za' } [s.l0,s.l1,s.l2,s.l3,s.l4,s.l5]))),c2:=hF (cF a.c0.c2) (hF (hF (hF (hF (wF { c0:=za',c1:=zb' }) (wF (pF { c0:=za',c1:=za' } [s.l0,s.l1,s.l2,s.l3,s.l4,s.l5]))) (wF (pF { c0:=za',c1:=za' } [s.l0,s.l1,s.l2,s.l3,s.l4,s.l5]))) (wF (pF { c0:=za',c1:=za' } [s.l0,s.l1,s.l2,s.l3,s.l4,s.l5]))) (wF (pF { c0:=za',c1:=za' } [s.l0,s.l1,s.l2,s.l3,s.l4,s.l5]))) },c1 := { c0:=hF (cF a.c1.c0) (hF (wF { c0:=za',c1:=zb' }) (wF (pF { c0:=za',c1:=za' } [s.l0,s.l1,s.l2,s.l3,s.l4,s.l5]))),c1:=hF (cF a.c1.c1) (hF (hF (hF (wF { c0:=za',c1:=zb' }) (wF (pF { c0:=za',c1:=za' } [s.l0,s.l1,s.l2,s.l3,s.l4,s.l5]))) (wF (pF { c0:=za',c1:=za' } [s.l0,s.l1,s.l2,s.l3,s.l4,s.l5]))) (wF (pF { c0:=za',c1:=za' } [s.l0,s.l1,s.l2,s.l3,s.l4,s.l5]))),c2:=hF (cF a.c1.c2) (hF (hF (hF (hF (hF (wF { c0:=za',c1:=zb' }) (wF (pF { c0:=za',c1:=za' } [s.l0,s.l1,s.l2,s.l3,s.l4,s.l5]))) (wF (pF { c0:=za',c1:=za' } [s.l0,s.l1,s.l2,s.l3,s.l4,s.l5]))) (wF (pF { c0:=za',c1:=za' } [s.l0,s.l1,s.l2,s.l3,s.l4,s.l5]))) (wF (pF { c0:=za',c1:=za' } [s.l0,s.l1,s.l2,s.l3,s.l4,s.l5]))) (wF (pF { c0:=za',c1:=za' } [s.l0,s.l1,s.l2,s.l3,s.l4,s.l5]))) } },.t)))):=by kernel_rfl
noncomputable abbrev Z8 (iF:Fp12->Fp12 × Int) (lF wF cF tF:Fp12->Fp12) (hF:Fp12->Fp12->Fp12) (rF':Fp12->List UInt64->Fp12) (t:List UInt64):Env:=Ens [(122,K1 (aa Fp12).arg ((aa Fp12).rs2 kInt).res iF),(64,Pm lF),(125,Pm wF),(124,Pm cF),(126,Pm tF),(123,Ks2 hF),(127,afc rF'),(128,K0 oL.res t)] [128]
theorem Ru (iF:Fp12->Fp12 × Int) (lF wF cF tF:Fp12->Fp12) (hF:Fp12->Fp12->Fp12) (rF':Fp12->List UInt64->Fp12) (t:List UInt64) (a:Fp12):letI za':=hF (cF (rF' (rF' (hF (tF (tF (hF (cF a) (wF (iF (lF a)).fst)))) (hF (cF a) (wF (iF (lF a)).fst))) (List.take t.length (List.drop 0 t))) [UInt64.ofNat 15132376222941642752])) (tF (rF' (hF (tF (tF (hF (cF a) (wF (iF (lF a)).fst)))) (hF (cF a) (wF (iF (lF a)).fst))) (List.take t.length (List.drop 0 t))));letI zb':=hF (cF a) (wF (iF (lF a)).fst);dx (Z8 iF lF wF cF tF hF rF' t) u6 300 Tryz.f65 (flat (af Tryz.f65)) (ah Tryz.f65 [aiz a] [])=(.vc (0+t.length<=t.length/\t.length<1125899906842624/\0=0/\1=1) (.leaf (some ((hF (hF (rF' (rF' za' [UInt64.ofNat 15132376222941642752]) [UInt64.ofNat 15132376222941642752]) (hF (tF (tF za')) (cF za'))) (hF (tF (tF zb')) zb'),.t))))):=by kernel_rfl
end
set_option maxRecDepth 100000
section
def tMl (o:Fp12) (wF:Fp->Fp) (w2:Fp2->Fp2) (h2 a2 s2 qF:Fp2->Fp2->Fp2) (hF:Fp12->Fp12->Fp12) (lF:Pg2->Fp2->Pg1->Fp12) (oF:Pg2->Fp2->Fp2->Pg2):cQ :=
 [(129,K0 rF12.res o),(112,Kf wF),(107,Kf2 w2),(157,afe h2),(94,afe a2),(163,afe s2),(178,afe qF),(123,Ks2 hF),(179,K3 (aa Pg2).arg (aa Fp2).arg (aa Pg1).arg rF12.res lF),(180,K3 (aa Pg2).arg (aa Fp2).arg (aa Fp2).arg (aa Pg2).rs.res oF)]
def UY (p:Pg1) (q:Pg2) (f:Fp12) (t:Pg2) (z:Int):St:=aw 87 [(2,bv 0),(3,bv 1),(4,bv 2),(5,bv 3),(6,bv 4),(7,vI z)] [own 46 (Row.cs p),own 33 (Row.cs q),own 108 (bO 72),own 108 (Row.cs f),own 33 (Row.cs t)]
theorem X0 (T:cQ) (p:Pg1) (q:Pg2):b8 (En T) 100 ((flat (af Tryz.f130)).take 1) (ah Tryz.f130 [.one (kg1.av p),.one (kg2.av q)] []) [2,3,4] [0,1,2]=(.leaf (aw 87 [(2,.one (.c (.ptr 0 0))),(3,.one (.c (.ptr 1 0))),(4,.one (.c (.ptr 2 0)))] [.live ⟨true,46,0,(.row (Row.cs (p:Pg1))),false⟩,.live ⟨true,33,0,(.row (Row.cs (q:Pg2))),false⟩,.live ⟨true,108,0,(.row [(.lit .u64 0),(.lit .u64 0),(.lit .u64 0),(.lit .u64 0),(.lit .u64 0),(.lit .u64 0),(.lit .u64 0),(.lit .u64 0),(.lit .u64 0),(.lit .u64 0),(.lit .u64 0),(.lit .u64 0),(.lit .u64 0),(.lit .u64 0),(.lit .u64 0),(.lit .u64 0),(.lit .u64 0),(.lit .u64 0),(.lit .u64 0),(.lit .u64 0),(.lit .u64 0),(.lit .u64 0),(.lit .u64 0),(.lit .u64 0),(.lit .u64 0),(.lit .u64 0),(.lit .u64 0),(.lit .u64 0),(.lit .u64 0),(.lit .u64 0),(.lit .u64 0),(.lit .u64 0),(.lit .u64 0),(.lit .u64 0),(.lit .u64 0),(.lit .u64 0),(.lit .u64 0),(.lit .u64 0),(.lit .u64 0),(.lit .u64 0),(.lit .u64 0),(.lit .u64 0),(.lit .u64 0),(.lit .u64 0),(.lit .u64 0),(.lit .u64 0),(.lit .u64 0),(.lit .u64 0),(.lit .u64 0),(.lit .u64 0),(.lit .u64 0),(.lit .u64 0),(.lit .u64 0),(.lit .u64 0),(.lit .u64 0),(.lit .u64 0),(.lit .u64 0),(.lit .u64 0),(.lit .u64 0),(.lit .u64 0),(.lit .u64 0),(.lit .u64 0),(.lit .u64 0),(.lit .u64 0),(.lit .u64 0),(.lit .u64 0),(.lit .u64 0),(.lit .u64 0),(.lit .u64 0),(.lit .u64 0),(.lit .u64 0),(.lit .u64 0)]),false⟩])):=by kernel_rfl
theorem XY (o:Fp12) (wF:Fp->Fp) (w2:Fp2->Fp2) (h2 a2 s2 qF:Fp2->Fp2->Fp2) (hF:Fp12->Fp12->Fp12) (lF:Pg2->Fp2->Pg1->Fp12) (oF:Pg2->Fp2->Fp2->Pg2) (p:Pg1) (q:Pg2):stageG (En (tMl o wF w2 h2 a2 s2 qF hF lF oF)) 100 ((flat (aU Tryz.f130)).take 5) (aw 87 [(2,bv 0),(3,bv 1),(4,bv 2)] [own 46 (Row.cs p),own 33 (Row.cs q),own 108 (bO 72)]) [2,3,4,5,6,7] [0,1,2,3,4] [(2,.as),(3,.as),(4,.as),(5,.as),(6,.as),(7,.int)] [.one .g1,.one .g2,.as,.as,.one .g2] []=(.leaf (aw 87 [(2,.one (.c (.ptr 0 0))),(3,.one (.c (.ptr 1 0))),(4,.one (.c (.ptr 2 0))),(5,.one (.c (.ptr 3 0))),(6,.one (.c (.ptr 4 0))),(7,.one (.c (.int .i64 63)))] [.live ⟨true,46,0,(.row (Row.cs ({ x:=wF p.x,y:=wF p.y,inf:=false }:Pg1))),false⟩,.live ⟨true,33,0,(.row (Row.cs ({ x:=w2 q.x,y:=w2 q.y,inf:=false }:Pg2))),false⟩,.live ⟨true,108,0,(.row [(.lit .u64 0),(.lit .u64 0),(.lit .u64 0),(.lit .u64 0),(.lit .u64 0),(.lit .u64 0),(.lit .u64 0),(.lit .u64 0),(.lit .u64 0),(.lit .u64 0),(.lit .u64 0),(.lit .u64 0),(.lit .u64 0),(.lit .u64 0),(.lit .u64 0),(.lit .u64 0),(.lit .u64 0),(.lit .u64 0),(.lit .u64 0),(.lit .u64 0),(.lit .u64 0),(.lit .u64 0),(.lit .u64 0),(.lit .u64 0),(.lit .u64 0),(.lit .u64 0),(.lit .u64 0),(.lit .u64 0),(.lit .u64 0),(.lit .u64 0),(.lit .u64 0),(.lit .u64 0),(.lit .u64 0),(.lit .u64 0),(.lit .u64 0),(.lit .u64 0),(.lit .u64 0),(.lit .u64 0),(.lit .u64 0),(.lit .u64 0),(.lit .u64 0),(.lit .u64 0),(.lit .u64 0),(.lit .u64 0),(.lit .u64 0),(.lit .u64 0),(.lit .u64 0),(.lit .u64 0),(.lit .u64 0),(.lit .u64 0),(.lit .u64 0),(.lit .u64 0),(.lit .u64 0),(.lit .u64 0),(.lit .u64 0),(.lit .u64 0),(.lit .u64 0),(.lit .u64 0),(.lit .u64 0),(.lit .u64 0),(.lit .u64 0),(.lit .u64 0),(.lit .u64 0),(.lit .u64 0),(.lit .u64 0),(.lit .u64 0),(.lit .u64 0),(.lit .u64 0),(.lit .u64 0),(.lit .u64 0),(.lit .u64 0),(.lit .u64 0)]),false⟩,.live ⟨true,108,0,(.row (Row.cs (o:Fp12))),false⟩,.live ⟨true,33,0,(.row (Row.cs ({ x:=w2 q.x,y:=w2 q.y,inf:=false }:Pg2))),false⟩])):=by kernel_rfl
theorem ad6 (o:Fp12) (wF:Fp->Fp) (w2:Fp2->Fp2) (h2 a2 s2 qF:Fp2->Fp2->Fp2) (hF:Fp12->Fp12->Fp12) (lF:Pg2->Fp2->Pg1->Fp12) (oF:Pg2->Fp2->Fp2->Pg2) (p:Pg1) (q:Pg2) (f:Fp12) (t:Pg2) (z:Int):letI za':=qF (a2 (a2 (h2 t.x t.x) (h2 t.x t.x)) (h2 t.x t.x)) (a2 t.y t.y);letI zb':=oF t za' t.x;letI zc':=qF (s2 q.y zb'.y) (s2 q.x zb'.x);letI zd':=IntKind.i64.wrap (z-1);fE (En (tMl o wF w2 h2 a2 s2 qF hF lF oF)) u6 300 Tryz.f130 ((flat (aU Tryz.f130)).drop 5) (UY p q f t z) [2,3,4,5,6,7] [0,1,2,3,4]=(.br (decide (IntKind.i64.wrap (z-1)<0)) (.leaf (.inr (some ((f,.t))))) (.br (bits BinOp.and IntKind.u64 (sm IntKind.u64 15132376222941642752 (↑(UInt64.ofNat (IntKind.i64.wrap (z-1) % 18446744073709551616).toNat).toNat:Int)) 1==1) (.leaf (.inl ((.goto 0,aw 87 [(2,.one (.c (.ptr 0 0))),(3,.one (.c (.ptr 1 0))),(4,.one (.c (.ptr 2 0))),(5,.one (.c (.ptr 3 0))),(6,.one (.c (.ptr 4 0))),(7,.one (.c (.int .i64 zd')))] [.live ⟨true,46,0,(.row (Row.cs (p:Pg1))),false⟩,.live ⟨true,33,0,(.row (Row.cs (q:Pg2))),false⟩,.live ⟨true,108,0,(.row [(.lit .u64 0),(.lit .u64 0),(.lit .u64 0),(.lit .u64 0),(.lit .u64 0),(.lit .u64 0),(.lit .u64 0),(.lit .u64 0),(.lit .u64 0),(.lit .u64 0),(.lit .u64 0),(.lit .u64 0),(.lit .u64 0),(.lit .u64 0),(.lit .u64 0),(.lit .u64 0),(.lit .u64 0),(.lit .u64 0),(.lit .u64 0),(.lit .u64 0),(.lit .u64 0),(.lit .u64 0),(.lit .u64 0),(.lit .u64 0),(.lit .u64 0),(.lit .u64 0),(.lit .u64 0),(.lit .u64 0),(.lit .u64 0),(.lit .u64 0),(.lit .u64 0),(.lit .u64 0),(.lit .u64 0),(.lit .u64 0),(.lit .u64 0),(.lit .u64 0),(.lit .u64 0),(.lit .u64 0),(.lit .u64 0),(.lit .u64 0),(.lit .u64 0),(.lit .u64 0),(.lit .u64 0),(.lit .u64 0),(.lit .u64 0),(.lit .u64 0),(.lit .u64 0),(.lit .u64 0),(.lit .u64 0),(.lit .u64 0),(.lit .u64 0),(.lit .u64 0),(.lit .u64 0),(.lit .u64 0),(.lit .u64 0),(.lit .u64 0),(.lit .u64 0),(.lit .u64 0),(.lit .u64 0),(.lit .u64 0),(.lit .u64 0),(.lit .u64 0),(.lit .u64 0),(.lit .u64 0),(.lit .u64 0),(.lit .u64 0),(.lit .u64 0),(.lit .u64 0),(.lit .u64 0),(.lit .u64 0),(.lit .u64 0),(.lit .u64 0)]),false⟩,.live ⟨true,108,0,(.row (Row.cs (hF (hF (hF f f) (lF t za' p)) (lF zb' zc' p):Fp12))),false⟩,.live ⟨true,33,0,(.row (Row.cs (oF zb' zc' q.x:Pg2))),false⟩])))) (.leaf (.inl ((.goto 0,aw 87 [(2,.one (.c (.ptr 0 0))),(3,.one (.c (.ptr 1 0))),(4,.one (.c (.ptr 2 0))),(5,.one (.c (.ptr 3 0))),(6,.one (.c (.ptr 4 0))),(7,.one (.c (.int .i64 zd')))] [.live ⟨true,46,0,(.row (Row.cs (p:Pg1))),false⟩,.live ⟨true,33,0,(.row (Row.cs (q:Pg2))),false⟩,.live ⟨true,108,0,(.row [(.lit .u64 0),(.lit .u64 0),(.lit .u64 0),(.lit .u64 0),(.lit .u64 0),(.lit .u64 0),(.lit .u64 0),(.lit .u64 0),(.lit .u64 0),(.lit .u64 0),(.lit .u64 0),(.lit .u64 0),(.lit .u64 0),(.lit .u64 0),(.lit .u64 0),(.lit .u64 0),(.lit .u64 0),(.lit .u64 0),(.lit .u64 0),(.lit .u64 0),(.lit .u64 0),(.lit .u64 0),(.lit .u64 0),(.lit .u64 0),(.lit .u64 0),(.lit .u64 0),(.lit .u64 0),(.lit .u64 0),(.lit .u64 0),(.lit .u64 0),(.lit .u64 0),(.lit .u64 0),(.lit .u64 0),(.lit .u64 0),(.lit .u64 0),(.lit .u64 0),(.lit .u64 0),(.lit .u64 0),(.lit .u64 0),(.lit .u64 0),(.lit .u64 0),(.lit .u64 0),(.lit .u64 0),(.lit .u64 0),(.lit .u64 0),(.lit .u64 0),(.lit .u64 0),(.lit .u64 0),(.lit .u64 0),(.lit .u64 0),(.lit .u64 0),(.lit .u64 0),(.lit .u64 0),(.lit .u64 0),(.lit .u64 0),(.lit .u64 0),(.lit .u64 0),(.lit .u64 0),(.lit .u64 0),(.lit .u64 0),(.lit .u64 0),(.lit .u64 0),(.lit .u64 0),(.lit .u64 0),(.lit .u64 0),(.lit .u64 0),(.lit .u64 0),(.lit .u64 0),(.lit .u64 0),(.lit .u64 0),(.lit .u64 0),(.lit .u64 0)]),false⟩,.live ⟨true,108,0,(.row (Row.cs (hF (hF f f) (lF t za' p):Fp12))),false⟩,.live ⟨true,33,0,(.row (Row.cs (oF t za' t.x:Pg2))),false⟩])))))):=by kernel_rfl
end
set_option maxRecDepth 100000
section
def sixthV:Fp:=⟨UInt64.ofNat 5308195848297902535,UInt64.ofNat 368356918586201429,UInt64.ofNat 16611565823685306630,UInt64.ofNat 16578843054827078431,UInt64.ofNat 902017296411783715,UInt64.ofNat 312299769607923311⟩
theorem VL:CallOk Tryz.prog 177 (K0 (rS 22) sixthV) :=
 G0 (E:=En []) Tryz.func177 (c:=af Tryz.f177) (by kernel_rfl) (ac Tryz.func177 (by kernel_rfl) (by kernel_rfl)) (oS 22) sixthV (DoesL.ends (ag .nil) 100 (Qs ()) ⟨.t,rfl,trivial⟩)
def thirdL:List UInt64 := [UInt64.ofNat 10088250816726084267,UInt64.ofNat 4137836090706223446]
theorem VA:CallOk Tryz.prog 128 (K0 oL.res thirdL) :=
 G0 (E:=En []) Tryz.func128 (c:=af Tryz.f128) (by kernel_rfl) (ac Tryz.func128 (by kernel_rfl) (by kernel_rfl)) oL thirdL (DoesL.ends (ag .nil) 100 (PS ()) ⟨.t,rfl,trivial⟩)
def vN (k0 g:Fp2) (cF:Fp2->Fp2) (hF:Fp2->Fp2->Fp2) (a:Fp12):Fp12 :=
 ⟨⟨hF (cF a.c0.c0) k0,hF (cF a.c0.c1) (hF (hF k0 g) g),hF (cF a.c0.c2) (hF (hF (hF (hF k0 g) g) g) g)⟩,⟨hF (cF a.c1.c0) (hF k0 g),hF (cF a.c1.c1) (hF (hF (hF k0 g) g) g),hF (cF a.c1.c2) (hF (hF (hF (hF (hF k0 g) g) g) g) g)⟩⟩
def da (a:Fp12):Fp12:=vN (ax oneFp2) (ax (nZ xiFp2 sixthV.list)) cU ad a
theorem PF:CallOk Tryz.prog 126 (Pm da) :=
 G1 (E:=Nj sixthV nZ ax cU ad) Tryz.func126 (c:=af Tryz.f126) (by kernel_rfl) (ac Tryz.func126 (by kernel_rfl) (by kernel_rfl)) (aa Fp12).inp u6 da fun a _ =>
  DoesL.ends (cm (.cons aha (.cons VL (.cons fv (.cons BB (.cons cw .nil)))))) 900 (IS sixthV nZ ax cU ad a) ⟨.t,rfl,trivial⟩
section
variable (iF : Fp12 -> Fp12 × Int) (lF wF cF tF : Fp12 -> Fp12) (hF : Fp12 -> Fp12 -> Fp12) (rF' : Fp12 -> List UInt64 -> Fp12) (t : List UInt64)
def pw0 (a:Fp12):Fp12:=hF (cF a) (wF (iF (lF a)).1)
def pw1 (z:Fp12):Fp12:=hF (tF (tF z)) z
def pwX:List UInt64 := [UInt64.ofNat 15132376222941642752]
def pwA (z:Fp12):Fp12:=hF (cF (rF' (rF' z t) pwX)) (tF (rF' z t))
def pwB (z:Fp12):Fp12:=hF (rF' (rF' z pwX) pwX) (hF (tF (tF z)) (cF z))
def DX (a:Fp12):Fp12:=hF (pwB cF tF hF rF' (pwA cF tF hF rF' t (pw1 tF hF (pw0 iF lF wF cF hF a)))) (pw1 tF hF (pw0 iF lF wF cF hF a))
end
theorem Rt (iF:Fp12->Fp12 × Int) (lF wF cF tF:Fp12->Fp12) (hF:Fp12->Fp12->Fp12) (rF':Fp12->List UInt64->Fp12) {t:List UInt64} (ht:t.length<1125899906842624) (a:Fp12) {E:Env} (hE:EnvOk E) {fn:Func} {cs:List Code} {st:St}
  {T:Tree (Option (Fp12 × Pr))} (e:dx E u6 300 fn cs st=T) (hT:T = .vc (0+t.length<=t.length/\t.length<1125899906842624/\0=0/\1=1) (.leaf (some (DX iF lF wF cF tF hF rF' (List.take t.length (List.drop 0 t)) a,.t)))):DoesL E cs st (EndsAs E fn (bI u6 (DX iF lF wF cF tF hF rF' t a))):=by
 subst hT
 refine DoesL.ends hE 300 e ⟨⟨by omega,ht,rfl,rfl⟩,fun _=>⟨.t,?_,trivial⟩⟩
 rw [whole]
def kB (a:Fp12):Fp12:=DX hH ew ba cp da ar cC thirdL a
theorem WW:CallOk Tryz.prog 65 (Pm kB) :=
 G1 (E:=Z8 hH ew ba cp da ar cC thirdL) Tryz.func65 (c:=af Tryz.f65) (by kernel_rfl) (ac Tryz.func65 (by kernel_rfl) (by kernel_rfl)) (aa Fp12).inp u6 kB fun a _ =>
  Rt hH ew ba cp da ar cC (t:=thirdL) (show 2<1125899906842624 by decide) a (cm (.cons Ta (.cons A7 (.cons nf (.cons LG (.cons PF (.cons l9 (.cons Rd (.cons VA .nil))))))))) (Ru hH ew ba cp da ar cC thirdL a) rfl
section
variable (h2 a2 s2 qF : Fp2 -> Fp2 -> Fp2) (hF : Fp12 -> Fp12 -> Fp12) (lF : Pg2 -> Fp2 -> Pg1 -> Fp12) (oF : Pg2 -> Fp2 -> Fp2 -> Pg2)
def Nt (t:Pg2):Fp2:=qF (a2 (a2 (h2 t.x t.x) (h2 t.x t.x)) (h2 t.x t.x)) (a2 t.y t.y)
def O6 (q t:Pg2):Fp2:=qF (s2 q.y t.y) (s2 q.x t.x)
def ux (p:Pg1) (s:Fp12 × Pg2):Fp12 × Pg2:=(hF (hF s.1 s.1) (lF s.2 (Nt h2 a2 qF s.2) p),oF s.2 (Nt h2 a2 qF s.2) s.2.x)
def Kz (p:Pg1) (q:Pg2) (s:Fp12 × Pg2):Fp12 × Pg2:=(hF s.1 (lF s.2 (O6 s2 qF q s.2) p),oF s.2 (O6 s2 qF q s.2) q.x)
def loopN:Nat:=15132376222941642752
def mS (p:Pg1) (q:Pg2):Nat->Fp12 × Pg2->Fp12 × Pg2
 | 0,s=>s
 | n+1,s=>match loopN.testBit n with
  | true=>mS p q n (Kz s2 qF hF lF oF p q (ux h2 a2 qF hF lF oF p s))
  | false=>mS p q n (ux h2 a2 qF hF lF oF p s)
end
def abG (z:Int):Bool:=bits BinOp.and IntKind.u64 (sm IntKind.u64 15132376222941642752 (↑(UInt64.ofNat (z % 18446744073709551616).toNat).toNat:Int)) 1==1
theorem SQ:((List.range 63).all fun n=>abG (n:Int)==loopN.testBit n)=true:=by decide +kernel
theorem Yg {n:Nat} (h:n<63):abG (n:Int)=loopN.testBit n:=eq_of_beq (List.all_eq_true.1 SQ n (List.mem_range.2 h))
section
variable (o : Fp12) (wF : Fp -> Fp) (w2 : Fp2 -> Fp2) (h2 a2 s2 qF : Fp2 -> Fp2 -> Fp2) (hF : Fp12 -> Fp12 -> Fp12) (lF : Pg2 -> Fp2 -> Pg1 -> Fp12) (oF : Pg2 -> Fp2 -> Fp2 -> Pg2)
theorem XZ (p:Pg1) (q:Pg2) (f:Fp12) (t:Pg2) (z:Int):fE (En (tMl o wF w2 h2 a2 s2 qF hF lF oF)) u6 300 Tryz.f130 ((flat (aU Tryz.f130)).drop 5) (UY p q f t z) [2,3,4,5,6,7] [0,1,2,3,4] =
  .br (decide (IntKind.i64.wrap (z-1)<0)) (.leaf (.inr (some (f,.t)))) (.br (abG (IntKind.i64.wrap (z-1)))
   (.leaf (.inl (.goto 0,UY p q (Kz s2 qF hF lF oF p q (ux h2 a2 qF hF lF oF p (f,t))).1 (Kz s2 qF hF lF oF p q (ux h2 a2 qF hF lF oF p (f,t))).2 (IntKind.i64.wrap (z-1)))))
   (.leaf (.inl (.goto 0,UY p q (ux h2 a2 qF hF lF oF p (f,t)).1 (ux h2 a2 qF hF lF oF p (f,t)).2 (IntKind.i64.wrap (z-1)))))):=(ad6 o wF w2 h2 a2 s2 qF hF lF oF p q f t z).trans (by kernel_rfl)
theorem Sx (p:Pg1) (q:Pg2):stageG (En (tMl o wF w2 h2 a2 s2 qF hF lF oF)) 100 ((flat (aU Tryz.f130)).take 5) (aw 87 [(2,bv 0),(3,bv 1),(4,bv 2)] [own 46 (Row.cs p),own 33 (Row.cs q),own 108 (bO 72)]) [2,3,4,5,6,7] [0,1,2,3,4] [(2,.as),(3,.as),(4,.as),(5,.as),(6,.as),(7,.int)] [.one .g1,.one .g2,.as,.as,.one .g2] [] =
  .leaf (UY ⟨wF p.x,wF p.y,false⟩ ⟨w2 q.x,w2 q.y,false⟩ o ⟨w2 q.x,w2 q.y,false⟩ 63):=(XY o wF w2 h2 a2 s2 qF hF lF oF p q).trans (by kernel_rfl)
theorem Sy (T:cQ) (p:Pg1) (q:Pg2):b8 (En T) 100 ((flat (af Tryz.f130)).take 1) (ah Tryz.f130 [.one (kg1.av p),.one (kg2.av q)] []) [2,3,4] [0,1,2] =
  .leaf (aw 87 [(2,bv 0),(3,bv 1),(4,bv 2)] [own 46 (Row.cs p),own 33 (Row.cs q),own 108 (bO 72)]):=(X0 T p q).trans (by kernel_rfl)
abbrev akD (p:Pg1) (q:Pg2):Type := { s:Nat × Fp12 × Pg2 // s.1<=63/\mS h2 a2 s2 qF hF lF oF p q s.1 s.2=mS h2 a2 s2 qF hF lF oF p q 63 (o,q) }
def akp (p:Pg1) (q:Pg2) (s:akD o h2 a2 s2 qF hF lF oF p q):St:=UY p q s.1.2.1 s.1.2.2 (s.1.1:Int)
theorem Fz (hE:EnvOk (En (tMl o wF w2 h2 a2 s2 qF hF lF oF))) (p:Pg1) (q:Pg2):DoesL (En (tMl o wF w2 h2 a2 s2 qF hF lF oF)) (flat (af Tryz.f130)) (ah Tryz.f130 [.one (kg1.av p),.one (kg2.av q)] [])
  (EndsAs (En (tMl o wF w2 h2 a2 s2 qF hF lF oF)) Tryz.f130 (bI u6 (mS h2 a2 s2 qF hF lF oF ⟨wF p.x,wF p.y,false⟩ ⟨w2 q.x,w2 q.y,false⟩ 63 (o,⟨w2 q.x,w2 q.y,false⟩)).1)):=by
 refine DoesL.stageE hE 100 1 [2,3,4] [0,1,2] (Sy _ p q) ?_
 have st:=Sx o wF w2 h2 a2 s2 qF hF lF oF p q
 generalize (⟨wF p.x,wF p.y,false⟩:Pg1)=p' at *
 generalize (⟨w2 q.x,w2 q.y,false⟩:Pg2)=q' at *
 refine DoesL.scopeFnG (body:=aU Tryz.f130) (rest:=oV Tryz.f130) (tail := []) (l:=0) hE (by kernel_rfl) (by kernel_rfl) 5 (by kernel_rfl) (akp o h2 a2 s2 qF hF lF oF p' q') (fun s=>s.1.1)
  ⟨(63,o,q'),Nat.le_refl _,rfl⟩ ?_ fun s => ?_
 ·rw [<- show List.take 5 (List.take 5 (flat (aU Tryz.f130)))=List.take 5 (flat (aU Tryz.f130)) by rw [List.take_take];rfl] at st
  refine DoesL.stageG hE 100 5 _ _ _ _ _ st ?_
  show DoesL (En (tMl o wF w2 h2 a2 s2 qF hF lF oF)) (List.drop 5 (List.take 5 (flat (aU Tryz.f130)))) (UY p' q' o q' 63) _
  rw [show List.drop 5 (List.take 5 (flat (aU Tryz.f130))) = [] by kernel_rfl]
  exact ⟨_,Wk.refl _,rfl⟩
 ·obtain ⟨⟨m,f,t⟩,h0,h1⟩:=s
  simp only [] at h0 h1
  have hz:IntKind.i64.wrap ((m:Int)-1)=(m:Int)-1:=IntWalk.i64_in _ (by omega)
  refine DoesL.iter hE 300 [2,3,4,5,6,7] [0,1,2,3,4] (XZ o wF w2 h2 a2 s2 qF hF lF oF p' q' f t m) ?_
  rw [hz]
  refine ⟨fun h => ?_,fun h => ?_⟩
  ·simp only [decide_eq_true_eq] at h
   obtain rfl:m=0:=by omega
   exact ⟨.t,by rw [<- h1];rfl,trivial⟩
  ·simp only [decide_eq_false_iff_not] at h
   obtain ⟨n,rfl⟩ : ∃ n:Nat,m=n+1:=⟨m-1,by omega⟩
   have e1:((n+1:Nat):Int)-1=(n:Int):=by omega
   rw [e1,Yg (by omega)]
   unfold mS at h1
   refine ⟨fun h3 => ?_,fun h3 => ?_⟩
   all_goals
    rw [h3] at h1
    simp only [] at h1
   ·exact ⟨rfl,⟨(n,Kz s2 qF hF lF oF p' q' (ux h2 a2 qF hF lF oF p' (f,t))),by show n<=63;omega,h1⟩,Nat.lt_succ_self n,rfl⟩
   ·exact ⟨rfl,⟨(n,ux h2 a2 qF hF lF oF p' (f,t)),by show n<=63;omega,h1⟩,Nat.lt_succ_self n,rfl⟩
end
def dP (p:Pg1) (q:Pg2):Fp12:=(mS ad az aG cu ar eR lT ⟨bf p.x,bf p.y,false⟩ ⟨ax q.x,ax q.y,false⟩ 63 (prOne,⟨ax q.x,ax q.y,false⟩)).1
theorem SB:CallOk Tryz.prog 130 (K2 kg1.arg kg2.arg rF12.res dP) :=
 G2 (E:=En (tMl prOne bf ax ad az aG cu ar eR lT)) Tryz.func130 (c:=af Tryz.f130) (by kernel_rfl) (ac Tryz.func130 (by kernel_rfl) (by kernel_rfl)) kg1.inp kg2.inp u6 dP fun p q _ _ =>
  Fz prOne bf ax ad az aG cu ar eR lT (ag (.cons G6 (.cons np (.cons fv (.cons cw (.cons eH (.cons fm (.cons Rk (.cons l9 (.cons Rp (.cons adk .nil))))))))))) p q
end
set_option maxRecDepth 100000
section
noncomputable abbrev pdC:List Code:=flat (af Tryz.f66)
def pdT (o:Fp12) (mF:Pg1->Pg2->Fp12) (hF:Fp12->Fp12->Fp12):cQ := [(129,K0 rF12.res o),(130,K2 kg1.arg kg2.arg rF12.res mF),(123,Ks2 hF)]
def ads (l:List Duo) (f:Fp12) (z:Int):St:=aw 32 [(2,bv 1),(3,bv 2),(7,rwV .duo 0 l),(8,vI (l.length:Int)),(9,vI z)] [k9 .duo l,own 108 (bO 72),own 108 (Row.cs f)]
theorem W8 (o:Fp12) (mF:Pg1->Pg2->Fp12) (hF:Fp12->Fp12->Fp12) (l:List Duo):stageG (En (pdT o mF hF)) 100 (pdC.take 3) (ah Tryz.f66 [rwV .duo 0 l] [k9 .duo l]) [2,3,7,8,9] [0,1,2] [(2,.as),(3,.as),(7,.as),(8,.int),(9,.int)] [.as,.as,.as] []=(.vc (0+l.length*38<=(ao RK.duo l).length/\0<38) (.leaf (aw 32 [(2,.one (.c (.ptr 1 0))),(3,.one (.c (.ptr 2 0))),(7,.one (.c (.slc 0 0 (l.length) 38 (.of 0) false))),(8,.one (.c (.int .i64 ((↑l.length:Int))))),(9,.one (.c (.int .i64 0)))] [.live ⟨false,0,38,(.rows .duo (l:List Duo)),false⟩,.live ⟨true,108,0,(.row [(.lit .u64 0),(.lit .u64 0),(.lit .u64 0),(.lit .u64 0),(.lit .u64 0),(.lit .u64 0),(.lit .u64 0),(.lit .u64 0),(.lit .u64 0),(.lit .u64 0),(.lit .u64 0),(.lit .u64 0),(.lit .u64 0),(.lit .u64 0),(.lit .u64 0),(.lit .u64 0),(.lit .u64 0),(.lit .u64 0),(.lit .u64 0),(.lit .u64 0),(.lit .u64 0),(.lit .u64 0),(.lit .u64 0),(.lit .u64 0),(.lit .u64 0),(.lit .u64 0),(.lit .u64 0),(.lit .u64 0),(.lit .u64 0),(.lit .u64 0),(.lit .u64 0),(.lit .u64 0),(.lit .u64 0),(.lit .u64 0),(.lit .u64 0),(.lit .u64 0),(.lit .u64 0),(.lit .u64 0),(.lit .u64 0),(.lit .u64 0),(.lit .u64 0),(.lit .u64 0),(.lit .u64 0),(.lit .u64 0),(.lit .u64 0),(.lit .u64 0),(.lit .u64 0),(.lit .u64 0),(.lit .u64 0),(.lit .u64 0),(.lit .u64 0),(.lit .u64 0),(.lit .u64 0),(.lit .u64 0),(.lit .u64 0),(.lit .u64 0),(.lit .u64 0),(.lit .u64 0),(.lit .u64 0),(.lit .u64 0),(.lit .u64 0),(.lit .u64 0),(.lit .u64 0),(.lit .u64 0),(.lit .u64 0),(.lit .u64 0),(.lit .u64 0),(.lit .u64 0),(.lit .u64 0),(.lit .u64 0),(.lit .u64 0),(.lit .u64 0)]),false⟩,.live ⟨true,108,0,(.row (Row.cs (o:Fp12))),false⟩]))):=by kernel_rfl
theorem W9 (o:Fp12) (mF:Pg1->Pg2->Fp12) (hF:Fp12->Fp12->Fp12) (l:List Duo) (f:Fp12) (z:Int):letI za':=(↑l.length:Int);letI zb':=IntKind.i64.wrap (z+1);letI zc':=(Row.cs (f:Fp12));bm (En (pdT o mF hF)) 300 (bk Tryz.f66 0) (ads l f z) (same [2,3,7,8,9] [0,1,2])=(.br (decide (z<za')) (.vc ((0<=z/\z<za')/\0+l.length*38<=(ao RK.duo l).length/\0<38/\0=0) (.vc (0+z.toNat<l.length) (.br (!((l.getD (0+z.toNat) { p:=cS,q:=gn }).p.inf)) (.br (!((l.getD (0+z.toNat) { p:=cS,q:=gn }).q.inf)) (.leaf ((.normal,aw 32 [(2,.one (.c (.ptr 1 0))),(3,.one (.c (.ptr 2 0))),(7,.one (.c (.slc 0 0 (l.length) 38 (.of 0) false))),(8,.one (.c (.int .i64 (za')))),(9,.one (.c (.int .i64 zb')))] [.live ⟨false,0,38,(.rows .duo (l:List Duo)),false⟩,.live ⟨true,108,0,(.row [(.lit .u64 0),(.lit .u64 0),(.lit .u64 0),(.lit .u64 0),(.lit .u64 0),(.lit .u64 0),(.lit .u64 0),(.lit .u64 0),(.lit .u64 0),(.lit .u64 0),(.lit .u64 0),(.lit .u64 0),(.lit .u64 0),(.lit .u64 0),(.lit .u64 0),(.lit .u64 0),(.lit .u64 0),(.lit .u64 0),(.lit .u64 0),(.lit .u64 0),(.lit .u64 0),(.lit .u64 0),(.lit .u64 0),(.lit .u64 0),(.lit .u64 0),(.lit .u64 0),(.lit .u64 0),(.lit .u64 0),(.lit .u64 0),(.lit .u64 0),(.lit .u64 0),(.lit .u64 0),(.lit .u64 0),(.lit .u64 0),(.lit .u64 0),(.lit .u64 0),(.lit .u64 0),(.lit .u64 0),(.lit .u64 0),(.lit .u64 0),(.lit .u64 0),(.lit .u64 0),(.lit .u64 0),(.lit .u64 0),(.lit .u64 0),(.lit .u64 0),(.lit .u64 0),(.lit .u64 0),(.lit .u64 0),(.lit .u64 0),(.lit .u64 0),(.lit .u64 0),(.lit .u64 0),(.lit .u64 0),(.lit .u64 0),(.lit .u64 0),(.lit .u64 0),(.lit .u64 0),(.lit .u64 0),(.lit .u64 0),(.lit .u64 0),(.lit .u64 0),(.lit .u64 0),(.lit .u64 0),(.lit .u64 0),(.lit .u64 0),(.lit .u64 0),(.lit .u64 0),(.lit .u64 0),(.lit .u64 0),(.lit .u64 0),(.lit .u64 0)]),false⟩,.live ⟨true,108,0,(.row (Row.cs (hF f (mF (l.getD (0+z.toNat) { p:=cS,q:=gn }).p (l.getD (0+z.toNat) { p:=cS,q:=gn }).q):Fp12))),false⟩]))) (.leaf ((.normal,aw 32 [(2,.one (.c (.ptr 1 0))),(3,.one (.c (.ptr 2 0))),(7,.one (.c (.slc 0 0 (l.length) 38 (.of 0) false))),(8,.one (.c (.int .i64 (za')))),(9,.one (.c (.int .i64 zb')))] [.live ⟨false,0,38,(.rows .duo (l:List Duo)),false⟩,.live ⟨true,108,0,(.row [(.lit .u64 0),(.lit .u64 0),(.lit .u64 0),(.lit .u64 0),(.lit .u64 0),(.lit .u64 0),(.lit .u64 0),(.lit .u64 0),(.lit .u64 0),(.lit .u64 0),(.lit .u64 0),(.lit .u64 0),(.lit .u64 0),(.lit .u64 0),(.lit .u64 0),(.lit .u64 0),(.lit .u64 0),(.lit .u64 0),(.lit .u64 0),(.lit .u64 0),(.lit .u64 0),(.lit .u64 0),(.lit .u64 0),(.lit .u64 0),(.lit .u64 0),(.lit .u64 0),(.lit .u64 0),(.lit .u64 0),(.lit .u64 0),(.lit .u64 0),(.lit .u64 0),(.lit .u64 0),(.lit .u64 0),(.lit .u64 0),(.lit .u64 0),(.lit .u64 0),(.lit .u64 0),(.lit .u64 0),(.lit .u64 0),(.lit .u64 0),(.lit .u64 0),(.lit .u64 0),(.lit .u64 0),(.lit .u64 0),(.lit .u64 0),(.lit .u64 0),(.lit .u64 0),(.lit .u64 0),(.lit .u64 0),(.lit .u64 0),(.lit .u64 0),(.lit .u64 0),(.lit .u64 0),(.lit .u64 0),(.lit .u64 0),(.lit .u64 0),(.lit .u64 0),(.lit .u64 0),(.lit .u64 0),(.lit .u64 0),(.lit .u64 0),(.lit .u64 0),(.lit .u64 0),(.lit .u64 0),(.lit .u64 0),(.lit .u64 0),(.lit .u64 0),(.lit .u64 0),(.lit .u64 0),(.lit .u64 0),(.lit .u64 0),(.lit .u64 0)]),false⟩,.live ⟨true,108,0,(.row zc'),false⟩])))) (.leaf ((.normal,aw 32 [(2,.one (.c (.ptr 1 0))),(3,.one (.c (.ptr 2 0))),(7,.one (.c (.slc 0 0 (l.length) 38 (.of 0) false))),(8,.one (.c (.int .i64 (za')))),(9,.one (.c (.int .i64 zb')))] [.live ⟨false,0,38,(.rows .duo (l:List Duo)),false⟩,.live ⟨true,108,0,(.row [(.lit .u64 0),(.lit .u64 0),(.lit .u64 0),(.lit .u64 0),(.lit .u64 0),(.lit .u64 0),(.lit .u64 0),(.lit .u64 0),(.lit .u64 0),(.lit .u64 0),(.lit .u64 0),(.lit .u64 0),(.lit .u64 0),(.lit .u64 0),(.lit .u64 0),(.lit .u64 0),(.lit .u64 0),(.lit .u64 0),(.lit .u64 0),(.lit .u64 0),(.lit .u64 0),(.lit .u64 0),(.lit .u64 0),(.lit .u64 0),(.lit .u64 0),(.lit .u64 0),(.lit .u64 0),(.lit .u64 0),(.lit .u64 0),(.lit .u64 0),(.lit .u64 0),(.lit .u64 0),(.lit .u64 0),(.lit .u64 0),(.lit .u64 0),(.lit .u64 0),(.lit .u64 0),(.lit .u64 0),(.lit .u64 0),(.lit .u64 0),(.lit .u64 0),(.lit .u64 0),(.lit .u64 0),(.lit .u64 0),(.lit .u64 0),(.lit .u64 0),(.lit .u64 0),(.lit .u64 0),(.lit .u64 0),(.lit .u64 0),(.lit .u64 0),(.lit .u64 0),(.lit .u64 0),(.lit .u64 0),(.lit .u64 0),(.lit .u64 0),(.lit .u64 0),(.lit .u64 0),(.lit .u64 0),(.lit .u64 0),(.lit .u64 0),(.lit .u64 0),(.lit .u64 0),(.lit .u64 0),(.lit .u64 0),(.lit .u64 0),(.lit .u64 0),(.lit .u64 0),(.lit .u64 0),(.lit .u64 0),(.lit .u64 0),(.lit .u64 0)]),false⟩,.live ⟨true,108,0,(.row zc'),false⟩])))))) (.leaf ((.exit 0,aw 32 [(2,.one (.c (.ptr 1 0))),(3,.one (.c (.ptr 2 0))),(7,.one (.c (.slc 0 0 (l.length) 38 (.of 0) false))),(8,.one (.c (.int .i64 (za')))),(9,.one (.c (.int .i64 (z))))] [.live ⟨false,0,38,(.rows .duo (l:List Duo)),false⟩,.live ⟨true,108,0,(.row [(.lit .u64 0),(.lit .u64 0),(.lit .u64 0),(.lit .u64 0),(.lit .u64 0),(.lit .u64 0),(.lit .u64 0),(.lit .u64 0),(.lit .u64 0),(.lit .u64 0),(.lit .u64 0),(.lit .u64 0),(.lit .u64 0),(.lit .u64 0),(.lit .u64 0),(.lit .u64 0),(.lit .u64 0),(.lit .u64 0),(.lit .u64 0),(.lit .u64 0),(.lit .u64 0),(.lit .u64 0),(.lit .u64 0),(.lit .u64 0),(.lit .u64 0),(.lit .u64 0),(.lit .u64 0),(.lit .u64 0),(.lit .u64 0),(.lit .u64 0),(.lit .u64 0),(.lit .u64 0),(.lit .u64 0),(.lit .u64 0),(.lit .u64 0),(.lit .u64 0),(.lit .u64 0),(.lit .u64 0),(.lit .u64 0),(.lit .u64 0),(.lit .u64 0),(.lit .u64 0),(.lit .u64 0),(.lit .u64 0),(.lit .u64 0),(.lit .u64 0),(.lit .u64 0),(.lit .u64 0),(.lit .u64 0),(.lit .u64 0),(.lit .u64 0),(.lit .u64 0),(.lit .u64 0),(.lit .u64 0),(.lit .u64 0),(.lit .u64 0),(.lit .u64 0),(.lit .u64 0),(.lit .u64 0),(.lit .u64 0),(.lit .u64 0),(.lit .u64 0),(.lit .u64 0),(.lit .u64 0),(.lit .u64 0),(.lit .u64 0),(.lit .u64 0),(.lit .u64 0),(.lit .u64 0),(.lit .u64 0),(.lit .u64 0),(.lit .u64 0)]),false⟩,.live ⟨true,108,0,(.row zc'),false⟩])))):=by kernel_rfl
theorem ahf (o:Fp12) (mF:Pg1->Pg2->Fp12) (hF:Fp12->Fp12->Fp12) (l:List Duo) (f:Fp12) (z:Int):dx (En (pdT o mF hF)) u6 100 Tryz.f66 (pdC.drop 4) (ads l f z) =
 (.leaf (some ((f,.t)))):=by kernel_rfl
noncomputable abbrev ckC:List Code:=flat (af Tryz.f34)
def ckT (o:Fp12) (mF:Pg1->Pg2->Bool) (pF:List Duo->Fp12) (wF lF:Fp12->Fp12):cQ := [(67,K0 rF12.res o),(63,K2 kg1.arg kg2.arg kBool.rs.res mF),(66,K1 (uC .duo) rF12.res pF),(65,Pm wF),(64,Pm lF)]
def aeO (l:List Duo) (z:Int):St:=aw 27 [(0,rwV .duo 0 l),(8,rwV .duo 0 l),(9,vI (l.length:Int)),(10,vI z)] [k9 .duo l]
theorem Zj (o:Fp12) (mF:Pg1->Pg2->Bool) (pF:List Duo->Fp12) (wF lF:Fp12->Fp12) (l:List Duo):letI za':=0+l.length*38<=(ao RK.duo l).length/\0<38;GH (En (ckT o mF pF wF lF)) oB 100 Tryz.f34 (ckC.take 4) (ah Tryz.f34 [rwV .duo 0 l] [k9 .duo l]) [0,8,9,10] [0] [(0,.as),(8,.as),(9,.int),(10,.int)] [.as] []=(.vc za' (.br (decide ((↑l.length:Int) > 20)) (.leaf (.inr (some ((false,.t))))) (.vc za' (.leaf (.inl (aw 27 [(0,.one (.c (.slc 0 0 (l.length) 38 (.of 0) false))),(8,.one (.c (.slc 0 0 (l.length) 38 (.of 0) false))),(9,.one (.c (.int .i64 ((↑l.length:Int))))),(10,.one (.c (.int .i64 0)))] [.live ⟨false,0,38,(.rows .duo (l:List Duo)),false⟩])))))):=by kernel_rfl
theorem Zk (o:Fp12) (mF:Pg1->Pg2->Bool) (pF:List Duo->Fp12) (wF lF:Fp12->Fp12) (l:List Duo) (z:Int):letI za':=(↑l.length:Int);fE (En (ckT o mF pF wF lF)) oB 300 Tryz.f34 [bk Tryz.f34 0] (aeO l z) [0,8,9,10] [0]=(.br (decide (z<za')) (.vc ((0<=z/\z<za')/\0+l.length*38<=(ao RK.duo l).length/\0<38/\0=0) (.vc (0+z.toNat<l.length) (.br (!(mF (l.getD (0+z.toNat) { p:=cS,q:=gn }).p (l.getD (0+z.toNat) { p:=cS,q:=gn }).q)) (.leaf (.inr (some ((false,.t))))) (.leaf (.inl ((.normal,aw 27 [(0,.one (.c (.slc 0 0 (l.length) 38 (.of 0) false))),(8,.one (.c (.slc 0 0 (l.length) 38 (.of 0) false))),(9,.one (.c (.int .i64 (za')))),(10,.one (.c (.int .i64 (IntKind.i64.wrap (z+1)))))] [.live ⟨false,0,38,(.rows .duo (l:List Duo)),false⟩]))))))) (.leaf (.inl ((.exit 0,aw 27 [(0,.one (.c (.slc 0 0 (l.length) 38 (.of 0) false))),(8,.one (.c (.slc 0 0 (l.length) 38 (.of 0) false))),(9,.one (.c (.int .i64 (za')))),(10,.one (.c (.int .i64 (z))))] [.live ⟨false,0,38,(.rows .duo (l:List Duo)),false⟩]))))):=by kernel_rfl
theorem aie (o:Fp12) (mF:Pg1->Pg2->Bool) (pF:List Duo->Fp12) (wF lF:Fp12->Fp12) (l:List Duo) (z:Int):letI za':=lF (wF (pF (List.take l.length (List.drop 0 l))));dx (En (ckT o mF pF wF lF)) oB 100 Tryz.f34 (ckC.drop 5) (aeO l z)=(.vc (0+l.length*38<=(ao RK.duo l).length/\0=0/\l.length<1125899906842624/\0=0/\38=38) (.leaf (some ((za'.c0.c0.c0.l0==o.c0.c0.c0.l0 && (za'.c0.c0.c0.l1==o.c0.c0.c0.l1 && (za'.c0.c0.c0.l2==o.c0.c0.c0.l2 && (za'.c0.c0.c0.l3==o.c0.c0.c0.l3 && (za'.c0.c0.c0.l4==o.c0.c0.c0.l4 && (za'.c0.c0.c0.l5==o.c0.c0.c0.l5 && true))))) && (za'.c0.c0.c1.l0==o.c0.c0.c1.l0 && (za'.c0.c0.c1.l1==o.c0.c0.c1.l1 && (za'.c0.c0.c1.l2==o.c0.c0.c1.l2 && (za'.c0.c0.c1.l3==o.c0.c0.c1.l3 && (za'.c0.c0.c1.l4==o.c0.c0.c1.l4 && (za'.c0.c0.c1.l5==o.c0.c0.c1.l5 && true))))) && true) && (za'.c0.c1.c0.l0==o.c0.c1.c0.l0 && (za'.c0.c1.c0.l1==o.c0.c1.c0.l1 && (za'.c0.c1.c0.l2==o.c0.c1.c0.l2 && (za'.c0.c1.c0.l3==o.c0.c1.c0.l3 && (za'.c0.c1.c0.l4==o.c0.c1.c0.l4 && (za'.c0.c1.c0.l5==o.c0.c1.c0.l5 && true))))) && (za'.c0.c1.c1.l0==o.c0.c1.c1.l0 && (za'.c0.c1.c1.l1==o.c0.c1.c1.l1 && (za'.c0.c1.c1.l2==o.c0.c1.c1.l2 && (za'.c0.c1.c1.l3==o.c0.c1.c1.l3 && (za'.c0.c1.c1.l4==o.c0.c1.c1.l4 && (za'.c0.c1.c1.l5==o.c0.c1.c1.l5 && true))))) && true) && (za'.c0.c2.c0.l0==o.c0.c2.c0.l0 && (za'.c0.c2.c0.l1==o.c0.c2.c0.l1 && (za'.c0.c2.c0.l2==o.c0.c2.c0.l2 && (za'.c0.c2.c0.l3==o.c0.c2.c0.l3 && (za'.c0.c2.c0.l4==o.c0.c2.c0.l4 && (za'.c0.c2.c0.l5==o.c0.c2.c0.l5 && true))))) && (za'.c0.c2.c1.l0==o.c0.c2.c1.l0 && (za'.c0.c2.c1.l1==o.c0.c2.c1.l1 && (za'.c0.c2.c1.l2==o.c0.c2.c1.l2 && (za'.c0.c2.c1.l3==o.c0.c2.c1.l3 && (za'.c0.c2.c1.l4==o.c0.c2.c1.l4 && (za'.c0.c2.c1.l5==o.c0.c2.c1.l5 && true))))) && true) && true)) && (za'.c1.c0.c0.l0==o.c1.c0.c0.l0 && (za'.c1.c0.c0.l1==o.c1.c0.c0.l1 && (za'.c1.c0.c0.l2==o.c1.c0.c0.l2 && (za'.c1.c0.c0.l3==o.c1.c0.c0.l3 && (za'.c1.c0.c0.l4==o.c1.c0.c0.l4 && (za'.c1.c0.c0.l5==o.c1.c0.c0.l5 && true))))) && (za'.c1.c0.c1.l0==o.c1.c0.c1.l0 && (za'.c1.c0.c1.l1==o.c1.c0.c1.l1 && (za'.c1.c0.c1.l2==o.c1.c0.c1.l2 && (za'.c1.c0.c1.l3==o.c1.c0.c1.l3 && (za'.c1.c0.c1.l4==o.c1.c0.c1.l4 && (za'.c1.c0.c1.l5==o.c1.c0.c1.l5 && true))))) && true) && (za'.c1.c1.c0.l0==o.c1.c1.c0.l0 && (za'.c1.c1.c0.l1==o.c1.c1.c0.l1 && (za'.c1.c1.c0.l2==o.c1.c1.c0.l2 && (za'.c1.c1.c0.l3==o.c1.c1.c0.l3 && (za'.c1.c1.c0.l4==o.c1.c1.c0.l4 && (za'.c1.c1.c0.l5==o.c1.c1.c0.l5 && true))))) && (za'.c1.c1.c1.l0==o.c1.c1.c1.l0 && (za'.c1.c1.c1.l1==o.c1.c1.c1.l1 && (za'.c1.c1.c1.l2==o.c1.c1.c1.l2 && (za'.c1.c1.c1.l3==o.c1.c1.c1.l3 && (za'.c1.c1.c1.l4==o.c1.c1.c1.l4 && (za'.c1.c1.c1.l5==o.c1.c1.c1.l5 && true))))) && true) && (za'.c1.c2.c0.l0==o.c1.c2.c0.l0 && (za'.c1.c2.c0.l1==o.c1.c2.c0.l1 && (za'.c1.c2.c0.l2==o.c1.c2.c0.l2 && (za'.c1.c2.c0.l3==o.c1.c2.c0.l3 && (za'.c1.c2.c0.l4==o.c1.c2.c0.l4 && (za'.c1.c2.c0.l5==o.c1.c2.c0.l5 && true))))) && (za'.c1.c2.c1.l0==o.c1.c2.c1.l0 && (za'.c1.c2.c1.l1==o.c1.c2.c1.l1 && (za'.c1.c2.c1.l2==o.c1.c2.c1.l2 && (za'.c1.c2.c1.l3==o.c1.c2.c1.l3 && (za'.c1.c2.c1.l4==o.c1.c2.c1.l4 && (za'.c1.c2.c1.l5==o.c1.c2.c1.l5 && true))))) && true) && true)) && true),.t))))):=by kernel_rfl
end
set_option maxRecDepth 100000
section
theorem dT {α:Type} (l:List α) {i:Nat} (h:i<l.length) (d:α):l.drop i=l.getD i d :: l.drop (i+1):=by
 rw [List.drop_eq_getElem_cons h,List.getD_eq_getElem?_getD,List.getElem?_eq_getElem h]
 rfl
section
variable (o : Fp12) (mF : Pg1 -> Pg2 -> Fp12) (hF : Fp12 -> Fp12 -> Fp12)
def D2 (x:Duo) (f:Fp12):Fp12:=match !x.p.inf with
 | true=>match !x.q.inf with
  | true=>hF f (mF x.p x.q)
  | false=>f
 | false=>f
def rA:List Duo->Fp12->Fp12
 | [],f=>f
 | x :: l,f=>rA l (D2 mF hF x f)
theorem wB (x:Duo) (l:List Duo) (f:Fp12):rA mF hF (x :: l) f=rA mF hF l (D2 mF hF x f):=rfl
abbrev PdQ (l:List Duo):Type := { s:Nat × Fp12 // s.1<=l.length/\rA mF hF (l.drop s.1) s.2=rA mF hF l o }
def pdI (l:List Duo) (s:PdQ o mF hF l):St:=ads l s.1.2 (s.1.1:Int)
theorem B8 (hE:EnvOk (En (pdT o mF hF))) (l:List Duo) (hl:l.length<bE):DoesL (En (pdT o mF hF)) pdC (ah Tryz.f66 [rwV .duo 0 l] [k9 .duo l])
  (EndsAs (En (pdT o mF hF)) Tryz.f66 (bI u6 (rA mF hF l o))):=by
 have hl:l.length<1125899906842624:=hl
 refine DoesL.stageG hE 100 3 _ _ _ _ _ (W8 o mF hF l) ⟨xI l,fun _ => ?_⟩
 refine (?_:DoesL _ _ (ads l o ((0:Nat):Int)) _)
 refine DoesL.blockLoop (B:=bk Tryz.f66 0) (rest:=pdC.drop 4) (id:=0) (by kernel_rfl) (pdI o mF hF l) (fun s=>l.length-s.1.1) ⟨(0,o),Nat.zero_le _,rfl⟩ fun s => ?_
 obtain ⟨⟨i,f⟩,h0,h1⟩:=s
 simp only [] at h0 h1
 refine (?_:Does _ _ (ads l f (i:Int)) _)
 refine Does.round hE 300 _ (W9 o mF hF l f (i:Int)) ⟨fun h => ?_,fun h => ?_⟩
 ·simp only [decide_eq_true_eq] at h
  have hi:i<l.length:=by omega
  refine ⟨Gj hi,fun _=>⟨Gk hi,fun _ => ?_⟩⟩
  have hw:IntKind.i64.wrap ((i:Int)+1)=((i+1:Nat):Int):=(IntWalk.i64_in _ (by omega)).trans (by omega)
  have hd:=dT l hi (⟨cS,gn⟩:Duo)
  rw [hd] at h1
  have e0:0+(i:Int).toNat=i:=by omega
  rw [e0,hw]
  rw [wB] at h1
  unfold D2 at h1
  generalize l.getD i (⟨cS,gn⟩:Duo)=x at *
  refine ⟨fun h2=>⟨fun h3 => ?_,fun h3 => ?_⟩,fun h2 => ?_⟩
  ·rw [h2,h3] at h1
   exact ⟨⟨(i+1,hF f (mF x.p x.q)),hi,h1⟩,by show l.length-(i+1)<l.length-i;omega,rfl⟩
  ·rw [h2,h3] at h1
   exact ⟨⟨(i+1,f),hi,h1⟩,by show l.length-(i+1)<l.length-i;omega,rfl⟩
  ·rw [h2] at h1
   exact ⟨⟨(i+1,f),hi,h1⟩,by show l.length-(i+1)<l.length-i;omega,rfl⟩
 ·simp only [decide_eq_false_iff_not] at h
  obtain rfl:i=l.length:=by omega
  refine ⟨rfl,DoesL.ends hE 100 (ahf o mF hF l f _) ⟨.t,?_,trivial⟩⟩
  rw [<- h1,List.drop_length]
  rfl
end
def fp (l:List Duo):Fp12:=rA dP ar l prOne
theorem JN:CallOk Tryz.prog 66 (K1 (uC .duo) rF12.res fp) :=
 G1 (E:=En (pdT prOne dP ar)) Tryz.func66 (c:=af Tryz.f66) (by kernel_rfl) (ac Tryz.func66 (by kernel_rfl) (by kernel_rfl)) (KX .duo) u6 fp fun l hl =>
  B8 prOne dP ar (ag (.cons G6 (.cons SB (.cons l9 .nil)))) l hl
section
variable (o : Fp12) (mF : Pg1 -> Pg2 -> Bool) (pF : List Duo -> Fp12) (wF lF : Fp12 -> Fp12)
def ja:List Duo->Bool
 | []=>true
 | x :: l=>match !(mF x.p x.q) with
  | true=>false
  | false=>ja l
theorem uh (x:Duo) (l:List Duo):ja mF (x :: l)=match !(mF x.p x.q) with | true=>false | false=>ja mF l:=rfl
def qV (l:List Duo):Bool:=match decide ((l.length:Int) > 20) with
 | true=>false
 | false=>match ja mF l with
  | false=>false
  | true=>qU (lF (wF (pF l))) o
abbrev CkQ (l:List Duo):Type := { i:Nat // i<=l.length/\ja mF (l.drop i)=ja mF l }
def ckI (l:List Duo) (i:CkQ mF l):St:=aeO l (i.1:Int)
theorem LK (hE:EnvOk (En (ckT o mF pF wF lF))) (l:List Duo) (hl:l.length<bE):DoesL (En (ckT o mF pF wF lF)) ckC (ah Tryz.f34 [rwV .duo 0 l] [k9 .duo l])
  (EndsAs (En (ckT o mF pF wF lF)) Tryz.f34 (bI oB (qV o mF pF wF lF l))):=by
 have hl:l.length<1125899906842624:=hl
 refine DoesL.seg hE 100 4 _ _ _ _ _ (Zj o mF pF wF lF l) ⟨xI l,fun _=>⟨fun h => ?_,fun h=>⟨xI l,fun _ => ?_⟩⟩⟩
 ·exact ⟨.t,by unfold qV;rw [h],trivial⟩
 have hc:qV o mF pF wF lF l=match ja mF l with | false=>false | true=>qU (lF (wF (pF l))) o:=by unfold qV;rw [h]
 refine (?_:DoesL _ _ (aeO l ((0:Nat):Int)) _)
 refine DoesL.blockLoopR (B:=bk Tryz.f34 0) (rest:=ckC.drop 5) (id:=0) (by kernel_rfl) (ckI mF l) (fun i=>l.length-i.1) ⟨0,Nat.zero_le _,rfl⟩ fun s => ?_
 obtain ⟨i,h0,h1⟩:=s
 refine (?_:DoesL _ _ (aeO l (i:Int)) _)
 refine DoesL.iter hE 300 _ _ (Zk o mF pF wF lF l (i:Int)) ⟨fun h => ?_,fun h => ?_⟩
 ·simp only [decide_eq_true_eq] at h
  have hi:i<l.length:=by omega
  refine ⟨Gj hi,fun _=>⟨Gk hi,fun _ => ?_⟩⟩
  have hw:IntKind.i64.wrap ((i:Int)+1)=((i+1:Nat):Int):=(IntWalk.i64_in _ (by omega)).trans (by omega)
  have hd:=dT l hi (⟨cS,gn⟩:Duo)
  rw [hd] at h1
  have e0:0+(i:Int).toNat=i:=by omega
  rw [e0,hw]
  rw [uh] at h1
  generalize l.getD i (⟨cS,gn⟩:Duo)=x at *
  refine ⟨fun h2 => ?_,fun h2 => ?_⟩
  ·rw [h2] at h1
   have h1:false=ja mF l:=h1
   exact ⟨.t,by rw [hc,<- h1],trivial⟩
  ·rw [h2] at h1
   exact ⟨⟨i+1,hi,h1⟩,by show l.length-(i+1)<l.length-i;omega,rfl⟩
 ·simp only [decide_eq_false_iff_not] at h
  obtain rfl:i=l.length:=by omega
  rw [List.drop_length] at h1
  have h1:true=ja mF l:=h1
  refine ⟨rfl,DoesL.ends hE 100 (aie o mF pF wF lF l _) ⟨U7 hl,fun _=>⟨.t,?_,trivial⟩⟩⟩
  rw [hc,<- h1,BR rfl]
  rfl
end
def iP (l:List Duo):Bool:=qV es pW fp kB ew l
theorem JT:CallOk Tryz.prog 34 (K1 (uC .duo) kBool.rs.res iP) :=
 G1 (E:=En (ckT es pW fp kB ew)) Tryz.func34 (c:=af Tryz.f34) (by kernel_rfl) (ac Tryz.func34 (by kernel_rfl) (by kernel_rfl)) (KX .duo) oB iP fun l hl =>
  LK es pW fp kB ew (ag (.cons th (.cons WV (.cons JN (.cons WW (.cons A7 .nil)))))) l hl
end
section
abbrev few (xs:List Pg1):Prop:=xs.length<4294967296
end
section
abbrev kp6:Kd Fp6:=aa Fp6
noncomputable abbrev tmRC:List Code:=flat (af Tryz.f45)
noncomputable abbrev ajX:Code:=bk Tryz.f45 0
abbrev ajQ (F:Fp6->Fp6->Bool->Fp6):ak:=K3 kp6.arg kp6.arg kBool.arg kp6.rs.res F
noncomputable abbrev aco (o:Fp6) (aF:Fp6->Fp6->Bool->Fp6) (bF:List UInt64->Nat->Bool):Env:=En [(83,K0 kp6.rs.res o),(84,ajQ aF),(85,akg bF)]
def Uy (e:List UInt64) (b:Bool) (p x:Fp6) (z:Int):St:=aw 30 [(1,inV 0 e),(2,.one (kBool.av b)),(3,bv 1),(6,bv 2),(7,bv 3),(8,vI z)] [bN eU64 e,own 82 (Row.cs p),own 82 (bO 36),own 82 (Row.cs x)]
theorem PH (o:Fp6) (aF:Fp6->Fp6->Bool->Fp6) (bF:List UInt64->Nat->Bool) (p:Fp6) (e:List UInt64) (b:Bool):b8 (aco o aF bF) 100 (tmRC.take 3) (ah Tryz.f45 [.one (kp6.av p),iL.av 0 e,.one (kBool.av b)] [bN eU64 e]) [1,2,3,6,7,8] [0,1,2,3]=(.vc (0+e.length*1<=(List.map EK.u64.cell e).length/\0<1) (.leaf (aw 30 [(1,.one (.c (.slc 0 0 (e.length) 1 (.of 0) false))),(2,.one (.c (.bool (b)))),(3,.one (.c (.ptr 1 0))),(6,.one (.c (.ptr 2 0))),(7,.one (.c (.ptr 3 0))),(8,.one (.c (.int .i64 (IntKind.i64.wrap (IntKind.i64.wrap (64*(↑e.length:Int))-1)))))] [.live ⟨false,0,1,(.elts .u64 (e:List UInt64)),false⟩,.live ⟨true,82,0,(.row (Row.cs (p:Fp6))),false⟩,.live ⟨true,82,0,(.row [(.lit .u64 0),(.lit .u64 0),(.lit .u64 0),(.lit .u64 0),(.lit .u64 0),(.lit .u64 0),(.lit .u64 0),(.lit .u64 0),(.lit .u64 0),(.lit .u64 0),(.lit .u64 0),(.lit .u64 0),(.lit .u64 0),(.lit .u64 0),(.lit .u64 0),(.lit .u64 0),(.lit .u64 0),(.lit .u64 0),(.lit .u64 0),(.lit .u64 0),(.lit .u64 0),(.lit .u64 0),(.lit .u64 0),(.lit .u64 0),(.lit .u64 0),(.lit .u64 0),(.lit .u64 0),(.lit .u64 0),(.lit .u64 0),(.lit .u64 0),(.lit .u64 0),(.lit .u64 0),(.lit .u64 0),(.lit .u64 0),(.lit .u64 0),(.lit .u64 0)]),false⟩,.live ⟨true,82,0,(.row (Row.cs (o:Fp6))),false⟩]))):=by kernel_rfl
theorem PI (o:Fp6) (aF:Fp6->Fp6->Bool->Fp6) (bF:List UInt64->Nat->Bool) (p x:Fp6) (e:List UInt64) (b:Bool) (z:Int):letI za':=List.take e.length (List.drop 0 e);letI zb':=(Row.cs (p:Fp6));letI zc':=IntKind.i64.wrap (z-1);bm (aco o aF bF) 100 ajX (Uy e b p x z) (same [1,2,3,6,7,8] [0,1,2,3])=(.br (decide (z >= 0)) (.vc (((0+e.length<=e.length/\e.length<1125899906842624/\0=0/\1=1)/\0<=z)/\abR za' z.toNat) (.br (bF za' z.toNat) (.leaf ((.normal,aw 30 [(1,.one (.c (.slc 0 0 (e.length) 1 (.of 0) false))),(2,.one (.c (.bool (b)))),(3,.one (.c (.ptr 1 0))),(6,.one (.c (.ptr 2 0))),(7,.one (.c (.ptr 3 0))),(8,.one (.c (.int .i64 zc')))] [.live ⟨false,0,1,(.elts .u64 (e:List UInt64)),false⟩,.live ⟨true,82,0,(.row zb'),false⟩,.live ⟨true,82,0,(.row [(.lit .u64 0),(.lit .u64 0),(.lit .u64 0),(.lit .u64 0),(.lit .u64 0),(.lit .u64 0),(.lit .u64 0),(.lit .u64 0),(.lit .u64 0),(.lit .u64 0),(.lit .u64 0),(.lit .u64 0),(.lit .u64 0),(.lit .u64 0),(.lit .u64 0),(.lit .u64 0),(.lit .u64 0),(.lit .u64 0),(.lit .u64 0),(.lit .u64 0),(.lit .u64 0),(.lit .u64 0),(.lit .u64 0),(.lit .u64 0),(.lit .u64 0),(.lit .u64 0),(.lit .u64 0),(.lit .u64 0),(.lit .u64 0),(.lit .u64 0),(.lit .u64 0),(.lit .u64 0),(.lit .u64 0),(.lit .u64 0),(.lit .u64 0),(.lit .u64 0)]),false⟩,.live ⟨true,82,0,(.row (Row.cs (aF (aF x x b) p b:Fp6))),false⟩]))) (.leaf ((.normal,aw 30 [(1,.one (.c (.slc 0 0 (e.length) 1 (.of 0) false))),(2,.one (.c (.bool (b)))),(3,.one (.c (.ptr 1 0))),(6,.one (.c (.ptr 2 0))),(7,.one (.c (.ptr 3 0))),(8,.one (.c (.int .i64 zc')))] [.live ⟨false,0,1,(.elts .u64 (e:List UInt64)),false⟩,.live ⟨true,82,0,(.row zb'),false⟩,.live ⟨true,82,0,(.row [(.lit .u64 0),(.lit .u64 0),(.lit .u64 0),(.lit .u64 0),(.lit .u64 0),(.lit .u64 0),(.lit .u64 0),(.lit .u64 0),(.lit .u64 0),(.lit .u64 0),(.lit .u64 0),(.lit .u64 0),(.lit .u64 0),(.lit .u64 0),(.lit .u64 0),(.lit .u64 0),(.lit .u64 0),(.lit .u64 0),(.lit .u64 0),(.lit .u64 0),(.lit .u64 0),(.lit .u64 0),(.lit .u64 0),(.lit .u64 0),(.lit .u64 0),(.lit .u64 0),(.lit .u64 0),(.lit .u64 0),(.lit .u64 0),(.lit .u64 0),(.lit .u64 0),(.lit .u64 0),(.lit .u64 0),(.lit .u64 0),(.lit .u64 0),(.lit .u64 0)]),false⟩,.live ⟨true,82,0,(.row (Row.cs (aF x x b:Fp6))),false⟩]))))) (.leaf ((.exit 0,aw 30 [(1,.one (.c (.slc 0 0 (e.length) 1 (.of 0) false))),(2,.one (.c (.bool (b)))),(3,.one (.c (.ptr 1 0))),(6,.one (.c (.ptr 2 0))),(7,.one (.c (.ptr 3 0))),(8,.one (.c (.int .i64 (z))))] [.live ⟨false,0,1,(.elts .u64 (e:List UInt64)),false⟩,.live ⟨true,82,0,(.row zb'),false⟩,.live ⟨true,82,0,(.row [(.lit .u64 0),(.lit .u64 0),(.lit .u64 0),(.lit .u64 0),(.lit .u64 0),(.lit .u64 0),(.lit .u64 0),(.lit .u64 0),(.lit .u64 0),(.lit .u64 0),(.lit .u64 0),(.lit .u64 0),(.lit .u64 0),(.lit .u64 0),(.lit .u64 0),(.lit .u64 0),(.lit .u64 0),(.lit .u64 0),(.lit .u64 0),(.lit .u64 0),(.lit .u64 0),(.lit .u64 0),(.lit .u64 0),(.lit .u64 0),(.lit .u64 0),(.lit .u64 0),(.lit .u64 0),(.lit .u64 0),(.lit .u64 0),(.lit .u64 0),(.lit .u64 0),(.lit .u64 0),(.lit .u64 0),(.lit .u64 0),(.lit .u64 0),(.lit .u64 0)]),false⟩,.live ⟨true,82,0,(.row (Row.cs (x:Fp6))),false⟩])))):=by kernel_rfl
theorem acn (o:Fp6) (aF:Fp6->Fp6->Bool->Fp6) (bF:List UInt64->Nat->Bool) (p x:Fp6) (e:List UInt64) (b:Bool) (z:Int):dx (aco o aF bF) kp6.rs.out 100 Tryz.f45 (tmRC.drop 4) (Uy e b p x z) =
 (.leaf (some ((x,.t)))):=by kernel_rfl
def gq (p:Fp6) (e:List UInt64) (b:Bool):Fp6:=uj (fun x=>ji x x b) (fun x=>ji x p b) e (64*e.length) iI
abbrev ajJ (p:Fp6) (e:List UInt64) (b:Bool):Type := { q:Int × Fp6 // -1<=q.1/\q.1<64*e.length/\uj (fun x=>ji x x b) (fun x=>ji x p b) e (q.1+1).toNat q.2=gq p e b }
theorem sT:CallOk Tryz.prog 45 (K3 kp6.arg aL kBool.arg kp6.rs.res gq) :=
 Go.Proofs.YtcbplfkeeaecgaaGreat.G3 (E:=aco iI ji dH) Tryz.func45 (c:=af Tryz.f45) (by kernel_rfl) (ac Tryz.func45 (by kernel_rfl) (by kernel_rfl)) kp6.inp iL kBool.inp kp6.rs.out gq fun p e b _ he _=>by
  have hE:EnvOk (aco iI ji dH):=ag (.cons yn (.cons Zy (.cons aeV .nil)))
  have he:e.length<1125899906842624:=he
  refine DoesL.stageE hE 100 3 _ _ (PH iI ji dH p e b) ⟨j6 e,fun _ => ?_⟩
  have hw:IntKind.i64.wrap (IntKind.i64.wrap (64*(e.length:Int))-1)=64*(e.length:Int)-1:=by rw [IntWalk.i64_in (64*(e.length:Int)) (by omega),IntWalk.i64_in _ (by omega)]
  rw [hw]
  refine DoesL.blockLoop (B:=ajX) (rest:=tmRC.drop 4) (id:=0) (by kernel_rfl) (fun q:ajJ p e b=>Uy e b p q.1.2 q.1.1) (fun q=>(q.1.1+1).toNat) ⟨(64*(e.length:Int)-1,iI),by simp only [];omega,by simp only [];omega,by
   simp only []
   rw [show (64*(e.length:Int)-1+1).toNat=64*e.length by omega]
   simp only [gq]⟩ fun q => ?_
  obtain ⟨⟨z,x⟩,h0,h1,h2⟩:=q
  simp only [] at h0 h1 h2
  show Does _ _ (Uy e b p x z) _
  refine Does.round hE 100 _ (PI iI ji dH p x e b z) ⟨fun h => ?_,fun h => ?_⟩
  ·simp only [ge_iff_le,decide_eq_true_eq] at h
   obtain ⟨n,rfl⟩ : ∃ n:Nat,z=(n:Int):=⟨z.toNat,by omega⟩
   rw [nR n (by omega),whole,Int.toNat_natCast]
   rw [show ((n:Int)+1).toNat=n+1 by omega] at h2
   simp only [uj] at h2
   refine ⟨⟨⟨AY he,by omega⟩,by show n<64*e.length;omega⟩,fun _=>⟨fun h3 => ?_,fun h3 => ?_⟩⟩
   all_goals
    have hn:((n:Int)-1+1).toNat=n:=by omega
    rw [h3] at h2
    simp only [] at h2
   ·refine ⟨⟨((n:Int)-1,ji (ji x x b) p b),?_,?_,?_⟩,?_,?_⟩
    ·show -1<=(n:Int)-1;omega
    ·show (n:Int)-1<64*e.length;omega
    ·simpa only [hn] using h2
    ·show ((n:Int)-1+1).toNat<((n:Int)+1).toNat;omega
    ·kernel_rfl
   ·refine ⟨⟨((n:Int)-1,ji x x b),?_,?_,?_⟩,?_,?_⟩
    ·show -1<=(n:Int)-1;omega
    ·show (n:Int)-1<64*e.length;omega
    ·simpa only [hn] using h2
    ·show ((n:Int)-1+1).toNat<((n:Int)+1).toNat;omega
    ·kernel_rfl
  ·simp only [ge_iff_le,decide_eq_false_iff_not] at h
   obtain rfl:z = -1:=by omega
   exact ⟨rfl,DoesL.ends hE 100 (acn iI ji dH p x e b (-1)) (bA (by
    rw [show ((-1:Int)+1).toNat=0 from rfl] at h2
    simp only [uj] at h2
    exact h2))⟩
def sV (f0:Fp6->Pg1) (f1:Fp6->List UInt64->Bool->Fp6) (f2:Pg1->Fp6) (a:Pg1) (k:Fr):Pg1:=(f0 (f1 (f2 a) [k.l0,k.l1,k.l2,k.l3] true))
def AC (f0:Fp6->Pg1) (f1:Fp6->List UInt64->Bool->Fp6) (f2:Pg1->Fp6) (a:Pg1) (k:Fr):Tree (Option (Pg1)) :=
 (.leaf (some (f0 (f1 (f2 a) [k.l0,k.l1,k.l2,k.l3] true))))
theorem EU (f0:Fp6->Pg1) (f1:Fp6->List UInt64->Bool->Fp6) (f2:Pg1->Fp6) (a:Pg1) (k:Fr):ab (En [(44,K1 (aa Fp6).arg (aa Pg1).rs.res f0),(45,K3 kp6.arg aL kBool.arg kp6.rs.res f1),(46,K1 (aa Pg1).arg (aa Fp6).rs.res f2)]) (aa Pg1).rs 300 Tryz.f36 [.one ((aa Pg1).av a),.one ((aa Fr).av k)]=AC f0 f1 f2 a k:=by kernel_rfl
theorem ET (f0:Fp6->Pg1) (f1:Fp6->List UInt64->Bool->Fp6) (f2:Pg1->Fp6) (a:Pg1) (k:Fr):(AC f0 f1 f2 a k).sat fun q=>q=some (sV f0 f1 f2 a k):=(show some _=some _ from rfl)
def iM (a:Pg1) (k:Fr):Pg1:=sV CJ gq Hn a k
theorem IY:CallOk Tryz.prog 36 (K2 (aa Pg1).arg (aa Fr).arg (aa Pg1).rs.res iM) :=
 P2 (ag (.cons Nn (.cons sT (.cons Oa .nil)))) Tryz.func36 (ac Tryz.func36 (by kernel_rfl) (by kernel_rfl)) 300 (aa Pg1) (aa Fr) (aa Pg1).rs iM (EU CJ gq Hn) (ET CJ gq Hn)
def sU (f0:Fp6->Pg2) (f1:Fp6->List UInt64->Bool->Fp6) (f2:Pg2->Fp6) (a:Pg2) (k:Fr):Pg2:=(f0 (f1 (f2 a) [k.l0,k.l1,k.l2,k.l3] false))
def AA (f0:Fp6->Pg2) (f1:Fp6->List UInt64->Bool->Fp6) (f2:Pg2->Fp6) (a:Pg2) (k:Fr):Tree (Option (Pg2)) :=
 (.leaf (some (f0 (f1 (f2 a) [k.l0,k.l1,k.l2,k.l3] false))))
theorem ER (f0:Fp6->Pg2) (f1:Fp6->List UInt64->Bool->Fp6) (f2:Pg2->Fp6) (a:Pg2) (k:Fr):ab (En [(72,K1 (aa Fp6).arg (aa Pg2).rs.res f0),(45,K3 kp6.arg aL kBool.arg kp6.rs.res f1),(73,K1 (aa Pg2).arg (aa Fp6).rs.res f2)]) (aa Pg2).rs 300 Tryz.f39 [.one ((aa Pg2).av a),.one ((aa Fr).av k)]=AA f0 f1 f2 a k:=by kernel_rfl
theorem EQ (f0:Fp6->Pg2) (f1:Fp6->List UInt64->Bool->Fp6) (f2:Pg2->Fp6) (a:Pg2) (k:Fr):(AA f0 f1 f2 a k).sat fun q=>q=some (sU f0 f1 f2 a k):=(show some _=some _ from rfl)
def jv (a:Pg2) (k:Fr):Pg2:=sU Nl gq UX a k
theorem IW:CallOk Tryz.prog 39 (K2 (aa Pg2).arg (aa Fr).arg (aa Pg2).rs.res jv) :=
 P2 (ag (.cons acl (.cons sT (.cons adO .nil)))) Tryz.func39 (ac Tryz.func39 (by kernel_rfl) (by kernel_rfl)) 300 (aa Pg2) (aa Fr) (aa Pg2).rs jv (ER Nl gq UX) (EQ Nl gq UX)
def MH (f0:Fp6->Pg1) (f1:Fp6->List UInt64->Bool->Fp6) (f2:Pg1->Fp6) (f3:Fr) (a:Pg1):Bool:=(((f0 (f1 (f2 a) [f3.l0,f3.l1,f3.l2,f3.l3] true)).inf))
def aaI (f0:Fp6->Pg1) (f1:Fp6->List UInt64->Bool->Fp6) (f2:Pg1->Fp6) (f3:Fr) (a:Pg1):Tree (Option (Bool)) :=
 (.leaf (some (((f0 (f1 (f2 a) [f3.l0,f3.l1,f3.l2,f3.l3] true)).inf))))
theorem YE (f0:Fp6->Pg1) (f1:Fp6->List UInt64->Bool->Fp6) (f2:Pg1->Fp6) (f3:Fr) (a:Pg1):ab (Ens [(44,K1 (aa Fp6).arg (aa Pg1).rs.res f0),(45,K3 kp6.arg aL kBool.arg kp6.rs.res f1),(46,K1 (aa Pg1).arg (aa Fp6).rs.res f2),(25,K0 afE f3)] [25]) kBool.rs 300 Tryz.f17 [.one ((aa Pg1).av a)]=aaI f0 f1 f2 f3 a:=by kernel_rfl
theorem YD (f0:Fp6->Pg1) (f1:Fp6->List UInt64->Bool->Fp6) (f2:Pg1->Fp6) (f3:Fr) (a:Pg1):(aaI f0 f1 f2 f3 a).sat fun q=>q=some (MH f0 f1 f2 f3 a):=(show some _=some _ from rfl)
def KY (a:Pg1):Bool:=MH CJ gq Hn rLimbs a
theorem aes:CallOk Tryz.prog 17 (K1 (aa Pg1).arg kBool.rs.res KY) :=
 P1 (cm (.cons Nn (.cons sT (.cons Oa (.cons C6 .nil))))) Tryz.func17 (ac Tryz.func17 (by kernel_rfl) (by kernel_rfl)) 300 (aa Pg1) kBool.rs KY (YE CJ gq Hn rLimbs) (YD CJ gq Hn rLimbs)
end
section
def co (f0:UInt64->Fp) (f1:Fp->Fp × Bool) (f2:Fp->Fp->Fp) (f3:Fp->Fp->Fp) (n:UInt64):Pg1 × Bool:=(match ((f1 (f2 (f3 (f3 (f0 (n % UInt64.ofNat 1000000+UInt64.ofNat 0)) (f0 (n % UInt64.ofNat 1000000+UInt64.ofNat 0))) (f0 (n % UInt64.ofNat 1000000+UInt64.ofNat 0))) (f0 (4:UInt64)))).snd) with | true=>(({ x:=f0 (n % UInt64.ofNat 1000000+UInt64.ofNat 0),y:=(f1 (f2 (f3 (f3 (f0 (n % UInt64.ofNat 1000000+UInt64.ofNat 0)) (f0 (n % UInt64.ofNat 1000000+UInt64.ofNat 0))) (f0 (n % UInt64.ofNat 1000000+UInt64.ofNat 0))) (f0 (4:UInt64)))).fst,inf:=false },true)) | false=>(match ((f1 (f2 (f3 (f3 (f0 (n % UInt64.ofNat 1000000+UInt64.ofNat 1)) (f0 (n % UInt64.ofNat 1000000+UInt64.ofNat 1))) (f0 (n % UInt64.ofNat 1000000+UInt64.ofNat 1))) (f0 (4:UInt64)))).snd) with | true=>(({ x:=f0 (n % UInt64.ofNat 1000000+UInt64.ofNat 1),y:=(f1 (f2 (f3 (f3 (f0 (n % UInt64.ofNat 1000000+UInt64.ofNat 1)) (f0 (n % UInt64.ofNat 1000000+UInt64.ofNat 1))) (f0 (n % UInt64.ofNat 1000000+UInt64.ofNat 1))) (f0 (4:UInt64)))).fst,inf:=false },true)) | false=>(match ((f1 (f2 (f3 (f3 (f0 (n % UInt64.ofNat 1000000+UInt64.ofNat 2)) (f0 (n % UInt64.ofNat 1000000+UInt64.ofNat 2))) (f0 (n % UInt64.ofNat 1000000+UInt64.ofNat 2))) (f0 (4:UInt64)))).snd) with | true=>(({ x:=f0 (n % UInt64.ofNat 1000000+UInt64.ofNat 2),y:=(f1 (f2 (f3 (f3 (f0 (n % UInt64.ofNat 1000000+UInt64.ofNat 2)) (f0 (n % UInt64.ofNat 1000000+UInt64.ofNat 2))) (f0 (n % UInt64.ofNat 1000000+UInt64.ofNat 2))) (f0 (4:UInt64)))).fst,inf:=false },true)) | false=>(match ((f1 (f2 (f3 (f3 (f0 (n % UInt64.ofNat 1000000+UInt64.ofNat 3)) (f0 (n % UInt64.ofNat 1000000+UInt64.ofNat 3))) (f0 (n % UInt64.ofNat 1000000+UInt64.ofNat 3))) (f0 (4:UInt64)))).snd) with | true=>(({ x:=f0 (n % UInt64.ofNat 1000000+UInt64.ofNat 3),y:=(f1 (f2 (f3 (f3 (f0 (n % UInt64.ofNat 1000000+UInt64.ofNat 3)) (f0 (n % UInt64.ofNat 1000000+UInt64.ofNat 3))) (f0 (n % UInt64.ofNat 1000000+UInt64.ofNat 3))) (f0 (4:UInt64)))).fst,inf:=false },true)) | false=>(match ((f1 (f2 (f3 (f3 (f0 (n % UInt64.ofNat 1000000+UInt64.ofNat 4)) (f0 (n % UInt64.ofNat 1000000+UInt64.ofNat 4))) (f0 (n % UInt64.ofNat 1000000+UInt64.ofNat 4))) (f0 (4:UInt64)))).snd) with | true=>(({ x:=f0 (n % UInt64.ofNat 1000000+UInt64.ofNat 4),y:=(f1 (f2 (f3 (f3 (f0 (n % UInt64.ofNat 1000000+UInt64.ofNat 4)) (f0 (n % UInt64.ofNat 1000000+UInt64.ofNat 4))) (f0 (n % UInt64.ofNat 1000000+UInt64.ofNat 4))) (f0 (4:UInt64)))).fst,inf:=false },true)) | false=>(match ((f1 (f2 (f3 (f3 (f0 (n % UInt64.ofNat 1000000+UInt64.ofNat 5)) (f0 (n % UInt64.ofNat 1000000+UInt64.ofNat 5))) (f0 (n % UInt64.ofNat 1000000+UInt64.ofNat 5))) (f0 (4:UInt64)))).snd) with | true=>(({ x:=f0 (n % UInt64.ofNat 1000000+UInt64.ofNat 5),y:=(f1 (f2 (f3 (f3 (f0 (n % UInt64.ofNat 1000000+UInt64.ofNat 5)) (f0 (n % UInt64.ofNat 1000000+UInt64.ofNat 5))) (f0 (n % UInt64.ofNat 1000000+UInt64.ofNat 5))) (f0 (4:UInt64)))).fst,inf:=false },true)) | false=>(match ((f1 (f2 (f3 (f3 (f0 (n % UInt64.ofNat 1000000+UInt64.ofNat 6)) (f0 (n % UInt64.ofNat 1000000+UInt64.ofNat 6))) (f0 (n % UInt64.ofNat 1000000+UInt64.ofNat 6))) (f0 (4:UInt64)))).snd) with | true=>(({ x:=f0 (n % UInt64.ofNat 1000000+UInt64.ofNat 6),y:=(f1 (f2 (f3 (f3 (f0 (n % UInt64.ofNat 1000000+UInt64.ofNat 6)) (f0 (n % UInt64.ofNat 1000000+UInt64.ofNat 6))) (f0 (n % UInt64.ofNat 1000000+UInt64.ofNat 6))) (f0 (4:UInt64)))).fst,inf:=false },true)) | false=>(match ((f1 (f2 (f3 (f3 (f0 (n % UInt64.ofNat 1000000+UInt64.ofNat 7)) (f0 (n % UInt64.ofNat 1000000+UInt64.ofNat 7))) (f0 (n % UInt64.ofNat 1000000+UInt64.ofNat 7))) (f0 (4:UInt64)))).snd) with | true=>(({ x:=f0 (n % UInt64.ofNat 1000000+UInt64.ofNat 7),y:=(f1 (f2 (f3 (f3 (f0 (n % UInt64.ofNat 1000000+UInt64.ofNat 7)) (f0 (n % UInt64.ofNat 1000000+UInt64.ofNat 7))) (f0 (n % UInt64.ofNat 1000000+UInt64.ofNat 7))) (f0 (4:UInt64)))).fst,inf:=false },true)) | false=>(match ((f1 (f2 (f3 (f3 (f0 (n % UInt64.ofNat 1000000+UInt64.ofNat 8)) (f0 (n % UInt64.ofNat 1000000+UInt64.ofNat 8))) (f0 (n % UInt64.ofNat 1000000+UInt64.ofNat 8))) (f0 (4:UInt64)))).snd) with | true=>(({ x:=f0 (n % UInt64.ofNat 1000000+UInt64.ofNat 8),y:=(f1 (f2 (f3 (f3 (f0 (n % UInt64.ofNat 1000000+UInt64.ofNat 8)) (f0 (n % UInt64.ofNat 1000000+UInt64.ofNat 8))) (f0 (n % UInt64.ofNat 1000000+UInt64.ofNat 8))) (f0 (4:UInt64)))).fst,inf:=false },true)) | false=>(match ((f1 (f2 (f3 (f3 (f0 (n % UInt64.ofNat 1000000+UInt64.ofNat 9)) (f0 (n % UInt64.ofNat 1000000+UInt64.ofNat 9))) (f0 (n % UInt64.ofNat 1000000+UInt64.ofNat 9))) (f0 (4:UInt64)))).snd) with | true=>(({ x:=f0 (n % UInt64.ofNat 1000000+UInt64.ofNat 9),y:=(f1 (f2 (f3 (f3 (f0 (n % UInt64.ofNat 1000000+UInt64.ofNat 9)) (f0 (n % UInt64.ofNat 1000000+UInt64.ofNat 9))) (f0 (n % UInt64.ofNat 1000000+UInt64.ofNat 9))) (f0 (4:UInt64)))).fst,inf:=false },true)) | false=>(match ((f1 (f2 (f3 (f3 (f0 (n % UInt64.ofNat 1000000+UInt64.ofNat 10)) (f0 (n % UInt64.ofNat 1000000+UInt64.ofNat 10))) (f0 (n % UInt64.ofNat 1000000+UInt64.ofNat 10))) (f0 (4:UInt64)))).snd) with | true=>(({ x:=f0 (n % UInt64.ofNat 1000000+UInt64.ofNat 10),y:=(f1 (f2 (f3 (f3 (f0 (n % UInt64.ofNat 1000000+UInt64.ofNat 10)) (f0 (n % UInt64.ofNat 1000000+UInt64.ofNat 10))) (f0 (n % UInt64.ofNat 1000000+UInt64.ofNat 10))) (f0 (4:UInt64)))).fst,inf:=false },true)) | false=>(match ((f1 (f2 (f3 (f3 (f0 (n % UInt64.ofNat 1000000+UInt64.ofNat 11)) (f0 (n % UInt64.ofNat 1000000+UInt64.ofNat 11))) (f0 (n % UInt64.ofNat 1000000+UInt64.ofNat 11))) (f0 (4:UInt64)))).snd) with | true=>(({ x:=f0 (n % UInt64.ofNat 1000000+UInt64.ofNat 11),y:=(f1 (f2 (f3 (f3 (f0 (n % UInt64.ofNat 1000000+UInt64.ofNat 11)) (f0 (n % UInt64.ofNat 1000000+UInt64.ofNat 11))) (f0 (n % UInt64.ofNat 1000000+UInt64.ofNat 11))) (f0 (4:UInt64)))).fst,inf:=false },true)) | false=>(match ((f1 (f2 (f3 (f3 (f0 (n % UInt64.ofNat 1000000+UInt64.ofNat 12)) (f0 (n % UInt64.ofNat 1000000+UInt64.ofNat 12))) (f0 (n % UInt64.ofNat 1000000+UInt64.ofNat 12))) (f0 (4:UInt64)))).snd) with | true=>(({ x:=f0 (n % UInt64.ofNat 1000000+UInt64.ofNat 12),y:=(f1 (f2 (f3 (f3 (f0 (n % UInt64.ofNat 1000000+UInt64.ofNat 12)) (f0 (n % UInt64.ofNat 1000000+UInt64.ofNat 12))) (f0 (n % UInt64.ofNat 1000000+UInt64.ofNat 12))) (f0 (4:UInt64)))).fst,inf:=false },true)) | false=>(match ((f1 (f2 (f3 (f3 (f0 (n % UInt64.ofNat 1000000+UInt64.ofNat 13)) (f0 (n % UInt64.ofNat 1000000+UInt64.ofNat 13))) (f0 (n % UInt64.ofNat 1000000+UInt64.ofNat 13))) (f0 (4:UInt64)))).snd) with | true=>(({ x:=f0 (n % UInt64.ofNat 1000000+UInt64.ofNat 13),y:=(f1 (f2 (f3 (f3 (f0 (n % UInt64.ofNat 1000000+UInt64.ofNat 13)) (f0 (n % UInt64.ofNat 1000000+UInt64.ofNat 13))) (f0 (n % UInt64.ofNat 1000000+UInt64.ofNat 13))) (f0 (4:UInt64)))).fst,inf:=false },true)) | false=>(match ((f1 (f2 (f3 (f3 (f0 (n % UInt64.ofNat 1000000+UInt64.ofNat 14)) (f0 (n % UInt64.ofNat 1000000+UInt64.ofNat 14))) (f0 (n % UInt64.ofNat 1000000+UInt64.ofNat 14))) (f0 (4:UInt64)))).snd) with | true=>(({ x:=f0 (n % UInt64.ofNat 1000000+UInt64.ofNat 14),y:=(f1 (f2 (f3 (f3 (f0 (n % UInt64.ofNat 1000000+UInt64.ofNat 14)) (f0 (n % UInt64.ofNat 1000000+UInt64.ofNat 14))) (f0 (n % UInt64.ofNat 1000000+UInt64.ofNat 14))) (f0 (4:UInt64)))).fst,inf:=false },true)) | false=>(match ((f1 (f2 (f3 (f3 (f0 (n % UInt64.ofNat 1000000+UInt64.ofNat 15)) (f0 (n % UInt64.ofNat 1000000+UInt64.ofNat 15))) (f0 (n % UInt64.ofNat 1000000+UInt64.ofNat 15))) (f0 (4:UInt64)))).snd) with | true=>(({ x:=f0 (n % UInt64.ofNat 1000000+UInt64.ofNat 15),y:=(f1 (f2 (f3 (f3 (f0 (n % UInt64.ofNat 1000000+UInt64.ofNat 15)) (f0 (n % UInt64.ofNat 1000000+UInt64.ofNat 15))) (f0 (n % UInt64.ofNat 1000000+UInt64.ofNat 15))) (f0 (4:UInt64)))).fst,inf:=false },true)) | false=>(match ((f1 (f2 (f3 (f3 (f0 (n % UInt64.ofNat 1000000+UInt64.ofNat 16)) (f0 (n % UInt64.ofNat 1000000+UInt64.ofNat 16))) (f0 (n % UInt64.ofNat 1000000+UInt64.ofNat 16))) (f0 (4:UInt64)))).snd) with | true=>(({ x:=f0 (n % UInt64.ofNat 1000000+UInt64.ofNat 16),y:=(f1 (f2 (f3 (f3 (f0 (n % UInt64.ofNat 1000000+UInt64.ofNat 16)) (f0 (n % UInt64.ofNat 1000000+UInt64.ofNat 16))) (f0 (n % UInt64.ofNat 1000000+UInt64.ofNat 16))) (f0 (4:UInt64)))).fst,inf:=false },true)) | false=>(match ((f1 (f2 (f3 (f3 (f0 (n % UInt64.ofNat 1000000+UInt64.ofNat 17)) (f0 (n % UInt64.ofNat 1000000+UInt64.ofNat 17))) (f0 (n % UInt64.ofNat 1000000+UInt64.ofNat 17))) (f0 (4:UInt64)))).snd) with | true=>(({ x:=f0 (n % UInt64.ofNat 1000000+UInt64.ofNat 17),y:=(f1 (f2 (f3 (f3 (f0 (n % UInt64.ofNat 1000000+UInt64.ofNat 17)) (f0 (n % UInt64.ofNat 1000000+UInt64.ofNat 17))) (f0 (n % UInt64.ofNat 1000000+UInt64.ofNat 17))) (f0 (4:UInt64)))).fst,inf:=false },true)) | false=>(match ((f1 (f2 (f3 (f3 (f0 (n % UInt64.ofNat 1000000+UInt64.ofNat 18)) (f0 (n % UInt64.ofNat 1000000+UInt64.ofNat 18))) (f0 (n % UInt64.ofNat 1000000+UInt64.ofNat 18))) (f0 (4:UInt64)))).snd) with | true=>(({ x:=f0 (n % UInt64.ofNat 1000000+UInt64.ofNat 18),y:=(f1 (f2 (f3 (f3 (f0 (n % UInt64.ofNat 1000000+UInt64.ofNat 18)) (f0 (n % UInt64.ofNat 1000000+UInt64.ofNat 18))) (f0 (n % UInt64.ofNat 1000000+UInt64.ofNat 18))) (f0 (4:UInt64)))).fst,inf:=false },true)) | false=>(match ((f1 (f2 (f3 (f3 (f0 (n % UInt64.ofNat 1000000+UInt64.ofNat 19)) (f0 (n % UInt64.ofNat 1000000+UInt64.ofNat 19))) (f0 (n % UInt64.ofNat 1000000+UInt64.ofNat 19))) (f0 (4:UInt64)))).snd) with | true=>(({ x:=f0 (n % UInt64.ofNat 1000000+UInt64.ofNat 19),y:=(f1 (f2 (f3 (f3 (f0 (n % UInt64.ofNat 1000000+UInt64.ofNat 19)) (f0 (n % UInt64.ofNat 1000000+UInt64.ofNat 19))) (f0 (n % UInt64.ofNat 1000000+UInt64.ofNat 19))) (f0 (4:UInt64)))).fst,inf:=false },true)) | false=>(({ x:=zeroFp,y:=zeroFp,inf:=false },false))))))))))))))))))))))
def aaf (f0:UInt64->Fp) (f1:Fp->Fp × Bool) (f2:Fp->Fp->Fp) (f3:Fp->Fp->Fp) (n:UInt64):Tree (Option (Pg1 × Bool)):=letI za':=(f0 (4:UInt64));letI zb':=n % UInt64.ofNat 1000000+UInt64.ofNat 10;letI zc':=n % UInt64.ofNat 1000000+UInt64.ofNat 11;letI zd':=n % UInt64.ofNat 1000000+UInt64.ofNat 12;letI ze':=n % UInt64.ofNat 1000000+UInt64.ofNat 13;letI zf':=n % UInt64.ofNat 1000000+UInt64.ofNat 14;letI zg':=n % UInt64.ofNat 1000000+UInt64.ofNat 15;letI zh':=n % UInt64.ofNat 1000000+UInt64.ofNat 16;letI zi':=n % UInt64.ofNat 1000000+UInt64.ofNat 17;letI zj':=n % UInt64.ofNat 1000000+UInt64.ofNat 18;letI zk':=n % UInt64.ofNat 1000000+UInt64.ofNat 19;letI zl':=n % UInt64.ofNat 1000000+UInt64.ofNat 0;letI zm':=n % UInt64.ofNat 1000000+UInt64.ofNat 1;letI zn':=n % UInt64.ofNat 1000000+UInt64.ofNat 2;letI zo':=n % UInt64.ofNat 1000000+UInt64.ofNat 3;letI zp':=n % UInt64.ofNat 1000000+UInt64.ofNat 4;letI zq':=n % UInt64.ofNat 1000000+UInt64.ofNat 5;letI zr':=n % UInt64.ofNat 1000000+UInt64.ofNat 6;letI zs':=n % UInt64.ofNat 1000000+UInt64.ofNat 7;letI zt':=n % UInt64.ofNat 1000000+UInt64.ofNat 8;letI zu':=n % UInt64.ofNat 1000000+UInt64.ofNat 9;letI zv':=f1 (f2 (f3 (f3 (f0 zl') (f0 zl')) (f0 zl')) za');letI zw':=f1 (f2 (f3 (f3 (f0 zm') (f0 zm')) (f0 zm')) za');letI zx':=f1 (f2 (f3 (f3 (f0 zn') (f0 zn')) (f0 zn')) za');letI zy':=f1 (f2 (f3 (f3 (f0 zo') (f0 zo')) (f0 zo')) za');letI zz':=f1 (f2 (f3 (f3 (f0 zp') (f0 zp')) (f0 zp')) za');letI z0':=f1 (f2 (f3 (f3 (f0 zq') (f0 zq')) (f0 zq')) za');letI z1':=f1 (f2 (f3 (f3 (f0 zr') (f0 zr')) (f0 zr')) za');letI z2':=f1 (f2 (f3 (f3 (f0 zs') (f0 zs')) (f0 zs')) za');letI z3':=f1 (f2 (f3 (f3 (f0 zt') (f0 zt')) (f0 zt')) za');letI z4':=f1 (f2 (f3 (f3 (f0 zu') (f0 zu')) (f0 zu')) za');letI z5':=f1 (f2 (f3 (f3 (f0 zb') (f0 zb')) (f0 zb')) za');letI z6':=f1 (f2 (f3 (f3 (f0 zc') (f0 zc')) (f0 zc')) za');letI z7':=f1 (f2 (f3 (f3 (f0 zd') (f0 zd')) (f0 zd')) za');letI z8':=f1 (f2 (f3 (f3 (f0 ze') (f0 ze')) (f0 ze')) za');letI z9':=f1 (f2 (f3 (f3 (f0 zf') (f0 zf')) (f0 zf')) za');letI z10':=f1 (f2 (f3 (f3 (f0 zg') (f0 zg')) (f0 zg')) za');letI z11':=f1 (f2 (f3 (f3 (f0 zh') (f0 zh')) (f0 zh')) za');letI z12':=f1 (f2 (f3 (f3 (f0 zi') (f0 zi')) (f0 zi')) za');letI z13':=f1 (f2 (f3 (f3 (f0 zj') (f0 zj')) (f0 zj')) za');letI z14':=f1 (f2 (f3 (f3 (f0 zk') (f0 zk')) (f0 zk')) za');
 (.br (zv'.snd) (.leaf (some (({ x:=f0 zl',y:=zv'.fst,inf:=false },true)))) (.br (zw'.snd) (.leaf (some (({ x:=f0 zm',y:=zw'.fst,inf:=false },true)))) (.br (zx'.snd) (.leaf (some (({ x:=f0 zn',y:=zx'.fst,inf:=false },true)))) (.br (zy'.snd) (.leaf (some (({ x:=f0 zo',y:=zy'.fst,inf:=false },true)))) (.br (zz'.snd) (.leaf (some (({ x:=f0 zp',y:=zz'.fst,inf:=false },true)))) (.br (z0'.snd) (.leaf (some (({ x:=f0 zq',y:=z0'.fst,inf:=false },true)))) (.br (z1'.snd) (.leaf (some (({ x:=f0 zr',y:=z1'.fst,inf:=false },true)))) (.br (z2'.snd) (.leaf (some (({ x:=f0 zs',y:=z2'.fst,inf:=false },true)))) (.br (z3'.snd) (.leaf (some (({ x:=f0 zt',y:=z3'.fst,inf:=false },true)))) (.br (z4'.snd) (.leaf (some (({ x:=f0 zu',y:=z4'.fst,inf:=false },true)))) (.br (z5'.snd) (.leaf (some (({ x:=f0 zb',y:=z5'.fst,inf:=false },true)))) (.br (z6'.snd) (.leaf (some (({ x:=f0 zc',y:=z6'.fst,inf:=false },true)))) (.br (z7'.snd) (.leaf (some (({ x:=f0 zd',y:=z7'.fst,inf:=false },true)))) (.br (z8'.snd) (.leaf (some (({ x:=f0 ze',y:=z8'.fst,inf:=false },true)))) (.br (z9'.snd) (.leaf (some (({ x:=f0 zf',y:=z9'.fst,inf:=false },true)))) (.br (z10'.snd) (.leaf (some (({ x:=f0 zg',y:=z10'.fst,inf:=false },true)))) (.br (z11'.snd) (.leaf (some (({ x:=f0 zh',y:=z11'.fst,inf:=false },true)))) (.br (z12'.snd) (.leaf (some (({ x:=f0 zi',y:=z12'.fst,inf:=false },true)))) (.br (z13'.snd) (.leaf (some (({ x:=f0 zj',y:=z13'.fst,inf:=false },true)))) (.br (z14'.snd) (.leaf (some (({ x:=f0 zk',y:=z14'.fst,inf:=false },true)))) (.leaf (some (({ x:=zeroFp,y:=zeroFp,inf:=false },false))))))))))))))))))))))))
theorem Xc (f0:UInt64->Fp) (f1:Fp->Fp × Bool) (f2:Fp->Fp->Fp) (f3:Fp->Fp->Fp) (n:UInt64):ab (En [(40,Kof f0),(41,EE f1),(42,Kff f2),(43,Kff f3)]) ((aa Pg1).rs2 kBool) 300 Tryz.f16 [.one (kU64.av n)]=aaf f0 f1 f2 f3 n:=by kernel_rfl
theorem Xb (f0:UInt64->Fp) (f1:Fp->Fp × Bool) (f2:Fp->Fp->Fp) (f3:Fp->Fp->Fp) (n:UInt64):(aaf f0 f1 f2 f3 n).sat fun q=>q=some (co f0 f1 f2 f3 n):=⟨fun h0=>(show some _=some _ from congrArg some (by unfold co;rw [h0])),fun h0=>⟨fun h1=>(show some _=some _ from congrArg some (by unfold co;rw [h0,h1])),fun h1=>⟨fun h2=>(show some _=some _ from congrArg some (by unfold co;rw [h0,h1,h2])),fun h2=>⟨fun h3=>(show some _=some _ from congrArg some (by unfold co;rw [h0,h1,h2,h3])),fun h3=>⟨fun h4=>(show some _=some _ from congrArg some (by unfold co;rw [h0,h1,h2,h3,h4])),fun h4=>⟨fun h5=>(show some _=some _ from congrArg some (by unfold co;rw [h0,h1,h2,h3,h4,h5])),fun h5=>⟨fun h6=>(show some _=some _ from congrArg some (by unfold co;rw [h0,h1,h2,h3,h4,h5,h6])),fun h6=>⟨fun h7=>(show some _=some _ from congrArg some (by unfold co;rw [h0,h1,h2,h3,h4,h5,h6,h7])),fun h7=>⟨fun h8=>(show some _=some _ from congrArg some (by unfold co;rw [h0,h1,h2,h3,h4,h5,h6,h7,h8])),fun h8=>⟨fun h9=>(show some _=some _ from congrArg some (by unfold co;rw [h0,h1,h2,h3,h4,h5,h6,h7,h8,h9])),fun h9=>⟨fun h10=>(show some _=some _ from congrArg some (by unfold co;rw [h0,h1,h2,h3,h4,h5,h6,h7,h8,h9,h10])),fun h10=>⟨fun h11=>(show some _=some _ from congrArg some (by unfold co;rw [h0,h1,h2,h3,h4,h5,h6,h7,h8,h9,h10,h11])),fun h11=>⟨fun h12=>(show some _=some _ from congrArg some (by unfold co;rw [h0,h1,h2,h3,h4,h5,h6,h7,h8,h9,h10,h11,h12])),fun h12=>⟨fun h13=>(show some _=some _ from congrArg some (by unfold co;rw [h0,h1,h2,h3,h4,h5,h6,h7,h8,h9,h10,h11,h12,h13])),fun h13=>⟨fun h14=>(show some _=some _ from congrArg some (by unfold co;rw [h0,h1,h2,h3,h4,h5,h6,h7,h8,h9,h10,h11,h12,h13,h14])),fun h14=>⟨fun h15=>(show some _=some _ from congrArg some (by unfold co;rw [h0,h1,h2,h3,h4,h5,h6,h7,h8,h9,h10,h11,h12,h13,h14,h15])),fun h15=>⟨fun h16=>(show some _=some _ from congrArg some (by unfold co;rw [h0,h1,h2,h3,h4,h5,h6,h7,h8,h9,h10,h11,h12,h13,h14,h15,h16])),fun h16=>⟨fun h17=>(show some _=some _ from congrArg some (by unfold co;rw [h0,h1,h2,h3,h4,h5,h6,h7,h8,h9,h10,h11,h12,h13,h14,h15,h16,h17])),fun h17=>⟨fun h18=>(show some _=some _ from congrArg some (by unfold co;rw [h0,h1,h2,h3,h4,h5,h6,h7,h8,h9,h10,h11,h12,h13,h14,h15,h16,h17,h18])),fun h18=>⟨fun h19=>(show some _=some _ from congrArg some (by unfold co;rw [h0,h1,h2,h3,h4,h5,h6,h7,h8,h9,h10,h11,h12,h13,h14,h15,h16,h17,h18,h19])),fun h19=>(show some _=some _ from congrArg some (by unfold co;rw [h0,h1,h2,h3,h4,h5,h6,h7,h8,h9,h10,h11,h12,h13,h14,h15,h16,h17,h18,h19]))⟩⟩⟩⟩⟩⟩⟩⟩⟩⟩⟩⟩⟩⟩⟩⟩⟩⟩⟩⟩
def Ka (n:UInt64):Pg1 × Bool:=co ofF qP mi cL n
theorem adw:CallOk Tryz.prog 16 (K1 kU64.arg ((aa Pg1).rs2 kBool).res Ka) :=
 P1 (ag (.cons D5 (.cons VH (.cons DD (.cons pg .nil))))) Tryz.func16 (ac Tryz.func16 (by kernel_rfl) (by kernel_rfl)) 300 kU64 ((aa Pg1).rs2 kBool) Ka (Xc ofF qP mi cL) (Xb ofF qP mi cL)
end
set_option maxRecDepth 100000
section
def aam (n:UInt64):Fr:=({ l0:=n,l1:=UInt64.ofNat 0,l2:=UInt64.ofNat 0,l3:=UInt64.ofNat 0 })
def aal (n:UInt64):Tree (Option (Fr)) :=
 (.leaf (some ({ l0:=n,l1:=UInt64.ofNat 0,l2:=UInt64.ofNat 0,l3:=UInt64.ofNat 0 })))
theorem Xp (n:UInt64):ab (En []) (aa Fr).rs 300 Tryz.f12 [.one (kU64.av n)]=aal n:=by kernel_rfl
theorem Xo (n:UInt64):(aal n).sat fun q=>q=some (aam n):=(show some _=some _ from rfl)
def nD (n:UInt64):Fr:=aam  n
theorem adG:CallOk Tryz.prog 12 (K1 kU64.arg (aa Fr).rs.res nD) :=
 P1 (ag .nil) Tryz.func12 (ac Tryz.func12 (by kernel_rfl) (by kernel_rfl)) 300 kU64 (aa Fr).rs nD (Xp ) (Xo )
def Dx (f0:Pg1->Fr->Pg1) (f1:Pg1) (k:Fr):Pg1:=(f0 f1 k)
def O4 (f0:Pg1->Fr->Pg1) (f1:Pg1) (k:Fr):Tree (Option (Pg1)) :=
 (.leaf (some (f0 f1 k)))
theorem TR (f0:Pg1->Fr->Pg1) (f1:Pg1) (k:Fr):ab (En [(36,K2 (aa Pg1).arg (aa Fr).arg (aa Pg1).rs.res f0),(22,K0 (aa Pg1).rs.res f1)]) (aa Pg1).rs 300 Tryz.f13 [.one ((aa Fr).av k)]=O4 f0 f1 k:=by kernel_rfl
theorem TQ (f0:Pg1->Fr->Pg1) (f1:Pg1) (k:Fr):(O4 f0 f1 k).sat fun q=>q=some (Dx f0 f1 k):=(show some _=some _ from rfl)
def eK (k:Fr):Pg1:=Dx iM om k
theorem Zf:CallOk Tryz.prog 13 (K1 (aa Fr).arg (aa Pg1).rs.res eK) :=
 P1 (ag (.cons IY (.cons HX .nil))) Tryz.func13 (ac Tryz.func13 (by kernel_rfl) (by kernel_rfl)) 300 (aa Fr) (aa Pg1).rs eK (TR iM om) (TQ iM om)
def Dw (f0:Pg2->Fr->Pg2) (f1:Pg2) (k:Fr):Pg2:=(f0 f1 k)
def O3 (f0:Pg2->Fr->Pg2) (f1:Pg2) (k:Fr):Tree (Option (Pg2)) :=
 (.leaf (some (f0 f1 k)))
theorem TO (f0:Pg2->Fr->Pg2) (f1:Pg2) (k:Fr):ab (En [(39,K2 (aa Pg2).arg (aa Fr).arg (aa Pg2).rs.res f0),(23,K0 (aa Pg2).rs.res f1)]) (aa Pg2).rs 300 Tryz.f15 [.one ((aa Fr).av k)]=O3 f0 f1 k:=by kernel_rfl
theorem TN (f0:Pg2->Fr->Pg2) (f1:Pg2) (k:Fr):(O3 f0 f1 k).sat fun q=>q=some (Dw f0 f1 k):=(show some _=some _ from rfl)
def jh (k:Fr):Pg2:=Dw jv oj k
theorem Zd:CallOk Tryz.prog 15 (K1 (aa Fr).arg (aa Pg2).rs.res jh) :=
 P1 (ag (.cons IW (.cons HV .nil))) Tryz.func15 (ac Tryz.func15 (by kernel_rfl) (by kernel_rfl)) 300 (aa Fr) (aa Pg2).rs jh (TO jv oj) (TN jv oj)
def aiG:List Cell := .nils :: (bO 24 ++ [.ff])
end
set_option maxRecDepth 100000
section
section
variable {hF : Fr -> Pg2} {oF : UInt64 -> Fr} {gF : Fr -> Pg1} {mF : Fr -> Fr -> Fr}
def ua (o:Fr) (mF:Fr->Fr->Fr) (x:Fr):Nat->Fr
 | 0=>o
 | n+1=>mF (ua o mF x n) x
theorem ta (o:Fr) (mF:Fr->Fr->Fr) (x:Fr) (n:Nat):ua o mF x (n+1)=mF (ua o mF x n) x:=rfl
def p5 (o:Fr) (gF:Fr->Pg1) (mF:Fr->Fr->Fr) (x:Fr) (n:Nat):List Pg1:=(List.range n).map fun i=>gF (ua o mF x i)
theorem yc (o:Fr) (gF:Fr->Pg1) (mF:Fr->Fr->Fr) (x:Fr) (n:Nat):(p5 o gF mF x n).length=n:=by unfold p5;rw [List.length_map,List.length_range]
theorem Rz (o:Fr) (gF:Fr->Pg1) (mF:Fr->Fr->Fr) (x:Fr) (n:Nat):p5 o gF mF x (n+1)=p5 o gF mF x n ++ [gF (ua o mF x n)]:=by unfold p5;rw [List.range_succ,List.map_append];rfl
end
def wE (x:Fr) (n:Int):List Pg1 × Pg2:=(p5 (nD 1) eK d6 x n.toNat,jh x)
abbrev Lp (p:List Pg1 × Pg2):Prop:=few p.1
abbrev zR:Arg (List Pg1 × Pg2):=(age .g1 Pg2).such Lp
abbrev aeu:Inp (List Pg1 × Pg2):=(ajt .g1 Pg2).such Lp
theorem vr (f:List Pg1):List.take f.length (List.drop 0 f)=f:=EF rfl
theorem DI {f:List Pg1} (h:few f):(0+f.length*13<=(ao RK.g1 f).length/\0=0/\f.length<1125899906842624/\0=0/\13=13)/\few (List.take f.length (List.drop 0 f)):=by
 rw [vr]
 exact ⟨ab4 (Nat.lt_of_lt_of_le h (by decide)),h⟩
end
set_option maxRecDepth 100000
section
abbrev oMk:Out ((List Pg1 × Pg2) × Int):=ahk .g1 Pg2 kInt 46
def pwV (i:Nat) (p:List Pg1 × Pg2):AV := .one (.agg (.slc i 0 p.1.length 13 (.of 0) false :: Row.cs p.2))
def J7 (i:Nat) (p:List Pg1 × Pg2):HE:=own 35 (.slc i 0 p.1.length 13 (.of 0) false :: Row.cs p.2)
noncomputable abbrev mkC:List Code:=flat (af Tryz.f9)
noncomputable abbrev mkE (o2:Pg2) (m2:Pg2->Fr->Pg2) (oF:UInt64->Fr) (o1:Pg1) (m1:Pg1->Fr->Pg1) (mF:Fr->Fr->Fr):Env:=En [(27,K0 kg2.rs.res o2),(26,K2 kg2.arg (aa Fr).arg kg2.rs.res m2),(28,K1 kU64.arg r4.res oF),(30,K0 kg1.rs.res o1),(29,K2 kg1.arg (aa Fr).arg kg1.rs.res m1),(31,Kr2 mF)]
def aj3 (x:Fr) (n:Int):St:=aw 40 [(1,vI n),(2,bv 0),(4,bv 1),(5,vI 0)] [own 24 (Row.cs x),own 35 aiG]
def mkS (x k:Fr) (t:Pg2) (n z:Int) (c:Nat) (l:List Pg1):St:=aw 40 [(2,bv 0),(4,bv 1),(5,vI 0),(6,bv 2),(7,bv 3),(24,vI n),(25,vI z)] [own 24 (Row.cs x),own 35 aiG,own 35 (.slc 4 0 c 13 (.of 0) false :: Row.cs t),own 24 (Row.cs k),.live ⟨true,46,13,.rows .g1 l,false⟩]
theorem ahr (o2:Pg2) (m2:Pg2->Fr->Pg2) (oF:UInt64->Fr) (o1:Pg1) (m1:Pg1->Fr->Pg1) (mF:Fr->Fr->Fr) (x:Fr) (n:Int):letI za':Fp := { l0:=UInt64.ofNat 0,l1:=UInt64.ofNat 0,l2:=UInt64.ofNat 0,l3:=UInt64.ofNat 0,l4:=UInt64.ofNat 0,l5:=UInt64.ofNat 0 };GH (mkE o2 m2 oF o1 m1 mF) oMk 300 Tryz.f9 (mkC.take 2) (ah Tryz.f9 [v4 x,vI n] []) [1,2,4,5] [0,1] [(1,.as),(2,.as),(4,.as),(5,.int)] [] []=(.br (decide (n<2)) (.leaf (.inr (some (((([],{ x := { c0:=za',c1:=za' },y := { c0:=za',c1:=za' },inf:=false }),1),.t))))) (.br (decide (n > 80)) (.leaf (.inr (some (((([],{ x := { c0:=za',c1:=za' },y := { c0:=za',c1:=za' },inf:=false }),1),.t))))) (.br (eE (x) ({ l0:=UInt64.ofNat 0,l1:=UInt64.ofNat 0,l2:=UInt64.ofNat 0,l3:=UInt64.ofNat 0 })) (.leaf (.inr (some (((([],{ x := { c0:=za',c1:=za' },y := { c0:=za',c1:=za' },inf:=false }),7),.t))))) (.leaf (.inl (aw 40 [(1,.one (.c (.int .i64 (n)))),(2,.one (.c (.ptr 0 0))),(4,.one (.c (.ptr 1 0))),(5,.one (.c (.int .i64 0)))] [.live ⟨true,24,0,(.row (Row.cs (x:Fr))),false⟩,.live ⟨true,35,0,(.row [.nils,(.lit .u64 0),(.lit .u64 0),(.lit .u64 0),(.lit .u64 0),(.lit .u64 0),(.lit .u64 0),(.lit .u64 0),(.lit .u64 0),(.lit .u64 0),(.lit .u64 0),(.lit .u64 0),(.lit .u64 0),(.lit .u64 0),(.lit .u64 0),(.lit .u64 0),(.lit .u64 0),(.lit .u64 0),(.lit .u64 0),(.lit .u64 0),(.lit .u64 0),(.lit .u64 0),(.lit .u64 0),(.lit .u64 0),(.lit .u64 0),.ff]),false⟩])))))):=by kernel_rfl
theorem X3 (o2:Pg2) (m2:Pg2->Fr->Pg2) (oF:UInt64->Fr) (o1:Pg1) (m1:Pg1->Fr->Pg1) (mF:Fr->Fr->Fr) (x:Fr) (n:Int):stageN (mkE o2 m2 oF o1 m1 mF) 100 ((mkC.drop 2).take 3) (aj3 x n) [2,4,5,6,7,24,25] [0,1,2,3] [(2,.as),(4,.as),(5,.as),(6,.as),(7,.as),(24,.as),(25,.int)] [] [] [(2,0,46,.rows .g1)]=(.leaf (aw 40 [(2,.one (.c (.ptr 0 0))),(4,.one (.c (.ptr 1 0))),(5,.one (.c (.int .i64 0))),(6,.one (.c (.ptr 2 0))),(7,.one (.c (.ptr 3 0))),(24,.one (.c (.int .i64 (n)))),(25,.one (.c (.int .i64 0)))] [.live ⟨true,24,0,(.row (Row.cs (x:Fr))),false⟩,.live ⟨true,35,0,(.row [.nils,(.lit .u64 0),(.lit .u64 0),(.lit .u64 0),(.lit .u64 0),(.lit .u64 0),(.lit .u64 0),(.lit .u64 0),(.lit .u64 0),(.lit .u64 0),(.lit .u64 0),(.lit .u64 0),(.lit .u64 0),(.lit .u64 0),(.lit .u64 0),(.lit .u64 0),(.lit .u64 0),(.lit .u64 0),(.lit .u64 0),(.lit .u64 0),(.lit .u64 0),(.lit .u64 0),(.lit .u64 0),(.lit .u64 0),(.lit .u64 0),.ff]),false⟩,.live ⟨true,35,0,(.row [(.slc 4 0 0 13 (.of 0) false),(.u64 ((m2 o2 x).x.c0.l0)),(.u64 ((m2 o2 x).x.c0.l1)),(.u64 ((m2 o2 x).x.c0.l2)),(.u64 ((m2 o2 x).x.c0.l3)),(.u64 ((m2 o2 x).x.c0.l4)),(.u64 ((m2 o2 x).x.c0.l5)),(.u64 ((m2 o2 x).x.c1.l0)),(.u64 ((m2 o2 x).x.c1.l1)),(.u64 ((m2 o2 x).x.c1.l2)),(.u64 ((m2 o2 x).x.c1.l3)),(.u64 ((m2 o2 x).x.c1.l4)),(.u64 ((m2 o2 x).x.c1.l5)),(.u64 ((m2 o2 x).y.c0.l0)),(.u64 ((m2 o2 x).y.c0.l1)),(.u64 ((m2 o2 x).y.c0.l2)),(.u64 ((m2 o2 x).y.c0.l3)),(.u64 ((m2 o2 x).y.c0.l4)),(.u64 ((m2 o2 x).y.c0.l5)),(.u64 ((m2 o2 x).y.c1.l0)),(.u64 ((m2 o2 x).y.c1.l1)),(.u64 ((m2 o2 x).y.c1.l2)),(.u64 ((m2 o2 x).y.c1.l3)),(.u64 ((m2 o2 x).y.c1.l4)),(.u64 ((m2 o2 x).y.c1.l5)),(.bool ((m2 o2 x).inf))]),false⟩,.live ⟨true,24,0,(.row (Row.cs (oF (UInt64.ofNat 1):Fr))),false⟩,.live ⟨true,46,13,(.rows .g1 ([]:List Pg1)),false⟩])):=by kernel_rfl
theorem X4 (o2:Pg2) (m2:Pg2->Fr->Pg2) (oF:UInt64->Fr) (o1:Pg1) (m1:Pg1->Fr->Pg1) (mF:Fr->Fr->Fr) (x k:Fr) (t:Pg2) (n z:Int) (c:Nat) (l:List Pg1):roundP (mkE o2 m2 oF o1 m1 mF) 300 (bk Tryz.f9 0) (mkS x k t n z c l) (qo [2,4,5,6,7,24,25] [0,1,2,3] [] [2])=(.br (decide (z<n)) (.vc ((0+c*13<=(ao RK.g1 l).length/\0=0)/\c+1<=9223372036854775807/\(c+1)*104<=140737488355328) (.leaf ((.normal,aw 40 [(2,.one (.c (.ptr 0 0))),(4,.one (.c (.ptr 1 0))),(5,.one (.c (.int .i64 0))),(6,.one (.c (.ptr 2 0))),(7,.one (.c (.ptr 3 0))),(24,.one (.c (.int .i64 (n)))),(25,.one (.c (.int .i64 (IntKind.i64.wrap (z+1)))))] [.live ⟨true,24,0,(.row (Row.cs (x:Fr))),false⟩,.live ⟨true,35,0,(.row [.nils,(.lit .u64 0),(.lit .u64 0),(.lit .u64 0),(.lit .u64 0),(.lit .u64 0),(.lit .u64 0),(.lit .u64 0),(.lit .u64 0),(.lit .u64 0),(.lit .u64 0),(.lit .u64 0),(.lit .u64 0),(.lit .u64 0),(.lit .u64 0),(.lit .u64 0),(.lit .u64 0),(.lit .u64 0),(.lit .u64 0),(.lit .u64 0),(.lit .u64 0),(.lit .u64 0),(.lit .u64 0),(.lit .u64 0),(.lit .u64 0),.ff]),false⟩,.live ⟨true,35,0,(.row [(.slc 4 0 (c+1) 13 (.of 0) false),(.u64 (t.x.c0.l0)),(.u64 (t.x.c0.l1)),(.u64 (t.x.c0.l2)),(.u64 (t.x.c0.l3)),(.u64 (t.x.c0.l4)),(.u64 (t.x.c0.l5)),(.u64 (t.x.c1.l0)),(.u64 (t.x.c1.l1)),(.u64 (t.x.c1.l2)),(.u64 (t.x.c1.l3)),(.u64 (t.x.c1.l4)),(.u64 (t.x.c1.l5)),(.u64 (t.y.c0.l0)),(.u64 (t.y.c0.l1)),(.u64 (t.y.c0.l2)),(.u64 (t.y.c0.l3)),(.u64 (t.y.c0.l4)),(.u64 (t.y.c0.l5)),(.u64 (t.y.c1.l0)),(.u64 (t.y.c1.l1)),(.u64 (t.y.c1.l2)),(.u64 (t.y.c1.l3)),(.u64 (t.y.c1.l4)),(.u64 (t.y.c1.l5)),(.bool (t.inf))]),false⟩,.live ⟨true,24,0,(.row (Row.cs (mF k x:Fr))),false⟩,.live ⟨true,46,13,(.rows .g1 (List.take (rJ c (13 / 13)) (List.drop 0 l) ++ [m1 o1 k]:List Pg1)),false⟩])))) (.leaf ((.exit 1,aw 40 [(2,.one (.c (.ptr 0 0))),(4,.one (.c (.ptr 1 0))),(5,.one (.c (.int .i64 0))),(6,.one (.c (.ptr 2 0))),(7,.one (.c (.ptr 3 0))),(24,.one (.c (.int .i64 (n)))),(25,.one (.c (.int .i64 (z))))] [.live ⟨true,24,0,(.row (Row.cs (x:Fr))),false⟩,.live ⟨true,35,0,(.row [.nils,(.lit .u64 0),(.lit .u64 0),(.lit .u64 0),(.lit .u64 0),(.lit .u64 0),(.lit .u64 0),(.lit .u64 0),(.lit .u64 0),(.lit .u64 0),(.lit .u64 0),(.lit .u64 0),(.lit .u64 0),(.lit .u64 0),(.lit .u64 0),(.lit .u64 0),(.lit .u64 0),(.lit .u64 0),(.lit .u64 0),(.lit .u64 0),(.lit .u64 0),(.lit .u64 0),(.lit .u64 0),(.lit .u64 0),(.lit .u64 0),.ff]),false⟩,.live ⟨true,35,0,(.row [(.slc 4 0 (c) 13 (.of 0) false),(.u64 (t.x.c0.l0)),(.u64 (t.x.c0.l1)),(.u64 (t.x.c0.l2)),(.u64 (t.x.c0.l3)),(.u64 (t.x.c0.l4)),(.u64 (t.x.c0.l5)),(.u64 (t.x.c1.l0)),(.u64 (t.x.c1.l1)),(.u64 (t.x.c1.l2)),(.u64 (t.x.c1.l3)),(.u64 (t.x.c1.l4)),(.u64 (t.x.c1.l5)),(.u64 (t.y.c0.l0)),(.u64 (t.y.c0.l1)),(.u64 (t.y.c0.l2)),(.u64 (t.y.c0.l3)),(.u64 (t.y.c0.l4)),(.u64 (t.y.c0.l5)),(.u64 (t.y.c1.l0)),(.u64 (t.y.c1.l1)),(.u64 (t.y.c1.l2)),(.u64 (t.y.c1.l3)),(.u64 (t.y.c1.l4)),(.u64 (t.y.c1.l5)),(.bool (t.inf))]),false⟩,.live ⟨true,24,0,(.row (Row.cs (k:Fr))),false⟩,.live ⟨true,46,13,(.rows .g1 (l:List Pg1)),false⟩])))):=by kernel_rfl
theorem ahs (o2:Pg2) (m2:Pg2->Fr->Pg2) (oF:UInt64->Fr) (o1:Pg1) (m1:Pg1->Fr->Pg1) (mF:Fr->Fr->Fr) (x k:Fr) (t:Pg2) (n z:Int) (c:Nat) (l:List Pg1):dx (mkE o2 m2 oF o1 m1 mF) oMk 100 Tryz.f9 (mkC.drop 6) (mkS x k t n z c l)=(.leaf (some ((((List.take c l,t),0),(.p (c<=l.length)))))):=by kernel_rfl
noncomputable abbrev sdC:List Code:=flat (af Tryz.f32)
noncomputable abbrev sdE (i1:Pg1->Bool) (i2:Pg2->Bool):Env:=En [(61,K1 kg1.arg kBool.rs.res i1),(62,K1 kg2.arg kBool.rs.res i2)]
def sdS (p:List Pg1 × Pg2) (b:Bool) (z:Int):St:=aw 32 [(1,bv 1),(2,vI 0),(3,.one (kBool.av b)),(10,rwV .g1 0 p.1),(11,vI (p.1.length:Int)),(12,vI z)] [k9 .g1 p.1,J7 0 p]
theorem VP (i1:Pg1->Bool) (i2:Pg2->Bool) (p:List Pg1 × Pg2):stageG (sdE i1 i2) 100 (sdC.take 3) (ah Tryz.f32 [pwV 0 p] [k9 .g1 p.1]) [1,2,3,10,11,12] [0,1] [(1,.as),(2,.int),(3,.bool),(10,.as),(11,.as),(12,.int)] [.as,.as] []=(.vc (0+p.fst.length*13<=(ao RK.g1 p.fst).length/\0<13) (.leaf (aw 32 [(1,.one (.c (.ptr 1 0))),(2,.one (.c (.int .i64 0))),(3,.one (.c (.bool (p.snd.inf)))),(10,.one (.c (.slc 0 0 (p.fst.length) 13 (.of 0) false))),(11,.one (.c (.int .i64 ((↑p.fst.length:Int))))),(12,.one (.c (.int .i64 0)))] [.live ⟨false,0,13,(.rows .g1 (p.fst:List Pg1)),false⟩,.live ⟨true,35,0,(.row [(.slc 0 0 (p.fst.length) 13 (.of 0) false),(.u64 (p.snd.x.c0.l0)),(.u64 (p.snd.x.c0.l1)),(.u64 (p.snd.x.c0.l2)),(.u64 (p.snd.x.c0.l3)),(.u64 (p.snd.x.c0.l4)),(.u64 (p.snd.x.c0.l5)),(.u64 (p.snd.x.c1.l0)),(.u64 (p.snd.x.c1.l1)),(.u64 (p.snd.x.c1.l2)),(.u64 (p.snd.x.c1.l3)),(.u64 (p.snd.x.c1.l4)),(.u64 (p.snd.x.c1.l5)),(.u64 (p.snd.y.c0.l0)),(.u64 (p.snd.y.c0.l1)),(.u64 (p.snd.y.c0.l2)),(.u64 (p.snd.y.c0.l3)),(.u64 (p.snd.y.c0.l4)),(.u64 (p.snd.y.c0.l5)),(.u64 (p.snd.y.c1.l0)),(.u64 (p.snd.y.c1.l1)),(.u64 (p.snd.y.c1.l2)),(.u64 (p.snd.y.c1.l3)),(.u64 (p.snd.y.c1.l4)),(.u64 (p.snd.y.c1.l5)),(.bool (p.snd.inf))]),false⟩]))):=by kernel_rfl
theorem VQ (i1:Pg1->Bool) (i2:Pg2->Bool) (p:List Pg1 × Pg2) (b:Bool) (z:Int):letI za':=(↑p.fst.length:Int);letI zb':=p.fst.length;letI zc':=p.fst.getD (0+z.toNat) cS;letI zd':=p.snd.x.c0.l0;letI ze':=p.snd.x.c0.l1;letI zf':=p.snd.x.c0.l2;letI zg':=p.snd.x.c0.l3;letI zh':=p.snd.x.c0.l4;letI zi':=p.snd.x.c0.l5;letI zj':=p.snd.x.c1.l0;letI zk':=p.snd.x.c1.l1;letI zl':=p.snd.x.c1.l2;letI zm':=p.snd.x.c1.l3;letI zn':=p.snd.x.c1.l4;letI zo':=p.snd.x.c1.l5;letI zp':=p.snd.y.c0.l0;letI zq':=p.snd.y.c0.l1;letI zr':=p.snd.y.c0.l2;letI zs':=p.snd.y.c0.l3;letI zt':=p.snd.y.c0.l4;letI zu':=p.snd.y.c0.l5;letI zv':=p.snd.y.c1.l0;letI zw':=p.snd.y.c1.l1;letI zx':=p.snd.y.c1.l2;letI zy':=p.snd.y.c1.l3;letI zz':=p.snd.y.c1.l4;letI z0':=p.snd.y.c1.l5;letI z1':=IntKind.i64.wrap (z+1);iterL (sdE i1 i2) oI 300 Tryz.f32 [bk Tryz.f32 0] (sdS p b z) [1,2,3,10,11,12] [0,1] [(1,.as),(2,.as),(3,.bool),(10,.as),(11,.as),(12,.as)] [.as,.as]=(.br (decide (z<za')) (.vc ((0<=z/\z<za')/\0+p.fst.length*13<=(ao RK.g1 p.fst).length/\0<13/\0=0) (.vc (0+z.toNat<p.fst.length) (.br (!(i1 zc')) (.leaf (.inr (some ((6,.t))))) (.br (b) (.leaf (.inl ((.normal,aw 32 [(1,.one (.c (.ptr 1 0))),(2,.one (.c (.int .i64 0))),(3,.one (.c (.bool (true)))),(10,.one (.c (.slc 0 0 zb' 13 (.of 0) false))),(11,.one (.c (.int .i64 (za')))),(12,.one (.c (.int .i64 z1')))] [.live ⟨false,0,13,(.rows .g1 (p.fst:List Pg1)),false⟩,.live ⟨true,35,0,(.row [(.slc 0 0 zb' 13 (.of 0) false),(.u64 zd'),(.u64 ze'),(.u64 zf'),(.u64 zg'),(.u64 zh'),(.u64 zi'),(.u64 zj'),(.u64 zk'),(.u64 zl'),(.u64 zm'),(.u64 zn'),(.u64 zo'),(.u64 zp'),(.u64 zq'),(.u64 zr'),(.u64 zs'),(.u64 zt'),(.u64 zu'),(.u64 zv'),(.u64 zw'),(.u64 zx'),(.u64 zy'),(.u64 zz'),(.u64 z0'),(.bool (p.snd.inf))]),false⟩])))) (.leaf (.inl ((.normal,aw 32 [(1,.one (.c (.ptr 1 0))),(2,.one (.c (.int .i64 0))),(3,.one (.c (.bool (zc'.inf)))),(10,.one (.c (.slc 0 0 zb' 13 (.of 0) false))),(11,.one (.c (.int .i64 (za')))),(12,.one (.c (.int .i64 z1')))] [.live ⟨false,0,13,(.rows .g1 (p.fst:List Pg1)),false⟩,.live ⟨true,35,0,(.row [(.slc 0 0 zb' 13 (.of 0) false),(.u64 zd'),(.u64 ze'),(.u64 zf'),(.u64 zg'),(.u64 zh'),(.u64 zi'),(.u64 zj'),(.u64 zk'),(.u64 zl'),(.u64 zm'),(.u64 zn'),(.u64 zo'),(.u64 zp'),(.u64 zq'),(.u64 zr'),(.u64 zs'),(.u64 zt'),(.u64 zu'),(.u64 zv'),(.u64 zw'),(.u64 zx'),(.u64 zy'),(.u64 zz'),(.u64 z0'),(.bool (p.snd.inf))]),false⟩])))))))) (.leaf (.inl ((.exit 0,aw 32 [(1,.one (.c (.ptr 1 0))),(2,.one (.c (.int .i64 0))),(3,.one (.c (.bool (b)))),(10,.one (.c (.slc 0 0 zb' 13 (.of 0) false))),(11,.one (.c (.int .i64 (za')))),(12,.one (.c (.int .i64 (z))))] [.live ⟨false,0,13,(.rows .g1 (p.fst:List Pg1)),false⟩,.live ⟨true,35,0,(.row [(.slc 0 0 zb' 13 (.of 0) false),(.u64 zd'),(.u64 ze'),(.u64 zf'),(.u64 zg'),(.u64 zh'),(.u64 zi'),(.u64 zj'),(.u64 zk'),(.u64 zl'),(.u64 zm'),(.u64 zn'),(.u64 zo'),(.u64 zp'),(.u64 zq'),(.u64 zr'),(.u64 zs'),(.u64 zt'),(.u64 zu'),(.u64 zv'),(.u64 zw'),(.u64 zx'),(.u64 zy'),(.u64 zz'),(.u64 z0'),(.bool (p.snd.inf))]),false⟩]))))):=by kernel_rfl
theorem agO (i1:Pg1->Bool) (i2:Pg2->Bool) (p:List Pg1 × Pg2) (b:Bool) (z:Int):dx (sdE i1 i2) oI 100 Tryz.f32 (sdC.drop 4) (sdS p b z) =
 (.br (!(i2 p.snd))
  (.leaf (some ((6,.t))))
  (.br (b)
   (.leaf (some ((7,.t))))
   (.leaf (some ((0,.t)))))):=by kernel_rfl
noncomputable abbrev sckC:List Code:=flat (af Tryz.f11)
noncomputable abbrev UT (sF:List Pg1 × Pg2->Int) (o1:Pg1) (eF:Pg1->Pg1->Bool) (o2:Pg2) (nF:Pg1->Pg1) (cF:List Duo->Bool):Env:=En [(32,K1 zR kInt.rs.res sF),(30,K0 kg1.rs.res o1),(33,K2 kg1.arg kg1.arg kBool.rs.res eF),(27,K0 kg2.rs.res o2),(35,K1 kg1.arg kg1.rs.res nF),(34,K1 (uC .duo) kBool.rs.res cF)]
def acK (p:List Pg1 × Pg2) (z:Int):St:=aw 54 [(1,bv 1),(2,vI 0),(4,vI z)] [k9 .g1 p.1,J7 0 p]
theorem Qw (sF:List Pg1 × Pg2->Int) (o1:Pg1) (eF:Pg1->Pg1->Bool) (o2:Pg2) (nF:Pg1->Pg1) (cF:List Duo->Bool) (p:List Pg1 × Pg2):letI za':=0+p.fst.length*13<=(ao RK.g1 p.fst).length/\0<13;letI zb':=List.drop 0 p.fst;letI zc':=(↑p.fst.length:Int);GH (UT sF o1 eF o2 nF cF) oI 300 Tryz.f11 (sckC.take 9) (ah Tryz.f11 [pwV 0 p] [k9 .g1 p.1]) [1,2,4] [0,1] [(1,.as),(2,.int),(4,.int)] [.as,.as] []=(.vc za' (.br (decide (zc'<2)) (.leaf (.inr (some ((1,.t))))) (.vc za' (.br (decide (zc' > 80)) (.leaf (.inr (some ((1,.t))))) (.vc ((0+p.fst.length*13<=(ao RK.g1 p.fst).length/\0=0/\p.fst.length<1125899906842624/\0=0/\13=13)/\Lp (List.take p.fst.length zb',p.snd)) (.br (sF (List.take p.fst.length zb',p.snd) != 0) (.leaf (.inr (some ((sF (List.take p.fst.length zb',p.snd),.t))))) (.vc (0<p.fst.length/\0+p.fst.length*13<=(ao RK.g1 p.fst).length/\0<13/\0=0) (.vc (0<p.fst.length) (.br (!(eF (p.fst.getD 0 cS) o1)) (.leaf (.inr (some ((9,.t))))) (.leaf (.inl (aw 54 [(1,.one (.c (.ptr 1 0))),(2,.one (.c (.int .i64 0))),(4,.one (.c (.int .i64 1)))] [.live ⟨false,0,13,(.rows .g1 (p.fst:List Pg1)),false⟩,.live ⟨true,35,0,(.row [(.slc 0 0 (p.fst.length) 13 (.of 0) false),(.u64 (p.snd.x.c0.l0)),(.u64 (p.snd.x.c0.l1)),(.u64 (p.snd.x.c0.l2)),(.u64 (p.snd.x.c0.l3)),(.u64 (p.snd.x.c0.l4)),(.u64 (p.snd.x.c0.l5)),(.u64 (p.snd.x.c1.l0)),(.u64 (p.snd.x.c1.l1)),(.u64 (p.snd.x.c1.l2)),(.u64 (p.snd.x.c1.l3)),(.u64 (p.snd.x.c1.l4)),(.u64 (p.snd.x.c1.l5)),(.u64 (p.snd.y.c0.l0)),(.u64 (p.snd.y.c0.l1)),(.u64 (p.snd.y.c0.l2)),(.u64 (p.snd.y.c0.l3)),(.u64 (p.snd.y.c0.l4)),(.u64 (p.snd.y.c0.l5)),(.u64 (p.snd.y.c1.l0)),(.u64 (p.snd.y.c1.l1)),(.u64 (p.snd.y.c1.l2)),(.u64 (p.snd.y.c1.l3)),(.u64 (p.snd.y.c1.l4)),(.u64 (p.snd.y.c1.l5)),(.bool (p.snd.inf))]),false⟩])))))))))))):=by kernel_rfl
theorem Qx (sF:List Pg1 × Pg2->Int) (o1:Pg1) (eF:Pg1->Pg1->Bool) (o2:Pg2) (nF:Pg1->Pg1) (cF:List Duo->Bool) (p:List Pg1 × Pg2) (z:Int):letI za':=(↑p.fst.length:Int);letI zb':=ao RK.g1 p.fst;letI zc':=IntKind.i64.wrap (z-1);fE (UT sF o1 eF o2 nF cF) oI 300 Tryz.f11 [bk Tryz.f11 0] (acK p z) [1,2,4] [0,1]=(.vc (0+p.fst.length*13<=zb'.length/\0<13) (.br (decide (z<za')) (.vc ((0<=z/\z<za')/\0+p.fst.length*13<=zb'.length/\0<13/\0=0) (.vc (0+z.toNat<p.fst.length) (.vc ((0<=IntKind.i64.wrap (z-1)/\IntKind.i64.wrap (z-1)<za')/\0+p.fst.length*13<=zb'.length/\0<13/\0=0) (.vc (0+zc'.toNat<p.fst.length) (.br (!(cF [{ p:=p.fst.getD (0+z.toNat) cS,q:=o2 },{ p:=nF (p.fst.getD (0+zc'.toNat) cS),q:=p.snd }])) (.leaf (.inr (some ((9,.t))))) (.leaf (.inl ((.normal,aw 54 [(1,.one (.c (.ptr 1 0))),(2,.one (.c (.int .i64 0))),(4,.one (.c (.int .i64 (IntKind.i64.wrap (z+1)))))] [.live ⟨false,0,13,(.rows .g1 (p.fst:List Pg1)),false⟩,.live ⟨true,35,0,(.row [(.slc 0 0 (p.fst.length) 13 (.of 0) false),(.u64 (p.snd.x.c0.l0)),(.u64 (p.snd.x.c0.l1)),(.u64 (p.snd.x.c0.l2)),(.u64 (p.snd.x.c0.l3)),(.u64 (p.snd.x.c0.l4)),(.u64 (p.snd.x.c0.l5)),(.u64 (p.snd.x.c1.l0)),(.u64 (p.snd.x.c1.l1)),(.u64 (p.snd.x.c1.l2)),(.u64 (p.snd.x.c1.l3)),(.u64 (p.snd.x.c1.l4)),(.u64 (p.snd.x.c1.l5)),(.u64 (p.snd.y.c0.l0)),(.u64 (p.snd.y.c0.l1)),(.u64 (p.snd.y.c0.l2)),(.u64 (p.snd.y.c0.l3)),(.u64 (p.snd.y.c0.l4)),(.u64 (p.snd.y.c0.l5)),(.u64 (p.snd.y.c1.l0)),(.u64 (p.snd.y.c1.l1)),(.u64 (p.snd.y.c1.l2)),(.u64 (p.snd.y.c1.l3)),(.u64 (p.snd.y.c1.l4)),(.u64 (p.snd.y.c1.l5)),(.bool (p.snd.inf))]),false⟩]))))))))) (.leaf (.inl ((.exit 0,aw 54 [(1,.one (.c (.ptr 1 0))),(2,.one (.c (.int .i64 0))),(4,.one (.c (.int .i64 (z))))] [.live ⟨false,0,13,(.rows .g1 (p.fst:List Pg1)),false⟩,.live ⟨true,35,0,(.row [(.slc 0 0 (p.fst.length) 13 (.of 0) false),(.u64 (p.snd.x.c0.l0)),(.u64 (p.snd.x.c0.l1)),(.u64 (p.snd.x.c0.l2)),(.u64 (p.snd.x.c0.l3)),(.u64 (p.snd.x.c0.l4)),(.u64 (p.snd.x.c0.l5)),(.u64 (p.snd.x.c1.l0)),(.u64 (p.snd.x.c1.l1)),(.u64 (p.snd.x.c1.l2)),(.u64 (p.snd.x.c1.l3)),(.u64 (p.snd.x.c1.l4)),(.u64 (p.snd.x.c1.l5)),(.u64 (p.snd.y.c0.l0)),(.u64 (p.snd.y.c0.l1)),(.u64 (p.snd.y.c0.l2)),(.u64 (p.snd.y.c0.l3)),(.u64 (p.snd.y.c0.l4)),(.u64 (p.snd.y.c0.l5)),(.u64 (p.snd.y.c1.l0)),(.u64 (p.snd.y.c1.l1)),(.u64 (p.snd.y.c1.l2)),(.u64 (p.snd.y.c1.l3)),(.u64 (p.snd.y.c1.l4)),(.u64 (p.snd.y.c1.l5)),(.bool (p.snd.inf))]),false⟩])))))):=by kernel_rfl
theorem acJ (sF:List Pg1 × Pg2->Int) (o1:Pg1) (eF:Pg1->Pg1->Bool) (o2:Pg2) (nF:Pg1->Pg1) (cF:List Duo->Bool) (p:List Pg1 × Pg2) (z:Int):dx (UT sF o1 eF o2 nF cF) oI 100 Tryz.f11 (sckC.drop 10) (acK p z) =
 (.leaf (some ((0,.t)))):=by kernel_rfl
noncomputable abbrev smeC:List Code:=flat (af Tryz.f10)
def acC (p q:List Pg1 × Pg2) (z:Int):St:=aw 38 [(2,bv 2),(3,bv 3),(4,.one (kBool.av false)),(5,vI z)] [k9 .g1 p.1,k9 .g1 q.1,J7 0 p,J7 1 q]
theorem Qq (p q:List Pg1 × Pg2):GH (En []) oB 300 Tryz.f10 (smeC.take 4) (ah Tryz.f10 [pwV 0 p,pwV 1 q] [k9 .g1 p.1,k9 .g1 q.1]) [2,3,4,5] [0,1,2,3] [(2,.as),(3,.as),(4,.bool),(5,.int)] [.as,.as,.as,.as] []=(.vc (0+p.fst.length*13<=(ao RK.g1 p.fst).length/\0<13) (.vc (0+q.fst.length*13<=(ao RK.g1 q.fst).length/\0<13) (.br ((↑p.fst.length:Int) != (↑q.fst.length:Int)) (.leaf (.inr (some ((false,.t))))) (.br (!(uw (p.snd) (q.snd))) (.leaf (.inr (some ((false,.t))))) (.leaf (.inl (aw 38 [(2,.one (.c (.ptr 2 0))),(3,.one (.c (.ptr 3 0))),(4,.one (.c (.bool (false)))),(5,.one (.c (.int .i64 0)))] [.live ⟨false,0,13,(.rows .g1 (p.fst:List Pg1)),false⟩,.live ⟨false,0,13,(.rows .g1 (q.fst:List Pg1)),false⟩,.live ⟨true,35,0,(.row [(.slc 0 0 (p.fst.length) 13 (.of 0) false),(.u64 (p.snd.x.c0.l0)),(.u64 (p.snd.x.c0.l1)),(.u64 (p.snd.x.c0.l2)),(.u64 (p.snd.x.c0.l3)),(.u64 (p.snd.x.c0.l4)),(.u64 (p.snd.x.c0.l5)),(.u64 (p.snd.x.c1.l0)),(.u64 (p.snd.x.c1.l1)),(.u64 (p.snd.x.c1.l2)),(.u64 (p.snd.x.c1.l3)),(.u64 (p.snd.x.c1.l4)),(.u64 (p.snd.x.c1.l5)),(.u64 (p.snd.y.c0.l0)),(.u64 (p.snd.y.c0.l1)),(.u64 (p.snd.y.c0.l2)),(.u64 (p.snd.y.c0.l3)),(.u64 (p.snd.y.c0.l4)),(.u64 (p.snd.y.c0.l5)),(.u64 (p.snd.y.c1.l0)),(.u64 (p.snd.y.c1.l1)),(.u64 (p.snd.y.c1.l2)),(.u64 (p.snd.y.c1.l3)),(.u64 (p.snd.y.c1.l4)),(.u64 (p.snd.y.c1.l5)),(.bool (p.snd.inf))]),false⟩,.live ⟨true,35,0,(.row [(.slc 1 0 (q.fst.length) 13 (.of 0) false),(.u64 (q.snd.x.c0.l0)),(.u64 (q.snd.x.c0.l1)),(.u64 (q.snd.x.c0.l2)),(.u64 (q.snd.x.c0.l3)),(.u64 (q.snd.x.c0.l4)),(.u64 (q.snd.x.c0.l5)),(.u64 (q.snd.x.c1.l0)),(.u64 (q.snd.x.c1.l1)),(.u64 (q.snd.x.c1.l2)),(.u64 (q.snd.x.c1.l3)),(.u64 (q.snd.x.c1.l4)),(.u64 (q.snd.x.c1.l5)),(.u64 (q.snd.y.c0.l0)),(.u64 (q.snd.y.c0.l1)),(.u64 (q.snd.y.c0.l2)),(.u64 (q.snd.y.c0.l3)),(.u64 (q.snd.y.c0.l4)),(.u64 (q.snd.y.c0.l5)),(.u64 (q.snd.y.c1.l0)),(.u64 (q.snd.y.c1.l1)),(.u64 (q.snd.y.c1.l2)),(.u64 (q.snd.y.c1.l3)),(.u64 (q.snd.y.c1.l4)),(.u64 (q.snd.y.c1.l5)),(.bool (q.snd.inf))]),false⟩]))))))):=by kernel_rfl
theorem Qr (p q:List Pg1 × Pg2) (z:Int):letI za':=(↑p.fst.length:Int);fE (En []) oB 300 Tryz.f10 [bk Tryz.f10 0] (acC p q z) [2,3,4,5] [0,1,2,3]=(.vc (0+p.fst.length*13<=(ao RK.g1 p.fst).length/\0<13) (.br (decide (z<za')) (.vc ((0<=z/\z<za')/\0+p.fst.length*13<=(ao RK.g1 p.fst).length/\0<13/\0=0) (.vc (0+z.toNat<p.fst.length) (.vc ((0<=z/\z<(↑q.fst.length:Int))/\0+q.fst.length*13<=(ao RK.g1 q.fst).length/\0<13/\0=0) (.vc (0+z.toNat<q.fst.length) (.br (!(mL (p.fst.getD (0+z.toNat) cS) (q.fst.getD (0+z.toNat) cS))) (.leaf (.inr (some ((false,.t))))) (.leaf (.inl ((.normal,aw 38 [(2,.one (.c (.ptr 2 0))),(3,.one (.c (.ptr 3 0))),(4,.one (.c (.bool (false)))),(5,.one (.c (.int .i64 (IntKind.i64.wrap (z+1)))))] [.live ⟨false,0,13,(.rows .g1 (p.fst:List Pg1)),false⟩,.live ⟨false,0,13,(.rows .g1 (q.fst:List Pg1)),false⟩,.live ⟨true,35,0,(.row [(.slc 0 0 (p.fst.length) 13 (.of 0) false),(.u64 (p.snd.x.c0.l0)),(.u64 (p.snd.x.c0.l1)),(.u64 (p.snd.x.c0.l2)),(.u64 (p.snd.x.c0.l3)),(.u64 (p.snd.x.c0.l4)),(.u64 (p.snd.x.c0.l5)),(.u64 (p.snd.x.c1.l0)),(.u64 (p.snd.x.c1.l1)),(.u64 (p.snd.x.c1.l2)),(.u64 (p.snd.x.c1.l3)),(.u64 (p.snd.x.c1.l4)),(.u64 (p.snd.x.c1.l5)),(.u64 (p.snd.y.c0.l0)),(.u64 (p.snd.y.c0.l1)),(.u64 (p.snd.y.c0.l2)),(.u64 (p.snd.y.c0.l3)),(.u64 (p.snd.y.c0.l4)),(.u64 (p.snd.y.c0.l5)),(.u64 (p.snd.y.c1.l0)),(.u64 (p.snd.y.c1.l1)),(.u64 (p.snd.y.c1.l2)),(.u64 (p.snd.y.c1.l3)),(.u64 (p.snd.y.c1.l4)),(.u64 (p.snd.y.c1.l5)),(.bool (p.snd.inf))]),false⟩,.live ⟨true,35,0,(.row [(.slc 1 0 (q.fst.length) 13 (.of 0) false),(.u64 (q.snd.x.c0.l0)),(.u64 (q.snd.x.c0.l1)),(.u64 (q.snd.x.c0.l2)),(.u64 (q.snd.x.c0.l3)),(.u64 (q.snd.x.c0.l4)),(.u64 (q.snd.x.c0.l5)),(.u64 (q.snd.x.c1.l0)),(.u64 (q.snd.x.c1.l1)),(.u64 (q.snd.x.c1.l2)),(.u64 (q.snd.x.c1.l3)),(.u64 (q.snd.x.c1.l4)),(.u64 (q.snd.x.c1.l5)),(.u64 (q.snd.y.c0.l0)),(.u64 (q.snd.y.c0.l1)),(.u64 (q.snd.y.c0.l2)),(.u64 (q.snd.y.c0.l3)),(.u64 (q.snd.y.c0.l4)),(.u64 (q.snd.y.c0.l5)),(.u64 (q.snd.y.c1.l0)),(.u64 (q.snd.y.c1.l1)),(.u64 (q.snd.y.c1.l2)),(.u64 (q.snd.y.c1.l3)),(.u64 (q.snd.y.c1.l4)),(.u64 (q.snd.y.c1.l5)),(.bool (q.snd.inf))]),false⟩]))))))))) (.leaf (.inl ((.exit 0,aw 38 [(2,.one (.c (.ptr 2 0))),(3,.one (.c (.ptr 3 0))),(4,.one (.c (.bool (false)))),(5,.one (.c (.int .i64 (z))))] [.live ⟨false,0,13,(.rows .g1 (p.fst:List Pg1)),false⟩,.live ⟨false,0,13,(.rows .g1 (q.fst:List Pg1)),false⟩,.live ⟨true,35,0,(.row [(.slc 0 0 (p.fst.length) 13 (.of 0) false),(.u64 (p.snd.x.c0.l0)),(.u64 (p.snd.x.c0.l1)),(.u64 (p.snd.x.c0.l2)),(.u64 (p.snd.x.c0.l3)),(.u64 (p.snd.x.c0.l4)),(.u64 (p.snd.x.c0.l5)),(.u64 (p.snd.x.c1.l0)),(.u64 (p.snd.x.c1.l1)),(.u64 (p.snd.x.c1.l2)),(.u64 (p.snd.x.c1.l3)),(.u64 (p.snd.x.c1.l4)),(.u64 (p.snd.x.c1.l5)),(.u64 (p.snd.y.c0.l0)),(.u64 (p.snd.y.c0.l1)),(.u64 (p.snd.y.c0.l2)),(.u64 (p.snd.y.c0.l3)),(.u64 (p.snd.y.c0.l4)),(.u64 (p.snd.y.c0.l5)),(.u64 (p.snd.y.c1.l0)),(.u64 (p.snd.y.c1.l1)),(.u64 (p.snd.y.c1.l2)),(.u64 (p.snd.y.c1.l3)),(.u64 (p.snd.y.c1.l4)),(.u64 (p.snd.y.c1.l5)),(.bool (p.snd.inf))]),false⟩,.live ⟨true,35,0,(.row [(.slc 1 0 (q.fst.length) 13 (.of 0) false),(.u64 (q.snd.x.c0.l0)),(.u64 (q.snd.x.c0.l1)),(.u64 (q.snd.x.c0.l2)),(.u64 (q.snd.x.c0.l3)),(.u64 (q.snd.x.c0.l4)),(.u64 (q.snd.x.c0.l5)),(.u64 (q.snd.x.c1.l0)),(.u64 (q.snd.x.c1.l1)),(.u64 (q.snd.x.c1.l2)),(.u64 (q.snd.x.c1.l3)),(.u64 (q.snd.x.c1.l4)),(.u64 (q.snd.x.c1.l5)),(.u64 (q.snd.y.c0.l0)),(.u64 (q.snd.y.c0.l1)),(.u64 (q.snd.y.c0.l2)),(.u64 (q.snd.y.c0.l3)),(.u64 (q.snd.y.c0.l4)),(.u64 (q.snd.y.c0.l5)),(.u64 (q.snd.y.c1.l0)),(.u64 (q.snd.y.c1.l1)),(.u64 (q.snd.y.c1.l2)),(.u64 (q.snd.y.c1.l3)),(.u64 (q.snd.y.c1.l4)),(.u64 (q.snd.y.c1.l5)),(.bool (q.snd.inf))]),false⟩])))))):=by kernel_rfl
theorem acB (p q:List Pg1 × Pg2) (z:Int):dx (En []) oB 100 Tryz.f10 (smeC.drop 5) (acC p q z) =
 (.leaf (some ((true,.t)))):=by kernel_rfl
end
end Go.Proofs.YtcbplfkeeaecgaaGreat
