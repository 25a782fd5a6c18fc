/- Texts of the proof, joined. -/
import Derived.Test.YtbbnabednkopdaaGreatZJr5
set_option linter.unusedSimpArgs false
set_option linter.unusedVariables false
namespace Go.Proofs.YtbbnabednkopdaaGreat
open Go.RowKit
def gen1R_G  : Pg1 := ({ x := { l0 := UInt64.ofNat 18103045581585958587, l1 := UInt64.ofNat 7806400890582735599, l2 := UInt64.ofNat 11623291730934869080, l3 := UInt64.ofNat 14080658508445169925, l4 := UInt64.ofNat 2780237799254240271, l5 := UInt64.ofNat 1725392847304644500 }, y := { l0 := UInt64.ofNat 912580534683953121, l1 := UInt64.ofNat 15005087156090211044, l2 := UInt64.ofNat 61670280795567085, l3 := UInt64.ofNat 18227722000993880822, l4 := UInt64.ofNat 11573741888802228964, l5 := UInt64.ofNat 627113611842199793 }, inf := false })
def gen1R_T  : Tree (Option (Pg1)) :=
  (.leaf (some ({ x := { l0 := UInt64.ofNat 18103045581585958587, l1 := UInt64.ofNat 7806400890582735599, l2 := UInt64.ofNat 11623291730934869080, l3 := UInt64.ofNat 14080658508445169925, l4 := UInt64.ofNat 2780237799254240271, l5 := UInt64.ofNat 1725392847304644500 }, y := { l0 := UInt64.ofNat 912580534683953121, l1 := UInt64.ofNat 15005087156090211044, l2 := UInt64.ofNat 61670280795567085, l3 := UInt64.ofNat 18227722000993880822, l4 := UInt64.ofNat 11573741888802228964, l5 := UInt64.ofNat 627113611842199793 }, inf := false })))
theorem gen1R_run  : plainRun (En []) (kRow Pg1).rs 300 Tryz.f23 [] = gen1R_T  := by kernel_rfl
theorem gen1R_sat  : (gen1R_T ).sat fun q => q = some (gen1R_G ) := (show some _ = some _ from rfl)
def gen1R  : Pg1 := gen1R_G
theorem gen1R_ok : CallOk Tryz.prog 23 (K0 (kRow Pg1).rs.res gen1R) :=
  P0 (En_ok .nil) Tryz.func23 (bodied Tryz.func23 (by kernel_rfl) (by kernel_rfl)) 300  (kRow Pg1).rs gen1R (gen1R_run ) (gen1R_sat )
def gen2R_G  : Pg2 := ({ x := { c0 := { l0 := UInt64.ofNat 15312334153293348280, l1 := UInt64.ofNat 841050694974028783, l2 := UInt64.ofNat 12993178926126977399, l3 := UInt64.ofNat 14331714969349929730, l4 := UInt64.ofNat 2740446039084699729, l5 := UInt64.ofNat 165123225776229009 }, c1 := { l0 := UInt64.ofNat 16549740192668593022, l1 := UInt64.ofNat 3696594454104530263, l2 := UInt64.ofNat 13103893525273989193, l3 := UInt64.ofNat 6443473286224459290, l4 := UInt64.ofNat 9055845637167730533, l5 := UInt64.ofNat 1432192374203850592 } }, y := { c0 := { l0 := UInt64.ofNat 16254428414758889473, l1 := UInt64.ofNat 10536956157198377609, l2 := UInt64.ofNat 7873024875724591404, l3 := UInt64.ofNat 12537348094477325223, l4 := UInt64.ofNat 10144865889576432922, l5 := UInt64.ofNat 929383263523139089 }, c1 := { l0 := UInt64.ofNat 12297368366147926462, l1 := UInt64.ofNat 4555124010822409633, l2 := UInt64.ofNat 2771000935339432363, l3 := UInt64.ofNat 14645187562128761775, l4 := UInt64.ofNat 3651525051980876697, l5 := UInt64.ofNat 434250606344352972 } }, inf := false })
def gen2R_T  : Tree (Option (Pg2)) :=
  (.leaf (some ({ x := { c0 := { l0 := UInt64.ofNat 15312334153293348280, l1 := UInt64.ofNat 841050694974028783, l2 := UInt64.ofNat 12993178926126977399, l3 := UInt64.ofNat 14331714969349929730, l4 := UInt64.ofNat 2740446039084699729, l5 := UInt64.ofNat 165123225776229009 }, c1 := { l0 := UInt64.ofNat 16549740192668593022, l1 := UInt64.ofNat 3696594454104530263, l2 := UInt64.ofNat 13103893525273989193, l3 := UInt64.ofNat 6443473286224459290, l4 := UInt64.ofNat 9055845637167730533, l5 := UInt64.ofNat 1432192374203850592 } }, y := { c0 := { l0 := UInt64.ofNat 16254428414758889473, l1 := UInt64.ofNat 10536956157198377609, l2 := UInt64.ofNat 7873024875724591404, l3 := UInt64.ofNat 12537348094477325223, l4 := UInt64.ofNat 10144865889576432922, l5 := UInt64.ofNat 929383263523139089 }, c1 := { l0 := UInt64.ofNat 12297368366147926462, l1 := UInt64.ofNat 4555124010822409633, l2 := UInt64.ofNat 2771000935339432363, l3 := UInt64.ofNat 14645187562128761775, l4 := UInt64.ofNat 3651525051980876697, l5 := UInt64.ofNat 434250606344352972 } }, inf := false })))
theorem gen2R_run  : plainRun (En []) (kRow Pg2).rs 300 Tryz.f20 [] = gen2R_T  := by kernel_rfl
theorem gen2R_sat  : (gen2R_T ).sat fun q => q = some (gen2R_G ) := (show some _ = some _ from rfl)
def gen2R  : Pg2 := gen2R_G
theorem gen2R_ok : CallOk Tryz.prog 20 (K0 (kRow Pg2).rs.res gen2R) :=
  P0 (En_ok .nil) Tryz.func20 (bodied Tryz.func20 (by kernel_rfl) (by kernel_rfl)) 300  (kRow Pg2).rs gen2R (gen2R_run ) (gen2R_sat )
def oneG1 : Pg1 := gen1R
def oneG2 : Pg2 := gen2R
def mulS_G (f0 : Fp → Fp → Fp) (f1 : Fp2 → Fp2 → Fp2) (a : Fp2) (b : Fp2) (small : Bool) : Fp2 := (match (small) with | true => ({ c0 := f0 a.c0 b.c0, c1 := zeroFp }) | false => (f1 a b))
def mulS_T (f0 : Fp → Fp → Fp) (f1 : Fp2 → Fp2 → Fp2) (a : Fp2) (b : Fp2) (small : Bool) : Tree (Option (Fp2)) :=
  (.br (small)
    (.leaf (some ({ c0 := f0 a.c0 b.c0, c1 := zeroFp })))
    (.leaf (some (f1 a b))))
theorem mulS_run (f0 : Fp → Fp → Fp) (f1 : Fp2 → Fp2 → Fp2) (a : Fp2) (b : Fp2) (small : Bool) : plainRun (En [(66, Kff f0), (79, K2 (kRow Fp2).arg (kRow Fp2).arg (kRow Fp2).rs.res f1)]) (kRow Fp2).rs 300 Tryz.f129 [.one ((kRow Fp2).av a), .one ((kRow Fp2).av b), .one (kBool.av small)] = mulS_T f0 f1 a b small := by kernel_rfl
theorem mulS_sat (f0 : Fp → Fp → Fp) (f1 : Fp2 → Fp2 → Fp2) (a : Fp2) (b : Fp2) (small : Bool) : (mulS_T f0 f1 a b small).sat fun q => q = some (mulS_G f0 f1 a b small) := ⟨fun h0 => (show some _ = some _ from congrArg some (by unfold mulS_G; rw [h0])), fun h0 => (show some _ = some _ from congrArg some (by unfold mulS_G; rw [h0]))⟩
def mulS (a : Fp2) (b : Fp2) (small : Bool) : Fp2 := mulS_G mulPF mul2R a b small
theorem mulS_ok : CallOk Tryz.prog 129 (K3 (kRow Fp2).arg (kRow Fp2).arg kBool.arg (kRow Fp2).rs.res mulS) :=
  P3 (En_ok (.cons mulP_ok (.cons mul2R_ok .nil))) Tryz.func129 (bodied Tryz.func129 (by kernel_rfl) (by kernel_rfl)) 300 (kRow Fp2) (kRow Fp2) kBool (kRow Fp2).rs mulS (mulS_run mulPF mul2R) (mulS_sat mulPF mul2R)
def b3R_G (f0 : Fp2 → Fp2 → Fp2) (f1 : Fp2 → Fp2 → Fp2) (f2 : Fp2) (a : Fp2) (small : Bool) : Fp2 := (match (small) with | true => (f0 (f0 (f0 (f0 a a) (f0 a a)) (f0 (f0 a a) (f0 a a))) (f0 (f0 a a) (f0 a a))) | false => (f1 (f0 (f0 (f0 (f0 a a) (f0 a a)) (f0 (f0 a a) (f0 a a))) (f0 (f0 a a) (f0 a a))) f2))
def b3R_T (f0 : Fp2 → Fp2 → Fp2) (f1 : Fp2 → Fp2 → Fp2) (f2 : Fp2) (a : Fp2) (small : Bool) : Tree (Option (Fp2)) :=
  (.br (small)
    (.leaf (some (f0 (f0 (f0 (f0 a a) (f0 a a)) (f0 (f0 a a) (f0 a a))) (f0 (f0 a a) (f0 a a)))))
    (.leaf (some (f1 (f0 (f0 (f0 (f0 a a) (f0 a a)) (f0 (f0 a a) (f0 a a))) (f0 (f0 a a) (f0 a a))) f2))))
theorem b3R_run (f0 : Fp2 → Fp2 → Fp2) (f1 : Fp2 → Fp2 → Fp2) (f2 : Fp2) (a : Fp2) (small : Bool) : plainRun (En [(78, K2 (kRow Fp2).arg (kRow Fp2).arg (kRow Fp2).rs.res f0), (79, K2 (kRow Fp2).arg (kRow Fp2).arg (kRow Fp2).rs.res f1), (132, K0 (kRow Fp2).rs.res f2)]) (kRow Fp2).rs 300 Tryz.f131 [.one ((kRow Fp2).av a), .one (kBool.av small)] = b3R_T f0 f1 f2 a small := by kernel_rfl
theorem b3R_sat (f0 : Fp2 → Fp2 → Fp2) (f1 : Fp2 → Fp2 → Fp2) (f2 : Fp2) (a : Fp2) (small : Bool) : (b3R_T f0 f1 f2 a small).sat fun q => q = some (b3R_G f0 f1 f2 a small) := ⟨fun h0 => (show some _ = some _ from congrArg some (by unfold b3R_G; rw [h0])), fun h0 => (show some _ = some _ from congrArg some (by unfold b3R_G; rw [h0]))⟩
def b3R (a : Fp2) (small : Bool) : Fp2 := b3R_G add2R mul2R xi2R a small
theorem b3R_ok : CallOk Tryz.prog 131 (K2 (kRow Fp2).arg kBool.arg (kRow Fp2).rs.res b3R) :=
  P2 (En_ok (.cons add2R_ok (.cons mul2R_ok (.cons xi2R_ok .nil)))) Tryz.func131 (bodied Tryz.func131 (by kernel_rfl) (by kernel_rfl)) 300 (kRow Fp2) kBool (kRow Fp2).rs b3R (b3R_run add2R mul2R xi2R) (b3R_sat add2R mul2R xi2R)
def addS5_G (f0 : Fp2 → Fp2 → Bool → Fp2) (f1 : Fp2 → Fp2 → Fp2) (f2 : Fp2 → Fp2 → Fp2) (f3 : Fp2 → Bool → Fp2) (s : Fp6) (t : Fp6) (small : Bool) : Fp6 := ({ c0 := f2 (f0 (f2 (f2 (f0 (f1 s.c0 s.c1) (f1 t.c0 t.c1) small) (f0 s.c0 t.c0 small)) (f0 s.c1 t.c1 small)) (f2 (f0 s.c1 t.c1 small) (f3 (f0 s.c2 t.c2 small) small)) small) (f0 (f2 (f2 (f0 (f1 s.c1 s.c2) (f1 t.c1 t.c2) small) (f0 s.c1 t.c1 small)) (f0 s.c2 t.c2 small)) (f3 (f2 (f2 (f0 (f1 s.c0 s.c2) (f1 t.c0 t.c2) small) (f0 s.c0 t.c0 small)) (f0 s.c2 t.c2 small)) small) small), c1 := f1 (f0 (f2 (f0 s.c1 t.c1 small) (f3 (f0 s.c2 t.c2 small) small)) (f1 (f0 s.c1 t.c1 small) (f3 (f0 s.c2 t.c2 small) small)) small) (f0 (f3 (f2 (f2 (f0 (f1 s.c0 s.c2) (f1 t.c0 t.c2) small) (f0 s.c0 t.c0 small)) (f0 s.c2 t.c2 small)) small) (f1 (f1 (f0 s.c0 t.c0 small) (f0 s.c0 t.c0 small)) (f0 s.c0 t.c0 small)) small), c2 := f1 (f0 (f1 (f0 s.c1 t.c1 small) (f3 (f0 s.c2 t.c2 small) small)) (f2 (f2 (f0 (f1 s.c1 s.c2) (f1 t.c1 t.c2) small) (f0 s.c1 t.c1 small)) (f0 s.c2 t.c2 small)) small) (f0 (f1 (f1 (f0 s.c0 t.c0 small) (f0 s.c0 t.c0 small)) (f0 s.c0 t.c0 small)) (f2 (f2 (f0 (f1 s.c0 s.c1) (f1 t.c0 t.c1) small) (f0 s.c0 t.c0 small)) (f0 s.c1 t.c1 small)) small) })
def addS5_T (f0 : Fp2 → Fp2 → Bool → Fp2) (f1 : Fp2 → Fp2 → Fp2) (f2 : Fp2 → Fp2 → Fp2) (f3 : Fp2 → Bool → Fp2) (s : Fp6) (t : Fp6) (small : Bool) : Tree (Option (Fp6)) :=
  (.leaf (some ({ c0 := f2 (f0 (f2 (f2 (f0 (f1 s.c0 s.c1) (f1 t.c0 t.c1) small) (f0 s.c0 t.c0 small)) (f0 s.c1 t.c1 small)) (f2 (f0 s.c1 t.c1 small) (f3 (f0 s.c2 t.c2 small) small)) small) (f0 (f2 (f2 (f0 (f1 s.c1 s.c2) (f1 t.c1 t.c2) small) (f0 s.c1 t.c1 small)) (f0 s.c2 t.c2 small)) (f3 (f2 (f2 (f0 (f1 s.c0 s.c2) (f1 t.c0 t.c2) small) (f0 s.c0 t.c0 small)) (f0 s.c2 t.c2 small)) small) small), c1 := f1 (f0 (f2 (f0 s.c1 t.c1 small) (f3 (f0 s.c2 t.c2 small) small)) (f1 (f0 s.c1 t.c1 small) (f3 (f0 s.c2 t.c2 small) small)) small) (f0 (f3 (f2 (f2 (f0 (f1 s.c0 s.c2) (f1 t.c0 t.c2) small) (f0 s.c0 t.c0 small)) (f0 s.c2 t.c2 small)) small) (f1 (f1 (f0 s.c0 t.c0 small) (f0 s.c0 t.c0 small)) (f0 s.c0 t.c0 small)) small), c2 := f1 (f0 (f1 (f0 s.c1 t.c1 small) (f3 (f0 s.c2 t.c2 small) small)) (f2 (f2 (f0 (f1 s.c1 s.c2) (f1 t.c1 t.c2) small) (f0 s.c1 t.c1 small)) (f0 s.c2 t.c2 small)) small) (f0 (f1 (f1 (f0 s.c0 t.c0 small) (f0 s.c0 t.c0 small)) (f0 s.c0 t.c0 small)) (f2 (f2 (f0 (f1 s.c0 s.c1) (f1 t.c0 t.c1) small) (f0 s.c0 t.c0 small)) (f0 s.c1 t.c1 small)) small) })))
theorem addS5_run (f0 : Fp2 → Fp2 → Bool → Fp2) (f1 : Fp2 → Fp2 → Fp2) (f2 : Fp2 → Fp2 → Fp2) (f3 : Fp2 → Bool → Fp2) (s : Fp6) (t : Fp6) (small : Bool) : plainRun (En [(129, K3 (kRow Fp2).arg (kRow Fp2).arg kBool.arg (kRow Fp2).rs.res f0), (78, K2 (kRow Fp2).arg (kRow Fp2).arg (kRow Fp2).rs.res f1), (130, K2 (kRow Fp2).arg (kRow Fp2).arg (kRow Fp2).rs.res f2), (131, K2 (kRow Fp2).arg kBool.arg (kRow Fp2).rs.res f3)]) (kRow Fp6).rs 300 Tryz.f71 [.one ((kRow Fp6).av s), .one ((kRow Fp6).av t), .one (kBool.av small)] = addS5_T f0 f1 f2 f3 s t small := by kernel_rfl
theorem addS5_sat (f0 : Fp2 → Fp2 → Bool → Fp2) (f1 : Fp2 → Fp2 → Fp2) (f2 : Fp2 → Fp2 → Fp2) (f3 : Fp2 → Bool → Fp2) (s : Fp6) (t : Fp6) (small : Bool) : (addS5_T f0 f1 f2 f3 s t small).sat fun q => q = some (addS5_G f0 f1 f2 f3 s t small) := (show some _ = some _ from rfl)
def addS5 (s : Fp6) (t : Fp6) (small : Bool) : Fp6 := addS5_G mulS add2R sub2R b3R s t small
theorem addS5_ok : CallOk Tryz.prog 71 (K3 (kRow Fp6).arg (kRow Fp6).arg kBool.arg (kRow Fp6).rs.res addS5) :=
  P3 (En_ok (.cons mulS_ok (.cons add2R_ok (.cons sub2R_ok (.cons b3R_ok .nil))))) Tryz.func71 (bodied Tryz.func71 (by kernel_rfl) (by kernel_rfl)) 300 (kRow Fp6) (kRow Fp6) kBool (kRow Fp6).rs addS5 (addS5_run mulS add2R sub2R b3R) (addS5_sat mulS add2R sub2R b3R)
def none5_G (f0 : Fp2) : Fp6 := ({ c0 := zeroFp2, c1 := f0, c2 := zeroFp2 })
def none5_T (f0 : Fp2) : Tree (Option (Fp6)) :=
  (.leaf (some ({ c0 := zeroFp2, c1 := f0, c2 := zeroFp2 })))
theorem none5_run (f0 : Fp2) : plainRun (En [(60, K0 (kRow Fp2).rs.res f0)]) (kRow Fp6).rs 300 Tryz.f127 [] = none5_T f0 := by kernel_rfl
theorem none5_sat (f0 : Fp2) : (none5_T f0).sat fun q => q = some (none5_G f0) := (show some _ = some _ from rfl)
def none5  : Fp6 := none5_G one2R
theorem none5_ok : CallOk Tryz.prog 127 (K0 (kRow Fp6).rs.res none5) :=
  P0 (En_ok (.cons one2R_ok .nil)) Tryz.func127 (bodied Tryz.func127 (by kernel_rfl) (by kernel_rfl)) 300  (kRow Fp6).rs none5 (none5_run one2R) (none5_sat one2R)
def of1R_G (f0 : Fp6) (f1 : Fp2) (a : Pg1) : Fp6 := (match (a.inf) with | true => (f0) | false => ({ c0 := { c0 := a.x, c1 := zeroFp }, c1 := { c0 := a.y, c1 := zeroFp }, c2 := f1 }))
def of1R_T (f0 : Fp6) (f1 : Fp2) (a : Pg1) : Tree (Option (Fp6)) :=
  (.br (a.inf)
    (.leaf (some (f0)))
    (.leaf (some ({ c0 := { c0 := a.x, c1 := zeroFp }, c1 := { c0 := a.y, c1 := zeroFp }, c2 := f1 }))))
theorem of1R_run (f0 : Fp6) (f1 : Fp2) (a : Pg1) : plainRun (En [(127, K0 (kRow Fp6).rs.res f0), (60, K0 (kRow Fp2).rs.res f1)]) (kRow Fp6).rs 300 Tryz.f69 [.one ((kRow Pg1).av a)] = of1R_T f0 f1 a := by kernel_rfl
theorem of1R_sat (f0 : Fp6) (f1 : Fp2) (a : Pg1) : (of1R_T f0 f1 a).sat fun q => q = some (of1R_G f0 f1 a) := ⟨fun h0 => (show some _ = some _ from congrArg some (by unfold of1R_G; rw [h0])), fun h0 => (show some _ = some _ from congrArg some (by unfold of1R_G; rw [h0]))⟩
def of1R (a : Pg1) : Fp6 := of1R_G none5 one2R a
theorem of1R_ok : CallOk Tryz.prog 69 (K1 (kRow Pg1).arg (kRow Fp6).rs.res of1R) :=
  P1 (En_ok (.cons none5_ok (.cons one2R_ok .nil))) Tryz.func69 (bodied Tryz.func69 (by kernel_rfl) (by kernel_rfl)) 300 (kRow Pg1) (kRow Fp6).rs of1R (of1R_run none5 one2R) (of1R_sat none5 one2R)
def of2R_G (f0 : Fp6) (f1 : Fp2) (a : Pg2) : Fp6 := (match (a.inf) with | true => (f0) | false => ({ c0 := a.x, c1 := a.y, c2 := f1 }))
def of2R_T (f0 : Fp6) (f1 : Fp2) (a : Pg2) : Tree (Option (Fp6)) :=
  (.br (a.inf)
    (.leaf (some (f0)))
    (.leaf (some ({ c0 := a.x, c1 := a.y, c2 := f1 }))))
theorem of2R_run (f0 : Fp6) (f1 : Fp2) (a : Pg2) : plainRun (En [(127, K0 (kRow Fp6).rs.res f0), (60, K0 (kRow Fp2).rs.res f1)]) (kRow Fp6).rs 300 Tryz.f76 [.one ((kRow Pg2).av a)] = of2R_T f0 f1 a := by kernel_rfl
theorem of2R_sat (f0 : Fp6) (f1 : Fp2) (a : Pg2) : (of2R_T f0 f1 a).sat fun q => q = some (of2R_G f0 f1 a) := ⟨fun h0 => (show some _ = some _ from congrArg some (by unfold of2R_G; rw [h0])), fun h0 => (show some _ = some _ from congrArg some (by unfold of2R_G; rw [h0]))⟩
def of2R (a : Pg2) : Fp6 := of2R_G none5 one2R a
theorem of2R_ok : CallOk Tryz.prog 76 (K1 (kRow Pg2).arg (kRow Fp6).rs.res of2R) :=
  P1 (En_ok (.cons none5_ok (.cons one2R_ok .nil))) Tryz.func76 (bodied Tryz.func76 (by kernel_rfl) (by kernel_rfl)) 300 (kRow Pg2) (kRow Fp6).rs of2R (of2R_run none5 one2R) (of2R_sat none5 one2R)
def to1R_G (f0 : Fp → Fp × Int) (f1 : Fp → Fp → Fp) (s : Fp6) : Pg1 := (match ((f0 s.c2.c0).snd != 0) with | true => (infG1) | false => ({ x := f1 s.c0.c0 (f0 s.c2.c0).fst, y := f1 s.c1.c0 (f0 s.c2.c0).fst, inf := false }))
def to1R_T (f0 : Fp → Fp × Int) (f1 : Fp → Fp → Fp) (s : Fp6) : Tree (Option (Pg1)) :=
  (.br ((f0 s.c2.c0).snd != 0)
    (.leaf (some (infG1)))
    (.leaf (some ({ x := f1 s.c0.c0 (f0 s.c2.c0).fst, y := f1 s.c1.c0 (f0 s.c2.c0).fst, inf := false }))))
theorem to1R_run (f0 : Fp → Fp × Int) (f1 : Fp → Fp → Fp) (s : Fp6) : plainRun (En [(126, Kinv f0), (66, Kff f1)]) (kRow Pg1).rs 300 Tryz.f67 [.one ((kRow Fp6).av s)] = to1R_T f0 f1 s := by kernel_rfl
theorem to1R_sat (f0 : Fp → Fp × Int) (f1 : Fp → Fp → Fp) (s : Fp6) : (to1R_T f0 f1 s).sat fun q => q = some (to1R_G f0 f1 s) := ⟨fun h0 => (show some _ = some _ from congrArg some (by unfold to1R_G; rw [h0])), fun h0 => (show some _ = some _ from congrArg some (by unfold to1R_G; rw [h0]))⟩
def to1R (s : Fp6) : Pg1 := to1R_G invPF mulPF s
theorem to1R_ok : CallOk Tryz.prog 67 (K1 (kRow Fp6).arg (kRow Pg1).rs.res to1R) :=
  P1 (En_ok (.cons invP_ok (.cons mulP_ok .nil))) Tryz.func67 (bodied Tryz.func67 (by kernel_rfl) (by kernel_rfl)) 300 (kRow Fp6) (kRow Pg1).rs to1R (to1R_run invPF mulPF) (to1R_sat invPF mulPF)
def to2R_G (f0 : Fp2 → Fp2 × Int) (f1 : Fp2 → Fp2 → Fp2) (s : Fp6) : Pg2 := (match ((f0 s.c2).snd != 0) with | true => (infG2) | false => ({ x := f1 s.c0 (f0 s.c2).fst, y := f1 s.c1 (f0 s.c2).fst, inf := false }))
def to2R_T (f0 : Fp2 → Fp2 × Int) (f1 : Fp2 → Fp2 → Fp2) (s : Fp6) : Tree (Option (Pg2)) :=
  (.br ((f0 s.c2).snd != 0)
    (.leaf (some (infG2)))
    (.leaf (some ({ x := f1 s.c0 (f0 s.c2).fst, y := f1 s.c1 (f0 s.c2).fst, inf := false }))))
theorem to2R_run (f0 : Fp2 → Fp2 × Int) (f1 : Fp2 → Fp2 → Fp2) (s : Fp6) : plainRun (En [(133, K1 (kRow Fp2).arg ((kRow Fp2).rs2 kInt).res f0), (79, K2 (kRow Fp2).arg (kRow Fp2).arg (kRow Fp2).rs.res f1)]) (kRow Pg2).rs 300 Tryz.f75 [.one ((kRow Fp6).av s)] = to2R_T f0 f1 s := by kernel_rfl
theorem to2R_sat (f0 : Fp2 → Fp2 × Int) (f1 : Fp2 → Fp2 → Fp2) (s : Fp6) : (to2R_T f0 f1 s).sat fun q => q = some (to2R_G f0 f1 s) := ⟨fun h0 => (show some _ = some _ from congrArg some (by unfold to2R_G; rw [h0])), fun h0 => (show some _ = some _ from congrArg some (by unfold to2R_G; rw [h0]))⟩
def to2R (s : Fp6) : Pg2 := to2R_G inv2R mul2R s
theorem to2R_ok : CallOk Tryz.prog 75 (K1 (kRow Fp6).arg (kRow Pg2).rs.res to2R) :=
  P1 (En_ok (.cons inv2R_ok (.cons mul2R_ok .nil))) Tryz.func75 (bodied Tryz.func75 (by kernel_rfl) (by kernel_rfl)) 300 (kRow Fp6) (kRow Pg2).rs to2R (to2R_run inv2R mul2R) (to2R_sat inv2R mul2R)
def b2R_G (f0 : UInt64 → Fp) : Fp2 := ({ c0 := f0 (4 : UInt64), c1 := f0 (4 : UInt64) })
def b2R_T (f0 : UInt64 → Fp) : Tree (Option (Fp2)) :=
  (.leaf (some ({ c0 := f0 (4 : UInt64), c1 := f0 (4 : UInt64) })))
theorem b2R_run (f0 : UInt64 → Fp) : plainRun (En [(63, Kof f0)]) (kRow Fp2).rs 300 Tryz.f82 [] = b2R_T f0 := by kernel_rfl
theorem b2R_sat (f0 : UInt64 → Fp) : (b2R_T f0).sat fun q => q = some (b2R_G f0) := (show some _ = some _ from rfl)
def b2R  : Fp2 := b2R_G ofF
theorem b2R_ok : CallOk Tryz.prog 82 (K0 (kRow Fp2).rs.res b2R) :=
  P0 (En_ok (.cons ofP_ok .nil)) Tryz.func82 (bodied Tryz.func82 (by kernel_rfl) (by kernel_rfl)) 300  (kRow Fp2).rs b2R (b2R_run ofF) (b2R_sat ofF)
def minus1R_G (f0 : Fp → Fp) (a : Pg1) : Pg1 := (match (!(a.inf)) with | true => ({ x := a.x, y := f0 a.y, inf := a.inf }) | false => (a))
def minus1R (a : Pg1) : Pg1 := minus1R_G negPF a
def minus2R_G (f0 : Fp2 → Fp2) (a : Pg2) : Pg2 := (match (!(a.inf)) with | true => ({ x := a.x, y := f0 a.y, inf := a.inf }) | false => (a))
def minus2R (a : Pg2) : Pg2 := minus2R_G neg2R a
end Go.Proofs.YtbbnabednkopdaaGreat

set_option linter.unusedSimpArgs false
set_option linter.unusedVariables false
namespace Go.Proofs.YtbbnabednkopdaaGreat
def W64 : Nat := 18446744073709551616
def pN : Nat := 0x1a0111ea397fe69a4b1ba7b6434bacd764774b84f38512bf6730d2a0f6b0f6241eabfffeb153ffffb9feffffffffaaab
def rN : Nat := 0x1000000000000000000000000000000000000000000000000000000000000000000000000000000000000000000000000
def Fp.nat (a : Fp) : Nat := a.l0.toNat + W64 * (a.l1.toNat + W64 * (a.l2.toNat + W64 * (a.l3.toNat + W64 * (a.l4.toNat + W64 * a.l5.toNat))))
theorem Fp.nat_lt (a : Fp) : a.nat < rN := by
  have h0 := a.l0.toNat_lt
  have h1 := a.l1.toNat_lt
  have h2 := a.l2.toNat_lt
  have h3 := a.l3.toNat_lt
  have h4 := a.l4.toNat_lt
  have h5 := a.l5.toNat_lt
  unfold Fp.nat rN W64
  omega
theorem Fp.nat_inj {a b : Fp} (h : a.nat = b.nat) : a = b := by
  have h0 := a.l0.toNat_lt
  have h1 := a.l1.toNat_lt
  have h2 := a.l2.toNat_lt
  have h3 := a.l3.toNat_lt
  have h4 := a.l4.toNat_lt
  have h5 := a.l5.toNat_lt
  have k0 := b.l0.toNat_lt
  have k1 := b.l1.toNat_lt
  have k2 := b.l2.toNat_lt
  have k3 := b.l3.toNat_lt
  have k4 := b.l4.toNat_lt
  have k5 := b.l5.toNat_lt
  unfold Fp.nat W64 at h
  obtain ⟨a0, a1, a2, a3, a4, a5⟩ := a
  obtain ⟨b0, b1, b2, b3, b4, b5⟩ := b
  simp only [] at *
  have e0 : a0 = b0 := UInt64.toNat.inj (by omega)
  have e1 : a1 = b1 := UInt64.toNat.inj (by omega)
  have e2 : a2 = b2 := UInt64.toNat.inj (by omega)
  have e3 : a3 = b3 := UInt64.toNat.inj (by omega)
  have e4 : a4 = b4 := UInt64.toNat.inj (by omega)
  have e5 : a5 = b5 := UInt64.toNat.inj (by omega)
  rw [e0, e1, e2, e3, e4, e5]
theorem pLimbs_nat : pLimbs.nat = pN := by decide +kernel
theorem add_step (x y : UInt64) (c : Bool) : (addS x y c).toNat + W64 * (addC x y c).toNat = x.toNat + y.toNat + c.toNat := by
  rw [addS_nat, addC_nat]
  unfold W64
  omega
theorem subB_nat (x y : UInt64) (c : Bool) : (subB x y c).toNat = if x.toNat < y.toNat + c.toNat then 1 else 0 := by
  rw [subB_iff]
  by_cases h : x.toNat < y.toNat + c.toNat <;> simp [h]
theorem sub_step (x y : UInt64) (c : Bool) : (subS x y c).toNat + y.toNat + c.toNat = x.toNat + W64 * (subB x y c).toNat := by
  have hx := x.toNat_lt
  have hy := y.toNat_lt
  have hc : c.toNat ≤ 1 := by cases c <;> simp
  rw [subS_nat, subB_nat]
  unfold W64
  split <;> omega
theorem addT_nat (a b : Fp) : (addT a b).1.nat + rN * (addT a b).2.toNat = a.nat + b.nat := by
  unfold addT
  simp only []
  have s0 := add_step a.l0 b.l0 false
  generalize addC a.l0 b.l0 false = c0 at *
  have s1 := add_step a.l1 b.l1 c0
  generalize addC a.l1 b.l1 c0 = c1 at *
  have s2 := add_step a.l2 b.l2 c1
  generalize addC a.l2 b.l2 c1 = c2 at *
  have s3 := add_step a.l3 b.l3 c2
  generalize addC a.l3 b.l3 c2 = c3 at *
  have s4 := add_step a.l4 b.l4 c3
  generalize addC a.l4 b.l4 c3 = c4 at *
  have s5 := add_step a.l5 b.l5 c4
  generalize addC a.l5 b.l5 c4 = c5 at *
  unfold Fp.nat rN W64 at *
  simp only [Bool.toNat_false] at *
  omega
theorem subT_nat (a b : Fp) : (subT a b).1.nat + b.nat = a.nat + rN * (subT a b).2.toNat := by
  unfold subT
  simp only []
  have s0 := sub_step a.l0 b.l0 false
  generalize subB a.l0 b.l0 false = c0 at *
  have s1 := sub_step a.l1 b.l1 c0
  generalize subB a.l1 b.l1 c0 = c1 at *
  have s2 := sub_step a.l2 b.l2 c1
  generalize subB a.l2 b.l2 c1 = c2 at *
  have s3 := sub_step a.l3 b.l3 c2
  generalize subB a.l3 b.l3 c2 = c3 at *
  have s4 := sub_step a.l4 b.l4 c3
  generalize subB a.l4 b.l4 c3 = c4 at *
  have s5 := sub_step a.l5 b.l5 c4
  generalize subB a.l5 b.l5 c4 = c5 at *
  unfold Fp.nat rN W64 at *
  simp only [Bool.toNat_false] at *
  omega
theorem lessT_eq (a : Fp) : lessT a = subT a pLimbs := rfl
theorem lessF_nat (a : Fp) (o : UInt64) (ho : o.toNat ≤ 1) (h : a.nat + rN * o.toNat < 2 * pN) : (lessF a o).nat = (a.nat + rN * o.toNat) % pN := by
  have h1 := subT_nat a pLimbs
  rw [pLimbs_nat] at h1
  have h2 := (subT a pLimbs).1.nat_lt
  have h3 := a.nat_lt
  have hb : (subT a pLimbs).2.toNat ≤ 1 := by cases (subT a pLimbs).2 <;> simp
  have hd : decide (o < b2u (lessT a).2) = decide (o.toNat < (subT a pLimbs).2.toNat) := by
    rw [lessT_eq]
    refine decide_eq_decide.2 ?_
    rw [UInt64.lt_iff_toNat_lt, b2u_nat]
  unfold lessF
  rw [hd, lessT_eq]
  have hp : pN < rN := by decide +kernel
  have hp0 : 0 < pN := by decide +kernel
  by_cases hc : o.toNat < (subT a pLimbs).2.toNat
  · simp only [hc, decide_true]
    have e0 : o.toNat = 0 := by omega
    have e1 : (subT a pLimbs).2.toNat = 1 := by omega
    rw [e0] at h ⊢
    rw [e1] at h1
    rw [Nat.mod_eq_of_lt (by omega)]
    omega
  · simp only [hc, decide_false]
    have e2 : (subT a pLimbs).1.nat + pN = a.nat + rN * o.toNat := by
      rcases Nat.lt_or_ge (subT a pLimbs).2.toNat o.toNat with hl | hl
      · have e0 : o.toNat = 1 := by omega
        have e1 : (subT a pLimbs).2.toNat = 0 := by omega
        rw [e1] at h1
        rw [e0] at h ⊢
        omega
      · have e1 : (subT a pLimbs).2.toNat = o.toNat := by omega
        rw [e1] at h1
        exact h1
    rw [← e2, Nat.add_mod_right, Nat.mod_eq_of_lt (by omega)]
theorem addF_nat {a b : Fp} (ha : a.nat < pN) (hb : b.nat < pN) : (addF a b).nat = (a.nat + b.nat) % pN := by
  unfold addF
  have h := addT_nat a b
  rw [lessF_nat _ _ (by rw [b2u_nat]; cases (addT a b).2 <;> simp) (by rw [b2u_nat, h]; omega), b2u_nat, h]
theorem subF_nat {a b : Fp} (ha : a.nat < pN) (hb : b.nat < pN) : (subF a b).nat = (a.nat + pN - b.nat) % pN := by
  have h1 := subT_nat a b
  have h2 := (subT a b).1.nat_lt
  have hp : pN < rN := by decide +kernel
  have hd : decide (b2u (subT a b).2 = 0) = decide ((subT a b).2.toNat = 0) := by
    refine decide_eq_decide.2 ⟨fun h => by rw [← b2u_nat, h]; rfl, fun h => UInt64.toNat.inj (by rw [b2u_nat, h]; rfl)⟩
  unfold subF
  rw [hd]
  by_cases hc : (subT a b).2.toNat = 0
  · simp only [hc, decide_true]
    rw [hc] at h1
    rw [show a.nat + pN - b.nat = (subT a b).1.nat + pN by omega, Nat.add_mod_right, Nat.mod_eq_of_lt (by omega)]
  · simp only [hc, decide_false]
    have e1 : (subT a b).2.toNat = 1 := by cases h : (subT a b).2 <;> simp [h] at hc ⊢
    rw [e1] at h1
    have h3 := addT_nat (subT a b).1 pLimbs
    rw [pLimbs_nat] at h3
    have h4 := (addT (subT a b).1 pLimbs).1.nat_lt
    have e2 : (addT (subT a b).1 pLimbs).2.toNat = 1 := by
      cases h : (addT (subT a b).1 pLimbs).2 with
      | true => rfl
      | false => rw [h] at h3; simp only [Bool.toNat_false] at h3; omega
    rw [e2] at h3
    rw [Nat.mod_eq_of_lt (by omega)]
    omega
end Go.Proofs.YtbbnabednkopdaaGreat
set_option linter.unusedSimpArgs false
set_option linter.unusedVariables false
namespace Go.Proofs.YtbbnabednkopdaaGreat
def L7.nat (t : L7) : Nat := t.t0.toNat + W64 * (t.t1.toNat + W64 * (t.t2.toNat + W64 * (t.t3.toNat + W64 * (t.t4.toNat + W64 * (t.t5.toNat + W64 * t.t6.toNat)))))
theorem L7.nat_low (t : L7) : t.nat = t.low.nat + rN * t.t6.toNat := by
  unfold L7.nat L7.low Fp.nat rN W64
  simp only []
  omega
theorem zip0 (y t U : Nat) : y + t + W64 * U = (t + W64 * U) + y := by omega
theorem zipS {y t U T Y : Nat} (h : U = T + Y) : y + t + W64 * U = (t + W64 * T) + (y + W64 * Y) := by
  subst h
  unfold W64
  omega
theorem zipE {A d T Y t y : Nat} (h : A = T + Y) (q : d * W64 = y + t) : (A + d) * W64 = (t + W64 * T) + (y + W64 * Y) := by
  rw [h, Nat.add_mul, q, Nat.add_mul, Nat.mul_comm T, Nat.mul_comm Y]
  omega
theorem mac_w (x y t c : UInt64) : (macH x y t c).toNat * W64 + (macL x y t c).toNat = x.toNat * y.toNat + t.toNat + c.toNat := mac_nat x y t c
theorem limb_step {m d y t c R U : Nat} (q : d * W64 + m = y + t + c) (h : R = U + d) : m + W64 * R = (y + t + W64 * U) + c := by
  subst h
  unfold W64 at *
  omega
theorem low_step (t : UInt64) : (mulHi (t * pInv) pLimbs.l0 + b2u (addC (t * pInv * pLimbs.l0) t false)).toNat * W64 = (t * pInv).toNat * pLimbs.l0.toNat + t.toNat := by
  generalize hx : t * pInv = x
  have hx' : x.toNat = t.toNat * 9940570264628428797 % 18446744073709551616 := by rw [← hx, UInt64.toNat_mul]; rfl
  have hp : pLimbs.l0.toNat = 13402431016077863595 := rfl
  have ht := t.toNat_lt
  have hlt := x.toNat_lt
  rw [UInt64.toNat_add, b2u_nat, addC_nat, mulHi_nat, UInt64.toNat_mul, hp]
  simp only [Bool.toNat_false, Nat.add_zero]
  unfold W64
  have key : (x.toNat * 13402431016077863595 % 18446744073709551616 + t.toNat) % 18446744073709551616 = 0 := by
    rw [hx']
    omega
  omega
theorem roundB_nat (t0 t1 t2 t3 t4 t5 top : UInt64) (more : Bool) :
    (roundB t0 t1 t2 t3 t4 t5 top more).nat * W64 = (t0.toNat + W64 * (t1.toNat + W64 * (t2.toNat + W64 * (t3.toNat + W64 * (t4.toNat + W64 * (t5.toNat + W64 * (top.toNat + W64 * more.toNat))))))) + (t0 * pInv).toNat * pN := by
  have q0 := low_step t0
  unfold roundB
  simp only [L7.nat]
  generalize mulHi (t0 * pInv) pLimbs.l0 + b2u (addC (t0 * pInv * pLimbs.l0) t0 false) = d0 at *
  generalize t0 * pInv = x at *
  have q1 := mac_w x pLimbs.l1 t1 d0
  generalize macH x pLimbs.l1 t1 d0 = d1 at *
  have q2 := mac_w x pLimbs.l2 t2 d1
  generalize macH x pLimbs.l2 t2 d1 = d2 at *
  have q3 := mac_w x pLimbs.l3 t3 d2
  generalize macH x pLimbs.l3 t3 d2 = d3 at *
  have q4 := mac_w x pLimbs.l4 t4 d3
  generalize macH x pLimbs.l4 t4 d3 = d4 at *
  have q5 := mac_w x pLimbs.l5 t5 d4
  generalize macH x pLimbs.l5 t5 d4 = d5 at *
  have q6 := add_step top d5 false
  have q7 : (b2u more + b2u (addC top d5 false)).toNat = more.toNat + (addC top d5 false).toNat := by
    rw [UInt64.toNat_add, b2u_nat, b2u_nat]
    cases more <;> cases addC top d5 false <;> rfl
  rw [q7]
  have ep : pN = pLimbs.l0.toNat + W64 * (pLimbs.l1.toNat + W64 * (pLimbs.l2.toNat + W64 * (pLimbs.l3.toNat + W64 * (pLimbs.l4.toNat + W64 * pLimbs.l5.toNat)))) := by decide +kernel
  have exp : x.toNat * pN = x.toNat * pLimbs.l0.toNat + W64 * (x.toNat * pLimbs.l1.toNat + W64 * (x.toNat * pLimbs.l2.toNat + W64 * (x.toNat * pLimbs.l3.toNat + W64 * (x.toNat * pLimbs.l4.toNat + W64 * (x.toNat * pLimbs.l5.toNat))))) := by
    rw [ep]
    simp only [Nat.mul_add, Nat.mul_left_comm x.toNat W64]
  rw [exp]
  have s6 : (addS top d5 false).toNat + W64 * (more.toNat + (addC top d5 false).toNat) = (top.toNat + W64 * more.toNat) + d5.toNat := by
    simp only [Bool.toNat_false] at q6
    unfold W64 at *
    omega
  have s5 := limb_step q5 s6
  have s4 := limb_step q4 s5
  have s3 := limb_step q3 s4
  have s2 := limb_step q2 s3
  have s1 := limb_step q1 s2
  rw [s1]
  generalize x.toNat * pLimbs.l0.toNat = y0 at *
  generalize x.toNat * pLimbs.l1.toNat = y1 at *
  generalize x.toNat * pLimbs.l2.toNat = y2 at *
  generalize x.toNat * pLimbs.l3.toNat = y3 at *
  generalize x.toNat * pLimbs.l4.toNat = y4 at *
  generalize x.toNat * pLimbs.l5.toNat = y5 at *
  exact zipE (zipS (zipS (zipS (zipS (zip0 _ _ _))))) q0
theorem roundF_nat (a : Fp) (b : UInt64) (t : L7) : ∃ m : Nat, m < W64 ∧ (roundF a b t).nat * W64 = t.nat + a.nat * b.toNat + m * pN := by
  unfold roundF
  simp only []
  have q0 := mac_w a.l0 b t.t0 0
  generalize macH a.l0 b t.t0 0 = c0 at *
  have q1 := mac_w a.l1 b t.t1 c0
  generalize macH a.l1 b t.t1 c0 = c1 at *
  have q2 := mac_w a.l2 b t.t2 c1
  generalize macH a.l2 b t.t2 c1 = c2 at *
  have q3 := mac_w a.l3 b t.t3 c2
  generalize macH a.l3 b t.t3 c2 = c3 at *
  have q4 := mac_w a.l4 b t.t4 c3
  generalize macH a.l4 b t.t4 c3 = c4 at *
  have q5 := mac_w a.l5 b t.t5 c4
  generalize macH a.l5 b t.t5 c4 = c5 at *
  have q6 := add_step t.t6 c5 false
  refine ⟨(macL a.l0 b t.t0 0 * pInv).toNat, UInt64.toNat_lt _, ?_⟩
  rw [roundB_nat]
  refine congrArg (fun z => z + (macL a.l0 b t.t0 0 * pInv).toNat * pN) ?_
  have e : a.nat * b.toNat = a.l0.toNat * b.toNat + W64 * (a.l1.toNat * b.toNat + W64 * (a.l2.toNat * b.toNat + W64 * (a.l3.toNat * b.toNat + W64 * (a.l4.toNat * b.toNat + W64 * (a.l5.toNat * b.toNat))))) := by
    unfold Fp.nat
    simp only [Nat.add_mul, Nat.mul_assoc]
  rw [e]
  have s6 : (addS t.t6 c5 false).toNat + W64 * (addC t.t6 c5 false).toNat = t.t6.toNat + c5.toNat := by simpa using q6
  have s5 := limb_step q5 s6
  have s4 := limb_step q4 s5
  have s3 := limb_step q3 s4
  have s2 := limb_step q2 s3
  have s1 := limb_step q1 s2
  have s0 := limb_step q0 s1
  rw [s0]
  have z : (0 : UInt64).toNat = 0 := rfl
  rw [z, L7.nat]
  generalize a.l0.toNat * b.toNat = x0 at *
  generalize a.l1.toNat * b.toNat = x1 at *
  generalize a.l2.toNat * b.toNat = x2 at *
  generalize a.l3.toNat * b.toNat = x3 at *
  generalize a.l4.toNat * b.toNat = x4 at *
  generalize a.l5.toNat * b.toNat = x5 at *
  rw [Nat.add_zero]
  exact zipS (zipS (zipS (zipS (zipS (zip0 _ _ _)))))
theorem round_bound {a : Fp} {b : UInt64} {t : L7} (h : t.nat < a.nat + pN) : (roundF a b t).nat < a.nat + pN := by
  obtain ⟨m, hm, e⟩ := roundF_nat a b t
  have hb := b.toNat_lt
  have h1 : a.nat * b.toNat ≤ a.nat * (W64 - 1) := Nat.mul_le_mul_left _ (by unfold W64; omega)
  have h2 : m * pN ≤ (W64 - 1) * pN := Nat.mul_le_mul_right _ (by omega)
  have h3 : (roundF a b t).nat * W64 < (a.nat + pN) * W64 := by
    rw [e]
    unfold W64 at *
    omega
  exact Nat.lt_of_mul_lt_mul_right h3
set_option maxRecDepth 100000 in
theorem halfT_nat (a b : Fp) : ∃ k : Nat, (halfT a b).nat * rN = a.nat * b.nat + k * pN ∧ (halfT a b).nat < a.nat + pN := by
  have hp0 : 0 < pN := by decide +kernel
  obtain ⟨m0, _, e0⟩ := roundF_nat a b.l0 ⟨0, 0, 0, 0, 0, 0, 0⟩
  obtain ⟨m1, _, e1⟩ := roundF_nat a b.l1 (half1 a b)
  obtain ⟨m2, _, e2⟩ := roundF_nat a b.l2 (half2 a b)
  obtain ⟨m3, _, e3⟩ := roundF_nat a b.l3 (half3 a b)
  obtain ⟨m4, _, e4⟩ := roundF_nat a b.l4 (half4 a b)
  obtain ⟨m5, _, e5⟩ := roundF_nat a b.l5 (half5 a b)
  have z : (L7.mk 0 0 0 0 0 0 0).nat = 0 := by decide +kernel
  have b0 : (half1 a b).nat < a.nat + pN := round_bound (by rw [z]; omega)
  have b1 : (half2 a b).nat < a.nat + pN := round_bound b0
  have b2 : (half3 a b).nat < a.nat + pN := round_bound b1
  have b3 : (half4 a b).nat < a.nat + pN := round_bound b2
  have b4 : (half5 a b).nat < a.nat + pN := round_bound b3
  refine ⟨m0 + W64 * (m1 + W64 * (m2 + W64 * (m3 + W64 * (m4 + W64 * m5)))), ?_, round_bound b4⟩
  rw [z] at e0
  change (half1 a b).nat * W64 = _ at e0
  change (half2 a b).nat * W64 = _ at e1
  change (half3 a b).nat * W64 = _ at e2
  change (half4 a b).nat * W64 = _ at e3
  change (half5 a b).nat * W64 = _ at e4
  change (halfT a b).nat * W64 = _ at e5
  have er : rN = W64 * (W64 * (W64 * (W64 * (W64 * W64)))) := by decide +kernel
  have eb : a.nat * b.nat = a.nat * b.l0.toNat + W64 * (a.nat * b.l1.toNat + W64 * (a.nat * b.l2.toNat + W64 * (a.nat * b.l3.toNat + W64 * (a.nat * b.l4.toNat + W64 * (a.nat * b.l5.toNat))))) := by
    rw [show b.nat = b.l0.toNat + W64 * (b.l1.toNat + W64 * (b.l2.toNat + W64 * (b.l3.toNat + W64 * (b.l4.toNat + W64 * b.l5.toNat)))) from rfl]
    simp only [Nat.mul_add, Nat.mul_left_comm a.nat W64]
  have ek : (m0 + W64 * (m1 + W64 * (m2 + W64 * (m3 + W64 * (m4 + W64 * m5))))) * pN = m0 * pN + W64 * (m1 * pN + W64 * (m2 * pN + W64 * (m3 * pN + W64 * (m4 * pN + W64 * (m5 * pN))))) := by
    simp only [Nat.add_mul, Nat.mul_assoc]
  rw [er, eb, ek]
  have st : ∀ {t' t z R : Nat}, t' * W64 = t + z → ∀ s : Nat, t' * (W64 * s) = (t + z) * s := fun h s => by rw [← Nat.mul_assoc, h]
  rw [st (R := 0) (t := (half5 a b).nat) (z := a.nat * b.l5.toNat + m5 * pN) (by rw [e5, Nat.add_assoc])]
  rw [Nat.add_mul, st (R := 0) (t := (half4 a b).nat) (z := a.nat * b.l4.toNat + m4 * pN) (by rw [e4, Nat.add_assoc])]
  rw [Nat.add_mul _ _ (W64 * (W64 * (W64 * W64))), st (R := 0) (t := (half3 a b).nat) (z := a.nat * b.l3.toNat + m3 * pN) (by rw [e3, Nat.add_assoc])]
  rw [Nat.add_mul _ _ (W64 * (W64 * W64)), st (R := 0) (t := (half2 a b).nat) (z := a.nat * b.l2.toNat + m2 * pN) (by rw [e2, Nat.add_assoc])]
  rw [Nat.add_mul _ _ (W64 * W64), st (R := 0) (t := (half1 a b).nat) (z := a.nat * b.l1.toNat + m1 * pN) (by rw [e1, Nat.add_assoc])]
  rw [Nat.add_mul _ _ W64, e0]
  generalize a.nat * b.l0.toNat = x0
  generalize a.nat * b.l1.toNat = x1
  generalize a.nat * b.l2.toNat = x2
  generalize a.nat * b.l3.toNat = x3
  generalize a.nat * b.l4.toNat = x4
  generalize a.nat * b.l5.toNat = x5
  generalize m0 * pN = y0
  generalize m1 * pN = y1
  generalize m2 * pN = y2
  generalize m3 * pN = y3
  generalize m4 * pN = y4
  generalize m5 * pN = y5
  clear e0 e1 e2 e3 e4 e5 eb ek st
  unfold W64
  omega
theorem halfF_nat {a b : Fp} (ha : a.nat < pN) : (halfF a b).nat < pN ∧ ((halfF a b).nat * rN) % pN = (a.nat * b.nat) % pN := by
  obtain ⟨k, h1, h2⟩ := halfT_nat a b
  rw [L7.nat_low] at h1 h2
  have hlt := (halfT a b).low.nat_lt
  have hpr : 2 * pN < rN := by decide +kernel
  have hp0 : 0 < pN := by decide +kernel
  have h6 : (halfT a b).t6.toNat ≤ 1 := by
    rcases Nat.lt_or_ge (halfT a b).t6.toNat 1 with h | h
    · omega
    · have : rN * 1 ≤ rN * (halfT a b).t6.toNat := Nat.mul_le_mul_left _ h
      omega
  have h := lessF_nat (halfT a b).low (halfT a b).t6 h6 (by omega)
  have e : (halfF a b).nat = ((halfT a b).low.nat + rN * (halfT a b).t6.toNat) % pN := h
  rw [e]
  refine ⟨Nat.mod_lt _ hp0, ?_⟩
  rw [Nat.mod_mul_mod, h1, Nat.add_mul_mod_self_right]
end Go.Proofs.YtbbnabednkopdaaGreat
set_option linter.unusedSimpArgs false
set_option linter.unusedVariables false
namespace Go.Proofs.YtbbnabednkopdaaGreat
def rInv : Nat := 0x14fec701e8fb0ce9ed5e64273c4f538b1797ab1458a88de9343ea97914956dc87fe11274d898fafbf4d38259380b4820
theorem r_inv : rN * rInv % pN = 1 := by decide +kernel
theorem r_cancel {x y : Nat} (h : x * rN % pN = y * rN % pN) : x % pN = y % pN := by
  have e : ∀ z : Nat, z % pN = (z * rN % pN) * rInv % pN := by
    intro z
    rw [Nat.mod_mul_mod, Nat.mul_assoc, Nat.mul_mod, r_inv, Nat.mul_one, Nat.mod_mod]
  rw [e x, e y, h]
theorem sq_nat : sqLimbs.nat = rN * rN % pN := by decide +kernel
theorem one_nat : oneFp.nat = 1 := by decide +kernel
theorem zero_nat : zeroFp.nat = 0 := by decide +kernel
theorem pN_pos : 0 < pN := by decide +kernel
theorem wholeF_nat {a : Fp} (ha : a.nat < pN) : (wholeF a).nat = a.nat * rN % pN := by
  obtain ⟨h1, h2⟩ := halfF_nat (b := sqLimbs) ha
  have h3 : (wholeF a).nat * rN % pN = (a.nat * rN) * rN % pN := by
    rw [show (wholeF a).nat = (halfF a sqLimbs).nat from rfl, h2, sq_nat, Nat.mul_mod_mod, Nat.mul_assoc]
  rw [← r_cancel h3]
  exact (Nat.mod_eq_of_lt h1).symm
theorem lowF_nat {a : Fp} (ha : a.nat < pN) : (lowF a).nat < pN ∧ (lowF a).nat * rN % pN = a.nat := by
  obtain ⟨h1, h2⟩ := halfF_nat (b := oneFp) ha
  rw [one_nat, Nat.mul_one, Nat.mod_eq_of_lt ha] at h2
  exact ⟨h1, h2⟩
theorem mulF_nat {a b : Fp} (ha : a.nat < pN) : (mulF a b).nat = a.nat * b.nat % pN := by
  obtain ⟨h1, h2⟩ := halfF_nat (b := b) ha
  rw [show mulF a b = wholeF (halfF a b) from rfl, wholeF_nat h1, h2]
theorem mulF_lt {a b : Fp} (ha : a.nat < pN) : (mulF a b).nat < pN := by rw [mulF_nat ha]; exact Nat.mod_lt _ pN_pos
theorem addF_lt {a b : Fp} (ha : a.nat < pN) (hb : b.nat < pN) : (addF a b).nat < pN := by rw [addF_nat ha hb]; exact Nat.mod_lt _ pN_pos
theorem subF_lt {a b : Fp} (ha : a.nat < pN) (hb : b.nat < pN) : (subF a b).nat < pN := by rw [subF_nat ha hb]; exact Nat.mod_lt _ pN_pos
theorem negF_nat {a : Fp} (ha : a.nat < pN) : (negF a).nat = (pN - a.nat) % pN := by
  rw [show negF a = subF zeroFp a from rfl, subF_nat (by rw [zero_nat]; exact pN_pos) ha, zero_nat, Nat.zero_add]
def eLow (e : List UInt64) : Nat → Nat
  | 0 => 0
  | n + 1 => eLow e n + (bitAt e n).toNat * 2 ^ n
theorem powAt_nat {x : Fp} {a : Nat} (e : List UInt64) (hx : x.nat = a * rN % pN) : ∀ (n : Nat) (o : Fp) (v : Nat), o.nat = v * rN % pN →
    (powAt x e n o).nat = v ^ 2 ^ n * a ^ eLow e n % pN
  | 0, o, v, ho => by
    have hlt : o.nat < pN := by rw [ho]; exact Nat.mod_lt _ pN_pos
    obtain ⟨h1, h2⟩ := lowF_nat hlt
    have h3 := r_cancel (h2.trans ho)
    simp only [powAt, eLow, Nat.pow_zero, Nat.pow_one, Nat.mul_one]
    rw [← h3]
    exact (Nat.mod_eq_of_lt h1).symm
  | n + 1, o, v, ho => by
    have hlt : o.nat < pN := by rw [ho]; exact Nat.mod_lt _ pN_pos
    have hmul : ∀ {p q : Fp} {s t : Nat}, p.nat = s * rN % pN → q.nat = t * rN % pN → (halfF p q).nat = (s * t) * rN % pN := by
      intro p q s t hp hq
      obtain ⟨h1, h2⟩ := halfF_nat (a := p) (b := q) (by rw [hp]; exact Nat.mod_lt _ pN_pos)
      have h3 : (halfF p q).nat * rN % pN = ((s * t) * rN) * rN % pN := by
        rw [h2, hp, hq, ← Nat.mul_mod]
        refine congrArg (fun z => z % pN) ?_
        simp only [Nat.mul_assoc, Nat.mul_left_comm, Nat.mul_comm]
      have h4 := r_cancel h3
      rw [← h4]
      exact (Nat.mod_eq_of_lt h1).symm
    have h1 := hmul ho ho
    simp only [powAt]
    cases hb : bitAt e n with
    | true =>
      simp only []
      rw [powAt_nat e hx n _ _ (hmul h1 hx)]
      simp only [eLow, hb, Bool.toNat_true, Nat.one_mul]
      refine congrArg (fun z => z % pN) ?_
      rw [Nat.mul_pow, ← Nat.pow_two, ← Nat.pow_mul, show 2 ^ (n + 1) = 2 * 2 ^ n by rw [Nat.pow_succ, Nat.mul_comm], Nat.pow_add a, Nat.mul_assoc, Nat.mul_comm (a ^ 2 ^ n)]
    | false =>
      simp only []
      rw [powAt_nat e hx n _ _ h1]
      simp only [eLow, hb, Bool.toNat_false, Nat.zero_mul, Nat.add_zero]
      refine congrArg (fun z => z % pN) ?_
      rw [← Nat.pow_two, ← Nat.pow_mul, show 2 ^ (n + 1) = 2 * 2 ^ n by rw [Nat.pow_succ, Nat.mul_comm]]
theorem powF_nat {a : Fp} (ha : a.nat < pN) (e : List UInt64) : (powF a e).nat = a.nat ^ eLow e (64 * e.length) % pN := by
  unfold powF
  have h1 : (1 : Nat) < pN := by decide +kernel
  rw [powAt_nat e (wholeF_nat ha) _ _ 1 (by rw [wholeF_nat (by rw [one_nat]; exact h1), one_nat])]
  rw [Nat.one_pow, Nat.one_mul]
end Go.Proofs.YtbbnabednkopdaaGreat
set_option linter.unusedSimpArgs false
set_option linter.unusedVariables false
namespace Go.Proofs.YtbbnabednkopdaaGreat
def IsPrime (p : Nat) : Prop := 1 < p ∧ ∀ d, d ∣ p → d = 1 ∨ d = p
theorem IsPrime.pos {p : Nat} (h : IsPrime p) : 0 < p := by have := h.1; omega
theorem IsPrime.coprime {p a : Nat} (h : IsPrime p) (ha : ¬ p ∣ a) : Nat.gcd p a = 1 := by
  rcases h.2 _ (Nat.gcd_dvd_left p a) with h1 | h1
  · exact h1
  · exact absurd (h1 ▸ Nat.gcd_dvd_right p a) ha
theorem IsPrime.dvd_mul {p a b : Nat} (h : IsPrime p) (hd : p ∣ a * b) : p ∣ a ∨ p ∣ b := by
  by_cases ha : p ∣ a
  · exact .inl ha
  · exact .inr (Nat.Coprime.dvd_of_dvd_mul_left (h.coprime ha) hd)
def ch : Nat → Nat → Nat
  | _, 0 => 1
  | 0, _ + 1 => 0
  | n + 1, k + 1 => ch n k + ch n (k + 1)
theorem ch_zero (n : Nat) : ch n 0 = 1 := by cases n <;> rfl
theorem ch_big : ∀ {n k : Nat}, n < k → ch n k = 0
  | 0, k + 1, _ => rfl
  | n + 1, k + 1, h => by simp only [ch]; rw [ch_big (by omega), ch_big (by omega)]
theorem ch_self : ∀ n : Nat, ch n n = 1
  | 0 => rfl
  | n + 1 => by simp only [ch]; rw [ch_self n, ch_big (by omega)]
theorem ch_mul : ∀ n k : Nat, (k + 1) * ch (n + 1) (k + 1) = (n + 1) * ch n k
  | 0, 0 => rfl
  | 0, k + 1 => by simp [ch]
  | n + 1, 0 => by
    have h := ch_mul n 0
    simp only [ch_zero, Nat.zero_add, Nat.one_mul, Nat.mul_one] at h ⊢
    show ch (n + 1) 0 + ch (n + 1) 1 = n + 1 + 1
    rw [ch_zero, h]
    omega
  | n + 1, j + 1 => by
    have h1 := ch_mul n j
    have h2 := ch_mul n (j + 1)
    have e : ch (n + 1) (j + 1) = ch n j + ch n (j + 1) := rfl
    show (j + 1 + 1) * (ch (n + 1) (j + 1) + ch (n + 1) (j + 1 + 1)) = (n + 1 + 1) * ch (n + 1) (j + 1)
    rw [Nat.mul_add, h2, Nat.succ_mul (j + 1), h1]
    rw [Nat.succ_mul (n + 1), e, Nat.mul_add]
    omega
def bs (a n : Nat) : Nat → Nat
  | 0 => 0
  | m + 1 => bs a n m + ch n m * a ^ m
theorem bs_step (a n : Nat) : ∀ m : Nat, bs a (n + 1) (m + 1) = bs a n (m + 1) + a * bs a n m
  | 0 => by simp [bs, ch_zero]
  | m + 1 => by
    have h := bs_step a n m
    show bs a (n + 1) (m + 1) + ch (n + 1) (m + 1) * a ^ (m + 1) = bs a n (m + 1) + ch n (m + 1) * a ^ (m + 1) + a * (bs a n m + ch n m * a ^ m)
    rw [h, show ch (n + 1) (m + 1) = ch n m + ch n (m + 1) from rfl, Nat.add_mul, Nat.mul_add, Nat.pow_succ]
    have : ch n m * (a ^ m * a) = a * (ch n m * a ^ m) := by rw [← Nat.mul_assoc, Nat.mul_comm]
    omega
theorem binom (a : Nat) : ∀ n : Nat, (a + 1) ^ n = bs a n (n + 1)
  | 0 => by simp [bs, ch]
  | n + 1 => by
    rw [bs_step a n (n + 1), show bs a n (n + 1 + 1) = bs a n (n + 1) + ch n (n + 1) * a ^ (n + 1) from rfl, ch_big (Nat.lt_succ_self n), Nat.zero_mul, Nat.add_zero, ← binom a n, Nat.pow_succ, Nat.mul_add, Nat.mul_one, Nat.mul_comm a]
    omega
theorem ch_prime {p k : Nat} (h : IsPrime p) (h0 : 0 < k) (hk : k < p) : p ∣ ch p k := by
  obtain ⟨j, rfl⟩ : ∃ j, k = j + 1 := ⟨k - 1, by omega⟩
  obtain ⟨n, rfl⟩ : ∃ n, p = n + 1 := ⟨p - 1, by omega⟩
  have hd : n + 1 ∣ (j + 1) * ch (n + 1) (j + 1) := ⟨ch n j, ch_mul n j⟩
  rcases h.dvd_mul hd with h1 | h1
  · exact absurd (Nat.le_of_dvd (by omega) h1) (by omega)
  · exact h1
theorem bs_prime {p : Nat} (h : IsPrime p) (a : Nat) : ∀ m : Nat, m < p → bs a p (m + 1) % p = 1
  | 0, _ => by
    simp only [bs, ch_zero, Nat.pow_zero, Nat.mul_one, Nat.zero_add]
    exact Nat.mod_eq_of_lt h.1
  | m + 1, hm => by
    have ih := bs_prime h a m (by omega)
    obtain ⟨c, hc⟩ := ch_prime h (Nat.succ_pos m) hm
    show (bs a p (m + 1) + ch p (m + 1) * a ^ (m + 1)) % p = 1
    rw [hc, Nat.mul_assoc, Nat.add_mul_mod_self_left]
    exact ih
theorem fermat_a {p : Nat} (h : IsPrime p) : ∀ a : Nat, a ^ p % p = a % p
  | 0 => by
    have := h.pos
    rw [Nat.zero_pow this]
  | a + 1 => by
    have ih := fermat_a h a
    have hp := h.1
    obtain ⟨n, rfl⟩ : ∃ n, p = n + 1 := ⟨p - 1, by omega⟩
    rw [binom a (n + 1), show bs a (n + 1) (n + 1 + 1) = bs a (n + 1) (n + 1) + ch (n + 1) (n + 1) * a ^ (n + 1) from rfl, ch_self, Nat.one_mul, Nat.add_mod, bs_prime h a n (by omega), ih]
    rw [Nat.add_mod a 1, Nat.mod_eq_of_lt hp, Nat.add_comm]
theorem fermat {p a : Nat} (h : IsPrime p) (ha : ¬ p ∣ a) : a ^ (p - 1) % p = 1 := by
  have hp := h.1
  have h1 := fermat_a h a
  obtain ⟨n, rfl⟩ : ∃ n, p = n + 1 := ⟨p - 1, by omega⟩
  rw [Nat.add_sub_cancel]
  have h0 : 0 < a := Nat.pos_of_ne_zero (by rintro rfl; exact ha ⟨0, rfl⟩)
  have hle : a ≤ a ^ (n + 1) := Nat.le_self_pow (by omega) a
  have hd : n + 1 ∣ a ^ (n + 1) - a := Nat.dvd_of_mod_eq_zero (Nat.sub_mod_eq_zero_of_mod_eq h1)
  have h2 : 1 ≤ a ^ n := Nat.one_le_pow _ _ h0
  have e : a ^ (n + 1) - a = a * (a ^ n - 1) := by rw [Nat.pow_succ, Nat.mul_sub, Nat.mul_one, Nat.mul_comm]
  rw [e] at hd
  rcases h.dvd_mul hd with h3 | h3
  · exact absurd h3 ha
  · obtain ⟨c, hc⟩ := h3
    rw [show a ^ n = (n + 1) * c + 1 by omega, Nat.mul_add_mod]
    exact Nat.mod_eq_of_lt hp
theorem exists_prime_dvd : ∀ n : Nat, 1 < n → ∃ p, IsPrime p ∧ p ∣ n := by
  intro n
  induction n using Nat.strongRecOn with
  | ind n ih =>
    intro hn
    by_cases h : IsPrime n
    · exact ⟨n, h, Nat.dvd_refl n⟩
    · have : ∃ d, d ∣ n ∧ d ≠ 1 ∧ d ≠ n := by
        apply Classical.byContradiction
        intro hc
        refine h ⟨hn, fun d hd => ?_⟩
        by_cases h1 : d = 1
        · exact .inl h1
        · by_cases h2 : d = n
          · exact .inr h2
          · exact absurd ⟨d, hd, h1, h2⟩ hc
      obtain ⟨d, hd, h1, h2⟩ := this
      have hdn := Nat.le_of_dvd (by omega) hd
      have hd0 : d ≠ 0 := by
        rintro rfl
        have := Nat.eq_zero_of_zero_dvd hd
        omega
      obtain ⟨p, hp, hpd⟩ := ih d (by omega) (by omega)
      exact ⟨p, hp, Nat.dvd_trans hpd hd⟩
theorem pow_gcd {d b : Nat} (hd : 1 < d) : ∀ m n : Nat, b ^ m % d = 1 → b ^ n % d = 1 → b ^ Nat.gcd m n % d = 1 := by
  intro m n
  induction m, n using Nat.gcd.induction with
  | H0 n => intro _ h; rw [Nat.gcd_zero_left]; exact h
  | H1 m n hm ih =>
    intro h1 h2
    rw [Nat.gcd_rec]
    refine ih ?_ h1
    have e : b ^ n % d = (b ^ m) ^ (n / m) * b ^ (n % m) % d := by rw [← Nat.pow_mul, ← Nat.pow_add, Nat.div_add_mod]
    rw [h2, Nat.mul_mod, Nat.pow_mod, h1, Nat.one_pow, Nat.mod_eq_of_lt hd, Nat.one_mul, Nat.mod_mod] at e
    exact e.symm
theorem pock_key {n q r a : Nat} (hn : n = q * r + 1) (hq : IsPrime q) (hr : 0 < r) (h1 : a ^ (q * r) % n = 1) (h2 : Nat.gcd (a ^ r % n + (n - 1)) n = 1) {d : Nat} (hd : IsPrime d) (hdn : d ∣ n) : q ∣ d - 1 := by
  have hq1 := hq.1
  have hn1 : 1 < n := by
    have : 0 < q * r := Nat.mul_pos (by omega) hr
    omega
  have hd1 := hd.1
  have hb : (a ^ r) ^ q % d = 1 := by
    rw [← Nat.pow_mul, Nat.mul_comm r q]
    have : a ^ (q * r) % n % d = a ^ (q * r) % d := Nat.mod_mod_of_dvd _ hdn
    rw [← this, h1, Nat.mod_eq_of_lt hd1]
  have hnd : ¬ d ∣ a ^ r := by
    intro h
    obtain ⟨c, hc⟩ := h
    rw [hc, Nat.mul_pow, Nat.mul_mod] at hb
    have : d ^ q % d = 0 := by
      obtain ⟨k, rfl⟩ : ∃ k, q = k + 1 := ⟨q - 1, by omega⟩
      rw [Nat.pow_succ, Nat.mul_mod_left]
    rw [this] at hb
    simp at hb
  have hf := fermat hd hnd
  have hne : a ^ r % d ≠ 1 := by
    intro h
    have hdd : d ∣ a ^ r % n + (n - 1) := by
      have e : (a ^ r % n) % d = 1 := by rw [Nat.mod_mod_of_dvd _ hdn]; exact h
      have e2 : (a ^ r % n + (n - 1) + 1) % d = 1 := by
        rw [show a ^ r % n + (n - 1) + 1 = a ^ r % n + n by omega, Nat.add_mod, e]
        obtain ⟨c, hc⟩ := hdn
        rw [hc, Nat.mul_mod_right, Nat.add_zero, Nat.mod_eq_of_lt hd1]
      have e3 := Nat.sub_mod_eq_zero_of_mod_eq (e2.trans (Nat.mod_eq_of_lt hd1).symm)
      rw [Nat.add_sub_cancel] at e3
      exact Nat.dvd_of_mod_eq_zero e3
    have := Nat.dvd_gcd hdd hdn
    rw [h2] at this
    have := Nat.le_of_dvd (by omega) this
    omega
  apply Classical.byContradiction
  intro hc
  have hg := hq.coprime hc
  have := pow_gcd hd1 q (d - 1) hb hf
  rw [hg, Nat.pow_one] at this
  exact hne this
theorem pocklington {n q r a K : Nat} (hn : n = q * r + 1) (hq : IsPrime q) (hr : 0 < r) (hK : ∀ k, k < K → ¬ (q * (k + 1) + 1) ∣ n) (hqq : n < (q * (K + 1) + 1) * (q * (K + 1) + 1)) (h1 : a ^ (q * r) % n = 1) (h2 : Nat.gcd (a ^ r % n + (n - 1)) n = 1) : IsPrime n := by
  have hq1 := hq.1
  have hn1 : 1 < n := by
    have : 0 < q * r := Nat.mul_pos (by omega) hr
    omega
  refine ⟨hn1, fun x hx => ?_⟩
  have key : ∀ d, IsPrime d → d ∣ n → q * (K + 1) + 1 ≤ d := by
    intro d hd hdn
    obtain ⟨c, hc⟩ := pock_key hn hq hr h1 h2 hd hdn
    have hd1 := hd.1
    have hdc : d = q * c + 1 := by omega
    rcases Nat.lt_or_ge K c with h | h
    · have := Nat.mul_le_mul_left q (show K + 1 ≤ c from h)
      omega
    · have hc0 : c ≠ 0 := by rintro rfl; omega
      obtain ⟨k, rfl⟩ : ∃ k, c = k + 1 := ⟨c - 1, by omega⟩
      exact absurd (hdc ▸ hdn) (hK k (by omega))
  by_cases hx1 : x = 1
  · exact .inl hx1
  · right
    obtain ⟨y, hy⟩ := hx
    have hx0 : x ≠ 0 := by rintro rfl; omega
    by_cases hy1 : y = 1
    · subst hy1; omega
    · have hy0 : y ≠ 0 := by rintro rfl; omega
      obtain ⟨d, hd, hdx⟩ := exists_prime_dvd x (by omega)
      obtain ⟨e, he, hey⟩ := exists_prime_dvd y (by omega)
      have k1 := key d hd (Nat.dvd_trans hdx ⟨y, hy⟩)
      have k2 := key e he (Nat.dvd_trans hey ⟨x, by rw [hy, Nat.mul_comm]⟩)
      have l1 := Nat.le_of_dvd (by omega) hdx
      have l2 := Nat.le_of_dvd (by omega) hey
      have := Nat.mul_le_mul (show q * (K + 1) + 1 ≤ x by omega) (show q * (K + 1) + 1 ≤ y by omega)
      omega
end Go.Proofs.YtbbnabednkopdaaGreat
set_option linter.unusedSimpArgs false
set_option linter.unusedVariables false
namespace Go.Proofs.YtbbnabednkopdaaGreat
def mpow : Nat → Nat → Nat → Nat → Nat
  | 0, _, _, n => 1 % n
  | k + 1, a, e, n => match Nat.beq e 0 with
    | true => 1 % n
    | false => match Nat.beq (e % 2) 1 with
      | true => a * mpow k (a * a % n) (e / 2) n % n
      | false => mpow k (a * a % n) (e / 2) n
theorem mpow_eq (n : Nat) : ∀ (k a e : Nat), e < 2 ^ k → mpow k a e n = a ^ e % n
  | 0, a, e, h => by
    obtain rfl : e = 0 := by simpa using h
    rfl
  | k + 1, a, e, h => by
    unfold mpow
    cases h0 : Nat.beq e 0 with
    | true =>
      have := Nat.eq_of_beq_eq_true h0
      subst this
      rfl
    | false =>
      have hlt : e / 2 < 2 ^ k := by rw [Nat.pow_succ] at h; omega
      have ih := mpow_eq n k (a * a % n) (e / 2) hlt
      have e1 : (a * a % n) ^ (e / 2) % n = a ^ (2 * (e / 2)) % n := by rw [← Nat.pow_mod, ← Nat.pow_two, ← Nat.pow_mul]
      cases h1 : Nat.beq (e % 2) 1 with
      | true =>
        have h1 := Nat.eq_of_beq_eq_true h1
        simp only []
        rw [ih, e1, Nat.mul_mod_mod]
        refine congrArg (fun z => z % n) ?_
        rw [show a ^ e = a ^ (2 * (e / 2) + 1) by congr 1; omega, Nat.pow_succ, Nat.mul_comm]
      | false =>
        have h1 := Nat.ne_of_beq_eq_false h1
        simp only []
        rw [ih, e1]
        refine congrArg (fun z => a ^ z % n) ?_
        omega
theorem pock {n q r a k : Nat} (K : Nat) (hn : n = q * r + 1) (hq : IsPrime q) (hr : 0 < r) (hK : ∀ k, k < K → ¬ (q * (k + 1) + 1) ∣ n) (hqq : n < (q * (K + 1) + 1) * (q * (K + 1) + 1)) (hk : q * r < 2 ^ k) (h1 : mpow k a (q * r) n = 1) (h2 : Nat.gcd (mpow k a r n + (n - 1)) n = 1) : IsPrime n := by
  have hrq : r < 2 ^ k := Nat.lt_of_le_of_lt (Nat.le_mul_of_pos_left r (by have := hq.1; omega)) hk
  rw [mpow_eq n k a _ hk] at h1
  rw [mpow_eq n k a _ hrq] at h2
  exact pocklington hn hq hr hK hqq h1 h2
def noDiv (n : Nat) : Nat → Nat → Bool
  | 0, _ => true
  | k + 1, d => match Nat.beq (n % d) 0 with
    | true => false
    | false => noDiv n k (d + 1)
theorem noDiv_spec {n : Nat} : ∀ {k d : Nat}, noDiv n k d = true → ∀ x, d ≤ x → x < d + k → ¬ x ∣ n
  | 0, d, _, x, h1, h2 => by omega
  | k + 1, d, h, x, h1, h2 => by
    simp only [noDiv] at h
    split at h
    · cases h
    · rename_i hb
      have hb := Nat.ne_of_beq_eq_false hb
      rcases Nat.lt_or_ge d x with hlt | hge
      · exact noDiv_spec h x hlt (by omega)
      · obtain rfl : x = d := by omega
        exact fun hd => hb (Nat.mod_eq_zero_of_dvd hd)
theorem prime_of_noDiv {n k : Nat} (hn : 1 < n) (h : noDiv n k 2 = true) (hk : n < (k + 2) * (k + 2)) : IsPrime n := by
  refine ⟨hn, fun d hd => ?_⟩
  obtain ⟨y, hy⟩ := hd
  have hd0 : d ≠ 0 := by rintro rfl; omega
  have hy0 : y ≠ 0 := by rintro rfl; omega
  by_cases h1 : d = 1
  · exact .inl h1
  · right
    by_cases h2 : y = 1
    · subst h2; omega
    · have k1 : k + 2 ≤ d := by
        rcases Nat.lt_or_ge d (2 + k) with hl | hl
        · exact absurd ⟨y, hy⟩ (noDiv_spec h d (by omega) hl)
        · omega
      have k2 : k + 2 ≤ y := by
        rcases Nat.lt_or_ge y (2 + k) with hl | hl
        · exact absurd ⟨d, by rw [hy, Nat.mul_comm]⟩ (noDiv_spec h y (by omega) hl)
        · omega
      have := Nat.mul_le_mul k1 k2
      omega
theorem prime_u : IsPrime 421987 := prime_of_noDiv (k := 700) (by decide) (by decide +kernel) (by decide)
theorem prime_t : IsPrime 13090036741 := pock 0 (q := 421987) (r := 31020) (a := 2) (k := 34) (by decide) prime_u (by decide) (fun k h => absurd h (by omega)) (by decide) (by decide) (by decide +kernel) (by decide +kernel)
theorem prime_s : IsPrime 3819663927398918131021 := pock 4 (q := 13090036741) (r := 291799328220) (a := 2) (k := 72) (by decide) prime_t (by decide) (by decide +kernel) (by decide +kernel) (by decide +kernel) (by decide +kernel) (by decide +kernel)
theorem prime_r : IsPrime 1125266252156850182658904441386709967 := pock 0 (q := 3819663927398918131021) (r := 294598235223046) (a := 2) (k := 120) (by decide +kernel) prime_s (by decide) (fun k h => absurd h (by omega)) (by decide +kernel) (by decide +kernel) (by decide +kernel) (by decide +kernel)
theorem prime_q : IsPrime 15778400344354997994418419698270088123916926905054652752758194827714659 := pock 0 (q := 1125266252156850182658904441386709967) (r := 14021926201120671579994175730661374) (a := 2) (k := 234) (by decide +kernel) prime_r (by decide +kernel) (fun k h => absurd h (by omega)) (by decide +kernel) (by decide +kernel) (by decide +kernel) (by decide +kernel)
theorem prime_p : IsPrime pN := pock 0 (q := 15778400344354997994418419698270088123916926905054652752758194827714659) (r := 253663835868735594330404923636534084567099854) (a := 2) (k := 381) (by decide +kernel) prime_q (by decide +kernel) (fun k h => absurd h (by omega)) (by decide +kernel) (by decide +kernel) (by decide +kernel) (by decide +kernel)
end Go.Proofs.YtbbnabednkopdaaGreat
set_option linter.unusedSimpArgs false
set_option linter.unusedVariables false
namespace Go.Proofs.YtbbnabednkopdaaGreat
def valAt (xs : List UInt64) : Nat → Nat
  | 0 => 0
  | n + 1 => valAt xs n + (atF xs n).toNat * W64 ^ n
theorem valAt_lt (xs : List UInt64) : ∀ n, valAt xs n < W64 ^ n
  | 0 => by simp [valAt]
  | n + 1 => by
    have ih := valAt_lt xs n
    have h := (atF xs n).toNat_lt
    have h1 : (atF xs n).toNat * W64 ^ n ≤ (W64 - 1) * W64 ^ n := Nat.mul_le_mul_right _ (by unfold W64; omega)
    have h2 : W64 ^ (n + 1) = (W64 - 1) * W64 ^ n + W64 ^ n := by
      rw [Nat.pow_succ, Nat.mul_comm, Nat.sub_mul, Nat.one_mul]
      have : W64 ^ n ≤ W64 * W64 ^ n := Nat.le_mul_of_pos_left _ (by unfold W64; omega)
      omega
    simp only [valAt]
    omega
theorem val_step {x y p q : Nat} {w a b : Nat} (hp : p < w) (hq : q < w) : a < b → p + a * w < q + b * w := by
  intro h
  have : (a + 1) * w ≤ b * w := Nat.mul_le_mul_right _ h
  rw [Nat.add_mul, Nat.one_mul] at this
  omega
theorem cmpAt_val (xs ys : List UInt64) : ∀ n, cmpAt xs ys n = if valAt xs n < valAt ys n then -1 else if valAt xs n > valAt ys n then 1 else 0
  | 0 => by simp [cmpAt, valAt]
  | n + 1 => by
    have ih := cmpAt_val xs ys n
    have h1 := valAt_lt xs n
    have h2 := valAt_lt ys n
    have e1 : valAt xs (n + 1) = valAt xs n + (atF xs n).toNat * W64 ^ n := rfl
    have e2 : valAt ys (n + 1) = valAt ys n + (atF ys n).toNat * W64 ^ n := rfl
    rw [e1, e2]
    show (if atF xs n < atF ys n then -1 else if atF xs n > atF ys n then 1 else cmpAt xs ys n) = _
    by_cases ha : atF xs n < atF ys n
    · have := UInt64.lt_iff_toNat_lt.1 ha
      have := val_step (x := 0) (y := 0) h1 h2 this
      rw [if_pos ha, if_pos this]
    · rw [if_neg ha]
      by_cases hb : atF xs n > atF ys n
      · have := UInt64.lt_iff_toNat_lt.1 hb
        have := val_step (x := 0) (y := 0) h2 h1 this
        rw [if_pos hb, if_neg (by omega), if_pos this]
      · rw [if_neg hb, ih]
        have e : (atF xs n).toNat = (atF ys n).toNat := by
          have h3 := mt UInt64.lt_iff_toNat_lt.2 ha
          have h4 := mt UInt64.lt_iff_toNat_lt.2 hb
          omega
        rw [e]
        simp only [Nat.add_lt_add_iff_right, gt_iff_lt]
theorem list_val (a : Fp) : valAt a.list 6 = a.nat := by
  simp only [valAt, atF, Fp.list, Fp.nat, List.getD_eq_getElem?_getD, List.getElem?_cons_zero, List.getElem?_cons_succ, Option.getD_some]
  generalize a.l0.toNat = x0
  generalize a.l1.toNat = x1
  generalize a.l2.toNat = x2
  generalize a.l3.toNat = x3
  generalize a.l4.toNat = x4
  generalize a.l5.toNat = x5
  simp only [Nat.pow_succ, Nat.pow_zero, Nat.one_mul, Nat.mul_one, Nat.mul_add, Nat.mul_assoc, Nat.mul_comm, Nat.mul_left_comm, Nat.zero_add]
  omega
theorem cmp_nat (a b : Fp) : cmpF a.list b.list = if a.nat < b.nat then -1 else if a.nat > b.nat then 1 else 0 := by
  have h : cmpF a.list b.list = cmpAt a.list b.list 6 := by
    unfold cmpF maxI
    rfl
  rw [h, cmpAt_val, list_val, list_val]
theorem mayF_nat (a : Fp) : mayF a = decide (a.nat < pN) := by
  unfold mayF
  rw [cmp_nat, pLimbs_nat]
  refine decide_eq_decide.2 ?_
  split
  · rename_i h; simp [h]
  · rename_i h
    simp only [h, iff_false]
    split <;> omega
def hN : Nat := pN / 2
theorem halved_nat : (halvedF pLimbs).nat = hN := by decide +kernel
theorem greatF_nat (a : Fp) : greatF a = decide (hN < a.nat) := by
  unfold greatF
  rw [cmp_nat, halved_nat]
  refine decide_eq_decide.2 ?_
  split
  · rename_i h; constructor <;> intro h' <;> omega
  · split
    · rename_i h h2; constructor <;> intro h' <;> omega
    · rename_i h h2; constructor <;> intro h' <;> omega
theorem u64_ne {x y : UInt64} : (x != y) = true ↔ x.toNat ≠ y.toNat := by
  simp only [bne_iff_ne, ne_eq]
  exact ⟨fun h e => h (UInt64.toNat.inj e), fun h e => h (by rw [e])⟩
theorem belowF_nat (a m : Fp) : belowF a m = decide (a.nat < m.nat) := by
  have h0 := a.l0.toNat_lt
  have h1 := a.l1.toNat_lt
  have h2 := a.l2.toNat_lt
  have h3 := a.l3.toNat_lt
  have h4 := a.l4.toNat_lt
  have k0 := m.l0.toNat_lt
  have k1 := m.l1.toNat_lt
  have k2 := m.l2.toNat_lt
  have k3 := m.l3.toNat_lt
  have k4 := m.l4.toNat_lt
  have same : ∀ {x y : UInt64}, (x != y) = false → x.toNat = y.toNat := fun h => by
    simp only [bne_eq_false_iff_eq] at h
    rw [h]
  unfold belowF
  cases e5 : a.l5 != m.l5 with
  | true =>
    have := u64_ne.1 e5
    refine decide_eq_decide.2 ?_
    rw [UInt64.lt_iff_toNat_lt]
    unfold Fp.nat W64
    omega
  | false =>
    have e5 := same e5
    simp only []
    cases e4 : a.l4 != m.l4 with
    | true =>
      have := u64_ne.1 e4
      refine decide_eq_decide.2 ?_
      rw [UInt64.lt_iff_toNat_lt]
      unfold Fp.nat W64
      omega
    | false =>
      have e4 := same e4
      simp only []
      cases e3 : a.l3 != m.l3 with
      | true =>
        have := u64_ne.1 e3
        refine decide_eq_decide.2 ?_
        rw [UInt64.lt_iff_toNat_lt]
        unfold Fp.nat W64
        omega
      | false =>
        have e3 := same e3
        simp only []
        cases e2 : a.l2 != m.l2 with
        | true =>
          have := u64_ne.1 e2
          refine decide_eq_decide.2 ?_
          rw [UInt64.lt_iff_toNat_lt]
          unfold Fp.nat W64
          omega
        | false =>
          have e2 := same e2
          simp only []
          cases e1 : a.l1 != m.l1 with
          | true =>
            have := u64_ne.1 e1
            refine decide_eq_decide.2 ?_
            rw [UInt64.lt_iff_toNat_lt]
            unfold Fp.nat W64
            omega
          | false =>
            have e1 := same e1
            simp only []
            cases e0 : a.l0 != m.l0 with
            | true =>
              have := u64_ne.1 e0
              refine decide_eq_decide.2 ?_
              rw [UInt64.lt_iff_toNat_lt]
              unfold Fp.nat W64
              omega
            | false =>
              have e0 := same e0
              refine (decide_eq_false ?_).symm
              unfold Fp.nat W64
              omega
theorem mayPF_nat (a : Fp) : mayPF a = decide (a.nat < pN) := by
  rw [show mayPF a = belowF a pLimbs from rfl, belowF_nat, pLimbs_nat]
theorem fpEq_nat (a b : Fp) : fpEq a b = decide (a.nat = b.nat) := by
  by_cases h : a = b
  · subst h; rw [(fpEq_iff a a).2 rfl]; simp
  · have h1 : fpEq a b = false := by
      cases e : fpEq a b with
      | true => exact absurd ((fpEq_iff a b).1 e) h
      | false => rfl
    rw [h1]
    exact (decide_eq_false fun e => h (Fp.nat_inj e)).symm
end Go.Proofs.YtbbnabednkopdaaGreat
set_option linter.unusedSimpArgs false
set_option linter.unusedVariables false
namespace Go.Proofs.YtbbnabednkopdaaGreat
theorem of_nat (n : UInt64) : (ofF n).nat = n.toNat := by
  unfold ofF Fp.nat
  simp only [show (0 : UInt64).toNat = 0 from rfl, Nat.mul_zero, Nat.add_zero]
theorem invE : eLow [pLimbs.l0 - 2, pLimbs.l1, pLimbs.l2, pLimbs.l3, pLimbs.l4, pLimbs.l5] (64 * 6) = pN - 2 := by decide +kernel
theorem not_dvd {a : Nat} (h : a < pN) (h0 : a ≠ 0) : ¬ pN ∣ a := fun hd => absurd (Nat.le_of_dvd (by omega) hd) (by omega)
theorem two_lt : 2 < pN := by decide +kernel
theorem inv_law {x : Fp} (hx : x.nat < pN) : (x.nat = 0 → (invF x).2 = 7) ∧ (x.nat ≠ 0 → (invF x).2 = 0 ∧ (invF x).1.nat < pN ∧ x.nat * (invF x).1.nat % pN = 1) := by
  unfold invF
  rw [fpEq_nat, zero_nat]
  refine ⟨fun h => ?_, fun h => ?_⟩
  · rw [decide_eq_true h]
  · rw [decide_eq_false h]
    simp only []
    have e : (powF x [pLimbs.l0 - 2, pLimbs.l1, pLimbs.l2, pLimbs.l3, pLimbs.l4, pLimbs.l5]).nat = x.nat ^ (pN - 2) % pN := by
      rw [powF_nat hx, show 64 * [pLimbs.l0 - 2, pLimbs.l1, pLimbs.l2, pLimbs.l3, pLimbs.l4, pLimbs.l5].length = 64 * 6 from rfl, invE]
    refine ⟨trivial, by rw [e]; exact Nat.mod_lt _ pN_pos, ?_⟩
    rw [e, Nat.mul_mod_mod]
    have h2 := two_lt
    have : x.nat * x.nat ^ (pN - 2) = x.nat ^ (pN - 1) := by rw [show pN - 1 = (pN - 2) + 1 by omega, Nat.pow_succ, Nat.mul_comm]
    rw [this]
    exact fermat prime_p (not_dvd hx h)
end Go.Proofs.YtbbnabednkopdaaGreat

set_option linter.unusedSimpArgs false
set_option linter.unusedVariables false
namespace Go.Proofs.YtbbnabednkopdaaGreat
instance : NeZero pN := ⟨by decide +kernel⟩
def V1 : Type := Fin pN
def V1.of (n : Nat) : V1 := Fin.ofNat pN n
def V1.nat (a : V1) : Nat := Fin.val a
theorem V1.nat_lt (a : V1) : a.nat < pN := Fin.isLt a
theorem V1.nat_of (n : Nat) : (V1.of n).nat = n % pN := rfl
theorem V1.ext {a b : V1} (h : a.nat = b.nat) : a = b := Fin.eq_of_val_eq h
theorem V1.of_nat (a : V1) : V1.of a.nat = a := V1.ext (by rw [V1.nat_of, Nat.mod_eq_of_lt a.nat_lt])
def V1.add (a b : V1) : V1 := V1.of (a.nat + b.nat)
def V1.mul (a b : V1) : V1 := V1.of (a.nat * b.nat)
def V1.neg (a : V1) : V1 := V1.of (pN - a.nat)
def V1.sub (a b : V1) : V1 := V1.of (a.nat + (pN - b.nat))
def V1.inv (a : V1) : V1 := V1.of (mpow 381 a.nat (pN - 2) pN)
theorem one_lt_p : 1 < pN := by decide +kernel
theorem V1.one_mod : 1 % pN = 1 := Nat.mod_eq_of_lt one_lt_p
instance : CR V1 where
  add := V1.add
  mul := V1.mul
  neg := V1.neg
  sub := V1.sub
  z := V1.of 0
  o := V1.of 1
  add_zero := fun a => V1.ext (by show (a.nat + 0 % pN) % pN = a.nat; rw [Nat.zero_mod, Nat.add_zero, Nat.mod_eq_of_lt a.nat_lt])
  add_comm := fun a b => V1.ext (by show (a.nat + b.nat) % pN = (b.nat + a.nat) % pN; rw [Nat.add_comm])
  add_assoc := fun a b c => V1.ext (by show ((a.nat + b.nat) % pN + c.nat) % pN = (a.nat + (b.nat + c.nat) % pN) % pN; rw [Nat.mod_add_mod, Nat.add_mod_mod, Nat.add_assoc])
  mul_assoc := fun a b c => V1.ext (by show ((a.nat * b.nat) % pN * c.nat) % pN = (a.nat * ((b.nat * c.nat) % pN)) % pN; rw [Nat.mod_mul_mod, Nat.mul_mod_mod, Nat.mul_assoc])
  mul_comm := fun a b => V1.ext (by show (a.nat * b.nat) % pN = (b.nat * a.nat) % pN; rw [Nat.mul_comm])
  mul_one := fun a => V1.ext (by show (a.nat * (1 % pN)) % pN = a.nat; rw [V1.one_mod, Nat.mul_one, Nat.mod_eq_of_lt a.nat_lt])
  dist := fun a b c => V1.ext (by
    show (a.nat * ((b.nat + c.nat) % pN)) % pN = ((a.nat * b.nat) % pN + (a.nat * c.nat) % pN) % pN
    rw [Nat.mul_mod_mod, ← Nat.add_mod, Nat.mul_add])
  neg_add := fun a => V1.ext (by
    show ((pN - a.nat) % pN + a.nat) % pN = 0 % pN
    rw [Nat.mod_add_mod, Nat.sub_add_cancel (Nat.le_of_lt a.nat_lt), Nat.mod_self, Nat.zero_mod])
  sub_eq := fun a b => V1.ext (by
    show (a.nat + (pN - b.nat)) % pN = (a.nat + (pN - b.nat) % pN) % pN
    rw [Nat.add_mod_mod])
theorem V1.nat_add (a b : V1) : (a + b).nat = (a.nat + b.nat) % pN := rfl
theorem V1.nat_mul (a b : V1) : (a * b).nat = (a.nat * b.nat) % pN := rfl
theorem V1.nat_zero : (0 : V1).nat = 0 := Nat.zero_mod _
theorem V1.nat_one : (1 : V1).nat = 1 := V1.one_mod
theorem V1.nat_pow (a : V1) : ∀ n : Nat, (a ^ n).nat = a.nat ^ n % pN
  | 0 => rfl
  | n + 1 => by rw [pow_succ', V1.nat_mul, V1.nat_pow a n, Nat.mod_mul_mod, Nat.pow_succ]
theorem V1.ne_zero {a : V1} (h : a ≠ 0) : a.nat ≠ 0 := fun e => h (V1.ext (by rw [e, V1.nat_zero]))
theorem V1.fermat {a : V1} (h : a ≠ 0) : a ^ (pN - 1) = 1 := V1.ext (by
  rw [V1.nat_pow, V1.nat_one]
  exact Go.Proofs.YtbbnabednkopdaaGreat.fermat prime_p (not_dvd a.nat_lt (V1.ne_zero h)))
theorem V1.inv_eq (a : V1) : V1.inv a = a ^ (pN - 2) := V1.ext (by
  show mpow 381 a.nat (pN - 2) pN % pN = _
  rw [mpow_eq pN 381 _ _ (by decide +kernel), V1.nat_pow, Nat.mod_mod])
instance : Fld V1 where
  inv := V1.inv
  mul_inv := fun a h => by
    rw [V1.inv_eq]
    have := V1.fermat h
    rw [show pN - 1 = (pN - 2) + 1 by have := two_lt; omega, pow_succ'] at this
    rw [CR.mul_comm]
    exact this
  one_ne := fun e => by
    have := congrArg V1.nat e
    rw [V1.nat_one, V1.nat_zero] at this
    omega
def Fp.ok (a : Fp) : Prop := a.nat < pN
def Fp.v (a : Fp) : V1 := V1.of a.nat
theorem Fp.v_nat {a : Fp} (h : a.ok) : a.v.nat = a.nat := Nat.mod_eq_of_lt h
theorem Fp.v_inj {a b : Fp} (ha : a.ok) (hb : b.ok) (h : a.v = b.v) : a = b := Fp.nat_inj (by rw [← Fp.v_nat ha, ← Fp.v_nat hb, h])
theorem fpEq_v {a b : Fp} (ha : a.ok) (hb : b.ok) : fpEq a b = true ↔ a.v = b.v := ⟨fun h => by rw [(fpEq_iff a b).1 h], fun h => (fpEq_iff a b).2 (Fp.v_inj ha hb h)⟩
theorem add_ok' {a b : Fp} (ha : a.ok) (hb : b.ok) : (addF a b).ok := addF_lt ha hb
theorem sub_ok' {a b : Fp} (ha : a.ok) (hb : b.ok) : (subF a b).ok := subF_lt ha hb
theorem mul_ok' {a b : Fp} (ha : a.ok) : (mulF a b).ok := mulF_lt ha
theorem zero_ok' : zeroFp.ok := by unfold Fp.ok; rw [zero_nat]; exact pN_pos
theorem one_ok' : oneFp.ok := by unfold Fp.ok; rw [one_nat]; exact one_lt_p
theorem neg_ok' {a : Fp} (ha : a.ok) : (negF a).ok := sub_ok' zero_ok' ha
theorem pow_ok' {a : Fp} (ha : a.ok) (e : List UInt64) : (powF a e).ok := by unfold Fp.ok; rw [powF_nat ha]; exact Nat.mod_lt _ pN_pos
theorem v_zero : zeroFp.v = 0 := V1.ext (by rw [Fp.v_nat zero_ok', zero_nat, V1.nat_zero])
theorem v_one : oneFp.v = 1 := V1.ext (by rw [Fp.v_nat one_ok', one_nat, V1.nat_one])
theorem v_add {a b : Fp} (ha : a.ok) (hb : b.ok) : (addF a b).v = a.v + b.v := V1.ext (by
  rw [Fp.v_nat (add_ok' ha hb), addF_nat ha hb, V1.nat_add, Fp.v_nat ha, Fp.v_nat hb])
theorem v_mul {a b : Fp} (ha : a.ok) (hb : b.ok) : (mulF a b).v = a.v * b.v := V1.ext (by
  rw [Fp.v_nat (mul_ok' ha), mulF_nat ha, V1.nat_mul, Fp.v_nat ha, Fp.v_nat hb])
theorem v_sub {a b : Fp} (ha : a.ok) (hb : b.ok) : (subF a b).v = a.v - b.v := V1.ext (by
  rw [Fp.v_nat (sub_ok' ha hb), subF_nat ha hb]
  show _ = (a.v.nat + (pN - b.v.nat)) % pN
  rw [Fp.v_nat ha, Fp.v_nat hb]
  congr 1
  have : b.nat < pN := hb
  omega)
theorem v_neg {a : Fp} (ha : a.ok) : (negF a).v = - a.v := by
  rw [show negF a = subF zeroFp a from rfl, v_sub zero_ok' ha, v_zero]
  grind
theorem v_pow {a : Fp} (ha : a.ok) (e : List UInt64) : (powF a e).v = a.v ^ eLow e (64 * e.length) := V1.ext (by
  rw [Fp.v_nat (pow_ok' ha e), powF_nat ha, V1.nat_pow, Fp.v_nat ha])
theorem v_eq_zero {a : Fp} (ha : a.ok) : a.v = 0 ↔ a = zeroFp := ⟨fun h => Fp.v_inj ha zero_ok' (by rw [h, v_zero]), fun h => by rw [h, v_zero]⟩
end Go.Proofs.YtbbnabednkopdaaGreat
set_option linter.unusedSimpArgs false
set_option linter.unusedVariables false
namespace Go.Proofs.YtbbnabednkopdaaGreat
theorem rootG_eq (pF : Fp → List UInt64 → Fp) (hF : Fp → Fp) (m a : Fp) : rootG pF hF m a = pF a (hF (hF ⟨m.l0 + 1, m.l1, m.l2, m.l3, m.l4, m.l5⟩)).list := rfl
def rootX : Fp := halvedF (halvedF ⟨pLimbs.l0 + 1, pLimbs.l1, pLimbs.l2, pLimbs.l3, pLimbs.l4, pLimbs.l5⟩)
theorem rootX_eq : rootX = halvedF (halvedF ⟨pLimbs.l0 + 1, pLimbs.l1, pLimbs.l2, pLimbs.l3, pLimbs.l4, pLimbs.l5⟩) := rfl
theorem rootF_eq (a : Fp) : rootF a = rootG powF halvedF pLimbs a := rfl
theorem root_pow (a : Fp) : rootF a = powF a rootX.list := by rw [rootF_eq, rootG_eq, rootX_eq]
theorem rootE : eLow rootX.list (64 * 6) = (pN + 1) / 4 := by decide +kernel
theorem list_len (a : Fp) : a.list.length = 6 := rfl
theorem root_ok' {a : Fp} (ha : a.ok) : (rootF a).ok := by
  rw [root_pow]
  exact pow_ok' ha _
theorem v_root {a : Fp} (ha : a.ok) : (rootF a).v = a.v ^ ((pN + 1) / 4) := by
  rw [root_pow, v_pow ha, list_len, rootE]
theorem sqrtG_no {nF : Fp → Fp} {mF : Fp → Fp → Fp} {gF : Fp → Bool} {x a : Fp} (h : fpEq (mF x x) a = false) : sqrtG nF mF gF x a = (zeroFp, false) := by unfold sqrtG; rw [h]; rfl
theorem sqrtG_great {nF : Fp → Fp} {mF : Fp → Fp → Fp} {gF : Fp → Bool} {x a : Fp} (h : fpEq (mF x x) a = true) (h2 : gF x = true) : sqrtG nF mF gF x a = (nF x, true) := by unfold sqrtG; rw [h, h2]; rfl
theorem sqrtG_low {nF : Fp → Fp} {mF : Fp → Fp → Fp} {gF : Fp → Bool} {x a : Fp} (h : fpEq (mF x x) a = true) (h2 : gF x = false) : sqrtG nF mF gF x a = (x, true) := by unfold sqrtG; rw [h, h2]; rfl
theorem sqrtF_eq (a : Fp) : sqrtF a = sqrtG negF mulF greatF (rootF a) a := rfl
theorem half_exp : (pN + 1) / 4 + (pN + 1) / 4 = 1 + (pN - 1) / 2 := by decide +kernel
theorem half_exp2 : (pN - 1) / 2 + (pN - 1) / 2 = pN - 1 := by decide +kernel
theorem half_odd : (pN - 1) / 2 = 2 * ((pN - 3) / 4) + 1 := by decide +kernel
def V1.chi (a : V1) : V1 := a ^ ((pN - 1) / 2)
theorem root_sq (a : V1) : a ^ ((pN + 1) / 4) * a ^ ((pN + 1) / 4) = a * a.chi := by
  rw [← pow_add', half_exp, pow_add', pow_one']
  rfl
theorem chi_sq {a : V1} (h : a ≠ 0) : a.chi * a.chi = 1 := by
  unfold V1.chi
  rw [← pow_add', half_exp2]
  exact V1.fermat h
theorem chi_cases {a : V1} (h : a ≠ 0) : a.chi = 1 ∨ a.chi = -1 := sq_eq' (by rw [chi_sq h]; grind)
theorem chi_mul (a b : V1) : (a * b).chi = a.chi * b.chi := mul_pow' a b _
theorem neg_one_sq : (-1 : V1) * -1 = 1 := by grind
theorem chi_neg_one : (-1 : V1).chi = -1 := by
  unfold V1.chi
  rw [half_odd, pow_add', pow_mul', pow_one', pow_succ' _ 1, pow_one', neg_one_sq, one_pow']
  grind
theorem chi_neg (a : V1) : (-a).chi = - a.chi := by
  rw [show -a = -1 * a by grind, chi_mul, chi_neg_one]
  grind
theorem one_ne_neg : (1 : V1) ≠ -1 := fun e => by
  have := congrArg V1.nat e
  rw [V1.nat_one] at this
  have h2 : (-1 : V1).nat = (pN - 1 % pN) % pN := rfl
  rw [h2, V1.one_mod] at this
  have h3 := one_lt_p
  rw [Nat.mod_eq_of_lt (by omega)] at this
  have h4 := two_lt
  omega
theorem sq_iff (a : V1) : (∃ y : V1, y * y = a) ↔ a * a.chi = a := by
  constructor
  · rintro ⟨y, rfl⟩
    by_cases h : y = 0
    · subst h; grind
    · rw [chi_mul, chi_sq h]; grind
  · intro h
    exact ⟨a ^ ((pN + 1) / 4), by rw [root_sq, h]⟩
theorem p_odd : pN = 2 * hN + 1 := by decide +kernel
theorem great_neg {a : Fp} (ha : a.ok) (h : a.v ≠ 0) : greatF (negF a) = !greatF a := by
  have h0 : a.nat ≠ 0 := by
    have := V1.ne_zero h
    rwa [Fp.v_nat ha] at this
  have h1 : a.nat < pN := ha
  have h2 := p_odd
  rw [greatF_nat, greatF_nat, negF_nat ha, Nat.mod_eq_of_lt (by omega)]
  by_cases h3 : hN < a.nat
  · rw [decide_eq_true h3, decide_eq_false (by omega)]; rfl
  · rw [decide_eq_false h3, decide_eq_true (by omega)]; rfl
theorem great_zero : greatF zeroFp = false := by rw [greatF_nat, zero_nat]; exact decide_eq_false (by omega)
theorem sqrtG_law {nF : Fp → Fp} {mF : Fp → Fp → Fp} {gF : Fp → Bool} {x a : Fp} (hr : x.ok) (ha : a.ok) (hm : (mF x x).v = a.v * a.v.chi) (hm2 : (mF x x).v = x.v * x.v) (hmo : (mF x x).ok)
    (hn : (nF x).ok) (hnv : (nF x).v = - x.v) (hz : gF zeroFp = false) (hg : x.v ≠ 0 → gF (nF x) = !gF x) :
    ((∃ y : V1, y * y = a.v) → (sqrtG nF mF gF x a).2 = true ∧ (sqrtG nF mF gF x a).1.ok ∧ (sqrtG nF mF gF x a).1.v * (sqrtG nF mF gF x a).1.v = a.v ∧ gF (sqrtG nF mF gF x a).1 = false) ∧
    ((¬ ∃ y : V1, y * y = a.v) → (sqrtG nF mF gF x a) = (zeroFp, false)) := by
  constructor
  · intro h
    have h1 := (sq_iff _).1 h
    have e : fpEq (mF x x) a = true := (fpEq_v hmo ha).2 (by rw [hm, h1])
    have hrr : x.v * x.v = a.v := by rw [← hm2, hm, h1]
    cases hg' : gF x with
    | true =>
      rw [sqrtG_great e hg']
      have hne : x.v ≠ 0 := fun e0 => by
        rw [(v_eq_zero hr).1 e0, hz] at hg'
        cases hg'
      refine ⟨rfl, hn, ?_, ?_⟩
      · show (nF x).v * (nF x).v = a.v
        rw [hnv]; grind
      · show gF (nF x) = false
        rw [hg hne, hg']; rfl
    | false =>
      rw [sqrtG_low e hg']
      exact ⟨rfl, hr, hrr, hg'⟩
  · intro h
    have e : fpEq (mF x x) a = false := by
      cases he : fpEq (mF x x) a with
      | false => rfl
      | true => exact absurd ((sq_iff _).2 (by rw [← hm]; exact (fpEq_v hmo ha).1 he)) h
    rw [sqrtG_no e]
theorem sqrt_law {a : Fp} (ha : a.ok) :
    ((∃ y : V1, y * y = a.v) → (sqrtF a).2 = true ∧ (sqrtF a).1.ok ∧ (sqrtF a).1.v * (sqrtF a).1.v = a.v ∧ greatF (sqrtF a).1 = false) ∧
    ((¬ ∃ y : V1, y * y = a.v) → (sqrtF a) = (zeroFp, false)) := by
  have hr := root_ok' ha
  rw [sqrtF_eq]
  refine sqrtG_law hr ha ?_ (v_mul hr hr) (mul_ok' hr) (neg_ok' hr) (v_neg hr) great_zero (great_neg hr)
  rw [v_mul hr hr, v_root ha, root_sq]
theorem sq_neg {a : V1} (h : a ≠ 0) : (∃ y : V1, y * y = -a) ↔ ¬ ∃ y : V1, y * y = a := by
  rw [sq_iff, sq_iff, chi_neg]
  rcases chi_cases h with e | e <;> rw [e]
  · constructor
    · intro h1 h2
      have : (1 + 1) * a = 0 := by grind
      rcases mul_eq_zero' this with h3 | h3
      · exact one_ne_neg (by grind)
      · exact h h3
    · intro h1; exact absurd (by grind) h1
  · constructor
    · intro h1 h2
      have : (1 + 1) * a = 0 := by grind
      rcases mul_eq_zero' this with h3 | h3
      · exact one_ne_neg (by grind)
      · exact h h3
    · intro h1; grind
theorem ofF_ok (n : UInt64) : (ofF n).ok := by
  unfold Fp.ok
  rw [of_nat]
  exact Nat.lt_trans n.toNat_lt (by decide +kernel)
theorem v_of (n : UInt64) : (ofF n).v = V1.of n.toNat := by unfold Fp.v; rw [of_nat]
theorem mayF_ok (a : Fp) : mayF a = true ↔ a.ok := by rw [mayF_nat]; exact decide_eq_true_iff
theorem sqrt_snd {a : Fp} (ha : a.ok) : (sqrtF a).2 = true ↔ ∃ y : V1, y * y = a.v := by
  obtain ⟨h1, h2⟩ := sqrt_law ha
  constructor
  · intro h
    apply Classical.byContradiction
    intro hn
    rw [h2 hn] at h
    cases h
  · intro h; exact (h1 h).1
end Go.Proofs.YtbbnabednkopdaaGreat
set_option linter.unusedSimpArgs false
set_option linter.unusedVariables false
namespace Go.Proofs.YtbbnabednkopdaaGreat
theorem borrow_iff (a b : Fp) : (subT a b).2 = decide (a.nat < b.nat) := by
  have h := subT_nat a b
  have h1 := (subT a b).1.nat_lt
  cases e : (subT a b).2 with
  | true =>
    rw [e, Bool.toNat_true, Nat.mul_one] at h
    exact (decide_eq_true (by omega)).symm
  | false =>
    rw [e, Bool.toNat_false, Nat.mul_zero] at h
    exact (decide_eq_false (by omega)).symm
theorem lessF_eq (a : Fp) (o : UInt64) : lessF a o = match decide (o < b2u (decide (a.nat < pN))) with | true => a | false => (subT a pLimbs).1 := by
  have h := borrow_iff a pLimbs
  rw [pLimbs_nat] at h
  unfold lessF
  rw [lessT_eq, h]
  all_goals rfl
theorem montE7_eq (t : L7) (h6 : t.t6.toNat ≤ 1) : montE7 pLimbs t = lessF t.low t.t6 := by
  rw [lessF_eq]
  unfold montE7
  rw [belowF_nat, pLimbs_nat]
  by_cases h : t.t6.toNat = 0
  · have e0 : t.t6 = 0 := UInt64.toNat.inj h
    rw [e0]
    by_cases hl : t.low.nat < pN
    · rw [decide_eq_true hl]; rfl
    · rw [decide_eq_false hl]; rfl
  · have e0 : t.t6 = 1 := UInt64.toNat.inj (by rw [UInt64.toNat_one]; omega)
    rw [e0]
    by_cases hl : t.low.nat < pN
    · rw [decide_eq_true hl]; rfl
    · rw [decide_eq_false hl]; rfl
theorem macL_comm (x y t c : UInt64) : macL x y t c = macL y x t c := by unfold macL; rw [UInt64.mul_comm]
theorem mulHi_comm (x y : UInt64) : mulHi x y = mulHi y x := UInt64.toNat.inj (by rw [mulHi_nat, mulHi_nat, Nat.mul_comm])
theorem macH_comm (x y t c : UInt64) : macH x y t c = macH y x t c := by unfold macH; rw [UInt64.mul_comm, mulHi_comm]
theorem montB_eq (t0 t1 t2 t3 t4 t5 top : UInt64) (more : Bool) : montB pLimbs pInv t0 t1 t2 t3 t4 t5 top more = roundB t0 t1 t2 t3 t4 t5 top more := by
  unfold montB roundB
  simp only [rmL_eq, rmH_eq, addC_comm t0]
theorem montR_eq (ai : UInt64) (b : Fp) (t : L7) : montR pLimbs pInv ai b t = roundF b ai t := by
  unfold montR roundF
  rw [montB_eq]
  simp only [rmL_eq, rmH_eq, macL_comm ai, macH_comm ai]
theorem montInv_eq : montInv pLimbs.l0 = pInv := by decide +kernel
theorem mont6_eq (a b : Fp) : mont6 a b pLimbs = halfT b a := by
  unfold mont6 mont5 mont4 mont3 mont2 mont1
  rw [montInv_eq]
  simp only [montR_eq]
  rfl
theorem halfT_top {a b : Fp} (ha : a.nat < pN) : (halfT a b).t6.toNat ≤ 1 := by
  obtain ⟨k, h1, h2⟩ := halfT_nat a b
  rw [L7.nat_low] at h1 h2
  have hlt := (halfT a b).low.nat_lt
  have hpr : 2 * pN < rN := by decide +kernel
  rcases Nat.lt_or_ge (halfT a b).t6.toNat 1 with h | h
  · omega
  · have : rN * 1 ≤ rN * (halfT a b).t6.toNat := Nat.mul_le_mul_left _ h
    rcases Nat.lt_or_ge (halfT a b).t6.toNat 2 with h3 | h3
    · omega
    · have : rN * 2 ≤ rN * (halfT a b).t6.toNat := Nat.mul_le_mul_left _ h3
      omega
theorem montF_half (a : Fp) {b : Fp} (hb : b.ok) : montF a b pLimbs = halfF b a := by
  unfold montF halfF
  rw [mont6_eq]
  exact montE7_eq _ (halfT_top hb)
theorem sq_ok : sqLimbs.ok := by unfold Fp.ok; rw [sq_nat]; exact Nat.mod_lt _ pN_pos
theorem mulPF_nat (a : Fp) {b : Fp} (hb : b.ok) : (mulPF a b).nat = a.nat * b.nat % pN := by
  unfold mulPF
  rw [montF_half a hb, montF_half _ sq_ok]
  obtain ⟨h1, h2⟩ := halfF_nat (b := a) hb
  obtain ⟨h3, h4⟩ := halfF_nat (b := halfF b a) sq_ok
  rw [← Nat.mod_eq_of_lt h3]
  refine r_cancel ?_
  rw [h4, sq_nat, Nat.mod_mul_mod]
  have e : rN * rN * (halfF b a).nat = (halfF b a).nat * rN * rN := by rw [Nat.mul_comm, Nat.mul_assoc]
  rw [e, ← Nat.mod_mul_mod, h2, Nat.mod_mul_mod, Nat.mul_comm a.nat]
theorem mulPF_eq {a b : Fp} (ha : a.ok) (hb : b.ok) : mulPF a b = mulF a b := Fp.nat_inj (by rw [mulPF_nat a hb, mulF_nat ha])
theorem subPF_eq (a b : Fp) : subPF a b = subF a b := by
  unfold subPF minusF subF
  cases (subT a b).2 <;> rfl
theorem negPF_eq (a : Fp) : negPF a = negF a := subPF_eq zeroFp a
theorem addPF_eq (a b : Fp) : addPF a b = addF a b := by
  unfold addPF plusF addF
  rw [lessF_eq, belowF_nat, pLimbs_nat]
  cases (addT a b).2
  · by_cases hl : (addT a b).1.nat < pN
    · rw [decide_eq_true hl]; rfl
    · rw [decide_eq_false hl]; rfl
  · by_cases hl : (addT a b).1.nat < pN
    · rw [decide_eq_true hl]; rfl
    · rw [decide_eq_false hl]; rfl
theorem mulPF_ok (a : Fp) {b : Fp} (hb : b.ok) : (mulPF a b).ok := by unfold Fp.ok; rw [mulPF_nat a hb]; exact Nat.mod_lt _ pN_pos
theorem powPAt_nat {a : Fp} (ha : a.ok) (e : List UInt64) : ∀ (n : Nat) (o : Fp), o.ok → (powPAt a e n o).nat = o.nat ^ 2 ^ n * a.nat ^ eLow e n % pN
  | 0, o, ho => by
    simp only [powPAt, eLow, Nat.pow_zero, Nat.pow_one, Nat.mul_one]
    exact (Nat.mod_eq_of_lt ho).symm
  | n + 1, o, ho => by
    have h1 := mulPF_nat o ho
    simp only [powPAt]
    cases hb : bitAt e n with
    | true =>
      simp only []
      rw [powPAt_nat ha e n _ (mulPF_ok _ ha), mulPF_nat _ ha, h1]
      simp only [eLow, hb, Bool.toNat_true, Nat.one_mul]
      rw [Nat.mod_mul_mod, ← Nat.mod_mul_mod, ← Nat.pow_mod, Nat.mod_mul_mod]
      refine congrArg (fun z => z % pN) ?_
      rw [Nat.mul_pow, ← Nat.pow_two, ← Nat.pow_mul, show 2 ^ (n + 1) = 2 * 2 ^ n by rw [Nat.pow_succ, Nat.mul_comm], Nat.pow_add a.nat, Nat.mul_assoc, Nat.mul_comm (a.nat ^ 2 ^ n)]
    | false =>
      simp only []
      rw [powPAt_nat ha e n _ (mulPF_ok _ ho), h1]
      simp only [eLow, hb, Bool.toNat_false, Nat.zero_mul, Nat.add_zero]
      rw [← Nat.mod_mul_mod, ← Nat.pow_mod, Nat.mod_mul_mod]
      refine congrArg (fun z => z % pN) ?_
      rw [← Nat.pow_two, ← Nat.pow_mul, show 2 ^ (n + 1) = 2 * 2 ^ n by rw [Nat.pow_succ, Nat.mul_comm]]
theorem one_of : ofF 1 = oneFp := rfl
theorem powPF_eq {a : Fp} (ha : a.ok) (e : List UInt64) : powPF a e = powF a e := Fp.nat_inj (by
  unfold powPF
  rw [powF_nat ha, one_of, powPAt_nat ha e _ _ one_ok', one_nat, Nat.one_pow, Nat.one_mul])
theorem pm2_eq : pm2 = [pLimbs.l0 - 2, pLimbs.l1, pLimbs.l2, pLimbs.l3, pLimbs.l4, pLimbs.l5] := by decide +kernel
theorem invPF_eq {a : Fp} (ha : a.ok) : invPF a = invF a := by
  unfold invPF invF
  rw [powPF_eq ha, pm2_eq]
  all_goals rfl
theorem rootL_eq : rootL = rootX.list := by decide +kernel
def valL (xs : List UInt64) : Nat := valAt xs xs.length
theorem atF_take (xs : List UInt64) {n i : Nat} (h : i < n) : atF (xs.take n) i = atF xs i := by
  unfold atF
  rw [List.getD_eq_getElem?_getD, List.getD_eq_getElem?_getD, List.getElem?_take_of_lt h]
theorem valAt_take (xs : List UInt64) {n : Nat} : ∀ {k : Nat}, k ≤ n → valAt (xs.take n) k = valAt xs k
  | 0, _ => rfl
  | k + 1, h => by
    simp only [valAt]
    rw [valAt_take xs (k := k) (by omega), atF_take xs (by omega)]
theorem val_cutN (xs : List UInt64) : ∀ n, valAt xs (cutN xs n) = valAt xs n
  | 0 => rfl
  | n + 1 => by
    unfold cutN
    split
    · rename_i h
      rw [val_cutN xs n]
      simp only [valAt, h]
      simp
    · rfl
theorem cutF_length (xs : List UInt64) : (cutF xs).length = cutN xs xs.length := by
  unfold cutF
  rw [List.length_take]
  have := cutN_le xs xs.length
  omega
theorem valL_cut (xs : List UInt64) : valL (cutF xs) = valL xs := by
  unfold valL
  rw [cutF_length]
  unfold cutF
  rw [valAt_take xs (Nat.le_refl _), val_cutN]
theorem cutN_top (xs : List UInt64) : ∀ n, 0 < cutN xs n → atF xs (cutN xs n - 1) ≠ 0
  | 0, h => by simp [cutN] at h
  | n + 1, h => by
    unfold cutN at h ⊢
    split
    · rename_i h0
      rw [if_pos h0] at h
      exact cutN_top xs n h
    · rename_i h0
      simpa using h0
theorem cut_lower (xs : List UInt64) (h : 0 < (cutF xs).length) : W64 ^ ((cutF xs).length - 1) ≤ valL xs := by
  rw [cutF_length] at h ⊢
  have h1 := cutN_top xs xs.length h
  have h2 := val_cutN xs xs.length
  unfold valL
  rw [← h2]
  obtain ⟨k, hk⟩ : ∃ k, cutN xs xs.length = k + 1 := ⟨cutN xs xs.length - 1, by omega⟩
  rw [hk] at h1 ⊢
  simp only [Nat.add_sub_cancel] at h1 ⊢
  simp only [valAt]
  have h3 : 1 ≤ (atF xs k).toNat := by
    rcases Nat.eq_zero_or_pos (atF xs k).toNat with h | h
    · exact absurd (UInt64.toNat.inj h) h1
    · exact h
  calc W64 ^ k = 1 * W64 ^ k := (Nat.one_mul _).symm
    _ ≤ (atF xs k).toNat * W64 ^ k := Nat.mul_le_mul_right _ h3
    _ ≤ _ := Nat.le_add_left _ _
theorem cut_upper (xs : List UInt64) : valL xs < W64 ^ (cutF xs).length := by
  rw [← valL_cut]
  exact valAt_lt _ _
theorem len_lt_val {xs ys : List UInt64} (h : (cutF xs).length < (cutF ys).length) : valL xs < valL ys := by
  have h1 := cut_upper xs
  have h2 := cut_lower ys (by omega)
  have h3 : W64 ^ (cutF xs).length ≤ W64 ^ ((cutF ys).length - 1) := Nat.pow_le_pow_right (by decide) (by omega)
  omega
theorem cmpR_val (xs ys : List UInt64) : cmpR xs ys = if valL xs < valL ys then -1 else if valL xs > valL ys then 1 else 0 := by
  unfold cmpR
  by_cases h : (cutF xs).length = (cutF ys).length
  · rw [if_neg (by simp [h]), cmpAt_val]
    have e1 : valAt (cutF xs) (cutF xs).length = valL xs := valL_cut xs
    have e2 : valAt (cutF ys) (cutF xs).length = valL ys := by rw [h]; exact valL_cut ys
    rw [e1, e2]
  · rw [if_pos h]
    rcases Nat.lt_or_gt_of_ne h with h1 | h1
    · have := len_lt_val h1
      rw [if_pos h1, if_pos this]
    · have := len_lt_val h1
      rw [if_neg (by omega), if_neg (by omega), if_pos this]
theorem valL_list (a : Fp) : valL a.list = a.nat := list_val a
theorem half_val : valL (rhalfF pLimbs.list) = hN := by decide +kernel
theorem greatPF_eq (a : Fp) : greatPF a = greatF a := by
  rw [greatF_nat]
  unfold greatPF
  rw [cmpR_val, valL_list, half_val]
  refine decide_eq_decide.2 ?_
  split
  · omega
  · split <;> omega
theorem sqrtG_congr {nF nF' : Fp → Fp} {mF mF' : Fp → Fp → Fp} {gF gF' : Fp → Bool} {x a : Fp} (h1 : nF x = nF' x) (h2 : mF x x = mF' x x) (h3 : gF x = gF' x) : sqrtG nF mF gF x a = sqrtG nF' mF' gF' x a := by
  unfold sqrtG
  rw [h1, h2, h3]
theorem sqrtPF_eq {a : Fp} (ha : a.ok) : sqrtPF a = sqrtF a := by
  rw [sqrtF_eq]
  unfold sqrtPF
  rw [powPF_eq ha, rootL_eq, ← root_pow]
  exact sqrtG_congr (negPF_eq _) (mulPF_eq (root_ok' ha) (root_ok' ha)) (greatPF_eq _)
end Go.Proofs.YtbbnabednkopdaaGreat

set_option linter.unusedSimpArgs false
set_option linter.unusedVariables false
namespace Go.Proofs.YtbbnabednkopdaaGreat
theorem atF_out {l : List UInt64} {i : Nat} (h : l.length ≤ i) : atF l i = 0 := by
  unfold atF
  rw [List.getD_eq_getElem?_getD, List.getElem?_eq_none h]
  rfl
theorem valAt_out (l : List UInt64) : ∀ {k : Nat}, l.length ≤ k → valAt l k = valL l
  | 0, h => by unfold valL; rw [show l.length = 0 by omega]
  | k + 1, h => by
    rcases Nat.lt_or_ge k l.length with h1 | h1
    · unfold valL; rw [show l.length = k + 1 by omega]
    · simp only [valAt]
      rw [valAt_out l h1, atF_out h1]
      simp
theorem W64_pow (k : Nat) : W64 ^ k = 2 ^ (64 * k) := by
  rw [show W64 = 2 ^ 64 from rfl, ← Nat.pow_mul]
theorem bit_step (x j : Nat) : x % 2 ^ (j + 1) = x % 2 ^ j + (x.testBit j).toNat * 2 ^ j := by
  rw [Nat.pow_succ, Nat.mod_mul]
  rw [Nat.testBit_eq_decide_div_mod_eq]
  have h : x / 2 ^ j % 2 < 2 := Nat.mod_lt _ (by decide)
  rcases (by omega : x / 2 ^ j % 2 = 0 ∨ x / 2 ^ j % 2 = 1) with h1 | h1
  · rw [h1]; simp
  · rw [h1]; simp
theorem eLow_in (e : List UInt64) (k : Nat) (hk : eLow e (64 * k) = valAt e k) : ∀ j, j ≤ 64 → eLow e (64 * k + j) = valAt e k + (atF e k).toNat % 2 ^ j * 2 ^ (64 * k)
  | 0, _ => by rw [Nat.add_zero, hk, Nat.pow_zero, Nat.mod_one, Nat.zero_mul, Nat.add_zero]
  | j + 1, h => by
    rw [show 64 * k + (j + 1) = (64 * k + j) + 1 from rfl]
    simp only [eLow]
    rw [eLow_in e k hk j (by omega), bit_step, Nat.add_mul]
    have hb : bitAt e (64 * k + j) = (atF e k).toNat.testBit j := by
      unfold bitAt atF
      rw [show (64 * k + j) / 64 = k by omega, show (64 * k + j) % 64 = j by omega]
    rw [hb, Nat.add_assoc, show 2 ^ (64 * k + j) = 2 ^ j * 2 ^ (64 * k) by rw [Nat.pow_add, Nat.mul_comm], Nat.mul_assoc]
theorem eLow_val (e : List UInt64) : ∀ k, eLow e (64 * k) = valAt e k
  | 0 => rfl
  | k + 1 => by
    rw [show 64 * (k + 1) = 64 * k + 64 by omega, eLow_in e k (eLow_val e k) 64 (Nat.le_refl _)]
    simp only [valAt]
    rw [W64_pow, Nat.mod_eq_of_lt (UInt64.toNat_lt _)]
theorem eLow_valL (e : List UInt64) : eLow e (64 * e.length) = valL e := eLow_val e _
theorem valAt_congr {a b : List UInt64} : ∀ {k : Nat}, (∀ j, j < k → atF a j = atF b j) → valAt a k = valAt b k
  | 0, _ => rfl
  | k + 1, h => by
    simp only [valAt]
    rw [valAt_congr (k := k) fun j hj => h j (by omega), h k (by omega)]
theorem ofL_nat (l : List UInt64) : (ofL l).nat = valAt l 6 := by
  rw [← list_val]
  refine valAt_congr fun j hj => ?_
  match j, hj with
  | 0, _ => rfl
  | 1, _ => rfl
  | 2, _ => rfl
  | 3, _ => rfl
  | 4, _ => rfl
  | 5, _ => rfl
theorem ofL_val {l : List UInt64} (h : l.length ≤ 6) : (ofL l).nat = valL l := by rw [ofL_nat, valAt_out l h]
end Go.Proofs.YtbbnabednkopdaaGreat

set_option linter.unusedSimpArgs false
set_option linter.unusedVariables false
namespace Go.Proofs.YtbbnabednkopdaaGreat
open Go.RowKit
theorem cutF_idem (xs : List UInt64) : cutF (cutF xs) = cutF xs := by
  have h1 := cutN_top xs xs.length
  have h2 := cutF_length xs
  unfold cutF at h2 ⊢
  generalize hn : cutN xs xs.length = n at *
  have h3 : cutN (xs.take n) (xs.take n).length = n := by
    rw [h2]
    cases n with
    | zero => rfl
    | succ k =>
      unfold cutN
      rw [atF_take xs (Nat.lt_succ_self k), if_neg (by simpa using h1 (Nat.succ_pos k))]
  rw [h3, List.take_take, Nat.min_self]
def Normal (xs : List UInt64) : Prop := cutF xs = xs
theorem normal_len {xs : List UInt64} (h : Normal xs) {k : Nat} (hk : valL xs < W64 ^ k) : xs.length ≤ k := by
  rcases Nat.lt_or_ge k xs.length with h1 | h1
  · have h2 := cut_lower xs (by rw [h]; omega)
    rw [h] at h2
    have h3 : W64 ^ k ≤ W64 ^ (xs.length - 1) := Nat.pow_le_pow_right (by decide) (by omega)
    omega
  · exact h1
theorem okW {xs : List UInt64} (h : xs.length < 1125899906842624) : 0 + xs.length ≤ xs.length ∧ xs.length < 1125899906842624 ∧ True ∧ True := ⟨by omega, h, trivial, trivial⟩
end Go.Proofs.YtbbnabednkopdaaGreat

set_option linter.unusedSimpArgs false
set_option linter.unusedVariables false
namespace Go.Proofs.YtbbnabednkopdaaGreat
theorem atF_set_eq {xs : List UInt64} {n : Nat} (h : n < xs.length) (v : UInt64) : atF (xs.set n v) n = v := by
  unfold atF
  rw [List.getD_eq_getElem?_getD, List.getElem?_set_self h]
  rfl
theorem atF_rep (n j : Nat) : atF (List.replicate n 0) j = 0 := by
  unfold atF
  rw [List.getD_eq_getElem?_getD, List.getElem?_replicate]
  split <;> rfl
end Go.Proofs.YtbbnabednkopdaaGreat

set_option linter.unusedSimpArgs false
set_option linter.unusedVariables false
namespace Go.Proofs.YtbbnabednkopdaaGreat
open Go.RowKit
def unblock : Code → Code
  | .block _ c => c
  | c => c
end Go.Proofs.YtbbnabednkopdaaGreat

set_option linter.unusedSimpArgs false
set_option linter.unusedVariables false
namespace Go.Proofs.YtbbnabednkopdaaGreat
open Go.RowKit
abbrev Kr (F : List UInt64 → Fp) : Contract := K1 aL oF.res F
end Go.Proofs.YtbbnabednkopdaaGreat

set_option linter.unusedSimpArgs false
set_option linter.unusedVariables false
namespace Go.Proofs.YtbbnabednkopdaaGreat
open Go.RowKit
abbrev aB : Arg (List UInt8) := argSl eU8
abbrev iB : Inp (List UInt8) := inpSl eU8
noncomputable abbrev cut2C : List Code := flat (codeOf Tryz.f186)
def cut2St (xs : List UInt64) (z : Int) : St := mkSt 23 [(0, inV 0 xs), (3, vI z)] [inHE eU64 xs]
theorem cut2_start (xs : List UInt64) : stageG (En []) 100 (cut2C.take 2) (startSt Tryz.f186 [iL.av 0 xs] [inHE eU64 xs]) [0, 3] [0] [(0, .as), (3, .int)] [] [] =
  (.vc (0 + xs.length * 1 ≤ (List.map EK.u64.cell xs).length ∧ 0 < 1)
    (.leaf (mkSt 23 [(0, .one (.c (.slc 0 0 (xs.length) 1 (.of 0) false))), (3, .one (.c (.int .i64 ((↑xs.length : Int)))))] [.live ⟨false, 0, 1, (.elts .u64 (xs : List UInt64)), false⟩]))) := by kernel_rfl
theorem cut2_round (xs : List UInt64) (z : Int) : roundT (En []) 100 (loopAt Tryz.f186 0) (cut2St xs z) (same [0, 3] [0]) =
  (.br (decide (z > 0))
    (.vc ((0 ≤ IntKind.i64.wrap (z - 1) ∧ IntKind.i64.wrap (z - 1) < (↑xs.length : Int)) ∧ 0 + xs.length * 1 ≤ (List.map EK.u64.cell xs).length ∧ 0 < 1)
      (.vc (0 + (IntKind.i64.wrap (z - 1)).toNat * 1 < xs.length)
        (.br (xs.getD (0 + (IntKind.i64.wrap (z - 1)).toNat * 1) 0 == UInt64.ofNat 0)
          (.leaf ((.normal, mkSt 23 [(0, .one (.c (.slc 0 0 (xs.length) 1 (.of 0) false))), (3, .one (.c (.int .i64 (IntKind.i64.wrap (z - 1)))))] [.live ⟨false, 0, 1, (.elts .u64 (xs : List UInt64)), false⟩])))
          (.leaf ((.exit 0, mkSt 23 [(0, .one (.c (.slc 0 0 (xs.length) 1 (.of 0) false))), (3, .one (.c (.int .i64 (z))))] [.live ⟨false, 0, 1, (.elts .u64 (xs : List UInt64)), false⟩]))))))
    (.leaf ((.exit 0, mkSt 23 [(0, .one (.c (.slc 0 0 (xs.length) 1 (.of 0) false))), (3, .one (.c (.int .i64 (z))))] [.live ⟨false, 0, 1, (.elts .u64 (xs : List UInt64)), false⟩])))) := by kernel_rfl
theorem cut2_end (xs : List UInt64) (z : Int) : endT (En []) oL 100 Tryz.f186 (cut2C.drop 3) (cut2St xs z) =
  (.vc (0 ≤ z ∧ 0 ≤ z.toNat ∧ z.toNat ≤ xs.length ∧ 0 + xs.length * 1 ≤ (List.map EK.u64.cell xs).length ∧ 0 < 1 ∧ (0 = 0 ∨ 0 < z.toNat) ∧ 0 = 0 ∧ 1 = 1)
    (.vc (0 + (z.toNat - 0) ≤ xs.length ∧ 0 + (z.toNat - 0) ≤ 9223372036854775807 ∧ (0 + (z.toNat - 0)) * 8 ≤ 140737488355328)
      (.leaf (some ((List.take (0 + (z.toNat - 0)) ([] ++ List.take (z.toNat - 0) (List.drop 0 xs)), (.p (0 + (z.toNat - 0) ≤ ([] ++ List.take (z.toNat - 0) (List.drop 0 xs)).length)))))))) := by kernel_rfl
noncomputable abbrev takC : List Code := flat (codeOf Tryz.f141)
def takSt (b : List UInt8) (out : List UInt64) (i : Int) : St := mkSt 41 [(0, .one (.c (.slc 0 0 b.length 1 (.of 0) false))), (3, slV 1 out), (12, .one (.c (.slc 0 0 b.length 1 (.of 0) false))), (13, vI b.length), (14, vI i)] [inHE eU8 b, ownL out]
noncomputable abbrev takE (cF : List UInt64 → List UInt64) : Env := Ens [(186, K1 aLt rL cF)] [186]
theorem tak_start (cF : List UInt64 → List UInt64) (b : List UInt8) : stageG (takE cF) 100 (takC.take 3) (startSt Tryz.f141 [iB.av 0 b] [inHE eU8 b]) [0, 3, 12, 13, 14] [0, 1] [(0, .as), (3, .as), (12, .as), (13, .int), (14, .int)] [] [] =
  (.vc (0 + b.length * 1 ≤ (List.map EK.u8.cell b).length ∧ 0 < 1)
    (.vc (0 ≤ IntKind.i64.wrap (IntKind.i64.wrap ((↑b.length : Int).tdiv 8) + 1) ∧ IntKind.i64.wrap (IntKind.i64.wrap ((↑b.length : Int).tdiv 8) + 1) ≤ IntKind.i64.wrap (IntKind.i64.wrap ((↑b.length : Int).tdiv 8) + 1) ∧ (↑8 : Int) * IntKind.i64.wrap (IntKind.i64.wrap ((↑b.length : Int).tdiv 8) + 1) ≤ 281474976710656 ∧ IntKind.i64.wrap (IntKind.i64.wrap ((↑b.length : Int).tdiv 8) + 1) < 1125899906842624)
      (.vc (0 + b.length * 1 ≤ (List.map EK.u8.cell b).length ∧ 0 < 1)
        (.leaf (mkSt 41 [(0, .one (.c (.slc 0 0 (b.length) 1 (.of 0) false))), (3, .one (.c (.slc 1 0 ((IntKind.i64.wrap (IntKind.i64.wrap ((↑b.length : Int).tdiv 8) + 1)).toNat) 1 (.of 0) false))), (12, .one (.c (.slc 0 0 (b.length) 1 (.of 0) false))), (13, .one (.c (.int .i64 ((↑b.length : Int))))), (14, .one (.c (.int .i64 0)))] [.live ⟨false, 0, 1, (.elts .u8 (b : List UInt8)), false⟩, .live ⟨true, 25, 1, (.elts .u64 (List.replicate (IntKind.i64.wrap (IntKind.i64.wrap ((↑b.length : Int).tdiv 8) + 1)).toNat 0 : List UInt64)), false⟩]))))) := by kernel_rfl
theorem tak_round (cF : List UInt64 → List UInt64) (b : List UInt8) (out : List UInt64) (i : Int) : roundT (takE cF) 100 (loopAt Tryz.f141 0) (takSt b out i) (same [0, 3, 12, 13, 14] [0, 1]) =
  (.br (decide (i < (↑b.length : Int)))
    (.vc ((0 ≤ i ∧ i < (↑b.length : Int)) ∧ 0 + b.length * 1 ≤ (List.map EK.u8.cell b).length ∧ 0 < 1)
      (.vc (0 + i.toNat * 1 < b.length)
        (.vc (0 + b.length * 1 ≤ (List.map EK.u8.cell b).length ∧ 0 < 1)
          (.vc ((0 ≤ IntKind.i64.wrap ((IntKind.i64.wrap (IntKind.i64.wrap ((↑b.length : Int) - 1) - i)).tdiv 8) ∧ IntKind.i64.wrap ((IntKind.i64.wrap (IntKind.i64.wrap ((↑b.length : Int) - 1) - i)).tdiv 8) < (↑out.length : Int)) ∧ 0 + out.length * 1 ≤ (List.map EK.u64.cell out).length ∧ 0 < 1)
            (.vc (0 + (IntKind.i64.wrap ((IntKind.i64.wrap (IntKind.i64.wrap ((↑b.length : Int) - 1) - i)).tdiv 8)).toNat * 1 < out.length)
              (.vc ((0 ≤ IntKind.i64.wrap ((IntKind.i64.wrap (IntKind.i64.wrap ((↑b.length : Int) - 1) - i)).tdiv 8) ∧ IntKind.i64.wrap ((IntKind.i64.wrap (IntKind.i64.wrap ((↑b.length : Int) - 1) - i)).tdiv 8) < (↑out.length : Int)) ∧ 0 + out.length * 1 ≤ (List.map EK.u64.cell out).length ∧ 0 < 1)
                (.vc (0 + (IntKind.i64.wrap ((IntKind.i64.wrap (IntKind.i64.wrap ((↑b.length : Int) - 1) - i)).tdiv 8)).toNat * 1 < out.length)
                  (.leaf ((.normal, mkSt 41 [(0, .one (.c (.slc 0 0 (b.length) 1 (.of 0) false))), (3, .one (.c (.slc 1 0 (out.length) 1 (.of 0) false))), (12, .one (.c (.slc 0 0 (b.length) 1 (.of 0) false))), (13, .one (.c (.int .i64 ((↑b.length : Int))))), (14, .one (.c (.int .i64 (IntKind.i64.wrap (i + 1)))))] [.live ⟨false, 0, 1, (.elts .u8 (b : List UInt8)), false⟩, .live ⟨true, 25, 1, (.elts .u64 (out.set (0 + (IntKind.i64.wrap ((IntKind.i64.wrap (IntKind.i64.wrap ((↑b.length : Int) - 1) - i)).tdiv 8)).toNat * 1) (out.getD (0 + (IntKind.i64.wrap ((IntKind.i64.wrap (IntKind.i64.wrap ((↑b.length : Int) - 1) - i)).tdiv 8)).toNat * 1) 0 ||| shlU (b.getD (0 + i.toNat * 1) 0).toUInt64 (↑(UInt64.ofNat (IntKind.i64.wrap (8 * (IntKind.i64.wrap (IntKind.i64.wrap ((↑b.length : Int) - 1) - i)).tmod 8) % 18446744073709551616).toNat).toNat : Int)) : List UInt64)), false⟩]))))))))))
    (.leaf ((.exit 0, mkSt 41 [(0, .one (.c (.slc 0 0 (b.length) 1 (.of 0) false))), (3, .one (.c (.slc 1 0 (out.length) 1 (.of 0) false))), (12, .one (.c (.slc 0 0 (b.length) 1 (.of 0) false))), (13, .one (.c (.int .i64 ((↑b.length : Int))))), (14, .one (.c (.int .i64 (i))))] [.live ⟨false, 0, 1, (.elts .u8 (b : List UInt8)), false⟩, .live ⟨true, 25, 1, (.elts .u64 (out : List UInt64)), false⟩])))) := by kernel_rfl
theorem tak_end (cF : List UInt64 → List UInt64) (b : List UInt8) (out : List UInt64) (i : Int) : endT (takE cF) oL 100 Tryz.f141 (takC.drop 4) (takSt b out i) =
  (.vc ((0 + out.length ≤ out.length ∧ out.length < 1125899906842624 ∧ 0 = 0 ∧ 1 = 1) ∧ tiny (List.take out.length (List.drop 0 out)))
    (.leaf (some ((List.take (cF (List.take out.length (List.drop 0 out))).length (cF (List.take out.length (List.drop 0 out))), (.p ((cF (List.take out.length (List.drop 0 out))).length ≤ (cF (List.take out.length (List.drop 0 out))).length))))))) := by kernel_rfl
noncomputable abbrev rtkC : List Code := flat (codeOf Tryz.f153)
def rtkSt (b : List UInt8) (out : List UInt64) (i : Int) : St := mkSt 38 [(0, .one (.c (.slc 0 0 b.length 1 (.of 0) false))), (3, slV 1 out), (4, vI i)] [inHE eU8 b, ownL out]
noncomputable abbrev rtkE (cF : List UInt64 → List UInt64) : Env := Ens [(183, K1 aLc rL cF)] [183]
theorem rtk_start (cF : List UInt64 → List UInt64) (b : List UInt8) : stageG (rtkE cF) 100 (rtkC.take 3) (startSt Tryz.f153 [iB.av 0 b] [inHE eU8 b]) [0, 3, 4] [0, 1] [(0, .as), (3, .as), (4, .int)] [] [] =
  (.vc (0 + b.length * 1 ≤ (List.map EK.u8.cell b).length ∧ 0 < 1)
    (.vc (0 ≤ IntKind.i64.wrap ((IntKind.i64.wrap ((↑b.length : Int) + 7)).tdiv 8) ∧ IntKind.i64.wrap ((IntKind.i64.wrap ((↑b.length : Int) + 7)).tdiv 8) ≤ IntKind.i64.wrap ((IntKind.i64.wrap ((↑b.length : Int) + 7)).tdiv 8) ∧ (↑8 : Int) * IntKind.i64.wrap ((IntKind.i64.wrap ((↑b.length : Int) + 7)).tdiv 8) ≤ 281474976710656 ∧ IntKind.i64.wrap ((IntKind.i64.wrap ((↑b.length : Int) + 7)).tdiv 8) < 1125899906842624)
      (.leaf (mkSt 38 [(0, .one (.c (.slc 0 0 (b.length) 1 (.of 0) false))), (3, .one (.c (.slc 1 0 ((IntKind.i64.wrap ((IntKind.i64.wrap ((↑b.length : Int) + 7)).tdiv 8)).toNat) 1 (.of 0) false))), (4, .one (.c (.int .i64 0)))] [.live ⟨false, 0, 1, (.elts .u8 (b : List UInt8)), false⟩, .live ⟨true, 25, 1, (.elts .u64 (List.replicate (IntKind.i64.wrap ((IntKind.i64.wrap ((↑b.length : Int) + 7)).tdiv 8)).toNat 0 : List UInt64)), false⟩])))) := by kernel_rfl
theorem rtk_round (cF : List UInt64 → List UInt64) (b : List UInt8) (out : List UInt64) (i : Int) : roundT (rtkE cF) 100 (loopAt Tryz.f153 0) (rtkSt b out i) (same [0, 3, 4] [0, 1]) =
  (.vc (0 + b.length * 1 ≤ (List.map EK.u8.cell b).length ∧ 0 < 1)
    (.br (decide (i < (↑b.length : Int)))
      (.vc ((0 ≤ IntKind.i64.wrap (i.tdiv 8) ∧ IntKind.i64.wrap (i.tdiv 8) < (↑out.length : Int)) ∧ 0 + out.length * 1 ≤ (List.map EK.u64.cell out).length ∧ 0 < 1)
        (.vc (0 + (IntKind.i64.wrap (i.tdiv 8)).toNat * 1 < out.length)
          (.vc (0 + b.length * 1 ≤ (List.map EK.u8.cell b).length ∧ 0 < 1)
            (.vc ((0 ≤ IntKind.i64.wrap (IntKind.i64.wrap ((↑b.length : Int) - 1) - i) ∧ IntKind.i64.wrap (IntKind.i64.wrap ((↑b.length : Int) - 1) - i) < (↑b.length : Int)) ∧ 0 + b.length * 1 ≤ (List.map EK.u8.cell b).length ∧ 0 < 1)
              (.vc (0 + (IntKind.i64.wrap (IntKind.i64.wrap ((↑b.length : Int) - 1) - i)).toNat * 1 < b.length)
                (.vc (0 ≤ IntKind.i64.wrap (8 * i.tmod 8))
                  (.vc ((0 ≤ IntKind.i64.wrap (i.tdiv 8) ∧ IntKind.i64.wrap (i.tdiv 8) < (↑out.length : Int)) ∧ 0 + out.length * 1 ≤ (List.map EK.u64.cell out).length ∧ 0 < 1)
                    (.vc (0 + (IntKind.i64.wrap (i.tdiv 8)).toNat * 1 < out.length)
                      (.leaf ((.normal, mkSt 38 [(0, .one (.c (.slc 0 0 (b.length) 1 (.of 0) false))), (3, .one (.c (.slc 1 0 (out.length) 1 (.of 0) false))), (4, .one (.c (.int .i64 (IntKind.i64.wrap (i + 1)))))] [.live ⟨false, 0, 1, (.elts .u8 (b : List UInt8)), false⟩, .live ⟨true, 25, 1, (.elts .u64 (out.set (0 + (IntKind.i64.wrap (i.tdiv 8)).toNat * 1) (out.getD (0 + (IntKind.i64.wrap (i.tdiv 8)).toNat * 1) 0 + shlU (b.getD (0 + (IntKind.i64.wrap (IntKind.i64.wrap ((↑b.length : Int) - 1) - i)).toNat * 1) 0).toUInt64 (IntKind.i64.wrap (8 * i.tmod 8))) : List UInt64)), false⟩])))))))))))
      (.leaf ((.exit 0, mkSt 38 [(0, .one (.c (.slc 0 0 (b.length) 1 (.of 0) false))), (3, .one (.c (.slc 1 0 (out.length) 1 (.of 0) false))), (4, .one (.c (.int .i64 (i))))] [.live ⟨false, 0, 1, (.elts .u8 (b : List UInt8)), false⟩, .live ⟨true, 25, 1, (.elts .u64 (out : List UInt64)), false⟩]))))) := by kernel_rfl
theorem rtk_end (cF : List UInt64 → List UInt64) (b : List UInt8) (out : List UInt64) (i : Int) : endT (rtkE cF) oL 100 Tryz.f153 (rtkC.drop 4) (rtkSt b out i) =
  (.vc ((0 + out.length ≤ out.length ∧ out.length < 1125899906842624 ∧ 0 = 0 ∧ 1 = 1) ∧ short (List.take out.length (List.drop 0 out)))
    (.leaf (some ((List.take (cF (List.take out.length (List.drop 0 out))).length (cF (List.take out.length (List.drop 0 out))), (.p ((cF (List.take out.length (List.drop 0 out))).length ≤ (cF (List.take out.length (List.drop 0 out))).length))))))) := by kernel_rfl
end Go.Proofs.YtbbnabednkopdaaGreat

set_option linter.unusedSimpArgs false
set_option linter.unusedVariables false
namespace Go.Proofs.YtbbnabednkopdaaGreat
def bAt (b : List UInt8) (j : Nat) : UInt8 := b.getD j 0
def bval (b : List UInt8) : Nat → Nat
  | 0 => 0
  | n + 1 => bval b n + (bAt b (b.length - 1 - n)).toNat * 256 ^ n
theorem bval_lt (b : List UInt8) : ∀ n, bval b n < 256 ^ n
  | 0 => by simp [bval]
  | n + 1 => by
    have ih := bval_lt b n
    have h := (bAt b (b.length - 1 - n)).toNat_lt
    simp only [bval]
    rw [Nat.pow_succ]
    have h2 : (bAt b (b.length - 1 - n)).toNat * 256 ^ n ≤ 255 * 256 ^ n := Nat.mul_le_mul_right _ (by omega)
    omega
theorem valAt_set_le (xs : List UInt64) (n : Nat) (v : UInt64) : ∀ {m : Nat}, m ≤ n → valAt (xs.set n v) m = valAt xs m
  | 0, _ => rfl
  | m + 1, h => by
    simp only [valAt]
    rw [valAt_set_le xs n v (m := m) (by omega), set_get xs n v (by omega)]
theorem valAt_set {xs : List UInt64} {n : Nat} (h : n < xs.length) (v : UInt64) : ∀ {m : Nat}, n < m → valAt (xs.set n v) m + (atF xs n).toNat * W64 ^ n = valAt xs m + v.toNat * W64 ^ n
  | 0, h1 => by omega
  | m + 1, h1 => by
    simp only [valAt]
    rcases Nat.lt_or_ge n m with h2 | h2
    · have ih := valAt_set h v h2
      rw [set_get xs n v (by omega)]
      omega
    · have e : m = n := by omega
      subst e
      rw [valAt_set_le xs m v (Nat.le_refl _), atF_set_eq h]
      omega
theorem valAt_split (xs : List UInt64) (q : Nat) : ∀ {m : Nat}, q < m → ∃ r, valAt xs m = valAt xs q + (atF xs q).toNat * W64 ^ q + r * W64 ^ (q + 1)
  | 0, h => by omega
  | m + 1, h => by
    rcases Nat.lt_or_ge q m with h2 | h2
    · obtain ⟨r, hr⟩ := valAt_split xs q h2
      refine ⟨r + (atF xs m).toNat * W64 ^ (m - (q + 1)), ?_⟩
      simp only [valAt]
      rw [hr, Nat.add_mul, Nat.mul_assoc, ← Nat.pow_add, show m - (q + 1) + (q + 1) = m by omega]
      omega
    · have e : m = q := by omega
      subst e
      exact ⟨0, by simp only [valAt]; omega⟩
theorem byte_pow (k : Nat) : 256 ^ k = 256 ^ (k % 8) * W64 ^ (k / 8) := by
  have h := Nat.mod_add_div k 8
  calc 256 ^ k = 256 ^ (k % 8 + 8 * (k / 8)) := by rw [h]
    _ = 256 ^ (k % 8) * (256 ^ 8) ^ (k / 8) := by rw [Nat.pow_add, Nat.pow_mul]
    _ = _ := rfl
theorem shl8_nat (c : UInt8) {s : Nat} (hs : s < 8) : (shlU c.toUInt64 ((8 * s : Nat) : Int)).toNat = c.toNat * 256 ^ s := by
  have hc := c.toNat_lt
  unfold shlU
  rw [Int.toNat_natCast, Nat.min_eq_left (by omega), UInt64.toNat_ofNat', Nat.pow_mul]
  have h1 : (c.toUInt64).toNat = c.toNat := rfl
  rw [h1]
  show c.toNat * 256 ^ s % 18446744073709551616 = _
  have h2 : 256 ^ s ≤ 256 ^ 7 := Nat.pow_le_pow_right (by decide) (by omega)
  have h3 : c.toNat * 256 ^ s ≤ 255 * 256 ^ 7 := Nat.mul_le_mul (by omega) h2
  exact Nat.mod_eq_of_lt (Nat.lt_of_le_of_lt h3 (by decide))
def rtkAt (b : List UInt8) : Nat → List UInt64
  | 0 => List.replicate ((b.length + 7) / 8) 0
  | i + 1 => (rtkAt b i).set (i / 8) (atF (rtkAt b i) (i / 8) + shlU (bAt b (b.length - 1 - i)).toUInt64 ((8 * (i % 8) : Nat) : Int))
theorem rtkAt_len (b : List UInt8) : ∀ i, (rtkAt b i).length = (b.length + 7) / 8
  | 0 => by simp only [rtkAt, List.length_replicate]
  | i + 1 => by simp only [rtkAt, List.length_set, rtkAt_len b i]
theorem valAt_rep (n : Nat) : ∀ m, valAt (List.replicate n 0) m = 0
  | 0 => rfl
  | m + 1 => by
    simp only [valAt]
    rw [valAt_rep n m, atF_rep]
    simp
theorem rtkAt_val (b : List UInt8) : ∀ i, i ≤ b.length → valAt (rtkAt b i) ((b.length + 7) / 8) = bval b i
  | 0, _ => valAt_rep _ _
  | i + 1, hi => by
    have ih := rtkAt_val b i (by omega)
    have hl := rtkAt_len b i
    have hq : i / 8 < (b.length + 7) / 8 := by omega
    have hlt := bval_lt b i
    have hs : i % 8 < 8 := Nat.mod_lt _ (by decide)
    simp only [rtkAt, bval]
    have e := valAt_set (xs := rtkAt b i) (n := i / 8) (by omega) (atF (rtkAt b i) (i / 8) + shlU (bAt b (b.length - 1 - i)).toUInt64 ((8 * (i % 8) : Nat) : Int)) hq
    obtain ⟨r, hr⟩ := valAt_split (rtkAt b i) (i / 8) hq
    have hA : (atF (rtkAt b i) (i / 8)).toNat < 256 ^ (i % 8) := by
      rw [byte_pow i, ← ih, hr] at hlt
      exact Nat.lt_of_mul_lt_mul_right (a := W64 ^ (i / 8)) (by omega)
    have hc := (bAt b (b.length - 1 - i)).toNat_lt
    have h7 : 256 ^ (i % 8) ≤ 256 ^ 7 := Nat.pow_le_pow_right (by decide) (by omega)
    have hsum : (atF (rtkAt b i) (i / 8) + shlU (bAt b (b.length - 1 - i)).toUInt64 ((8 * (i % 8) : Nat) : Int)).toNat = (atF (rtkAt b i) (i / 8)).toNat + (bAt b (b.length - 1 - i)).toNat * 256 ^ (i % 8) := by
      rw [UInt64.toNat_add, shl8_nat _ hs]
      have h3 : (bAt b (b.length - 1 - i)).toNat * 256 ^ (i % 8) ≤ 255 * 256 ^ 7 := Nat.mul_le_mul (by omega) h7
      have h4 : (256 : Nat) ^ 7 = 72057594037927936 := by decide
      rw [h4] at h3 h7
      omega
    rw [hsum, ih, Nat.add_mul, Nat.mul_assoc, ← byte_pow] at e
    omega
def takAt (b : List UInt8) : Nat → List UInt64
  | 0 => List.replicate (b.length / 8 + 1) 0
  | i + 1 => (takAt b i).set ((b.length - 1 - i) / 8) (atF (takAt b i) ((b.length - 1 - i) / 8) ||| shlU (bAt b i).toUInt64 ((8 * ((b.length - 1 - i) % 8) : Nat) : Int))
theorem takAt_len (b : List UInt8) : ∀ i, (takAt b i).length = b.length / 8 + 1
  | 0 => by simp only [takAt, List.length_replicate]
  | i + 1 => by simp only [takAt, List.length_set, takAt_len b i]
theorem or_add {x y : UInt64} {s : Nat} (hs : s < 8) {c : Nat} (hy : y.toNat = c * 256 ^ s) (hc : c < 256) {m : Nat} (hx : x.toNat = m * 256 ^ (s + 1)) : (x ||| y).toNat = x.toNat + y.toNat := by
  rw [UInt64.toNat_or]
  have h2 : (256 : Nat) ^ (s + 1) = 2 ^ (8 * (s + 1)) := by rw [Nat.pow_mul]
  have hlt : y.toNat < 2 ^ (8 * (s + 1)) := by
    rw [← h2, hy, Nat.pow_succ, Nat.mul_comm (256 ^ s)]
    exact Nat.mul_lt_mul_of_pos_right hc (Nat.pow_pos (by decide))
  rw [hx, h2, Nat.mul_comm m]
  exact (Nat.two_pow_add_eq_or_of_lt hlt m).symm
theorem takAt_val (b : List UInt8) : ∀ i, i ≤ b.length → valAt (takAt b i) (b.length / 8 + 1) + bval b (b.length - i) = bval b b.length ∧ ∃ m, valAt (takAt b i) (b.length / 8 + 1) = m * 256 ^ (b.length - i)
  | 0, _ => by
    rw [show takAt b 0 = List.replicate (b.length / 8 + 1) 0 from rfl, valAt_rep]
    exact ⟨by rw [Nat.zero_add, Nat.sub_zero], 0, by rw [Nat.zero_mul]⟩
  | i + 1, hi => by
    obtain ⟨ih, m, hm⟩ := takAt_val b i (by omega)
    have hl := takAt_len b i
    obtain ⟨k, hk⟩ : ∃ k, b.length - 1 - i = k := ⟨_, rfl⟩
    have hk1 : b.length - i = k + 1 := by omega
    have hk2 : b.length - (i + 1) = k := by omega
    have hk3 : b.length - 1 - k = i := by omega
    have hq : k / 8 < b.length / 8 + 1 := by omega
    have hs : k % 8 < 8 := Nat.mod_lt _ (by decide)
    rw [hk1] at ih hm
    simp only [bval] at ih
    rw [hk3] at ih
    rw [hk2]
    simp only [takAt]
    rw [hk]
    have e := valAt_set (xs := takAt b i) (n := k / 8) (by omega) (atF (takAt b i) (k / 8) ||| shlU (bAt b i).toUInt64 ((8 * (k % 8) : Nat) : Int)) hq
    obtain ⟨r, hr⟩ := valAt_split (takAt b i) (k / 8) hq
    have hvl := valAt_lt (takAt b i) (k / 8)
    have hW : 0 < W64 ^ (k / 8) := Nat.pow_pos (by decide)
    have hpow : 256 ^ (k + 1) = 256 ^ (k % 8 + 1) * W64 ^ (k / 8) := by rw [Nat.pow_succ, byte_pow k, Nat.mul_right_comm, ← Nat.pow_succ]
    have h0 : valAt (takAt b i) (k / 8) = 0 ∧ (atF (takAt b i) (k / 8)).toNat + r * W64 = m * 256 ^ (k % 8 + 1) := by
      rw [hm, hpow, show W64 ^ (k / 8 + 1) = W64 * W64 ^ (k / 8) by rw [Nat.pow_succ, Nat.mul_comm], ← Nat.mul_assoc m, ← Nat.mul_assoc r, Nat.add_assoc, ← Nat.add_mul] at hr
      have h1 := congrArg (· % W64 ^ (k / 8)) hr
      simp only [Nat.mul_mod_left, Nat.add_mul_mod_self_right, Nat.mod_eq_of_lt hvl] at h1
      refine ⟨h1.symm, ?_⟩
      rw [← h1, Nat.zero_add] at hr
      exact (Nat.eq_of_mul_eq_mul_right hW hr).symm
    obtain ⟨n, hn⟩ : ∃ n, (atF (takAt b i) (k / 8)).toNat = n * 256 ^ (k % 8 + 1) := by
      have hd : 256 ^ (k % 8 + 1) ∣ W64 := ⟨256 ^ (7 - k % 8), by rw [← Nat.pow_add, show k % 8 + 1 + (7 - k % 8) = 8 by omega]; rfl⟩
      have h1 : 256 ^ (k % 8 + 1) ∣ (atF (takAt b i) (k / 8)).toNat := (Nat.dvd_add_left (Nat.dvd_trans hd (Nat.dvd_mul_left _ r))).1 ⟨m, by rw [h0.2, Nat.mul_comm]⟩
      obtain ⟨n, hn⟩ := h1
      exact ⟨n, by rw [hn, Nat.mul_comm]⟩
    have hsum := or_add hs (shl8_nat (bAt b i) hs) (bAt b i).toNat_lt hn
    rw [hsum, shl8_nat _ hs, Nat.add_mul, Nat.mul_assoc _ (256 ^ (k % 8)), ← byte_pow] at e
    refine ⟨by omega, m * 256 + (bAt b i).toNat, ?_⟩
    rw [hm] at e
    rw [Nat.add_mul, Nat.mul_assoc, Nat.mul_comm 256, ← Nat.pow_succ]
    generalize m * 256 ^ (k + 1) = X at *
    generalize (bAt b i).toNat * 256 ^ k = Z at *
    generalize (atF (takAt b i) (k / 8)).toNat * W64 ^ (k / 8) = Y at *
    clear ih hm hr h0 hn hsum hpow hvl hW
    omega
def takF (b : List UInt8) : List UInt64 := cutF (takAt b b.length)
def rtkF (b : List UInt8) : List UInt64 := cutF (rtkAt b b.length)
theorem takF_val (b : List UInt8) : valL (takF b) = bval b b.length := by
  have h := (takAt_val b b.length (Nat.le_refl _)).1
  rw [Nat.sub_self] at h
  unfold takF
  rw [valL_cut]
  unfold valL
  rw [takAt_len]
  exact h
theorem rtkF_val (b : List UInt8) : valL (rtkF b) = bval b b.length := by
  have h := rtkAt_val b b.length (Nat.le_refl _)
  unfold rtkF
  rw [valL_cut]
  unfold valL
  rw [rtkAt_len]
  exact h
theorem valAt_inj {xs ys : List UInt64} : ∀ {n : Nat}, valAt xs n = valAt ys n → ∀ j, j < n → atF xs j = atF ys j
  | 0, _, j, hj => by omega
  | n + 1, h, j, hj => by
    simp only [valAt] at h
    have h1 := valAt_lt xs n
    have h2 := valAt_lt ys n
    have hW : 0 < W64 ^ n := Nat.pow_pos (by decide)
    have e1 := congrArg (· % W64 ^ n) h
    simp only [Nat.add_mul_mod_self_right, Nat.mod_eq_of_lt h1, Nat.mod_eq_of_lt h2] at e1
    rcases Nat.lt_or_ge j n with h3 | h3
    · exact valAt_inj e1 j h3
    · have ej : j = n := by omega
      subst ej
      rw [e1] at h
      exact UInt64.toNat.inj (Nat.eq_of_mul_eq_mul_right hW (Nat.add_left_cancel h))
theorem normal_ext {xs ys : List UInt64} (hx : Normal xs) (hy : Normal ys) (h : valL xs = valL ys) : xs = ys := by
  have hl : xs.length = ys.length := by
    rcases Nat.lt_trichotomy xs.length ys.length with h1 | h1 | h1
    · have := len_lt_val (xs := xs) (ys := ys) (by rw [hx, hy]; exact h1)
      omega
    · exact h1
    · have := len_lt_val (xs := ys) (ys := xs) (by rw [hx, hy]; exact h1)
      omega
  have hi := valAt_inj (xs := xs) (ys := ys) (n := xs.length) (by unfold valL at h; rw [h, hl])
  refine List.ext_getElem hl fun j h1 h2 => ?_
  have := hi j h1
  unfold atF at this
  rw [List.getD_eq_getElem?_getD, List.getD_eq_getElem?_getD, List.getElem?_eq_getElem h1, List.getElem?_eq_getElem h2] at this
  exact this
theorem takF_eq (b : List UInt8) : takF b = rtkF b := normal_ext (cutF_idem _) (cutF_idem _) (by rw [takF_val, rtkF_val])
end Go.Proofs.YtbbnabednkopdaaGreat

set_option linter.unusedSimpArgs false
set_option linter.unusedVariables false
namespace Go.Proofs.YtbbnabednkopdaaGreat
open Go.RowKit
theorem cut2_split : cut2C.drop 2 = .block 0 (.loop (loopAt Tryz.f186 0)) :: cut2C.drop 3 := by kernel_rfl
theorem cut2_ok : CallOk Tryz.prog 186 (K1 aLt rL cutF) :=
  G1 (E := En []) Tryz.func186 (c := codeOf Tryz.f186) (by kernel_rfl) (bodied Tryz.func186 (by kernel_rfl) (by kernel_rfl)) iLt oL cutF fun xs hx => by
    have hx : xs.length < 4294967296 := hx.2
    refine DoesL.stageG (En_ok .nil) 100 2 [0, 3] [0] [(0, .as), (3, .int)] [] [] (cut2_start xs) ⟨⟨by rw [u64_len]; omega, by decide⟩, fun _ => ?_⟩
    refine DoesL.blockLoop cut2_split (fun n : CutOk xs => cut2St xs (n.1 : Int)) (fun n => n.1) ⟨xs.length, Nat.le_refl _, rfl⟩ fun n => ?_
    obtain ⟨n, h1, h2⟩ := n
    refine Does.round (En_ok .nil) 100 _ (cut2_round xs n) ⟨fun h => ?_, fun h => ?_⟩
    · simp only [decide_eq_true_eq] at h
      obtain ⟨m, rfl⟩ : ∃ m, n = m + 1 := ⟨n - 1, by omega⟩
      have hw : IntKind.i64.wrap (((m + 1 : Nat) : Int) - 1) = (m : Int) := by rw [IntWalk.i64_in _ (by omega)]; omega
      rw [hw]
      refine ⟨⟨⟨by omega, by omega⟩, by rw [u64_len]; omega, by decide⟩, fun _ => ⟨by omega, fun _ => ⟨fun h3 => ?_, fun h3 => ?_⟩⟩⟩
      · refine ⟨⟨m, by omega, ?_⟩, by show m < m + 1; omega, rfl⟩
        rw [← h2]
        have : atF xs m = 0 := by
          simp only [beq_iff_eq, Nat.zero_add, Nat.mul_one, Int.toNat_natCast] at h3
          exact h3
        simp only [cutN, if_pos this]
      · refine ⟨rfl, DoesL.ends (En_ok .nil) 100 (cut2_end xs ((m + 1 : Nat) : Int)) ⟨?_, fun _ => ⟨?_, fun _ => reads_p ?_ ?_⟩⟩⟩
        · rw [u64_len, Int.toNat_natCast]; exact ⟨by omega, by omega, by omega, by omega, by decide, .inl rfl, rfl, rfl⟩
        · rw [Int.toNat_natCast]; omega
        · simp only [Int.toNat_natCast, Nat.zero_add, Nat.sub_zero, List.drop_zero, List.nil_append, List.take_take, Nat.min_self]
          unfold cutF
          rw [← h2]
          have : atF xs m ≠ 0 := by
            simp only [beq_eq_false_iff_ne, Nat.zero_add, Nat.mul_one, Int.toNat_natCast] at h3
            exact h3
          simp only [cutN, if_neg this]
        · simp only [Int.toNat_natCast, Nat.zero_add, Nat.sub_zero, List.drop_zero, List.nil_append, List.length_take]
          omega
    · simp only [decide_eq_false_iff_not] at h
      obtain rfl : n = 0 := by omega
      refine ⟨rfl, DoesL.ends (En_ok .nil) 100 (cut2_end xs 0) ⟨?_, fun _ => ⟨?_, fun _ => reads_p ?_ ?_⟩⟩⟩
      · rw [u64_len]; exact ⟨by omega, by omega, by simp, by omega, by decide, .inl rfl, rfl, rfl⟩
      · simp
      · unfold cutF
        rw [← h2]
        simp [cutN]
      · simp
abbrev littleB (xs : List UInt8) : Prop := xs.length < 16777216
abbrev aBs : Arg (List UInt8) := aB.such littleB
abbrev iBs : Inp (List UInt8) := iB.such littleB
theorem u8_len (xs : List UInt8) : (List.map EK.u8.cell xs).length = xs.length := List.length_map _
theorem vcLenB (xs : List UInt8) : 0 + xs.length * 1 ≤ (List.map EK.u8.cell xs).length ∧ 0 < 1 := ⟨by rw [u8_len]; omega, by decide⟩
theorem vcIdxB {xs : List UInt8} {n : Nat} (h : n < xs.length) : ((0 : Int) ≤ (n : Int) ∧ (n : Int) < (xs.length : Int)) ∧ 0 + xs.length * 1 ≤ (List.map EK.u8.cell xs).length ∧ 0 < 1 := ⟨⟨by omega, by omega⟩, vcLenB xs⟩
theorem vcGetB {xs : List UInt8} {n : Nat} (h : n < xs.length) : 0 + ((n : Int)).toNat * 1 < xs.length := by rw [Int.toNat_natCast]; omega
theorem getB (xs : List UInt8) (n : Nat) : xs.getD (0 + ((n : Int)).toNat * 1) 0 = bAt xs n := by rw [Int.toNat_natCast, Nat.zero_add, Nat.mul_one]; rfl
theorem tdiv8 (n : Nat) : ((n : Int)).tdiv 8 = ((n / 8 : Nat) : Int) := by rw [Int.tdiv_eq_ediv_of_nonneg (by omega)]; omega
theorem tmod8 (n : Nat) : ((n : Int)).tmod 8 = ((n % 8 : Nat) : Int) := by rw [Int.tmod_eq_emod_of_nonneg (by omega)]; omega
theorem i64_nat {n : Nat} (h : n < 9223372036854775808) : IntKind.i64.wrap (n : Int) = (n : Int) := IntWalk.i64_in _ (by omega)
theorem back_nat {l i : Nat} (h : i < l) (hl : l < 9223372036854775808) : IntKind.i64.wrap (IntKind.i64.wrap ((l : Int) - 1) - (i : Int)) = ((l - 1 - i : Nat) : Int) := by
  rw [IntWalk.i64_in ((l : Int) - 1) (by omega), IntWalk.i64_in _ (by omega)]
  omega
theorem shift_nat (k : Nat) : IntKind.i64.wrap (8 * ((k % 8 : Nat) : Int)) = ((8 * (k % 8) : Nat) : Int) := by
  rw [IntWalk.i64_in _ (by omega)]
  omega
theorem uint_nat {n : Nat} (h : n < 18446744073709551616) : (((UInt64.ofNat (((n : Int) % 18446744073709551616).toNat)).toNat : Nat) : Int) = (n : Int) := by
  rw [UInt64.toNat_ofNat']
  omega
theorem tak_ok : CallOk Tryz.prog 141 (K1 aBs rL takF) :=
  G1 (E := takE cutF) Tryz.func141 (c := codeOf Tryz.f141) (by kernel_rfl) (bodied Tryz.func141 (by kernel_rfl) (by kernel_rfl)) iBs oL takF fun b hb => by
    have hb : b.length < 16777216 := hb.2
    have hE : EnvOk (takE cutF) := Ens_ok (.cons cut2_ok .nil)
    refine DoesL.stageG hE 100 3 _ _ _ _ _ (tak_start cutF b) ?_
    have hw : IntKind.i64.wrap (IntKind.i64.wrap ((b.length : Int).tdiv 8) + 1) = ((b.length / 8 + 1 : Nat) : Int) := by
      rw [tdiv8, i64_nat (by omega), IntWalk.i64_in _ (by omega)]
      omega
    rw [hw]
    refine ⟨vcLenB b, fun _ => ⟨⟨by omega, by omega, by omega, by omega⟩, fun _ => ⟨vcLenB b, fun _ => ?_⟩⟩⟩
    rw [Int.toNat_natCast]
    have h0 := takAt_len b 0
    refine (?_ : DoesL _ _ (mkSt 41 [(0, .one (.c (.slc 0 0 b.length 1 (.of 0) false))), (3, .one (.c (.slc 1 0 (b.length / 8 + 1) 1 (.of 0) false))), (12, .one (.c (.slc 0 0 b.length 1 (.of 0) false))), (13, vI b.length), (14, vI 0)] [inHE eU8 b, ownL (takAt b 0)]) _)
    rw [← h0]
    refine (?_ : DoesL _ _ (takSt b (takAt b 0) ((0 : Nat) : Int)) _)
    refine DoesL.blockLoop (B := loopAt Tryz.f141 0) (rest := takC.drop 4) (id := 0) (by kernel_rfl) (fun i : { i : Nat // i ≤ b.length } => takSt b (takAt b i.1) (i.1 : Int)) (fun i => b.length - i.1) ⟨0, Nat.zero_le _⟩ fun i => ?_
    obtain ⟨i, hi⟩ := i
    have hl := takAt_len b i
    show Does _ _ (takSt b (takAt b i) (i : Int)) _
    refine Does.round hE 100 _ (tak_round cutF b (takAt b i) (i : Int)) ⟨fun h => ?_, fun h => ?_⟩
    · simp only [decide_eq_true_eq] at h
      have hi' : i < b.length := by omega
      rw [back_nat hi' (by omega), tdiv8, tmod8, i64_nat (by omega), shift_nat, uint_nat (by omega), wrap_succ i (by omega)]
      have hq : (b.length - 1 - i) / 8 < (takAt b i).length := by omega
      refine ⟨vcIdxB hi', fun _ => ⟨vcGetB hi', fun _ => ⟨vcLenB b, fun _ => ⟨vcIdx hq, fun _ => ⟨vcGet hq, fun _ => ⟨vcIdx hq, fun _ => ⟨vcGet hq, fun _ => ?_⟩⟩⟩⟩⟩⟩⟩
      refine ⟨⟨i + 1, hi'⟩, by show b.length - (i + 1) < b.length - i; omega, ?_⟩
      rw [getZ, getB, Int.toNat_natCast, Nat.zero_add, Nat.mul_one]
      have e : (takAt b (i + 1)).length = (takAt b i).length := by rw [takAt_len, takAt_len]
      show _ = takSt b (takAt b (i + 1)) ((i + 1 : Nat) : Int)
      unfold takSt slV
      rw [e]
      rfl
    · simp only [decide_eq_false_iff_not] at h
      obtain rfl : i = b.length := by omega
      refine ⟨rfl, DoesL.ends hE 100 (tak_end cutF b _ _) ?_⟩
      simp only [whole]
      refine ⟨⟨okW (by omega), by show (takAt b _).length < _; omega⟩, fun _ => reads_p ?_ (Nat.le_refl _)⟩
      rw [List.take_length]
      rfl
theorem rtk_ok : CallOk Tryz.prog 153 (K1 aBs rL rtkF) :=
  G1 (E := rtkE cutF) Tryz.func153 (c := codeOf Tryz.f153) (by kernel_rfl) (bodied Tryz.func153 (by kernel_rfl) (by kernel_rfl)) iBs oL rtkF fun b hb => by
    have hb : b.length < 16777216 := hb.2
    have hE : EnvOk (rtkE cutF) := Ens_ok (.cons cut_ok .nil)
    refine DoesL.stageG hE 100 3 _ _ _ _ _ (rtk_start cutF b) ?_
    have hw : IntKind.i64.wrap ((IntKind.i64.wrap ((b.length : Int) + 7)).tdiv 8) = (((b.length + 7) / 8 : Nat) : Int) := by
      rw [show (b.length : Int) + 7 = ((b.length + 7 : Nat) : Int) by omega, i64_nat (by omega), tdiv8, i64_nat (by omega)]
    rw [hw]
    refine ⟨vcLenB b, fun _ => ⟨⟨by omega, by omega, by omega, by omega⟩, fun _ => ?_⟩⟩
    rw [Int.toNat_natCast]
    have h0 := rtkAt_len b 0
    refine (?_ : DoesL _ _ (mkSt 38 [(0, .one (.c (.slc 0 0 b.length 1 (.of 0) false))), (3, .one (.c (.slc 1 0 ((b.length + 7) / 8) 1 (.of 0) false))), (4, vI 0)] [inHE eU8 b, ownL (rtkAt b 0)]) _)
    rw [← h0]
    refine (?_ : DoesL _ _ (rtkSt b (rtkAt b 0) ((0 : Nat) : Int)) _)
    refine DoesL.blockLoop (B := loopAt Tryz.f153 0) (rest := rtkC.drop 4) (id := 0) (by kernel_rfl) (fun i : { i : Nat // i ≤ b.length } => rtkSt b (rtkAt b i.1) (i.1 : Int)) (fun i => b.length - i.1) ⟨0, Nat.zero_le _⟩ fun i => ?_
    obtain ⟨i, hi⟩ := i
    have hl := rtkAt_len b i
    show Does _ _ (rtkSt b (rtkAt b i) (i : Int)) _
    refine Does.round hE 100 _ (rtk_round cutF b (rtkAt b i) (i : Int)) ⟨vcLenB b, fun _ => ⟨fun h => ?_, fun h => ?_⟩⟩
    · simp only [decide_eq_true_eq] at h
      have hi' : i < b.length := by omega
      rw [back_nat hi' (by omega), tdiv8, tmod8, i64_nat (by omega), shift_nat, wrap_succ i (by omega)]
      have hq : i / 8 < (rtkAt b i).length := by omega
      have hk : b.length - 1 - i < b.length := by omega
      refine ⟨vcIdx hq, fun _ => ⟨vcGet hq, fun _ => ⟨vcLenB b, fun _ => ⟨vcIdxB hk, fun _ => ⟨vcGetB hk, fun _ => ⟨by omega, fun _ => ⟨vcIdx hq, fun _ => ⟨vcGet hq, fun _ => ?_⟩⟩⟩⟩⟩⟩⟩⟩
      refine ⟨⟨i + 1, hi'⟩, by show b.length - (i + 1) < b.length - i; omega, ?_⟩
      rw [getZ, getB, Int.toNat_natCast, Nat.zero_add, Nat.mul_one]
      have e : (rtkAt b (i + 1)).length = (rtkAt b i).length := by rw [rtkAt_len, rtkAt_len]
      show _ = rtkSt b (rtkAt b (i + 1)) ((i + 1 : Nat) : Int)
      unfold rtkSt slV
      rw [e]
      rfl
    · simp only [decide_eq_false_iff_not] at h
      obtain rfl : i = b.length := by omega
      refine ⟨rfl, DoesL.ends hE 100 (rtk_end cutF b _ _) ?_⟩
      simp only [whole]
      refine ⟨⟨okW (by omega), by show (rtkAt b _).length < _; omega⟩, fun _ => reads_p ?_ (Nat.le_refl _)⟩
      rw [List.take_length]
      rfl
end Go.Proofs.YtbbnabednkopdaaGreat

set_option linter.unusedSimpArgs false
set_option linter.unusedVariables false
namespace Go.Proofs.YtbbnabednkopdaaGreat
open Go.RowKit
abbrev rBI : Res (List UInt8 × Int) := resSl2 eU8 5
abbrev oBI : Out (List UInt8 × Int) := outSl2 eU8 5
abbrev rB : Res (List UInt8) := resSl eU8 5
abbrev oBl : Out (List UInt8) := outSl eU8 5
def ownB (xs : List UInt8) : HE := .live ⟨true, 5, 1, .elts .u8 xs, false⟩
def slB (i : Nat) (xs : List UInt8) : AV := .one (.c (.slc i 0 xs.length 1 (.of 0) false))
noncomputable abbrev putE (cF : List UInt64 → List UInt64) : Env := Ens [(186, K1 aLt rL cF)] [186]
noncomputable abbrev putC : List Code := flat (codeOf Tryz.f134)
noncomputable abbrev putB : Code := loopAt Tryz.f134 0
noncomputable abbrev putI : Code := loopAt Tryz.f134 1
noncomputable abbrev putD : Code := match nth (flat putB) 2 with | some c => unblock c | none => .skip
theorem putB_split : (flat putB).drop 2 = .block 1 putD :: (flat putB).drop 3 := by kernel_rfl
theorem putB_last : ((flat putB).drop 3).drop 1 = [] := by kernel_rfl
theorem putD_split : (flat putD).drop 2 = .block 2 (.loop putI) :: [] := by kernel_rfl
def putSt (a : List UInt64) (n : Int) (out : List UInt8) (i : Int) : St := mkSt 60 [(1, vI n), (6, slB 1 out), (22, slV 0 a), (23, vI a.length), (24, vI i)] [ownL a, ownB out]
def putIn (a : List UInt64) (n : Int) (out : List UInt8) (i : Int) (x : UInt64) (k : Int) : St := mkSt 60 [(1, vI n), (6, slB 1 out), (7, vI i), (8, .one (.c (.u64 x))), (22, slV 0 a), (23, vI a.length), (24, vI i), (29, vI k)] [ownL a, ownB out]
theorem put_start (cF : List UInt64 → List UInt64) (a : List UInt64) (n : Int) : segT (putE cF) oBI 100 Tryz.f134 (putC.take 6) (startSt Tryz.f134 [iL.av 0 a, vI n] [inHE eU64 a]) [1, 6, 22, 23, 24] [1, 2] [(1, .as), (6, .as), (22, .as), (23, .int), (24, .int)] [] [] =
  (.vc ((0 + a.length ≤ a.length ∧ a.length < 1125899906842624 ∧ 0 = 0 ∧ 1 = 1) ∧ tiny (List.take a.length (List.drop 0 a)))
    (.br (decide (n < 0))
      (.leaf (.inr (some ((([], 8), .t)))))
      (.br (decide (n > 192))
        (.leaf (.inr (some ((([], 8), .t)))))
        (.vc (0 ≤ n ∧ n ≤ n ∧ (↑1 : Int) * n ≤ 281474976710656 ∧ n < 1125899906842624)
          (.vc (0 + (cF (List.take a.length (List.drop 0 a))).length * 1 ≤ (List.map EK.u64.cell (cF (List.take a.length (List.drop 0 a)))).length ∧ 0 < 1)
            (.leaf (.inl (mkSt 60 [(1, .one (.c (.int .i64 (n)))), (6, .one (.c (.slc 1 0 (n.toNat) 1 (.of 0) false))), (22, .one (.c (.slc 0 0 ((cF (List.take a.length (List.drop 0 a))).length) 1 (.of 0) false))), (23, .one (.c (.int .i64 ((↑(cF (List.take a.length (List.drop 0 a))).length : Int))))), (24, .one (.c (.int .i64 0)))] [.live ⟨true, 25, 1, (.elts .u64 (cF (List.take a.length (List.drop 0 a)) : List UInt64)), false⟩, .live ⟨true, 5, 1, (.elts .u8 (List.replicate n.toNat 0 : List UInt8)), false⟩])))))))) := by kernel_rfl
theorem put_head (cF : List UInt64 → List UInt64) (a : List UInt64) (n : Int) (out : List UInt8) (i : Int) : partT (putE cF) 100 ((flat putB).take 2) (putSt a n out i) (following [1, 6, 22, 23, 24] [0, 1] []) =
  (.br (decide (i < (↑a.length : Int)))
    (.leaf ((.normal, mkSt 60 [(1, .one (.c (.int .i64 (n)))), (6, .one (.c (.slc 1 0 (out.length) 1 (.of 0) false))), (22, .one (.c (.slc 0 0 (a.length) 1 (.of 0) false))), (23, .one (.c (.int .i64 ((↑a.length : Int))))), (24, .one (.c (.int .i64 (i))))] [.live ⟨true, 25, 1, (.elts .u64 (a : List UInt64)), false⟩, .live ⟨true, 5, 1, (.elts .u8 (out : List UInt8)), false⟩])))
    (.leaf ((.exit 0, mkSt 60 [(1, .one (.c (.int .i64 (n)))), (6, .one (.c (.slc 1 0 (out.length) 1 (.of 0) false))), (22, .one (.c (.slc 0 0 (a.length) 1 (.of 0) false))), (23, .one (.c (.int .i64 ((↑a.length : Int))))), (24, .one (.c (.int .i64 (i))))] [.live ⟨true, 25, 1, (.elts .u64 (a : List UInt64)), false⟩, .live ⟨true, 5, 1, (.elts .u8 (out : List UInt8)), false⟩])))) := by kernel_rfl
theorem put_in (cF : List UInt64 → List UInt64) (a : List UInt64) (n : Int) (out : List UInt8) (i : Int) : stageG (putE cF) 100 ((flat putD).take 2) (putSt a n out i) [1, 6, 7, 8, 22, 23, 24, 29] [0, 1] [(1, .as), (6, .as), (7, .as), (8, .as), (22, .as), (23, .as), (24, .as), (29, .int)] [] [] =
  (.vc ((0 ≤ i ∧ i < (↑a.length : Int)) ∧ 0 + a.length * 1 ≤ (List.map EK.u64.cell a).length ∧ 0 < 1)
    (.vc (0 + i.toNat * 1 < a.length)
      (.leaf (mkSt 60 [(1, .one (.c (.int .i64 (n)))), (6, .one (.c (.slc 1 0 (out.length) 1 (.of 0) false))), (7, .one (.c (.int .i64 (i)))), (8, .one (.c (.u64 (a.getD (0 + i.toNat * 1) 0)))), (22, .one (.c (.slc 0 0 (a.length) 1 (.of 0) false))), (23, .one (.c (.int .i64 ((↑a.length : Int))))), (24, .one (.c (.int .i64 (i)))), (29, .one (.c (.int .i64 0)))] [.live ⟨true, 25, 1, (.elts .u64 (a : List UInt64)), false⟩, .live ⟨true, 5, 1, (.elts .u8 (out : List UInt8)), false⟩])))) := by kernel_rfl
theorem put_round (cF : List UInt64 → List UInt64) (a : List UInt64) (n : Int) (out : List UInt8) (i : Int) (x : UInt64) (k : Int) : iterT (putE cF) oBI 100 Tryz.f134 [putI] (putIn a n out i x k) [1, 6, 7, 8, 22, 23, 24, 29] [0, 1] =
  (.br (decide (k < 8))
    (.br (decide (IntKind.i64.wrap (IntKind.i64.wrap (IntKind.i64.wrap (n - 1) - IntKind.i64.wrap (8 * i)) - k) < 0))
      (.br ((shrU x (↑(UInt64.ofNat (IntKind.i64.wrap (8 * k) % 18446744073709551616).toNat).toNat : Int)).toUInt8 != UInt8.ofNat 0)
        (.leaf (.inr (some ((([], 8), .t)))))
        (.br (decide (IntKind.i64.wrap (IntKind.i64.wrap (IntKind.i64.wrap (n - 1) - IntKind.i64.wrap (8 * i)) - k) ≥ 0))
          (.vc ((0 ≤ IntKind.i64.wrap (IntKind.i64.wrap (IntKind.i64.wrap (n - 1) - IntKind.i64.wrap (8 * i)) - k) ∧ IntKind.i64.wrap (IntKind.i64.wrap (IntKind.i64.wrap (n - 1) - IntKind.i64.wrap (8 * i)) - k) < (↑out.length : Int)) ∧ 0 + out.length * 1 ≤ (List.map EK.u8.cell out).length ∧ 0 < 1)
            (.vc (0 + (IntKind.i64.wrap (IntKind.i64.wrap (IntKind.i64.wrap (n - 1) - IntKind.i64.wrap (8 * i)) - k)).toNat * 1 < out.length)
              (.leaf (.inl ((.normal, mkSt 60 [(1, .one (.c (.int .i64 (n)))), (6, .one (.c (.slc 1 0 (out.length) 1 (.of 0) false))), (7, .one (.c (.int .i64 (i)))), (8, .one (.c (.u64 (x)))), (22, .one (.c (.slc 0 0 (a.length) 1 (.of 0) false))), (23, .one (.c (.int .i64 ((↑a.length : Int))))), (24, .one (.c (.int .i64 (i)))), (29, .one (.c (.int .i64 (IntKind.i64.wrap (k + 1)))))] [.live ⟨true, 25, 1, (.elts .u64 (a : List UInt64)), false⟩, .live ⟨true, 5, 1, (.elts .u8 (out.set (0 + (IntKind.i64.wrap (IntKind.i64.wrap (IntKind.i64.wrap (n - 1) - IntKind.i64.wrap (8 * i)) - k)).toNat * 1) (shrU x (↑(UInt64.ofNat (IntKind.i64.wrap (8 * k) % 18446744073709551616).toNat).toNat : Int)).toUInt8 : List UInt8)), false⟩]))))))
          (.leaf (.inl ((.normal, mkSt 60 [(1, .one (.c (.int .i64 (n)))), (6, .one (.c (.slc 1 0 (out.length) 1 (.of 0) false))), (7, .one (.c (.int .i64 (i)))), (8, .one (.c (.u64 (x)))), (22, .one (.c (.slc 0 0 (a.length) 1 (.of 0) false))), (23, .one (.c (.int .i64 ((↑a.length : Int))))), (24, .one (.c (.int .i64 (i)))), (29, .one (.c (.int .i64 (IntKind.i64.wrap (k + 1)))))] [.live ⟨true, 25, 1, (.elts .u64 (a : List UInt64)), false⟩, .live ⟨true, 5, 1, (.elts .u8 (out : List UInt8)), false⟩]))))))
      (.br (decide (IntKind.i64.wrap (IntKind.i64.wrap (IntKind.i64.wrap (n - 1) - IntKind.i64.wrap (8 * i)) - k) ≥ 0))
        (.vc ((0 ≤ IntKind.i64.wrap (IntKind.i64.wrap (IntKind.i64.wrap (n - 1) - IntKind.i64.wrap (8 * i)) - k) ∧ IntKind.i64.wrap (IntKind.i64.wrap (IntKind.i64.wrap (n - 1) - IntKind.i64.wrap (8 * i)) - k) < (↑out.length : Int)) ∧ 0 + out.length * 1 ≤ (List.map EK.u8.cell out).length ∧ 0 < 1)
          (.vc (0 + (IntKind.i64.wrap (IntKind.i64.wrap (IntKind.i64.wrap (n - 1) - IntKind.i64.wrap (8 * i)) - k)).toNat * 1 < out.length)
            (.leaf (.inl ((.normal, mkSt 60 [(1, .one (.c (.int .i64 (n)))), (6, .one (.c (.slc 1 0 (out.length) 1 (.of 0) false))), (7, .one (.c (.int .i64 (i)))), (8, .one (.c (.u64 (x)))), (22, .one (.c (.slc 0 0 (a.length) 1 (.of 0) false))), (23, .one (.c (.int .i64 ((↑a.length : Int))))), (24, .one (.c (.int .i64 (i)))), (29, .one (.c (.int .i64 (IntKind.i64.wrap (k + 1)))))] [.live ⟨true, 25, 1, (.elts .u64 (a : List UInt64)), false⟩, .live ⟨true, 5, 1, (.elts .u8 (out.set (0 + (IntKind.i64.wrap (IntKind.i64.wrap (IntKind.i64.wrap (n - 1) - IntKind.i64.wrap (8 * i)) - k)).toNat * 1) (shrU x (↑(UInt64.ofNat (IntKind.i64.wrap (8 * k) % 18446744073709551616).toNat).toNat : Int)).toUInt8 : List UInt8)), false⟩]))))))
        (.leaf (.inl ((.normal, mkSt 60 [(1, .one (.c (.int .i64 (n)))), (6, .one (.c (.slc 1 0 (out.length) 1 (.of 0) false))), (7, .one (.c (.int .i64 (i)))), (8, .one (.c (.u64 (x)))), (22, .one (.c (.slc 0 0 (a.length) 1 (.of 0) false))), (23, .one (.c (.int .i64 ((↑a.length : Int))))), (24, .one (.c (.int .i64 (i)))), (29, .one (.c (.int .i64 (IntKind.i64.wrap (k + 1)))))] [.live ⟨true, 25, 1, (.elts .u64 (a : List UInt64)), false⟩, .live ⟨true, 5, 1, (.elts .u8 (out : List UInt8)), false⟩]))))))
    (.leaf (.inl ((.exit 2, mkSt 60 [(1, .one (.c (.int .i64 (n)))), (6, .one (.c (.slc 1 0 (out.length) 1 (.of 0) false))), (7, .one (.c (.int .i64 (i)))), (8, .one (.c (.u64 (x)))), (22, .one (.c (.slc 0 0 (a.length) 1 (.of 0) false))), (23, .one (.c (.int .i64 ((↑a.length : Int))))), (24, .one (.c (.int .i64 (i)))), (29, .one (.c (.int .i64 (k))))] [.live ⟨true, 25, 1, (.elts .u64 (a : List UInt64)), false⟩, .live ⟨true, 5, 1, (.elts .u8 (out : List UInt8)), false⟩]))))) := by kernel_rfl
theorem put_next (cF : List UInt64 → List UInt64) (a : List UInt64) (n : Int) (out : List UInt8) (i : Int) (x : UInt64) (k : Int) : partT (putE cF) 100 (((flat putB).drop 3).take 1) (putIn a n out i x k) (following [1, 6, 22, 23, 24] [0, 1] []) =
  (.leaf ((.normal, mkSt 60 [(1, .one (.c (.int .i64 (n)))), (6, .one (.c (.slc 1 0 (out.length) 1 (.of 0) false))), (22, .one (.c (.slc 0 0 (a.length) 1 (.of 0) false))), (23, .one (.c (.int .i64 ((↑a.length : Int))))), (24, .one (.c (.int .i64 (IntKind.i64.wrap (i + 1)))))] [.live ⟨true, 25, 1, (.elts .u64 (a : List UInt64)), false⟩, .live ⟨true, 5, 1, (.elts .u8 (out : List UInt8)), false⟩]))) := by kernel_rfl
theorem put_end (cF : List UInt64 → List UInt64) (a : List UInt64) (n : Int) (out : List UInt8) (i : Int) : endT (putE cF) oBI 100 Tryz.f134 (putC.drop 7) (putSt a n out i) =
  (.leaf (some (((List.take out.length out, 0), (.p (out.length ≤ out.length)))))) := by kernel_rfl
end Go.Proofs.YtbbnabednkopdaaGreat

set_option linter.unusedSimpArgs false
set_option linter.unusedVariables false
namespace Go.Proofs.YtbbnabednkopdaaGreat
open Go.RowKit
def byteAt (a : List UInt64) (j : Nat) : UInt8 := (shrU (atF a (j / 8)) ((8 * (j % 8) : Nat) : Int)).toUInt8
def fillB (a : List UInt64) (n g : Nat) : List UInt8 := (List.range n).map fun t => if n - 1 - t < g then byteAt a (n - 1 - t) else 0
def fullB (a : List UInt64) (n : Nat) : List UInt8 := (List.range n).map fun t => byteAt a (n - 1 - t)
def overB (a : List UInt64) (n : Nat) : Nat → Bool
  | 0 => false
  | g + 1 => overB a n g || (decide (n ≤ g) && (byteAt a g != 0))
def putO (a : List UInt64) (n : Nat) : List UInt8 × Int := match overB a n (8 * a.length) with
  | true => ([], 8)
  | false => (fullB a n, 0)
def putF (a : List UInt64) (z : Int) : List UInt8 × Int := if z < 0 then ([], 8) else if z > 192 then ([], 8) else putO (cutF a) z.toNat
theorem fillB_len (a : List UInt64) (n g : Nat) : (fillB a n g).length = n := by unfold fillB; rw [List.length_map, List.length_range]
theorem fullB_len (a : List UInt64) (n : Nat) : (fullB a n).length = n := by unfold fullB; rw [List.length_map, List.length_range]
theorem fillB_zero (a : List UInt64) (n : Nat) : List.replicate n 0 = fillB a n 0 := by
  refine List.ext_getElem (by rw [List.length_replicate, fillB_len]) fun j h1 h2 => ?_
  simp [fillB]
theorem fillB_set (a : List UInt64) {n g : Nat} (h : g < n) : (fillB a n g).set (n - 1 - g) (byteAt a g) = fillB a n (g + 1) := by
  refine List.ext_getElem (by rw [List.length_set, fillB_len, fillB_len]) fun j h1 h2 => ?_
  rw [fillB_len] at h2
  rw [List.getElem_set]
  simp only [fillB, List.getElem_map, List.getElem_range]
  by_cases e : n - 1 - g = j
  · rw [if_pos e, if_pos (by omega), show n - 1 - j = g by omega]
  · rw [if_neg e]
    by_cases h3 : n - 1 - j < g
    · rw [if_pos h3, if_pos (by omega)]
    · rw [if_neg h3, if_neg (by omega)]
theorem fillB_more (a : List UInt64) {n g : Nat} (h : n ≤ g) : fillB a n (g + 1) = fillB a n g := by
  refine List.ext_getElem (by rw [fillB_len, fillB_len]) fun j h1 h2 => ?_
  rw [fillB_len] at h2
  simp only [fillB, List.getElem_map, List.getElem_range]
  rw [if_pos (by omega), if_pos (by omega)]
theorem byteAt_out (a : List UInt64) {j : Nat} (h : 8 * a.length ≤ j) : byteAt a j = 0 := by
  unfold byteAt
  rw [atF_out (by omega)]
  unfold shrU
  rw [show (0 : UInt64).toNat = 0 from rfl, Nat.zero_div]
  rfl
theorem fillB_end (a : List UInt64) (n : Nat) : fillB a n (8 * a.length) = fullB a n := by
  refine List.ext_getElem (by rw [fillB_len, fullB_len]) fun j h1 h2 => ?_
  simp only [fillB, fullB, List.getElem_map, List.getElem_range]
  split
  · rfl
  · rw [byteAt_out a (by omega)]
theorem overB_mono {a : List UInt64} {n : Nat} : ∀ {g h : Nat}, g ≤ h → overB a n g = true → overB a n h = true
  | g, 0, hl, he => by rw [show g = 0 by omega] at he; exact he
  | g, h + 1, hl, he => by
    rcases Nat.lt_or_ge g (h + 1) with h1 | h1
    · simp only [overB]
      rw [overB_mono (h := h) (by omega) he, Bool.true_or]
    · rw [show h + 1 = g by omega]; exact he
theorem overB_low {a : List UInt64} {n : Nat} : ∀ {g : Nat}, g ≤ n → overB a n g = false
  | 0, _ => rfl
  | g + 1, h => by
    simp only [overB]
    rw [overB_low (g := g) (by omega), decide_eq_false (by omega)]
    rfl
theorem overB_yes {a : List UInt64} {n g : Nat} (h : n ≤ g) (hb : (byteAt a g != 0) = true) (hg : g < 8 * a.length) : putO a n = ([], 8) := by
  have h1 : overB a n (g + 1) = true := by simp only [overB]; rw [hb, decide_eq_true h]; simp
  unfold putO
  rw [overB_mono (by omega) h1]
theorem overB_no {a : List UInt64} {n g : Nat} (h : overB a n g = false) (hb : (byteAt a g != 0) = false) : overB a n (g + 1) = false := by
  simp only [overB]
  rw [h, hb]
  simp
theorem overB_in {a : List UInt64} {n g : Nat} (h : overB a n g = false) (hg : g < n) : overB a n (g + 1) = false := overB_low (by omega)
theorem putO_done {a : List UInt64} {n : Nat} (h : overB a n (8 * a.length) = false) : putO a n = (fullB a n, 0) := by
  unfold putO
  rw [h]
theorem byte_in (a : List UInt64) (i : Nat) {k : Nat} (hk : k < 8) : byteAt a (8 * i + k) = (shrU (atF a i) ((8 * k : Nat) : Int)).toUInt8 := by
  unfold byteAt
  rw [show (8 * i + k) / 8 = i by omega, show (8 * i + k) % 8 = k by omega]
end Go.Proofs.YtbbnabednkopdaaGreat

set_option linter.unusedSimpArgs false
set_option linter.unusedVariables false
namespace Go.Proofs.YtbbnabednkopdaaGreat
open Go.RowKit
theorem to_nat (m i k : Nat) (hm : m ≤ 192) (hi : i < 4611686018427387904 / 64) (hk : k ≤ 8) : IntKind.i64.wrap (IntKind.i64.wrap (IntKind.i64.wrap ((m : Int) - 1) - IntKind.i64.wrap (8 * (i : Int))) - (k : Int)) = (m : Int) - 1 - (8 * i + k : Nat) := by
  rw [IntWalk.i64_in ((m : Int) - 1) (by omega), IntWalk.i64_in (8 * (i : Int)) (by omega), IntWalk.i64_in ((m : Int) - 1 - 8 * (i : Int)) (by omega), IntWalk.i64_in _ (by omega)]
  omega
theorem shift8 {k : Nat} (hk : k < 8) : (((UInt64.ofNat ((IntKind.i64.wrap (8 * (k : Int))) % 18446744073709551616).toNat).toNat : Nat) : Int) = ((8 * k : Nat) : Int) := by
  rw [IntWalk.i64_in _ (by omega), UInt64.toNat_ofNat']
  omega
theorem putIn_eq (a : List UInt64) (n : Int) (out l : List UInt8) (i : Int) (x : UInt64) (k : Int) (h : l.length = out.length) : mkSt 60 [(1, vI n), (6, .one (.c (.slc 1 0 out.length 1 (.of 0) false))), (7, vI i), (8, .one (.c (.u64 x))), (22, slV 0 a), (23, vI a.length), (24, vI i), (29, vI k)] [ownL a, ownB l] = putIn a n l i x k := by
  unfold putIn slB
  rw [h]
abbrev PIn (a : List UInt64) (m i : Nat) : Type := { k : Nat // k ≤ 8 ∧ overB a m (8 * i + k) = false }
theorem put_limb {a : List UInt64} {m i : Nat} (hm : m ≤ 192) (hi : i < a.length) (hbig : a.length < 4294967296) {R : X × St → Prop} (hR : ∀ s, EndsAs (putE cutF) Tryz.f134 (Reads oBI (putO a m)) (.ret, s) → R (.ret, s))
    (hov : overB a m (8 * i) = false)
    (h : overB a m (8 * (i + 1)) = false → ∀ x k, DoesL (putE cutF) ((flat putB).drop 3) (putIn a (m : Int) (fillB a m (8 * (i + 1))) (i : Int) x k) R) : DoesL (putE cutF) ((flat putB).drop 2) (putSt a (m : Int) (fillB a m (8 * i)) (i : Int)) R := by
  have hE : EnvOk (putE cutF) := Ens_ok (.cons cut2_ok .nil)
  rw [putB_split]
  show Does _ (.block 1 putD) _ (ThenX R fun s => DoesL _ ((flat putB).drop 3) s R)
  refine Does.block (Does.flat putD ?_)
  refine DoesL.stageG hE 100 2 _ _ _ _ _ (put_in cutF a (m : Int) (fillB a m (8 * i)) (i : Int)) ⟨vcIdx hi, fun _ => ⟨vcGet hi, fun _ => ?_⟩⟩
  rw [getZ]
  refine (?_ : DoesL _ _ (putIn a (m : Int) (fillB a m (8 * i + 0)) (i : Int) (atF a i) ((0 : Nat) : Int)) _)
  refine DoesL.blockLoop (B := putI) (rest := []) (id := 2) putD_split (fun q : PIn a m i => putIn a (m : Int) (fillB a m (8 * i + q.1)) (i : Int) (atF a i) (q.1 : Int)) (fun q => 8 - q.1) ⟨0, Nat.zero_le _, hov⟩ fun q => ?_
  obtain ⟨k, hk, ho⟩ := q
  show Does _ _ (putIn a (m : Int) (fillB a m (8 * i + k)) (i : Int) (atF a i) (k : Int)) _
  refine Does.of1 (DoesL.partR (x := putO a m) hE 100 1 _ _ (fun s hs => ?_) (put_round cutF a (m : Int) (fillB a m (8 * i + k)) (i : Int) (atF a i) (k : Int)) ?_)
  · exact hR s hs
  rw [to_nat m i k hm (by omega) hk]
  have hl := fillB_len a m (8 * i + k)
  refine ⟨fun h1 => ?_, fun h1 => ?_⟩
  · simp only [decide_eq_true_eq] at h1
    have hk' : k < 8 := by omega
    rw [shift8 hk', ← byte_in a i hk', wrap_succ k (by omega)]
    refine ⟨fun h2 => ?_, fun h2 => ?_⟩
    · simp only [decide_eq_true_eq] at h2
      refine ⟨fun h3 => ?_, fun h3 => ⟨fun h4 => ?_, fun h4 => ?_⟩⟩
      · exact ⟨.t, by rw [overB_yes (by omega) h3 (by omega)], trivial⟩
      · simp only [ge_iff_le, decide_eq_true_eq] at h4
        omega
      · refine ⟨_, Wk.refl _, ⟨k + 1, hk', overB_no ho h3⟩, by show 8 - (k + 1) < 8 - k; omega, ?_⟩
        show _ = putIn a (m : Int) (fillB a m (8 * i + k + 1)) (i : Int) (atF a i) ((k + 1 : Nat) : Int)
        rw [fillB_more a (by omega)]
        rfl
    · simp only [decide_eq_false_iff_not] at h2
      have hg : 8 * i + k < m := by omega
      have hto : (m : Int) - 1 - ((8 * i + k : Nat) : Int) = ((m - 1 - (8 * i + k) : Nat) : Int) := by omega
      rw [hto]
      have hlt : m - 1 - (8 * i + k) < (fillB a m (8 * i + k)).length := by omega
      refine ⟨fun _ => ⟨vcIdxB hlt, fun _ => ⟨vcGetB hlt, fun _ => ?_⟩⟩, fun h4 => ?_⟩
      · refine ⟨_, Wk.refl _, ⟨k + 1, hk', overB_in ho hg⟩, by show 8 - (k + 1) < 8 - k; omega, ?_⟩
        show _ = putIn a (m : Int) (fillB a m (8 * i + k + 1)) (i : Int) (atF a i) ((k + 1 : Nat) : Int)
        rw [← fillB_set a hg, ← putIn_eq a _ (fillB a m (8 * i + k)) _ _ _ _ (by rw [List.length_set]), Int.toNat_natCast, Nat.zero_add, Nat.mul_one]
        rfl
      · simp only [ge_iff_le, decide_eq_false_iff_not] at h4
        omega
  · simp only [decide_eq_false_iff_not] at h1
    obtain rfl : k = 8 := by omega
    have ho : overB a m (8 * (i + 1)) = false := ho
    exact ⟨rfl, _, Wk.refl _, h ho (atF a i) ((8 : Nat) : Int)⟩
theorem put_ok : CallOk Tryz.prog 134 (K2 aLt kInt.arg rBI putF) :=
  G2 (E := putE cutF) Tryz.func134 (c := codeOf Tryz.f134) (by kernel_rfl) (bodied Tryz.func134 (by kernel_rfl) (by kernel_rfl)) iLt kInt.inp oBI putF fun a0 z ha _ => by
    have ha : a0.length < 4294967296 := ha.2
    have hE : EnvOk (putE cutF) := Ens_ok (.cons cut2_ok .nil)
    refine DoesL.seg hE 100 6 _ _ _ _ _ (put_start cutF a0 z) ?_
    simp only [whole]
    refine ⟨⟨okW (by omega), ha⟩, fun _ => ⟨fun h => ?_, fun h => ⟨fun h2 => ?_, fun h2 => ?_⟩⟩⟩
    · simp only [decide_eq_true_eq] at h
      exact ⟨.t, by unfold putF; rw [if_pos h], trivial⟩
    · simp only [decide_eq_true_eq] at h2
      exact ⟨.t, by unfold putF; rw [if_neg (by omega), if_pos h2], trivial⟩
    simp only [decide_eq_false_iff_not] at h h2
    obtain ⟨m, rfl⟩ : ∃ m : Nat, z = (m : Int) := ⟨z.toNat, by omega⟩
    have hm : m ≤ 192 := by omega
    have hres : putF a0 (m : Int) = putO (cutF a0) m := by unfold putF; rw [if_neg (by omega), if_neg (by omega), Int.toNat_natCast]
    rw [hres]
    have hal : (cutF a0).length < 4294967296 := Nat.lt_of_le_of_lt (cutF_len a0) ha
    generalize cutF a0 = a at *
    refine ⟨⟨by omega, by omega, by omega, by omega⟩, fun _ => ⟨vcLen a, fun _ => ?_⟩⟩
    rw [Int.toNat_natCast, fillB_zero a m]
    refine (?_ : DoesL _ _ (mkSt 60 [(1, vI m), (6, .one (.c (.slc 1 0 m 1 (.of 0) false))), (22, slV 0 a), (23, vI a.length), (24, vI ((0 : Nat) : Int))] [ownL a, ownB (fillB a m (8 * 0))]) _)
    have e0 : mkSt 60 [(1, vI m), (6, .one (.c (.slc 1 0 m 1 (.of 0) false))), (22, slV 0 a), (23, vI a.length), (24, vI ((0 : Nat) : Int))] [ownL a, ownB (fillB a m (8 * 0))] = putSt a (m : Int) (fillB a m (8 * 0)) ((0 : Nat) : Int) := by
      unfold putSt slB
      rw [fillB_len]
    rw [e0]
    refine DoesL.blockLoop (B := putB) (rest := putC.drop 7) (id := 0) (by kernel_rfl) (fun i : { i : Nat // i ≤ a.length ∧ overB a m (8 * i) = false } => putSt a (m : Int) (fillB a m (8 * i.1)) (i.1 : Int)) (fun i => a.length - i.1) ⟨0, Nat.zero_le _, rfl⟩ fun i => ?_
    obtain ⟨i, hi, hov⟩ := i
    show Does _ _ (putSt a (m : Int) (fillB a m (8 * i)) (i : Int)) _
    refine Does.flat putB ?_
    refine DoesL.part hE 100 2 _ (put_head cutF a (m : Int) (fillB a m (8 * i)) (i : Int)) ⟨fun h => ?_, fun h => ?_⟩
    · simp only [decide_eq_true_eq] at h
      have hi' : i < a.length := by omega
      refine put_limb hm hi' hal (fun s hs => hs) hov fun hov2 x k => ?_
      refine DoesL.part hE 100 1 _ (put_next cutF a (m : Int) _ (i : Int) x k) ?_
      rw [wrap_succ i (by omega)]
      simp only [putB_last]
      exact ⟨_, Wk.refl _, ⟨i + 1, hi', hov2⟩, by show a.length - (i + 1) < a.length - i; omega, rfl⟩
    · simp only [decide_eq_false_iff_not] at h
      obtain rfl : i = a.length := by omega
      refine ⟨rfl, DoesL.ends hE 100 (put_end cutF a _ _ _) (reads_p ?_ (Nat.le_refl _))⟩
      rw [List.take_length, putO_done hov, fillB_end]
end Go.Proofs.YtbbnabednkopdaaGreat

set_option linter.unusedSimpArgs false
set_option linter.unusedVariables false
namespace Go.Proofs.YtbbnabednkopdaaGreat
open Go.RowKit
theorem whole8 (xs : List UInt8) : List.take xs.length (List.drop 0 xs) = xs := by rw [List.drop_zero, List.take_length]
theorem okWB {xs : List UInt8} (h : xs.length < 1125899906842624) : 0 + xs.length ≤ xs.length ∧ xs.length < 1125899906842624 ∧ True ∧ True := ⟨by omega, h, trivial, trivial⟩
abbrev oFI : Out (Fp × Int) := rFI.out
theorem fof_run (xs : List UInt64) : endT (En []) oF 100 Tryz.f140 (flat (codeOf Tryz.f140)) (startSt Tryz.f140 [iL.av 0 xs] [inHE eU64 xs]) =
  (.vc (0 + xs.length ≤ xs.length)
    (.leaf (some (({ l0 := pickC (Nat.blt 0 xs.length) ((List.take xs.length (List.drop 0 xs)).getD 0 0) (UInt64.ofNat 0), l1 := pickC (Nat.blt 1 xs.length) ((List.take xs.length (List.drop 0 xs)).getD 1 0) (UInt64.ofNat 0), l2 := pickC (Nat.blt 2 xs.length) ((List.take xs.length (List.drop 0 xs)).getD 2 0) (UInt64.ofNat 0), l3 := pickC (Nat.blt 3 xs.length) ((List.take xs.length (List.drop 0 xs)).getD 3 0) (UInt64.ofNat 0), l4 := pickC (Nat.blt 4 xs.length) ((List.take xs.length (List.drop 0 xs)).getD 4 0) (UInt64.ofNat 0), l5 := pickC (Nat.blt 5 xs.length) ((List.take xs.length (List.drop 0 xs)).getD 5 0) (UInt64.ofNat 0) }, .t))))) := by kernel_rfl
abbrev Kput (F : List UInt64 → Int → List UInt8 × Int) : Contract := K2 aLt kInt.arg rBI F
theorem fput_run (pF : List UInt64 → Int → List UInt8 × Int) (a : Fp) : endT (Ens [(134, Kput pF)] [134]) oBl 100 Tryz.f84 (flat (codeOf Tryz.f84)) (startSt Tryz.f84 [vF a] []) =
  (.vc (tiny [a.l0, a.l1, a.l2, a.l3, a.l4, a.l5])
    (.leaf (some ((List.take (pF [a.l0, a.l1, a.l2, a.l3, a.l4, a.l5] 48).fst.length (pF [a.l0, a.l1, a.l2, a.l3, a.l4, a.l5] 48).fst, (.p ((pF [a.l0, a.l1, a.l2, a.l3, a.l4, a.l5] 48).fst.length ≤ (pF [a.l0, a.l1, a.l2, a.l3, a.l4, a.l5] 48).fst.length))))))) := by kernel_rfl
abbrev Ktk (F : List UInt8 → List UInt64) : Contract := K1 aBs rL F
theorem ftake_run (tF : List UInt8 → List UInt64) (oF' : List UInt64 → Fp) (mF : Fp → Bool) (b : List UInt8) : endT (Ens [(141, Ktk tF), (140, Kr oF'), (142, Kfb mF)] [141]) oFI 100 Tryz.f91 (flat (codeOf Tryz.f91)) (startSt Tryz.f91 [iB.av 0 b] [inHE eU8 b]) =
  (.vc (0 + b.length * 1 ≤ (List.map EK.u8.cell b).length ∧ 0 < 1)
    (.br (decide ((↑b.length : Int) < 48))
      (.leaf (some ((({ l0 := UInt64.ofNat 0, l1 := UInt64.ofNat 0, l2 := UInt64.ofNat 0, l3 := UInt64.ofNat 0, l4 := UInt64.ofNat 0, l5 := UInt64.ofNat 0 }, 2), .t))))
      (.vc (0 + b.length * 1 ≤ (List.map EK.u8.cell b).length ∧ 0 < 1)
        (.br (decide ((↑b.length : Int) > 48))
          (.leaf (some ((({ l0 := UInt64.ofNat 0, l1 := UInt64.ofNat 0, l2 := UInt64.ofNat 0, l3 := UInt64.ofNat 0, l4 := UInt64.ofNat 0, l5 := UInt64.ofNat 0 }, 8), .t))))
          (.vc ((0 + b.length ≤ b.length ∧ b.length < 1125899906842624 ∧ 0 = 0 ∧ 1 = 1) ∧ littleB (List.take b.length (List.drop 0 b)))
            (.vc (0 + (tF (List.take b.length (List.drop 0 b))).length ≤ (tF (List.take b.length (List.drop 0 b))).length ∧ (tF (List.take b.length (List.drop 0 b))).length < 1125899906842624 ∧ 0 = 0 ∧ 1 = 1)
              (.br (!(mF (oF' (List.take (tF (List.take b.length (List.drop 0 b))).length (List.drop 0 (tF (List.take b.length (List.drop 0 b))))))))
                (.leaf (some ((({ l0 := UInt64.ofNat 0, l1 := UInt64.ofNat 0, l2 := UInt64.ofNat 0, l3 := UInt64.ofNat 0, l4 := UInt64.ofNat 0, l5 := UInt64.ofNat 0 }, 4), .t))))
                (.leaf (some (((oF' (List.take (tF (List.take b.length (List.drop 0 b))).length (List.drop 0 (tF (List.take b.length (List.drop 0 b))))), 0), .t))))))))))) := by kernel_rfl
theorem rftake_run (tF : List UInt8 → List UInt64) (oF' : List UInt64 → Fp) (mF : Fp → Bool) (b : List UInt8) : endT (Ens [(153, Ktk tF), (125, Kr oF'), (80, Kfb mF)] [153]) oFI 100 Tryz.f99 (flat (codeOf Tryz.f99)) (startSt Tryz.f99 [iB.av 0 b] [inHE eU8 b]) =
  (.vc (0 + b.length * 1 ≤ (List.map EK.u8.cell b).length ∧ 0 < 1)
    (.br (decide ((↑b.length : Int) < 48))
      (.leaf (some ((({ l0 := UInt64.ofNat 0, l1 := UInt64.ofNat 0, l2 := UInt64.ofNat 0, l3 := UInt64.ofNat 0, l4 := UInt64.ofNat 0, l5 := UInt64.ofNat 0 }, 2), .t))))
      (.vc (0 + b.length * 1 ≤ (List.map EK.u8.cell b).length ∧ 0 < 1)
        (.br (decide ((↑b.length : Int) > 48))
          (.leaf (some ((({ l0 := UInt64.ofNat 0, l1 := UInt64.ofNat 0, l2 := UInt64.ofNat 0, l3 := UInt64.ofNat 0, l4 := UInt64.ofNat 0, l5 := UInt64.ofNat 0 }, 8), .t))))
          (.vc ((0 + b.length ≤ b.length ∧ b.length < 1125899906842624 ∧ 0 = 0 ∧ 1 = 1) ∧ littleB (List.take b.length (List.drop 0 b)))
            (.vc (0 + (tF (List.take b.length (List.drop 0 b))).length ≤ (tF (List.take b.length (List.drop 0 b))).length ∧ (tF (List.take b.length (List.drop 0 b))).length < 1125899906842624 ∧ 0 = 0 ∧ 1 = 1)
              (.br (!(mF (oF' (List.take (tF (List.take b.length (List.drop 0 b))).length (List.drop 0 (tF (List.take b.length (List.drop 0 b))))))))
                (.leaf (some ((({ l0 := UInt64.ofNat 0, l1 := UInt64.ofNat 0, l2 := UInt64.ofNat 0, l3 := UInt64.ofNat 0, l4 := UInt64.ofNat 0, l5 := UInt64.ofNat 0 }, 4), .t))))
                (.leaf (some (((oF' (List.take (tF (List.take b.length (List.drop 0 b))).length (List.drop 0 (tF (List.take b.length (List.drop 0 b))))), 0), .t))))))))))) := by kernel_rfl
abbrev Kfput (F : Fp → List UInt8) : Contract := K1 (kRow Fp).arg rB F
abbrev Kftake (F : List UInt8 → Fp × Int) : Contract := K1 aBs rFI.res F
theorem fof_ok : CallOk Tryz.prog 140 (Kr ofL) :=
  G1 (E := En []) Tryz.func140 (c := codeOf Tryz.f140) (by kernel_rfl) (bodied Tryz.func140 (by kernel_rfl) (by kernel_rfl)) iL oF ofL fun xs hx => by
    refine DoesL.ends (En_ok .nil) 100 (fof_run xs) ⟨by omega, fun _ => reads_t ?_⟩
    rw [pick_at, pick_at, pick_at, pick_at, pick_at, pick_at]
    rfl
def fputF (a : Fp) : List UInt8 := (putF a.list 48).1
theorem fput_ok : CallOk Tryz.prog 84 (Kfput fputF) :=
  G1 (E := Ens [(134, Kput putF)] [134]) Tryz.func84 (c := codeOf Tryz.f84) (by kernel_rfl) (bodied Tryz.func84 (by kernel_rfl) (by kernel_rfl)) (kRow Fp).inp oBl fputF fun a _ => by
    refine DoesL.ends (Ens_ok (.cons put_ok .nil)) 100 (fput_run putF a) ⟨?_, fun _ => reads_p ?_ (Nat.le_refl _)⟩
    · show a.list.length < _; rw [fp_short]; decide
    · rw [List.take_length]; rfl
def takeG (n : Nat) (x : Fp) (m : Bool) : Fp × Int := match decide ((n : Int) < 48) with
  | true => (zeroFp, 2)
  | false => match decide ((n : Int) > 48) with
    | true => (zeroFp, 8)
    | false => match !m with
      | true => (zeroFp, 4)
      | false => (x, 0)
def ftakeF (b : List UInt8) : Fp × Int := takeG b.length (ofL (takF b)) (mayF (ofL (takF b)))
def rftakeF (b : List UInt8) : Fp × Int := takeG b.length (ofL (rtkF b)) (mayPF (ofL (rtkF b)))
theorem takF_len (b : List UInt8) : (takF b).length ≤ b.length / 8 + 1 := by
  have h := cutF_len (takAt b b.length)
  rw [takAt_len] at h
  exact h
theorem rtkF_len (b : List UInt8) : (rtkF b).length ≤ b.length / 8 + 1 := by rw [← takF_eq]; exact takF_len b
theorem ftake_ok : CallOk Tryz.prog 91 (Kftake ftakeF) :=
  G1 (E := Ens [(141, Ktk takF), (140, Kr ofL), (142, Kfb mayF)] [141]) Tryz.func91 (c := codeOf Tryz.f91) (by kernel_rfl) (bodied Tryz.func91 (by kernel_rfl) (by kernel_rfl)) iBs oFI ftakeF fun b hb => by
    have hb : b.length < 16777216 := hb.2
    have hl := takF_len b
    refine DoesL.ends (Ens_ok (.cons tak_ok (.cons fof_ok (.cons may_ok .nil)))) 100 (ftake_run takF ofL mayF b) ?_
    simp only [whole, whole8]
    refine ⟨vcLenB b, fun _ => ⟨fun h1 => reads_t ?_, fun h1 => ⟨vcLenB b, fun _ => ⟨fun h2 => reads_t ?_, fun h2 => ⟨⟨okWB (by omega), hb⟩, fun _ => ⟨okW (by omega), fun _ => ⟨fun h3 => reads_t ?_, fun h3 => reads_t ?_⟩⟩⟩⟩⟩⟩⟩
    · unfold ftakeF takeG; rw [h1]; rfl
    · unfold ftakeF takeG; rw [h1, h2]; rfl
    · unfold ftakeF takeG; rw [h1, h2, h3]; rfl
    · unfold ftakeF takeG; rw [h1, h2, h3]
theorem rftake_ok : CallOk Tryz.prog 99 (Kftake rftakeF) :=
  G1 (E := Ens [(153, Ktk rtkF), (125, Kr ofL), (80, Kfb mayPF)] [153]) Tryz.func99 (c := codeOf Tryz.f99) (by kernel_rfl) (bodied Tryz.func99 (by kernel_rfl) (by kernel_rfl)) iBs oFI rftakeF fun b hb => by
    have hb : b.length < 16777216 := hb.2
    have hl := rtkF_len b
    refine DoesL.ends (Ens_ok (.cons rtk_ok (.cons rfp_ok (.cons mayP_ok .nil)))) 100 (rftake_run rtkF ofL mayPF b) ?_
    simp only [whole, whole8]
    refine ⟨vcLenB b, fun _ => ⟨fun h1 => reads_t ?_, fun h1 => ⟨vcLenB b, fun _ => ⟨fun h2 => reads_t ?_, fun h2 => ⟨⟨okWB (by omega), hb⟩, fun _ => ⟨okW (by omega), fun _ => ⟨fun h3 => reads_t ?_, fun h3 => reads_t ?_⟩⟩⟩⟩⟩⟩⟩
    · unfold rftakeF takeG; rw [h1]; rfl
    · unfold rftakeF takeG; rw [h1, h2]; rfl
    · unfold rftakeF takeG; rw [h1, h2, h3]; rfl
    · unfold rftakeF takeG; rw [h1, h2, h3]
end Go.Proofs.YtbbnabednkopdaaGreat

set_option linter.unusedSimpArgs false
set_option linter.unusedVariables false
namespace Go.Proofs.YtbbnabednkopdaaGreat
open Go.RowKit
abbrev kBB : KdL (Bool × Bool × Unit) := .cons kBool (.cons kBool .nil)
def orAt (xs : List UInt8) (m : UInt8) : List UInt8 := xs.set 0 (xs.getD 0 0 ||| m)
def markF (xs : List UInt8) (x : Bool × Bool × Unit) : List UInt8 :=
  match x.2.1 with
  | true => orAt (match x.1 with | true => orAt (orAt xs 128) 64 | false => orAt xs 128) 32
  | false => match x.1 with | true => orAt (orAt xs 128) 64 | false => orAt xs 128
theorem mark_run (ty : TypeId) (xs : List UInt8) (i g : Bool) : wendT (En []) 100 Tryz.f83 (flat (codeOf Tryz.f83)) (startSt Tryz.f83 (slO 0 xs :: kBB.avs (i, g, ())) [.live ⟨true, ty, 1, .elts .u8 xs, true⟩]) =
  (.vc (0 < xs.length ∧ 0 + xs.length * 1 ≤ (List.map EK.u8.cell xs).length ∧ 0 < 1)
    (.vc (0 < xs.length)
      (.vc (0 < xs.length ∧ 0 + xs.length * 1 ≤ (List.map EK.u8.cell xs).length ∧ 0 < 1)
        (.vc (0 < xs.length)
          (.br (i)
            (.vc (0 < xs.length ∧ 0 + xs.length * 1 ≤ (List.map EK.u8.cell (xs.set 0 (xs.getD 0 0 ||| UInt8.ofNat 128))).length ∧ 0 < 1)
              (.vc (0 < (xs.set 0 (xs.getD 0 0 ||| UInt8.ofNat 128)).length)
                (.vc (0 < xs.length ∧ 0 + xs.length * 1 ≤ (List.map EK.u8.cell (xs.set 0 (xs.getD 0 0 ||| UInt8.ofNat 128))).length ∧ 0 < 1)
                  (.vc (0 < (xs.set 0 (xs.getD 0 0 ||| UInt8.ofNat 128)).length)
                    (.br (g)
                      (.vc (0 < xs.length ∧ 0 + xs.length * 1 ≤ (List.map EK.u8.cell ((xs.set 0 (xs.getD 0 0 ||| UInt8.ofNat 128)).set 0 ((xs.set 0 (xs.getD 0 0 ||| UInt8.ofNat 128)).getD 0 0 ||| UInt8.ofNat 64))).length ∧ 0 < 1)
                        (.vc (0 < ((xs.set 0 (xs.getD 0 0 ||| UInt8.ofNat 128)).set 0 ((xs.set 0 (xs.getD 0 0 ||| UInt8.ofNat 128)).getD 0 0 ||| UInt8.ofNat 64)).length)
                          (.vc (0 < xs.length ∧ 0 + xs.length * 1 ≤ (List.map EK.u8.cell ((xs.set 0 (xs.getD 0 0 ||| UInt8.ofNat 128)).set 0 ((xs.set 0 (xs.getD 0 0 ||| UInt8.ofNat 128)).getD 0 0 ||| UInt8.ofNat 64))).length ∧ 0 < 1)
                            (.vc (0 < ((xs.set 0 (xs.getD 0 0 ||| UInt8.ofNat 128)).set 0 ((xs.set 0 (xs.getD 0 0 ||| UInt8.ofNat 128)).getD 0 0 ||| UInt8.ofNat 64)).length)
                              (.leaf (some ((AV.one (AV1.c (Cell.slc 0 0 xs.length 1 (RC.of 0) false)), hpS (setL (setL (setL (setL (setL (setL (setL (setL (setL (setL (setL (setL (setL (setL (setL (setL (setL (setL (setL (setL (setL (setL (setL ([HE.live { own := true, ty := ty, esz := 1, body := Body.elts EK.u8 xs, pin := true }] ++ unNamed 0) [] ++ unNamed 0) []) []) []) []) []) [(0, HE.live { own := true, ty := ty, esz := 1, body := Body.elts EK.u8 (xs.set 0 (xs.getD 0 0 ||| UInt8.ofNat 128)), pin := true })] ++ unNamed 0) [] ++ unNamed 0) []) []) []) []) []) [(0, HE.live { own := true, ty := ty, esz := 1, body := Body.elts EK.u8 ((xs.set 0 (xs.getD 0 0 ||| UInt8.ofNat 128)).set 0 ((xs.set 0 (xs.getD 0 0 ||| UInt8.ofNat 128)).getD 0 0 ||| UInt8.ofNat 64)), pin := true })] ++ unNamed 0) [] ++ unNamed 0) []) []) []) []) []) [(0, HE.live { own := true, ty := ty, esz := 1, body := Body.elts EK.u8 (((xs.set 0 (xs.getD 0 0 ||| UInt8.ofNat 128)).set 0 ((xs.set 0 (xs.getD 0 0 ||| UInt8.ofNat 128)).getD 0 0 ||| UInt8.ofNat 64)).set 0 (((xs.set 0 (xs.getD 0 0 ||| UInt8.ofNat 128)).set 0 ((xs.set 0 (xs.getD 0 0 ||| UInt8.ofNat 128)).getD 0 0 ||| UInt8.ofNat 64)).getD 0 0 ||| UInt8.ofNat 32)), pin := true })] ++ unNamed 0) []) []) 0))))))))
                      (.leaf (some ((AV.one (AV1.c (Cell.slc 0 0 xs.length 1 (RC.of 0) false)), hpS (setL (setL (setL (setL (setL (setL (setL (setL (setL (setL (setL (setL (setL (setL (setL (setL (setL ([HE.live { own := true, ty := ty, esz := 1, body := Body.elts EK.u8 xs, pin := true }] ++ unNamed 0) [] ++ unNamed 0) []) []) []) []) []) [(0, HE.live { own := true, ty := ty, esz := 1, body := Body.elts EK.u8 (xs.set 0 (xs.getD 0 0 ||| UInt8.ofNat 128)), pin := true })] ++ unNamed 0) [] ++ unNamed 0) []) []) []) []) []) [(0, HE.live { own := true, ty := ty, esz := 1, body := Body.elts EK.u8 ((xs.set 0 (xs.getD 0 0 ||| UInt8.ofNat 128)).set 0 ((xs.set 0 (xs.getD 0 0 ||| UInt8.ofNat 128)).getD 0 0 ||| UInt8.ofNat 64)), pin := true })] ++ unNamed 0) [] ++ unNamed 0) []) []) 0)))))))))
            (.br (g)
              (.vc (0 < xs.length ∧ 0 + xs.length * 1 ≤ (List.map EK.u8.cell (xs.set 0 (xs.getD 0 0 ||| UInt8.ofNat 128))).length ∧ 0 < 1)
                (.vc (0 < (xs.set 0 (xs.getD 0 0 ||| UInt8.ofNat 128)).length)
                  (.vc (0 < xs.length ∧ 0 + xs.length * 1 ≤ (List.map EK.u8.cell (xs.set 0 (xs.getD 0 0 ||| UInt8.ofNat 128))).length ∧ 0 < 1)
                    (.vc (0 < (xs.set 0 (xs.getD 0 0 ||| UInt8.ofNat 128)).length)
                      (.leaf (some ((AV.one (AV1.c (Cell.slc 0 0 xs.length 1 (RC.of 0) false)), hpS (setL (setL (setL (setL (setL (setL (setL (setL (setL (setL (setL (setL (setL (setL (setL (setL (setL ([HE.live { own := true, ty := ty, esz := 1, body := Body.elts EK.u8 xs, pin := true }] ++ unNamed 0) [] ++ unNamed 0) []) []) []) []) []) [(0, HE.live { own := true, ty := ty, esz := 1, body := Body.elts EK.u8 (xs.set 0 (xs.getD 0 0 ||| UInt8.ofNat 128)), pin := true })] ++ unNamed 0) [] ++ unNamed 0) [] ++ unNamed 0) []) []) []) []) []) [(0, HE.live { own := true, ty := ty, esz := 1, body := Body.elts EK.u8 ((xs.set 0 (xs.getD 0 0 ||| UInt8.ofNat 128)).set 0 ((xs.set 0 (xs.getD 0 0 ||| UInt8.ofNat 128)).getD 0 0 ||| UInt8.ofNat 32)), pin := true })] ++ unNamed 0) []) []) 0))))))))
              (.leaf (some ((AV.one (AV1.c (Cell.slc 0 0 xs.length 1 (RC.of 0) false)), hpS (setL (setL (setL (setL (setL (setL (setL (setL (setL (setL (setL ([HE.live { own := true, ty := ty, esz := 1, body := Body.elts EK.u8 xs, pin := true }] ++ unNamed 0) [] ++ unNamed 0) []) []) []) []) []) [(0, HE.live { own := true, ty := ty, esz := 1, body := Body.elts EK.u8 (xs.set 0 (xs.getD 0 0 ||| UInt8.ofNat 128)), pin := true })] ++ unNamed 0) [] ++ unNamed 0) [] ++ unNamed 0) []) []) 0)))))))))) := by kernel_rfl
abbrev Kmark (F : List UInt8 → Bool × Bool × Unit → List UInt8) : Contract := Kwb kBB F
def put1_T (mF : List UInt8 → Bool × Bool × Unit → List UInt8) (pF : Fp → List UInt8) (gF : Fp → Bool) (a : Pg1) : Tree (Option ((List UInt8) × Pr)) :=
  (.br (a.inf)
    (.vc (0 < 48 ∧ 48 < 4294967296)
      (.leaf (some ((List.take 48 (mF [UInt8.ofNat 0, UInt8.ofNat 0, UInt8.ofNat 0, UInt8.ofNat 0, UInt8.ofNat 0, UInt8.ofNat 0, UInt8.ofNat 0, UInt8.ofNat 0, UInt8.ofNat 0, UInt8.ofNat 0, UInt8.ofNat 0, UInt8.ofNat 0, UInt8.ofNat 0, UInt8.ofNat 0, UInt8.ofNat 0, UInt8.ofNat 0, UInt8.ofNat 0, UInt8.ofNat 0, UInt8.ofNat 0, UInt8.ofNat 0, UInt8.ofNat 0, UInt8.ofNat 0, UInt8.ofNat 0, UInt8.ofNat 0, UInt8.ofNat 0, UInt8.ofNat 0, UInt8.ofNat 0, UInt8.ofNat 0, UInt8.ofNat 0, UInt8.ofNat 0, UInt8.ofNat 0, UInt8.ofNat 0, UInt8.ofNat 0, UInt8.ofNat 0, UInt8.ofNat 0, UInt8.ofNat 0, UInt8.ofNat 0, UInt8.ofNat 0, UInt8.ofNat 0, UInt8.ofNat 0, UInt8.ofNat 0, UInt8.ofNat 0, UInt8.ofNat 0, UInt8.ofNat 0, UInt8.ofNat 0, UInt8.ofNat 0, UInt8.ofNat 0, UInt8.ofNat 0] (true, false, ())), (.p (48 ≤ (mF [UInt8.ofNat 0, UInt8.ofNat 0, UInt8.ofNat 0, UInt8.ofNat 0, UInt8.ofNat 0, UInt8.ofNat 0, UInt8.ofNat 0, UInt8.ofNat 0, UInt8.ofNat 0, UInt8.ofNat 0, UInt8.ofNat 0, UInt8.ofNat 0, UInt8.ofNat 0, UInt8.ofNat 0, UInt8.ofNat 0, UInt8.ofNat 0, UInt8.ofNat 0, UInt8.ofNat 0, UInt8.ofNat 0, UInt8.ofNat 0, UInt8.ofNat 0, UInt8.ofNat 0, UInt8.ofNat 0, UInt8.ofNat 0, UInt8.ofNat 0, UInt8.ofNat 0, UInt8.ofNat 0, UInt8.ofNat 0, UInt8.ofNat 0, UInt8.ofNat 0, UInt8.ofNat 0, UInt8.ofNat 0, UInt8.ofNat 0, UInt8.ofNat 0, UInt8.ofNat 0, UInt8.ofNat 0, UInt8.ofNat 0, UInt8.ofNat 0, UInt8.ofNat 0, UInt8.ofNat 0, UInt8.ofNat 0, UInt8.ofNat 0, UInt8.ofNat 0, UInt8.ofNat 0, UInt8.ofNat 0, UInt8.ofNat 0, UInt8.ofNat 0, UInt8.ofNat 0] (true, false, ())).length)))))))
    (.vc ((pF a.x).length = (pF a.x).length ∧ 0 < (pF a.x).length ∧ (pF a.x).length < 4294967296)
      (.leaf (some ((List.take (pF a.x).length (mF (pF a.x) (false, gF a.y, ())), (.p ((pF a.x).length ≤ (mF (pF a.x) (false, gF a.y, ())).length))))))))
theorem put1_run (mF : List UInt8 → Bool × Bool × Unit → List UInt8) (pF : Fp → List UInt8) (gF : Fp → Bool) (a : Pg1) : endT (Ens [(83, Kmark mF), (84, Kfput pF), (85, Kfb gF)] [84]) oBl 300 Tryz.f40 (flat (codeOf Tryz.f40)) (startSt Tryz.f40 [.one (kg1.av a)] []) = put1_T mF pF gF a := by kernel_rfl
def put2_T (mF : List UInt8 → Bool × Bool × Unit → List UInt8) (pF : Fp → List UInt8) (gF : Fp2 → Bool) (a : Pg2) : Tree (Option ((List UInt8) × Pr)) :=
  (.br (a.inf)
    (.vc (0 < 96 ∧ 96 < 4294967296)
      (.leaf (some ((List.take 96 (mF [UInt8.ofNat 0, UInt8.ofNat 0, UInt8.ofNat 0, UInt8.ofNat 0, UInt8.ofNat 0, UInt8.ofNat 0, UInt8.ofNat 0, UInt8.ofNat 0, UInt8.ofNat 0, UInt8.ofNat 0, UInt8.ofNat 0, UInt8.ofNat 0, UInt8.ofNat 0, UInt8.ofNat 0, UInt8.ofNat 0, UInt8.ofNat 0, UInt8.ofNat 0, UInt8.ofNat 0, UInt8.ofNat 0, UInt8.ofNat 0, UInt8.ofNat 0, UInt8.ofNat 0, UInt8.ofNat 0, UInt8.ofNat 0, UInt8.ofNat 0, UInt8.ofNat 0, UInt8.ofNat 0, UInt8.ofNat 0, UInt8.ofNat 0, UInt8.ofNat 0, UInt8.ofNat 0, UInt8.ofNat 0, UInt8.ofNat 0, UInt8.ofNat 0, UInt8.ofNat 0, UInt8.ofNat 0, UInt8.ofNat 0, UInt8.ofNat 0, UInt8.ofNat 0, UInt8.ofNat 0, UInt8.ofNat 0, UInt8.ofNat 0, UInt8.ofNat 0, UInt8.ofNat 0, UInt8.ofNat 0, UInt8.ofNat 0, UInt8.ofNat 0, UInt8.ofNat 0, UInt8.ofNat 0, UInt8.ofNat 0, UInt8.ofNat 0, UInt8.ofNat 0, UInt8.ofNat 0, UInt8.ofNat 0, UInt8.ofNat 0, UInt8.ofNat 0, UInt8.ofNat 0, UInt8.ofNat 0, UInt8.ofNat 0, UInt8.ofNat 0, UInt8.ofNat 0, UInt8.ofNat 0, UInt8.ofNat 0, UInt8.ofNat 0, UInt8.ofNat 0, UInt8.ofNat 0, UInt8.ofNat 0, UInt8.ofNat 0, UInt8.ofNat 0, UInt8.ofNat 0, UInt8.ofNat 0, UInt8.ofNat 0, UInt8.ofNat 0, UInt8.ofNat 0, UInt8.ofNat 0, UInt8.ofNat 0, UInt8.ofNat 0, UInt8.ofNat 0, UInt8.ofNat 0, UInt8.ofNat 0, UInt8.ofNat 0, UInt8.ofNat 0, UInt8.ofNat 0, UInt8.ofNat 0, UInt8.ofNat 0, UInt8.ofNat 0, UInt8.ofNat 0, UInt8.ofNat 0, UInt8.ofNat 0, UInt8.ofNat 0, UInt8.ofNat 0, UInt8.ofNat 0, UInt8.ofNat 0, UInt8.ofNat 0, UInt8.ofNat 0, UInt8.ofNat 0] (true, false, ())), (.p (96 ≤ (mF [UInt8.ofNat 0, UInt8.ofNat 0, UInt8.ofNat 0, UInt8.ofNat 0, UInt8.ofNat 0, UInt8.ofNat 0, UInt8.ofNat 0, UInt8.ofNat 0, UInt8.ofNat 0, UInt8.ofNat 0, UInt8.ofNat 0, UInt8.ofNat 0, UInt8.ofNat 0, UInt8.ofNat 0, UInt8.ofNat 0, UInt8.ofNat 0, UInt8.ofNat 0, UInt8.ofNat 0, UInt8.ofNat 0, UInt8.ofNat 0, UInt8.ofNat 0, UInt8.ofNat 0, UInt8.ofNat 0, UInt8.ofNat 0, UInt8.ofNat 0, UInt8.ofNat 0, UInt8.ofNat 0, UInt8.ofNat 0, UInt8.ofNat 0, UInt8.ofNat 0, UInt8.ofNat 0, UInt8.ofNat 0, UInt8.ofNat 0, UInt8.ofNat 0, UInt8.ofNat 0, UInt8.ofNat 0, UInt8.ofNat 0, UInt8.ofNat 0, UInt8.ofNat 0, UInt8.ofNat 0, UInt8.ofNat 0, UInt8.ofNat 0, UInt8.ofNat 0, UInt8.ofNat 0, UInt8.ofNat 0, UInt8.ofNat 0, UInt8.ofNat 0, UInt8.ofNat 0, UInt8.ofNat 0, UInt8.ofNat 0, UInt8.ofNat 0, UInt8.ofNat 0, UInt8.ofNat 0, UInt8.ofNat 0, UInt8.ofNat 0, UInt8.ofNat 0, UInt8.ofNat 0, UInt8.ofNat 0, UInt8.ofNat 0, UInt8.ofNat 0, UInt8.ofNat 0, UInt8.ofNat 0, UInt8.ofNat 0, UInt8.ofNat 0, UInt8.ofNat 0, UInt8.ofNat 0, UInt8.ofNat 0, UInt8.ofNat 0, UInt8.ofNat 0, UInt8.ofNat 0, UInt8.ofNat 0, UInt8.ofNat 0, UInt8.ofNat 0, UInt8.ofNat 0, UInt8.ofNat 0, UInt8.ofNat 0, UInt8.ofNat 0, UInt8.ofNat 0, UInt8.ofNat 0, UInt8.ofNat 0, UInt8.ofNat 0, UInt8.ofNat 0, UInt8.ofNat 0, UInt8.ofNat 0, UInt8.ofNat 0, UInt8.ofNat 0, UInt8.ofNat 0, UInt8.ofNat 0, UInt8.ofNat 0, UInt8.ofNat 0, UInt8.ofNat 0, UInt8.ofNat 0, UInt8.ofNat 0, UInt8.ofNat 0, UInt8.ofNat 0, UInt8.ofNat 0] (true, false, ())).length)))))))
    (.vc ((0 + (pF a.x.c1).length ≤ (pF a.x.c1).length ∧ 0 + (pF a.x.c0).length ≤ (pF a.x.c0).length) ∧ (pF a.x.c1).length + (pF a.x.c0).length ≤ 9223372036854775807 ∧ ((pF a.x.c1).length + (pF a.x.c0).length) * 1 ≤ 140737488355328)
      (.vc ((pF a.x.c1).length + (pF a.x.c0).length = (List.take (pF a.x.c1).length (List.drop 0 (pF a.x.c1)) ++ List.take (pF a.x.c0).length (List.drop 0 (pF a.x.c0))).length ∧ 0 < (List.take (pF a.x.c1).length (List.drop 0 (pF a.x.c1)) ++ List.take (pF a.x.c0).length (List.drop 0 (pF a.x.c0))).length ∧ (List.take (pF a.x.c1).length (List.drop 0 (pF a.x.c1)) ++ List.take (pF a.x.c0).length (List.drop 0 (pF a.x.c0))).length < 4294967296)
        (.leaf (some ((List.take ((pF a.x.c1).length + (pF a.x.c0).length) (mF (List.take (pF a.x.c1).length (List.drop 0 (pF a.x.c1)) ++ List.take (pF a.x.c0).length (List.drop 0 (pF a.x.c0))) (false, gF a.y, ())), (.p ((pF a.x.c1).length + (pF a.x.c0).length ≤ (mF (List.take (pF a.x.c1).length (List.drop 0 (pF a.x.c1)) ++ List.take (pF a.x.c0).length (List.drop 0 (pF a.x.c0))) (false, gF a.y, ())).length)))))))))
theorem put2_run (mF : List UInt8 → Bool × Bool × Unit → List UInt8) (pF : Fp → List UInt8) (gF : Fp2 → Bool) (a : Pg2) : endT (Ens [(83, Kmark mF), (84, Kfput pF), (88, Kpb gF)] [84]) oBl 300 Tryz.f42 (flat (codeOf Tryz.f42)) (startSt Tryz.f42 [.one (kg2.av a)] []) = put2_T mF pF gF a := by kernel_rfl
theorem orAt_len (xs : List UInt8) (m : UInt8) : (orAt xs m).length = xs.length := List.length_set ..
theorem markF_len (xs : List UInt8) (x : Bool × Bool × Unit) : (markF xs x).length = xs.length := by
  obtain ⟨i, g, u⟩ := x
  cases i <;> cases g <;> simp only [markF, orAt_len]
theorem mark_ok : CallOk Tryz.prog 83 (Kmark markF) :=
  Kwb_ok (E := En []) Tryz.func83 (c := codeOf Tryz.f83) (by kernel_rfl) (bodied Tryz.func83 (by kernel_rfl) (by kernel_rfl)) markF_len fun ty xs x h1 h2 => by
    obtain ⟨i, g, u⟩ := x
    refine DoesL.wends (En_ok .nil) 100 (mark_run ty xs i g) ?_
    have v0 := vcHd (ys := xs) rfl h1
    have v1 : ∀ {m : UInt8}, _ := fun {m} => vcHd (ys := orAt xs m) (orAt_len xs m) h1
    have l1 : ∀ {m : UInt8}, 0 < (orAt xs m).length := fun {m} => by rw [orAt_len]; exact h1
    have v2 : ∀ {m n : UInt8}, _ := fun {m n} => vcHd (ys := orAt (orAt xs m) n) ((orAt_len _ n).trans (orAt_len xs m)) h1
    have l2 : ∀ {m n : UInt8}, 0 < (orAt (orAt xs m) n).length := fun {m n} => by rw [orAt_len, orAt_len]; exact h1
    refine ⟨v0, fun _ => ⟨h1, fun _ => ⟨v0, fun _ => ⟨h1, fun _ => ⟨fun hi => ⟨v1, fun _ => ⟨l1, fun _ => ⟨v1, fun _ => ⟨l1, fun _ => ⟨fun hg => ⟨v2, fun _ => ⟨l2, fun _ => ⟨v2, fun _ => ⟨l2, fun _ => ?_⟩⟩⟩⟩, fun hg => ?_⟩⟩⟩⟩⟩, fun hi => ⟨fun hg => ⟨v1, fun _ => ⟨l1, fun _ => ⟨v1, fun _ => ⟨l1, fun _ => ?_⟩⟩⟩⟩, fun hg => ?_⟩⟩⟩⟩⟩⟩
    all_goals
      subst hi hg
      rfl
end Go.Proofs.YtbbnabednkopdaaGreat

set_option linter.unusedSimpArgs false
set_option linter.unusedVariables false
namespace Go.Proofs.YtbbnabednkopdaaGreat
open Go.RowKit
def bsum (c : List UInt64) : Nat → Nat
  | 0 => 0
  | n + 1 => bsum c n + (byteAt c n).toNat * 256 ^ n
theorem byteAt_nat (c : List UInt64) (j : Nat) : (byteAt c j).toNat = (atF c (j / 8)).toNat / 256 ^ (j % 8) % 256 := by
  have hs : j % 8 < 8 := Nat.mod_lt _ (by decide)
  have hx := (atF c (j / 8)).toNat_lt
  unfold byteAt shrU
  rw [UInt64.toNat_toUInt8, Int.toNat_natCast, Nat.min_eq_left (by omega), UInt64.toNat_ofNat', Nat.pow_mul]
  rw [Nat.mod_eq_of_lt (Nat.lt_of_le_of_lt (Nat.div_le_self _ _) hx)]
theorem bsum_in (c : List UInt64) (k : Nat) (hk : bsum c (8 * k) = valAt c k) : ∀ s, s ≤ 8 → bsum c (8 * k + s) = valAt c k + (atF c k).toNat % 256 ^ s * 256 ^ (8 * k)
  | 0, _ => by rw [Nat.add_zero, hk, Nat.pow_zero, Nat.mod_one, Nat.zero_mul, Nat.add_zero]
  | s + 1, h => by
    rw [show 8 * k + (s + 1) = (8 * k + s) + 1 from rfl]
    simp only [bsum]
    rw [bsum_in c k hk s (by omega), byteAt_nat, show (8 * k + s) / 8 = k by omega, show (8 * k + s) % 8 = s by omega, Nat.pow_succ 256 s, Nat.mod_mul, Nat.add_mul, Nat.add_assoc, Nat.pow_add 256 (8 * k) s, Nat.mul_comm (256 ^ (8 * k)) (256 ^ s), ← Nat.mul_assoc, Nat.mul_comm (256 ^ s) (_ % 256)]
theorem bsum_val (c : List UInt64) : ∀ k, bsum c (8 * k) = valAt c k
  | 0 => rfl
  | k + 1 => by
    rw [show 8 * (k + 1) = 8 * k + 8 by omega, bsum_in c k (bsum_val c k) 8 (Nat.le_refl _)]
    simp only [valAt]
    rw [Nat.mod_eq_of_lt (show (atF c k).toNat < 256 ^ 8 from UInt64.toNat_lt _), Nat.pow_mul]
    rfl
theorem bAt_full (c : List UInt64) {n t : Nat} (h : t < n) : bAt (fullB c n) t = byteAt c (n - 1 - t) := by
  unfold bAt
  rw [List.getD_eq_getElem?_getD, List.getElem?_eq_getElem (by rw [fullB_len]; exact h)]
  simp [fullB]
theorem bval_full (c : List UInt64) (n : Nat) : ∀ k, k ≤ n → bval (fullB c n) k = bsum c k
  | 0, _ => rfl
  | k + 1, h => by
    simp only [bval, bsum]
    rw [bval_full c n k (by omega), fullB_len, bAt_full c (by omega), show n - 1 - (n - 1 - k) = k by omega]
theorem fput_full (a : Fp) : fputF a = fullB (cutF a.list) 48 := by
  have hl : (cutF a.list).length ≤ 6 := Nat.le_trans (cutF_len a.list) (Nat.le_of_eq (fp_short a))
  unfold fputF putF
  rw [if_neg (by decide), if_neg (by decide)]
  show (putO (cutF a.list) 48).1 = _
  rw [putO_done (overB_low (by omega))]
theorem fput_val (a : Fp) : bval (fputF a) 48 = a.nat := by
  have hl : (cutF a.list).length ≤ 6 := Nat.le_trans (cutF_len a.list) (Nat.le_of_eq (fp_short a))
  rw [fput_full, bval_full _ 48 48 (Nat.le_refl _), show (48 : Nat) = 8 * 6 from rfl, bsum_val, valAt_out _ hl, valL_cut, valL_list]
theorem fput_len' (a : Fp) : (fputF a).length = 48 := by rw [fput_full, fullB_len]
theorem pN_six : pN < W64 ^ 6 := by decide +kernel
theorem take_put {a : Fp} (ha : a.ok) : ftakeF (fputF a) = (a, 0) := by
  have hv : valL (takF (fputF a)) = a.nat := by rw [takF_val, fput_len', fput_val]
  have hlt : a.nat < pN := ha
  have hl : (takF (fputF a)).length ≤ 6 := normal_len (xs := takF (fputF a)) (cutF_idem _) (by rw [hv]; exact Nat.lt_trans hlt pN_six)
  have e : ofL (takF (fputF a)) = a := Fp.nat_inj (by rw [ofL_val hl, hv])
  unfold ftakeF
  rw [e, (mayF_ok a).2 ha, fput_len']
  rfl
theorem take_eq (b : List UInt8) : ftakeF b = rftakeF b := by
  unfold ftakeF rftakeF
  rw [takF_eq, mayF_nat, mayPF_nat]
end Go.Proofs.YtbbnabednkopdaaGreat

set_option linter.unusedSimpArgs false
set_option linter.unusedVariables false
namespace Go.Proofs.YtbbnabednkopdaaGreat
open Go.RowKit
theorem u8_map (xs : List UInt8) : (List.map EK.u8.cell xs).length = xs.length := List.length_map ..
section
variable {mF : List UInt8 → Bool × Bool × Unit → List UInt8} {pF : Fp → List UInt8} (hm : ∀ xs x, (mF xs x).length = xs.length) (hp : ∀ a, (pF a).length = 48)
include hm hp in
theorem put1_all (gF : Fp → Bool) (a : Pg1) : (put1_T mF pF gF a).full = true ∧ (put1_T mF pF gF a).okAll := by
  refine ⟨rfl, ?_⟩
  unfold put1_T
  simp only [Tree.okAll, Pr.holds, hm, hp, List.length_cons, List.length_nil]
  simp
include hm hp in
theorem put2_all (gF : Fp2 → Bool) (a : Pg2) : (put2_T mF pF gF a).full = true ∧ (put2_T mF pF gF a).okAll := by
  refine ⟨rfl, ?_⟩
  unfold put2_T
  simp only [Tree.okAll, Pr.holds, hm, List.drop_zero, List.length_append, List.length_take, hp, List.length_cons, List.length_nil]
  simp
end
def put1F (a : Pg1) : List UInt8 := (put1_T markF fputF greatF a).outD []
def put2F (a : Pg2) : List UInt8 := (put2_T markF fputF greatF2 a).outD []
theorem put1_ok : CallOk Tryz.prog 40 (K1 kg1.arg rB put1F) :=
  G1 (E := Ens [(83, Kmark markF), (84, Kfput fputF), (85, Kfb greatF)] [84]) Tryz.func40 (c := codeOf Tryz.f40) (by kernel_rfl) (bodied Tryz.func40 (by kernel_rfl) (by kernel_rfl)) kg1.inp oBl put1F fun a _ =>
    DoesL.outs (Ens_ok (.cons mark_ok (.cons fput_ok (.cons great_ok .nil)))) 300 [] (put1_run markF fputF greatF a) (put1_all markF_len fput_len' greatF a).1 (put1_all markF_len fput_len' greatF a).2
theorem put2_ok : CallOk Tryz.prog 42 (K1 kg2.arg rB put2F) :=
  G1 (E := Ens [(83, Kmark markF), (84, Kfput fputF), (88, Kpb greatF2)] [84]) Tryz.func42 (c := codeOf Tryz.f42) (by kernel_rfl) (bodied Tryz.func42 (by kernel_rfl) (by kernel_rfl)) kg2.inp oBl put2F fun a _ =>
    DoesL.outs (Ens_ok (.cons mark_ok (.cons fput_ok (.cons greatF2_ok .nil)))) 300 [] (put2_run markF fputF greatF2 a) (put2_all markF_len fput_len' greatF2 a).1 (put2_all markF_len fput_len' greatF2 a).2
end Go.Proofs.YtbbnabednkopdaaGreat

set_option linter.unusedSimpArgs false
set_option linter.unusedVariables false
namespace Go.Proofs.YtbbnabednkopdaaGreat
open Go.RowKit
def sizeB (n : Int) : Prop := 0 < n ∧ n < 4294967296
abbrev oB4 : Out (List UInt8 × Bool × Bool × Int) := outB4 5
noncomputable abbrev bareC : List Code := flat (scopeOf Tryz.f90)
def bareSt (l : List UInt8) (n : Int) (g : Bool) (i : Int) : St := mkSt 61 [(1, vI n), (4, slB 0 l), (6, .one (.c (.bool g))), (8, vI i)] [ownB l]
def bare0 (b : List UInt8) (n : Int) : St := mkSt 61 [(0, iB.av 0 b), (1, vI n)] [inHE eU8 b]
theorem bare_front (b : List UInt8) (n : Int) : stageT (En []) 100 ((flat (codeOf Tryz.f90)).take 1) (startSt Tryz.f90 [iB.av 0 b, vI n] [inHE eU8 b]) [0, 1] [0] = .leaf (bare0 b n) := by kernel_rfl
theorem bare_start (b : List UInt8) (n : Int) : segP (En []) oB4 300 Tryz.f90 (bareC.take 8) (bare0 b n) (following [1, 4, 6, 8] [] [4]) [(1, .as), (4, .as), (6, .as), (8, .int)] [.as] [] =
  (.vc (0 + b.length * 1 ≤ (List.map EK.u8.cell b).length ∧ 0 < 1)
    (.br (decide ((↑b.length : Int) < n))
      (.leaf (.inr (some ((([], false, false, 2), .t)))))
      (.vc (0 + b.length * 1 ≤ (List.map EK.u8.cell b).length ∧ 0 < 1)
        (.br (decide ((↑b.length : Int) > n))
          (.leaf (.inr (some ((([], false, false, 8), .t)))))
          (.vc (0 < b.length ∧ 0 + b.length * 1 ≤ (List.map EK.u8.cell b).length ∧ 0 < 1)
            (.vc (0 < b.length)
              (.br (b.getD 0 0 &&& UInt8.ofNat 128 == UInt8.ofNat 0)
                (.leaf (.inr (some ((([], false, false, 3), .t)))))
                (.vc (0 + b.length ≤ b.length ∧ 0 + b.length ≤ 9223372036854775807 ∧ (0 + b.length) * 1 ≤ 140737488355328)
                  (.vc (0 < 0 + b.length ∧ 0 + (0 + b.length) * 1 ≤ (List.map EK.u8.cell ([] ++ List.take b.length (List.drop 0 b))).length ∧ 0 < 1)
                    (.vc (0 < ([] ++ List.take b.length (List.drop 0 b)).length)
                      (.vc (0 < 0 + b.length ∧ 0 + (0 + b.length) * 1 ≤ (List.map EK.u8.cell ([] ++ List.take b.length (List.drop 0 b))).length ∧ 0 < 1)
                        (.vc (0 < ([] ++ List.take b.length (List.drop 0 b)).length)
                          (.vc (0 < b.length ∧ 0 + b.length * 1 ≤ (List.map EK.u8.cell b).length ∧ 0 < 1)
                            (.vc (0 < b.length)
                              (.vc (0 < b.length ∧ 0 + b.length * 1 ≤ (List.map EK.u8.cell b).length ∧ 0 < 1)
                                (.vc (0 < b.length)
                                  (.br (!(b.getD 0 0 &&& UInt8.ofNat 64 != UInt8.ofNat 0))
                                    (.leaf (.inr (some (((List.take (0 + b.length) (([] ++ List.take b.length (List.drop 0 b)).set 0 (([] ++ List.take b.length (List.drop 0 b)).getD 0 0 &&& ~~~UInt8.ofNat 224)), false, b.getD 0 0 &&& UInt8.ofNat 32 != UInt8.ofNat 0, 0), (.p (0 + b.length ≤ (([] ++ List.take b.length (List.drop 0 b)).set 0 (([] ++ List.take b.length (List.drop 0 b)).getD 0 0 &&& ~~~UInt8.ofNat 224)).length)))))))
                                    (.leaf (.inl (mkSt 61 [(1, .one (.c (.int .i64 (n)))), (4, .one (.c (.slc 0 0 (0 + b.length) 1 (.of 0) false))), (6, .one (.c (.bool (b.getD 0 0 &&& UInt8.ofNat 32 != UInt8.ofNat 0)))), (8, .one (.c (.int .i64 0)))] [.live ⟨true, 5, 1, (.elts .u8 (([] ++ List.take b.length (List.drop 0 b)).set 0 (([] ++ List.take b.length (List.drop 0 b)).getD 0 0 &&& ~~~UInt8.ofNat 224) : List UInt8)), false⟩])))))))))))))))))))) := by kernel_rfl
theorem bare_round (l : List UInt8) (n : Int) (g : Bool) (i : Int) : iterT (En []) oB4 300 Tryz.f90 (bareC.drop 8) (bareSt l n g i) [1, 4, 6, 8] [0] =
  (.br (g)
    (.leaf (.inr (some ((([], false, false, 3), .t)))))
    (.vc ((0 ≤ i ∧ i < (↑l.length : Int)) ∧ 0 + l.length * 1 ≤ (List.map EK.u8.cell l).length ∧ 0 < 1)
      (.vc (0 + i.toNat * 1 < l.length)
        (.br (l.getD (0 + i.toNat * 1) 0 != UInt8.ofNat 0)
          (.leaf (.inr (some ((([], false, false, 3), .t)))))
          (.br (decide (IntKind.i64.wrap (i + 1) < n))
            (.leaf (.inl ((.goto 0, mkSt 61 [(1, .one (.c (.int .i64 (n)))), (4, .one (.c (.slc 0 0 (l.length) 1 (.of 0) false))), (6, .one (.c (.bool (g)))), (8, .one (.c (.int .i64 (IntKind.i64.wrap (i + 1)))))] [.live ⟨true, 5, 1, (.elts .u8 (l : List UInt8)), false⟩]))))
            (.leaf (.inr (some (((List.take l.length l, true, false, 0), (.p (l.length ≤ l.length)))))))))))) := by kernel_rfl
noncomputable abbrev headC : List Code := flat (codeOf Tryz.f98)
noncomputable abbrev headB : Code := loopAt Tryz.f98 0
def headSt (l : List UInt8) (n : Int) (t : UInt8) (i : Int) : St := mkSt 53 [(1, vI n), (8, slB 0 l), (9, .one (.c (.u8 t))), (10, vI i)] [ownB l]
theorem head_start (b : List UInt8) (n : Int) : segT (En []) oB4 300 Tryz.f98 (headC.take 11) (startSt Tryz.f98 [iB.av 0 b, vI n] [inHE eU8 b]) [1, 8, 9, 35] [2] [(1, .as), (8, .as), (9, .as), (35, .as)] [.as] [] =
  (.vc (0 + b.length * 1 ≤ (List.map EK.u8.cell b).length ∧ 0 < 1)
    (.br (decide ((↑b.length : Int) < n))
      (.leaf (.inr (some ((([], false, false, 2), .t)))))
      (.vc (0 + b.length * 1 ≤ (List.map EK.u8.cell b).length ∧ 0 < 1)
        (.br (decide ((↑b.length : Int) > n))
          (.leaf (.inr (some ((([], false, false, 8), .t)))))
          (.vc (0 + b.length ≤ b.length ∧ 0 + b.length ≤ 9223372036854775807 ∧ (0 + b.length) * 1 ≤ 140737488355328)
            (.vc (0 < 0 + b.length ∧ 0 + (0 + b.length) * 1 ≤ (List.map EK.u8.cell ([] ++ List.take b.length (List.drop 0 b))).length ∧ 0 < 1)
              (.vc (0 < ([] ++ List.take b.length (List.drop 0 b)).length)
                (.vc (0 < 0 + b.length ∧ 0 + (0 + b.length) * 1 ≤ (List.map EK.u8.cell ([] ++ List.take b.length (List.drop 0 b))).length ∧ 0 < 1)
                  (.vc (0 < ([] ++ List.take b.length (List.drop 0 b)).length)
                    (.vc (0 < 0 + b.length ∧ 0 + (0 + b.length) * 1 ≤ (List.map EK.u8.cell ([] ++ List.take b.length (List.drop 0 b))).length ∧ 0 < 1)
                      (.vc (0 < ([] ++ List.take b.length (List.drop 0 b)).length)
                        (.br (decide (shrB (([] ++ List.take b.length (List.drop 0 b)).getD 0 0) 5 < UInt8.ofNat 4))
                          (.leaf (.inr (some ((([], false, false, 3), .t)))))
                          (.leaf (.inl (mkSt 53 [(1, .one (.c (.int .i64 (n)))), (8, .one (.c (.slc 0 0 (0 + b.length) 1 (.of 0) false))), (9, .one (.c (.u8 (shrB (([] ++ List.take b.length (List.drop 0 b)).getD 0 0) 5)))), (35, .one (.c (.bool (decide (UInt8.ofNat 6 ≤ shrB (([] ++ List.take b.length (List.drop 0 b)).getD 0 0) 5)))))] [.live ⟨true, 5, 1, (.elts .u8 (([] ++ List.take b.length (List.drop 0 b)).set 0 (([] ++ List.take b.length (List.drop 0 b)).getD 0 0 % UInt8.ofNat 32) : List UInt8)), false⟩]))))))))))))))) := by kernel_rfl
def headCd (l : List UInt8) (n : Int) (t : UInt8) (c : Cell) : St := mkSt 53 [(1, vI n), (8, slB 0 l), (9, .one (.c (.u8 t))), (35, .one (.c c))] [ownB l]
theorem head_in (l : List UInt8) (n : Int) (t : UInt8) : stageG (En []) 300 ((flat (condYes (headC.drop 11))).take 1) (headCd l n t .tt) [1, 8, 9, 10] [0] [(1, .as), (8, .as), (9, .as), (10, .int)] [.as] [] =
  (.leaf (mkSt 53 [(1, .one (.c (.int .i64 (n)))), (8, .one (.c (.slc 0 0 (l.length) 1 (.of 0) false))), (9, .one (.c (.u8 (t)))), (10, .one (.c (.int .i64 0)))] [.live ⟨true, 5, 1, (.elts .u8 (l : List UInt8)), false⟩])) := by kernel_rfl
theorem head_round (l : List UInt8) (n : Int) (t : UInt8) (i : Int) : iterT (En []) oB4 300 Tryz.f98 [headB] (headSt l n t i) [1, 8, 9, 10] [0] =
  (.br (decide (i < n))
    (.vc ((0 ≤ i ∧ i < (↑l.length : Int)) ∧ 0 + l.length * 1 ≤ (List.map EK.u8.cell l).length ∧ 0 < 1)
      (.vc (0 + i.toNat * 1 < l.length)
        (.br (l.getD (0 + i.toNat * 1) 0 != UInt8.ofNat 0)
          (.leaf (.inr (some ((([], false, false, 3), .t)))))
          (.br (t == UInt8.ofNat 7)
            (.leaf (.inr (some ((([], false, false, 3), .t)))))
            (.leaf (.inl ((.normal, mkSt 53 [(1, .one (.c (.int .i64 (n)))), (8, .one (.c (.slc 0 0 (l.length) 1 (.of 0) false))), (9, .one (.c (.u8 (t)))), (10, .one (.c (.int .i64 (IntKind.i64.wrap (i + 1)))))] [.live ⟨true, 5, 1, (.elts .u8 (l : List UInt8)), false⟩]))))))))
    (.leaf (.inl ((.exit 0, mkSt 53 [(1, .one (.c (.int .i64 (n)))), (8, .one (.c (.slc 0 0 (l.length) 1 (.of 0) false))), (9, .one (.c (.u8 (t)))), (10, .one (.c (.int .i64 (i))))] [.live ⟨true, 5, 1, (.elts .u8 (l : List UInt8)), false⟩]))))) := by kernel_rfl
theorem head_inf (l : List UInt8) (n : Int) (t : UInt8) (i : Int) : iterT (En []) oB4 300 Tryz.f98 ((flat (condYes (headC.drop 11))).drop 2) (headSt l n t i) [] [] =
  (.leaf (.inr (some ((([], true, false, 0), .t))))) := by kernel_rfl
theorem head_end (l : List UInt8) (n : Int) (t : UInt8) : endT (En []) oB4 300 Tryz.f98 (headC.drop 12) (headCd l n t .ff) =
  (.leaf (some (((List.take l.length l, false, t == UInt8.ofNat 5, 0), (.p (l.length ≤ l.length)))))) := by kernel_rfl
def bareL (b : List UInt8) : List UInt8 := b.set 0 (b.getD 0 0 &&& ~~~(UInt8.ofNat 224))
def zeroTo (l : List UInt8) : Nat → Bool
  | 0 => true
  | i + 1 => zeroTo l i && (l.getD i 0 == 0)
def bit7 (b : List UInt8) : Bool := b.getD 0 0 &&& UInt8.ofNat 128 == UInt8.ofNat 0
def bit6 (b : List UInt8) : Bool := b.getD 0 0 &&& UInt8.ofNat 64 != UInt8.ofNat 0
def bit5 (b : List UInt8) : Bool := b.getD 0 0 &&& UInt8.ofNat 32 != UInt8.ofNat 0
def bareG (c1 c2 c3 c4 c5 c6 : Bool) (l : List UInt8) : List UInt8 × Bool × Bool × Int :=
  match c1 with
  | true => ([], false, false, 2)
  | false => match c2 with
    | true => ([], false, false, 8)
    | false => match c3 with
      | true => ([], false, false, 3)
      | false => match c4 with
        | false => (l, false, c5, 0)
        | true => match c5 || !c6 with
          | true => ([], false, false, 3)
          | false => (l, true, false, 0)
def bareF (b : List UInt8) (n : Int) : List UInt8 × Bool × Bool × Int := bareG (decide ((b.length : Int) < n)) (decide ((b.length : Int) > n)) (bit7 b) (bit6 b) (bit5 b) (zeroTo (bareL b) b.length) (bareL b)
theorem bareL_len (b : List UInt8) : (bareL b).length = b.length := List.length_set ..
theorem zeroTo_false {l : List UInt8} {i : Nat} (h : zeroTo l i = false) : ∀ {n : Nat}, i ≤ n → zeroTo l n = false
  | 0, hn => by rw [show (0 : Nat) = i by omega]; exact h
  | n + 1, hn => by
    rcases Nat.lt_or_ge n i with h1 | h1
    · rw [show n + 1 = i by omega]; exact h
    · unfold zeroTo
      rw [zeroTo_false h h1]
      rfl
theorem nil_whole (b : List UInt8) : [] ++ List.take b.length (List.drop 0 b) = b := by rw [List.nil_append, List.drop_zero, List.take_length]
abbrev BareOk (b : List UInt8) (n : Int) : Type := { q : Nat // q < b.length ∧ zeroTo (bareL b) q = true ∧ (q = 0 ∨ bit5 b = false) ∧ (b.length : Int) = n ∧ bit7 b = false ∧ bit6 b = true }
def bareI (b : List UInt8) (n : Int) (q : BareOk b n) : St := bareSt (bareL b) n (bit5 b) (q.1 : Int)
theorem bare_head (b : List UInt8) (n : Int) (hb : b.length < 16777216) (hn : 0 < n) :
    DoesL (En []) (bareC.take 8) (bare0 b n) (Within (En []) Tryz.f90 oB4 (bareF b n) fun r => match r.1 with | .normal => ∃ i0 : BareOk b n, b.length - i0.1 < b.length + 1 ∧ r.2 = bareI b n i0 | _ => False) := by
  refine DoesL.segP (En_ok .nil) 300 8 _ _ _ _ ((congrArg (fun c => segP _ _ 300 _ c _ _ _ _ _) (show (bareC.take 8).take 8 = bareC.take 8 by kernel_rfl)).trans (bare_start b n)) ?_
  rw [nil_whole, Nat.zero_add b.length]
  refine ⟨vcLenB b, fun _ => ⟨fun h1 => ⟨.t, by unfold bareF bareG; rw [h1], trivial⟩, fun h1 => ⟨vcLenB b, fun _ => ⟨fun h2 => ⟨.t, by unfold bareF bareG; rw [h1, h2], trivial⟩, fun h2 => ?_⟩⟩⟩⟩
  have e1 : (b.length : Int) = n := by
    simp only [decide_eq_false_iff_not] at h1 h2
    omega
  have h0 : 0 < b.length := by omega
  have v0 := vcHd (ys := b) rfl h0
  refine ⟨v0, fun _ => ⟨h0, fun _ => ⟨fun h3 => ⟨.t, by unfold bareF bareG; rw [h1, h2, show bit7 b = true from h3], trivial⟩, fun h3 => ?_⟩⟩⟩
  have h3 : bit7 b = false := h3
  have v1 := vcHd (ys := [] ++ List.take b.length (List.drop 0 b)) (congrArg List.length (nil_whole b)) h0
  refine ⟨⟨Nat.le_refl _, by omega, by omega⟩, fun _ => ⟨v1, fun _ => ⟨h0, fun _ => ⟨v1, fun _ => ⟨h0, fun _ => ⟨v0, fun _ => ⟨h0, fun _ => ⟨v0, fun _ => ⟨h0, fun _ => ⟨fun h4 => ?_, fun h4 => ?_⟩⟩⟩⟩⟩⟩⟩⟩⟩⟩
  · have h4 : (!bit6 b) = true := h4
    have h4 : bit6 b = false := by cases h : bit6 b with | false => rfl | true => rw [h] at h4; cases h4
    refine ⟨.p (b.length ≤ (bareL b).length), ?_, by rw [bareL_len]; exact Nat.le_refl _⟩
    unfold bareF bareG
    rw [h1, h2, h3, h4]
    show some ((List.take b.length (bareL b), false, bit5 b, 0), _) = some ((bareL b, false, bit5 b, 0), _)
    rw [← bareL_len b, List.take_length]
    rfl
  · have h4 : bit6 b = true := of_not_false h4
    refine ⟨_, Wk.refl _, ⟨0, h0, rfl, .inl rfl, e1, h3, h4⟩, by show b.length - 0 < b.length + 1; omega, ?_⟩
    show _ = bareSt (bareL b) n (bit5 b) ((0 : Nat) : Int)
    unfold bareSt slB ownB
    rw [bareL_len]
    rfl
theorem bare_ok : CallOk Tryz.prog 90 (K2 aBs (kInt.arg.such sizeB) oB4.res bareF) :=
  Go.Proofs.YtbbnabednkopdaaGreat.G2 (E := En []) Tryz.func90 (c := codeOf Tryz.f90) (by kernel_rfl) (bodied Tryz.func90 (by kernel_rfl) (by kernel_rfl)) iBs (kInt.inp.such sizeB) oB4 bareF fun b n hb hn => by
    have hE : EnvOk (En []) := En_ok .nil
    have hb : b.length < 16777216 := hb.2
    obtain ⟨hn1, hn2⟩ : 0 < n ∧ n < 4294967296 := hn.2
    refine DoesL.stageE hE 100 1 [0, 1] [0] (bare_front b n) ?_
    refine DoesL.scopeFnR (body := scopeOf Tryz.f90) (rest := restOf Tryz.f90) (tail := []) (l := 0) hE (by kernel_rfl) (by kernel_rfl) 8 (by kernel_rfl) (bareI b n) (fun q => b.length - q.1) (b.length + 1) (bare_head b n hb hn1) fun q => ?_
    obtain ⟨i, hi, hz, h5, e1, h7, h6⟩ := q
    show DoesL _ _ (bareSt (bareL b) n (bit5 b) (i : Int)) _
    refine DoesL.iter hE 300 _ _ (bare_round (bareL b) n (bit5 b) (i : Int)) ?_
    have hf : bareF b n = bareG false false false true (bit5 b) (zeroTo (bareL b) b.length) (bareL b) := by
      unfold bareF
      rw [h7, h6, show decide ((b.length : Int) < n) = false from decide_eq_false (by omega), show decide ((b.length : Int) > n) = false from decide_eq_false (by omega)]
    have hl : i < (bareL b).length := by rw [bareL_len]; exact hi
    rw [getB]
    refine ⟨fun h => ⟨.t, by rw [hf, h]; rfl, trivial⟩, fun h => ⟨vcIdxB hl, fun _ => ⟨vcGetB hl, fun _ => ⟨fun h8 => ⟨.t, ?_, trivial⟩, fun h8 => ?_⟩⟩⟩⟩
    · have hz1 : zeroTo (bareL b) (i + 1) = false := by
        unfold zeroTo
        have h8 : (bareL b).getD i 0 ≠ 0 := by simpa [bAt] using h8
        rw [hz, Bool.true_and]
        simpa using h8
      rw [hf, h, zeroTo_false hz1 (show i + 1 ≤ b.length by omega)]
      rfl
    · have hz1 : zeroTo (bareL b) (i + 1) = true := by
        unfold zeroTo
        have h8 : (bareL b).getD i 0 = 0 := by simpa [bAt] using h8
        rw [hz, h8]
        rfl
      rw [wrap_succ i (by omega)]
      refine ⟨fun h9 => ?_, fun h9 => ?_⟩
      · simp only [decide_eq_true_eq] at h9
        exact ⟨rfl, ⟨i + 1, by omega, hz1, .inr h, e1, h7, h6⟩, by show b.length - (i + 1) < b.length - i; omega, rfl⟩
      · simp only [decide_eq_false_iff_not] at h9
        have e2 : i + 1 = b.length := by omega
        refine ⟨.p ((bareL b).length ≤ (bareL b).length), ?_, Nat.le_refl _⟩
        rw [hf, h, ← e2, hz1, List.take_length]
        rfl
def headT (b : List UInt8) : UInt8 := shrB (b.getD 0 0) 5
def headL (b : List UInt8) : List UInt8 := b.set 0 (b.getD 0 0 % UInt8.ofNat 32)
def headG (c1 c2 c3 c4 c5 c6 c7 : Bool) (l : List UInt8) : List UInt8 × Bool × Bool × Int :=
  match c1 with
  | true => ([], false, false, 2)
  | false => match c2 with
    | true => ([], false, false, 8)
    | false => match c3 with
      | true => ([], false, false, 3)
      | false => match c4 with
        | false => (l, false, c5, 0)
        | true => match c6 && !c7 with
          | true => ([], true, false, 0)
          | false => ([], false, false, 3)
def headF (b : List UInt8) (n : Int) : List UInt8 × Bool × Bool × Int := headG (decide ((b.length : Int) < n)) (decide ((b.length : Int) > n)) (decide (headT b < UInt8.ofNat 4)) (decide (UInt8.ofNat 6 ≤ headT b)) (headT b == UInt8.ofNat 5) (zeroTo (headL b) b.length) (headT b == UInt8.ofNat 7) (headL b)
theorem headL_len (b : List UInt8) : (headL b).length = b.length := List.length_set ..
theorem headCd_tt (l : List UInt8) (n : Int) (t : UInt8) (c : Bool) : (⟨refine (headCd l n t (.bool c)).tmps (.tmp 35) .tt, (headCd l n t (.bool c)).heap⟩ : St) = headCd l n t .tt := by kernel_rfl
theorem headCd_ff (l : List UInt8) (n : Int) (t : UInt8) (c : Bool) : (⟨refine (headCd l n t (.bool c)).tmps (.tmp 35) .ff, (headCd l n t (.bool c)).heap⟩ : St) = headCd l n t .ff := by kernel_rfl
theorem head_ok : CallOk Tryz.prog 98 (K2 aBs (kInt.arg.such sizeB) oB4.res headF) :=
  Go.Proofs.YtbbnabednkopdaaGreat.G2 (E := En []) Tryz.func98 (c := codeOf Tryz.f98) (by kernel_rfl) (bodied Tryz.func98 (by kernel_rfl) (by kernel_rfl)) iBs (kInt.inp.such sizeB) oB4 headF fun b n hb hn => by
    have hE : EnvOk (En []) := En_ok .nil
    have hb : b.length < 16777216 := hb.2
    obtain ⟨hn1, hn2⟩ : 0 < n ∧ n < 4294967296 := hn.2
    refine DoesL.seg hE 300 11 _ _ _ _ _ (head_start b n) ?_
    rw [nil_whole, Nat.zero_add b.length]
    refine ⟨vcLenB b, fun _ => ⟨fun h1 => ⟨.t, by unfold headF headG; rw [h1], trivial⟩, fun h1 => ⟨vcLenB b, fun _ => ⟨fun h2 => ⟨.t, by unfold headF headG; rw [h1, h2], trivial⟩, fun h2 => ?_⟩⟩⟩⟩
    have e1 : (b.length : Int) = n := by
      simp only [decide_eq_false_iff_not] at h1 h2
      omega
    have h0 : 0 < b.length := by omega
    have v1 := vcHd (ys := [] ++ List.take b.length (List.drop 0 b)) (congrArg List.length (nil_whole b)) h0
    refine ⟨⟨Nat.le_refl _, by omega, by omega⟩, fun _ => ⟨v1, fun _ => ⟨h0, fun _ => ⟨v1, fun _ => ⟨h0, fun _ => ⟨v1, fun _ => ⟨h0, fun _ => ⟨fun h3 => ⟨.t, by unfold headF headG; rw [h1, h2, show decide (headT b < UInt8.ofNat 4) = true from h3], trivial⟩, fun h3 => ?_⟩⟩⟩⟩⟩⟩⟩⟩
    have h3 : decide (headT b < UInt8.ofNat 4) = false := h3
    have hf : headF b n = headG false false false (decide (UInt8.ofNat 6 ≤ headT b)) (headT b == UInt8.ofNat 5) (zeroTo (headL b) b.length) (headT b == UInt8.ofNat 7) (headL b) := by
      unfold headF
      rw [h1, h2, h3]
    have hst : ∀ (s : St), s = headCd (headL b) n (headT b) (.bool (decide (UInt8.ofNat 6 ≤ headT b))) → DoesL (En []) (headC.drop 11) s (EndsAs (En []) Tryz.f98 (Reads oB4 (headF b n))) := by
      rintro s rfl
      refine DoesL.cond (c := .tmp 35) (x := condYes (headC.drop 11)) (y := condNo (headC.drop 11)) (rest := headC.drop 12) (p := decide (UInt8.ofNat 6 ≤ headT b)) (by kernel_rfl) (by kernel_rfl) (fun hc => ?_) (fun hc => ?_)
      · rw [headCd_tt, hf, hc]
        have hl : (headL b).length = b.length := headL_len b
        generalize headL b = l at *
        generalize headT b = t at *
        refine DoesL.stageG hE 300 1 _ _ _ _ _ (head_in l n t) ?_
        show DoesL _ _ (headSt l n t ((0 : Nat) : Int)) _
        refine DoesL.blockLoop (B := headB) (rest := (flat (condYes (headC.drop 11))).drop 2) (id := 0) (by kernel_rfl) (fun q : { q : Nat // q ≤ b.length ∧ zeroTo l q = true ∧ (q = 0 ∨ (t == UInt8.ofNat 7) = false) } => headSt l n t (q.1 : Int)) (fun q => b.length - q.1) ⟨0, Nat.zero_le _, rfl, .inl rfl⟩ fun q => ?_
        obtain ⟨i, hi, hz, h7⟩ := q
        show Does _ _ (headSt l n t (i : Int)) _
        refine Does.wn (Does.mono (Does.of1 (DoesL.iter (o := oB4) (fn := Tryz.f98) (x := headG false false false true (t == UInt8.ofNat 5) (zeroTo l b.length) (t == UInt8.ofNat 7) l) (R := fun r => match r.1 with
          | .normal => ∃ j : { q : Nat // q ≤ b.length ∧ zeroTo l q = true ∧ (q = 0 ∨ (t == UInt8.ofNat 7) = false) }, b.length - j.1 < b.length - i ∧ r.2 = headSt l n t (j.1 : Int)
          | .exit id' => Nat.beq id' 0 = true ∧ DoesL (En []) ((flat (condYes (headC.drop 11))).drop 2) r.2 (ThenX (EndsAs (En []) Tryz.f98 (Reads oB4 (headG false false false true (t == UInt8.ofNat 5) (zeroTo l b.length) (t == UInt8.ofNat 7) l))) (fun s => DoesL (En []) (headC.drop 12) s (EndsAs (En []) Tryz.f98 (Reads oB4 (headG false false false true (t == UInt8.ofNat 5) (zeroTo l b.length) (t == UInt8.ofNat 7) l)))))
          | _ => False) hE 300 _ _ (head_round l n t (i : Int)) ?_)) fun r hr => ?_)
        · rw [getB]
          refine ⟨fun h8 => ?_, fun h8 => ?_⟩
          · simp only [decide_eq_true_eq] at h8
            have hil : i < l.length := by omega
            refine ⟨vcIdxB hil, fun _ => ⟨vcGetB hil, fun _ => ⟨fun h9 => ⟨.t, ?_, trivial⟩, fun h9 => ⟨fun h10 => ⟨.t, ?_, trivial⟩, fun h10 => ?_⟩⟩⟩⟩
            · have hz1 : zeroTo l (i + 1) = false := by
                unfold zeroTo
                have h9 : l.getD i 0 ≠ 0 := by simpa [bAt] using h9
                rw [hz, Bool.true_and]
                simpa using h9
              rw [zeroTo_false hz1 (show i + 1 ≤ b.length by omega)]
              rfl
            · rw [h10]
              unfold headG
              rw [Bool.not_true, Bool.and_false]
            · have hz1 : zeroTo l (i + 1) = true := by
                unfold zeroTo
                have h9 : l.getD i 0 = 0 := by simpa [bAt] using h9
                rw [hz, h9]
                rfl
              rw [wrap_succ i (by omega)]
              exact ⟨⟨i + 1, by omega, hz1, .inr h10⟩, by show b.length - (i + 1) < b.length - i; omega, rfl⟩
          · simp only [decide_eq_false_iff_not] at h8
            obtain rfl : i = b.length := by omega
            have h7 : (t == UInt8.ofNat 7) = false := h7.resolve_left (by omega)
            refine ⟨rfl, DoesL.endsIn hE 300 (head_inf l n t _) ⟨.t, ?_, trivial⟩⟩
            rw [hz, h7]
            rfl
        · obtain ⟨e, s⟩ := r
          cases e with
          | ret => exact Wn.of hr
          | normal => exact hr
          | exit id => exact hr
          | goto l => obtain ⟨s', q1, q2⟩ := hr; exact q2.elim
      · rw [headCd_ff, hf, hc]
        show DoesL _ [.skip] _ _
        refine DoesL.skip hE ⟨_, Wk.refl _, ?_⟩
        refine DoesL.ends hE 300 (head_end (headL b) n (headT b)) (reads_p ?_ (Nat.le_refl _))
        rw [List.take_length]
        rfl
    refine hst _ ?_
    unfold headCd slB ownB
    rw [headL_len]
    rfl
end Go.Proofs.YtbbnabednkopdaaGreat

set_option linter.unusedSimpArgs false
set_option linter.unusedVariables false
set_option linter.unusedSectionVars false
namespace Go.Proofs.YtbbnabednkopdaaGreat
section
variable {R : Type} [CR R]
theorem CR.nat_add (m : Nat) : ∀ n : Nat, (CR.nat (m + n) : R) = CR.nat m + CR.nat n
  | 0 => by show CR.nat m = CR.nat m + CR.z; rw [CR.add_zero]
  | n + 1 => by
    rw [← Nat.add_assoc, CR.nat_succ, CR.nat_add m n, CR.nat_succ, CR.add_assoc]
theorem CR.nat_mul (m : Nat) : ∀ n : Nat, (CR.nat (m * n) : R) = CR.nat m * CR.nat n
  | 0 => by
    show CR.z = CR.nat m * CR.z
    rw [CR.mul_zero]
  | n + 1 => by
    rw [Nat.mul_succ, CR.nat_add, CR.nat_mul m n, CR.nat_succ, CR.dist, CR.mul_one]
end
section
variable {K : Type} [Fld K]
end
theorem V1.nat_nat : ∀ n : Nat, V1.nat (CR.nat n) = n % pN
  | 0 => V1.nat_zero
  | n + 1 => by
    rw [CR.nat_succ]
    show V1.nat (CR.nat n + 1) = _
    rw [V1.nat_add, V1.nat_nat n, V1.nat_one, Nat.mod_add_mod]
theorem V1.two_nat : V1.nat (2 : V1) = 2 := by
  show V1.nat (CR.nat 2) = 2
  rw [V1.nat_nat]
  exact Nat.mod_eq_of_lt two_lt
instance : QF V1 where
  nr := -1
  no := fun x h => by
    have h1 : (x * x).chi = x.chi * x.chi := chi_mul x x
    rw [h, chi_neg_one] at h1
    have hx : x ≠ 0 := fun e => by
      rw [e] at h
      have := one_ne' (K := V1)
      grind
    rw [chi_sq hx] at h1
    exact one_ne_neg h1.symm
abbrev V2 : Type := Qd V1
theorem V1.nr_eq : (QP.nr : V1) = -1 := rfl
def xi : V2 := ⟨1, 1⟩
theorem xi_norm : xi.norm = 2 := by
  unfold Qd.norm xi
  rw [V1.nr_eq]
  show (1 : V1) * 1 - -1 * (1 * 1) = 2
  grind
theorem two_ne : (2 : V1) ≠ 0 := fun h => by
  have h1 := congrArg V1.nat h
  rw [V1.two_nat, V1.nat_zero] at h1
  exact absurd h1 (by decide)
theorem third : (pN - 1) / 3 * 3 = pN - 1 := by decide +kernel
theorem two_third : ((2 : V1) ^ ((pN - 1) / 3)) ≠ 1 := fun h => by
  have h1 := congrArg V1.nat h
  rw [V1.nat_pow, V1.two_nat, V1.nat_one, ← mpow_eq pN 381 2 _ (by decide +kernel)] at h1
  exact absurd h1 (by decide +kernel)
theorem two_half : (2 : V1).chi ≠ 1 := fun h => by
  have h1 := congrArg V1.nat h
  unfold V1.chi at h1
  rw [V1.nat_pow, V1.two_nat, V1.nat_one, ← mpow_eq pN 381 2 _ (by decide +kernel)] at h1
  exact absurd h1 (by decide +kernel)
theorem CR_zero {R : Type} [CR R] (a : R) : a * 0 = 0 := CR.mul_zero a
instance : CF V2 where
  cr := xi
  no := fun x h => by
    have h1 : x.norm * x.norm * x.norm = 2 := by rw [← Qd.norm_mul, ← Qd.norm_mul, h, xi_norm]
    have hx : x.norm ≠ 0 := fun e => by
      exact two_ne (by rw [← h1, e, CR_zero])
    apply two_third
    have e : (2 : V1) = x.norm ^ 3 := by rw [← h1]; grind
    rw [e, ← pow_mul', Nat.mul_comm, third]
    exact V1.fermat hx
abbrev V6 : Type := Cb V2
theorem V2.cr_eq : (CP.cr : V2) = xi := rfl
def vv : V6 := ⟨0, 1, 0⟩
theorem vv_norm : vv.norm = xi := by
  unfold Cb.norm vv
  rw [V2.cr_eq]
  show (0 : V2) * (0 * 0 - xi * (1 * 0)) + xi * (0 * (xi * (0 * 0) - 0 * 1) + 1 * (1 * 1 - 0 * 0)) = xi
  generalize xi = x
  grind
instance : QF V6 where
  nr := vv
  no := fun x h => by
    have h1 : x.norm * x.norm = xi := by rw [← Cb.norm_mul, h, vv_norm]
    have h2 : x.norm.norm * x.norm.norm = 2 := by rw [← Qd.norm_mul, h1, xi_norm]
    have hx : x.norm.norm ≠ 0 := fun e => by
      exact two_ne (by rw [← h2, e, CR_zero])
    apply two_half
    rw [← h2, chi_mul, chi_sq hx]
def uu : V2 := ⟨0, 1⟩
theorem V2.split (x : V2) : x = Qd.of x.a + Qd.of x.b * uu := Qd.ext' (by rw [Qd.add_a, Qd.mul_a]; show x.a = x.a + (x.b * 0 + QP.nr * (0 * 1)); grind) (by rw [Qd.add_b, Qd.mul_b]; show x.b = 0 + (x.b * 1 + 0 * 0); grind)
end Go.Proofs.YtbbnabednkopdaaGreat

set_option linter.unusedSimpArgs false
set_option linter.unusedVariables false
namespace Go.Proofs.YtbbnabednkopdaaGreat
open Go.RowKit
def rv : V1 := V1.of rN
def ri : V1 := Fld.inv rv
theorem rv_ne : rv ≠ 0 := fun e => by
  have h := congrArg V1.nat e
  rw [V1.nat_zero] at h
  exact absurd h (by decide +kernel)
theorem rv_ri : rv * ri = 1 := mul_inv' rv_ne
theorem half_ok' {a b : Fp} (ha : a.ok) : (halfF a b).ok := (halfF_nat ha).1
theorem v_half {a b : Fp} (ha : a.ok) (hb : b.ok) : (halfF a b).v = ri * (a.v * b.v) := by
  have h : (halfF a b).v * rv = a.v * b.v := V1.ext (by
    rw [V1.nat_mul, V1.nat_mul, Fp.v_nat (half_ok' ha), Fp.v_nat ha, Fp.v_nat hb]
    show ((halfF a b).nat * (rN % pN)) % pN = _
    rw [Nat.mul_mod_mod, (halfF_nat ha).2])
  have h2 := rv_ri
  grind
theorem whole_ok' {a : Fp} (ha : a.ok) : (wholeF a).ok := by
  unfold Fp.ok
  rw [wholeF_nat ha]
  exact Nat.mod_lt _ pN_pos
theorem v_whole {a : Fp} (ha : a.ok) : (wholeF a).v = rv * a.v := V1.ext (by
  rw [Fp.v_nat (whole_ok' ha), wholeF_nat ha, V1.nat_mul, Fp.v_nat ha]
  show _ = (rN % pN * a.nat) % pN
  rw [Nat.mod_mul_mod, Nat.mul_comm])
theorem inv_v {a : Fp} (ha : a.ok) : (a.v = 0 → (invF a).2 = 7) ∧ (a.v ≠ 0 → (invF a).2 = 0 ∧ (invF a).1.ok ∧ (invF a).1.v = Fld.inv a.v) := by
  obtain ⟨h1, h2⟩ := inv_law ha
  constructor
  · intro h
    refine h1 ?_
    have := congrArg V1.nat h
    rwa [Fp.v_nat ha, V1.nat_zero] at this
  · intro h
    have h0 := V1.ne_zero h
    rw [Fp.v_nat ha] at h0
    obtain ⟨i1, i2, i3⟩ := h2 h0
    refine ⟨i1, i2, inv_unique' (V1.ext ?_)⟩
    rw [V1.nat_mul, Fp.v_nat ha, Fp.v_nat i2, i3, V1.nat_one]
def Fp2.ok (a : Fp2) : Prop := a.c0.ok ∧ a.c1.ok
def Fp2.v (a : Fp2) : V2 := ⟨a.c0.v, a.c1.v⟩
theorem Fp2.v_a (a : Fp2) : a.v.a = a.c0.v := rfl
theorem Fp2.v_b (a : Fp2) : a.v.b = a.c1.v := rfl
theorem Fp2.v_inj {a b : Fp2} (ha : a.ok) (hb : b.ok) (h : a.v = b.v) : a = b := by
  have h1 : a.c0 = b.c0 := Fp.v_inj ha.1 hb.1 (congrArg Qd.a h)
  have h2 : a.c1 = b.c1 := Fp.v_inj ha.2 hb.2 (congrArg Qd.b h)
  cases a; cases b
  simp only [] at h1 h2
  subst h1 h2
  rfl
theorem fp2Eq_v {a b : Fp2} (ha : a.ok) (hb : b.ok) : fp2Eq a b = true ↔ a.v = b.v := ⟨fun h => by rw [(fp2Eq_iff a b).1 h], fun h => (fp2Eq_iff a b).2 (Fp2.v_inj ha hb h)⟩
theorem addF2_eq (a b : Fp2) : addF2 a b = ⟨addF a.c0 b.c0, addF a.c1 b.c1⟩ := by unfold addF2 addF2_G; rfl
theorem subF2_eq (a b : Fp2) : subF2 a b = ⟨subF a.c0 b.c0, subF a.c1 b.c1⟩ := by unfold subF2 subF2_G; rfl
theorem negF2_eq (a : Fp2) : negF2 a = ⟨negF a.c0, negF a.c1⟩ := by unfold negF2 negF2_G; rfl
theorem conjF2_eq (a : Fp2) : conjF2 a = ⟨a.c0, negF a.c1⟩ := by unfold conjF2 conjF2_G; rfl
theorem halfF2_eq (a b : Fp2) : halfF2 a b = ⟨subF (halfF a.c0 b.c0) (halfF a.c1 b.c1), subF (halfF (addF a.c0 a.c1) (addF b.c0 b.c1)) (addF (halfF a.c0 b.c0) (halfF a.c1 b.c1))⟩ := by unfold halfF2 halfF2_G; rfl
theorem wholeF2_eq (a : Fp2) : wholeF2 a = ⟨wholeF a.c0, wholeF a.c1⟩ := by unfold wholeF2 wholeF2_G; rfl
theorem mulF2_eq (a b : Fp2) : mulF2 a b = wholeF2 (halfF2 a b) := by unfold mulF2 mulF2_G; rfl
theorem normF2_G_eq (f g : Fp → Fp → Fp) (a : Fp2) : normF2_G f g a = f (g a.c0 a.c0) (g a.c1 a.c1) := rfl
theorem normF2_eq (a : Fp2) : normF2 a = addF (mulF a.c0 a.c0) (mulF a.c1 a.c1) := by
  unfold normF2
  exact normF2_G_eq addF mulF a
theorem scaledF2_eq (a : Fp2) (k : Fp) : scaledF2 a k = ⟨mulF a.c0 k, mulF a.c1 k⟩ := by unfold scaledF2 scaledF2_G; rfl
theorem Fp2.mk_ok {a b : Fp} (ha : a.ok) (hb : b.ok) : (⟨a, b⟩ : Fp2).ok := ⟨ha, hb⟩
theorem Fp2.mk_v {a b : Fp} {x : V2} (ha : a.v = x.a) (hb : b.v = x.b) : (⟨a, b⟩ : Fp2).v = x := Qd.ext' ha hb
theorem may2_iff (a : Fp2) : mayF2 a = true ↔ a.ok := by
  unfold mayF2 mayF2_G Fp2.ok
  rw [← mayF_ok, ← mayF_ok]
  cases mayF a.c0 <;> simp
theorem zero_ok2 : zeroFp2.ok := ⟨zero_ok', zero_ok'⟩
theorem v_zero2 : zeroFp2.v = 0 := Qd.ext' v_zero v_zero
theorem one_ok2 : oneFp2.ok := ⟨one_ok', zero_ok'⟩
theorem v_one2 : oneFp2.v = 1 := Qd.ext' v_one v_zero
theorem v_eq_zero2 {a : Fp2} (ha : a.ok) : a.v = 0 ↔ a = zeroFp2 := ⟨fun h => Fp2.v_inj ha zero_ok2 (by rw [h, v_zero2]), fun h => by rw [h, v_zero2]⟩
theorem add_ok2 {a b : Fp2} (ha : a.ok) (hb : b.ok) : (addF2 a b).ok := by rw [addF2_eq]; exact Fp2.mk_ok (add_ok' ha.1 hb.1) (add_ok' ha.2 hb.2)
theorem v_add2 {a b : Fp2} (ha : a.ok) (hb : b.ok) : (addF2 a b).v = a.v + b.v := by rw [addF2_eq]; exact Fp2.mk_v (v_add ha.1 hb.1) (v_add ha.2 hb.2)
theorem sub_ok2 {a b : Fp2} (ha : a.ok) (hb : b.ok) : (subF2 a b).ok := by rw [subF2_eq]; exact Fp2.mk_ok (sub_ok' ha.1 hb.1) (sub_ok' ha.2 hb.2)
theorem v_sub2 {a b : Fp2} (ha : a.ok) (hb : b.ok) : (subF2 a b).v = a.v - b.v := by rw [subF2_eq]; exact Fp2.mk_v (v_sub ha.1 hb.1) (v_sub ha.2 hb.2)
theorem neg_ok2 {a : Fp2} (ha : a.ok) : (negF2 a).ok := by rw [negF2_eq]; exact Fp2.mk_ok (neg_ok' ha.1) (neg_ok' ha.2)
theorem v_neg2 {a : Fp2} (ha : a.ok) : (negF2 a).v = -a.v := by rw [negF2_eq]; exact Fp2.mk_v (v_neg ha.1) (v_neg ha.2)
theorem conj_ok2 {a : Fp2} (ha : a.ok) : (conjF2 a).ok := by rw [conjF2_eq]; exact Fp2.mk_ok (ha.1) (neg_ok' ha.2)
theorem v_conj2 {a : Fp2} (ha : a.ok) : (conjF2 a).v = a.v.conj := by rw [conjF2_eq]; exact Fp2.mk_v rfl (v_neg ha.2)
theorem V2.mul_a (x y : V2) : (x * y).a = x.a * y.a - x.b * y.b := by rw [Qd.mul_a, V1.nr_eq]; grind
theorem V2.mul_b (x y : V2) : (x * y).b = x.a * y.b + x.b * y.a := Qd.mul_b x y
theorem xi_a : xi.a = 1 := rfl
theorem xi_b : xi.b = 1 := rfl
def rv2 : V2 := Qd.of rv
def ri2 : V2 := Qd.of ri
theorem rv_ri2 : rv2 * ri2 = 1 := by unfold rv2 ri2; rw [← Qd.of_mul, rv_ri]; rfl
theorem half_ok2 {a b : Fp2} (ha : a.ok) (hb : b.ok) : (halfF2 a b).ok := by rw [halfF2_eq]; exact Fp2.mk_ok (sub_ok' (half_ok' ha.1) (half_ok' ha.2)) (sub_ok' (half_ok' (add_ok' ha.1 ha.2)) (add_ok' (half_ok' ha.1) (half_ok' ha.2)))
theorem v_half2 {a b : Fp2} (ha : a.ok) (hb : b.ok) : (halfF2 a b).v = ri2 * (a.v * b.v) := by
  rw [halfF2_eq]
  exact Fp2.mk_v (by
    rw [v_sub (half_ok' ha.1) (half_ok' ha.2), v_half ha.1 hb.1, v_half ha.2 hb.2, V2.mul_a, V2.mul_a, V2.mul_b]
    rw [show ri2.a = ri from rfl, show ri2.b = 0 from rfl, Fp2.v_a, Fp2.v_b, Fp2.v_a, Fp2.v_b]
    grind)
    (by
    rw [v_sub (half_ok' (add_ok' ha.1 ha.2)) (add_ok' (half_ok' ha.1) (half_ok' ha.2)), v_half (add_ok' ha.1 ha.2) (add_ok' hb.1 hb.2), v_add (half_ok' ha.1) (half_ok' ha.2), v_half ha.1 hb.1, v_half ha.2 hb.2, v_add ha.1 ha.2, v_add hb.1 hb.2, V2.mul_b, V2.mul_a, V2.mul_b]
    rw [show ri2.a = ri from rfl, show ri2.b = 0 from rfl, Fp2.v_a, Fp2.v_b, Fp2.v_a, Fp2.v_b]
    grind)
theorem whole_ok2 {a : Fp2} (ha : a.ok) : (wholeF2 a).ok := by rw [wholeF2_eq]; exact Fp2.mk_ok (whole_ok' ha.1) (whole_ok' ha.2)
theorem of_mul_a (k : V1) (x : V2) : (Qd.of k * x).a = k * x.a := by rw [V2.mul_a]; show k * x.a - 0 * x.b = _; grind
theorem of_mul_b (k : V1) (x : V2) : (Qd.of k * x).b = k * x.b := by rw [V2.mul_b]; show k * x.b + 0 * x.a = _; grind
theorem v_whole2 {a : Fp2} (ha : a.ok) : (wholeF2 a).v = rv2 * a.v := by rw [wholeF2_eq]; exact Fp2.mk_v (by unfold rv2; rw [of_mul_a]; exact v_whole ha.1) (by unfold rv2; rw [of_mul_b]; exact v_whole ha.2)
theorem mul_ok2 {a b : Fp2} (ha : a.ok) (hb : b.ok) : (mulF2 a b).ok := by rw [mulF2_eq]; exact whole_ok2 (half_ok2 ha hb)
theorem v_mul2 {a b : Fp2} (ha : a.ok) (hb : b.ok) : (mulF2 a b).v = a.v * b.v := by
  rw [mulF2_eq, v_whole2 (half_ok2 ha hb), v_half2 ha hb]
  have := rv_ri2
  grind
theorem norm_ok2 {a : Fp2} (ha : a.ok) : (normF2 a).ok := by rw [normF2_eq]; exact add_ok' (mul_ok' ha.1) (mul_ok' ha.2)
theorem V2.norm_eq (x : V2) : x.norm = x.a * x.a + x.b * x.b := by unfold Qd.norm; rw [V1.nr_eq]; grind
theorem v_norm2 {a : Fp2} (ha : a.ok) : (normF2 a).v = a.v.norm := by
  rw [V2.norm_eq, normF2_eq, v_add (mul_ok' ha.1) (mul_ok' ha.2), v_mul ha.1 ha.1, v_mul ha.2 ha.2]
  rfl
theorem scaled_ok2 {a : Fp2} {k : Fp} (ha : a.ok) (hk : k.ok) : (scaledF2 a k).ok := by rw [scaledF2_eq]; exact Fp2.mk_ok (mul_ok' ha.1) (mul_ok' ha.2)
theorem v_scaled2 {a : Fp2} {k : Fp} (ha : a.ok) (hk : k.ok) : (scaledF2 a k).v = Qd.of k.v * a.v := by
  rw [scaledF2_eq]
  exact Fp2.mk_v (by rw [of_mul_a, v_mul ha.1 hk]; exact CR.mul_comm a.c0.v k.v)
    (by rw [of_mul_b, v_mul ha.2 hk]; exact CR.mul_comm a.c1.v k.v)
theorem V2.inv_eq {x : V2} (h : x ≠ 0) : Fld.inv x = Qd.of (Fld.inv x.norm) * x.conj := by
  refine (inv_unique' ?_).symm
  have h1 := Qd.mul_conj x
  have h2 : Qd.of x.norm * Qd.of (Fld.inv x.norm) = (1 : V2) := by rw [← Qd.of_mul, mul_inv' (Qd.norm_ne h)]; rfl
  grind
theorem V2.norm_zero : (0 : V2).norm = 0 := by rw [V2.norm_eq]; show (0 : V1) * 0 + 0 * 0 = 0; grind
theorem invF2_no {f0 : Fp → Fp × Int} {f1 : Fp2 → Fp} (f2 : Fp2 → Fp → Fp2) (f3 : Fp2 → Fp2) {a : Fp2} (h : (f0 (f1 a)).2 = 7) : invF2_G f0 f1 f2 f3 a = (zeroFp2, 7) := by
  unfold invF2_G
  rw [h]
  rfl
theorem invF2_yes {f0 : Fp → Fp × Int} {f1 : Fp2 → Fp} (f2 : Fp2 → Fp → Fp2) (f3 : Fp2 → Fp2) {a : Fp2} (h : (f0 (f1 a)).2 = 0) : invF2_G f0 f1 f2 f3 a = (f2 (f3 a) (f0 (f1 a)).1, 0) := by
  unfold invF2_G
  rw [h]
  rfl
theorem inv_v2 {a : Fp2} (ha : a.ok) : (a.v = 0 → invF2 a = (zeroFp2, 7)) ∧ (a.v ≠ 0 → (invF2 a).2 = 0 ∧ (invF2 a).1.ok ∧ (invF2 a).1.v = Fld.inv a.v) := by
  obtain ⟨h1, h2⟩ := inv_v (norm_ok2 ha)
  rw [v_norm2 ha] at h1 h2
  unfold invF2
  constructor
  · intro h
    exact invF2_no _ _ (h1 (by rw [h]; exact V2.norm_zero))
  · intro h
    obtain ⟨i1, i2, i3⟩ := h2 (Qd.norm_ne h)
    rw [invF2_yes _ _ i1]
    simp only []
    refine ⟨trivial, scaled_ok2 (conj_ok2 ha) i2, ?_⟩
    rw [v_scaled2 (conj_ok2 ha) i2, i3, v_conj2 ha, V2.inv_eq h]
end Go.Proofs.YtbbnabednkopdaaGreat
