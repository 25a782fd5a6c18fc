/- The document's points: what has no slices. -/
import Derived.Test.YtchlamfdofpolaaQa
import Derived.Test.YtchlamfdofpolaaPd
set_option linter.unusedSimpArgs false
set_option linter.unusedVariables false
namespace Go.Proofs.Ytchlamfdofpolaa
open Go.RowKit

def gen1R_G  : Pg1 := ({ x := { l0 := UInt64.ofNat 18103045581585958587, l1 := UInt64.ofNat 7806400890582735599, l2 := UInt64.ofNat 11623291730934869080, l3 := UInt64.ofNat 14080658508445169925, l4 := UInt64.ofNat 2780237799254240271, l5 := UInt64.ofNat 1725392847304644500 }, y := { l0 := UInt64.ofNat 912580534683953121, l1 := UInt64.ofNat 15005087156090211044, l2 := UInt64.ofNat 61670280795567085, l3 := UInt64.ofNat 18227722000993880822, l4 := UInt64.ofNat 11573741888802228964, l5 := UInt64.ofNat 627113611842199793 }, inf := false })
def gen1R_T  : Tree (Option (Pg1)) :=
  (.leaf (some ({ x := { l0 := UInt64.ofNat 18103045581585958587, l1 := UInt64.ofNat 7806400890582735599, l2 := UInt64.ofNat 11623291730934869080, l3 := UInt64.ofNat 14080658508445169925, l4 := UInt64.ofNat 2780237799254240271, l5 := UInt64.ofNat 1725392847304644500 }, y := { l0 := UInt64.ofNat 912580534683953121, l1 := UInt64.ofNat 15005087156090211044, l2 := UInt64.ofNat 61670280795567085, l3 := UInt64.ofNat 18227722000993880822, l4 := UInt64.ofNat 11573741888802228964, l5 := UInt64.ofNat 627113611842199793 }, inf := false })))
theorem gen1R_run  : plainRun (En []) (kRow Pg1).rs 300 Try.f26 [] = gen1R_T  := by kernel_rfl
theorem gen1R_sat  : (gen1R_T ).sat fun q => q = some (gen1R_G ) := (show some _ = some _ from rfl)
def gen1R  : Pg1 := gen1R_G  
theorem gen1R_ok : CallOk Try.prog 26 (K0 (kRow Pg1).rs.res gen1R) :=
  P0 (En_ok .nil) Try.func26 (bodied Try.func26 (by kernel_rfl) (by kernel_rfl)) 300  (kRow Pg1).rs gen1R (gen1R_run ) (gen1R_sat )
def gen2R_G  : Pg2 := ({ x := { c0 := { l0 := UInt64.ofNat 15312334153293348280, l1 := UInt64.ofNat 841050694974028783, l2 := UInt64.ofNat 12993178926126977399, l3 := UInt64.ofNat 14331714969349929730, l4 := UInt64.ofNat 2740446039084699729, l5 := UInt64.ofNat 165123225776229009 }, c1 := { l0 := UInt64.ofNat 16549740192668593022, l1 := UInt64.ofNat 3696594454104530263, l2 := UInt64.ofNat 13103893525273989193, l3 := UInt64.ofNat 6443473286224459290, l4 := UInt64.ofNat 9055845637167730533, l5 := UInt64.ofNat 1432192374203850592 } }, y := { c0 := { l0 := UInt64.ofNat 16254428414758889473, l1 := UInt64.ofNat 10536956157198377609, l2 := UInt64.ofNat 7873024875724591404, l3 := UInt64.ofNat 12537348094477325223, l4 := UInt64.ofNat 10144865889576432922, l5 := UInt64.ofNat 929383263523139089 }, c1 := { l0 := UInt64.ofNat 12297368366147926462, l1 := UInt64.ofNat 4555124010822409633, l2 := UInt64.ofNat 2771000935339432363, l3 := UInt64.ofNat 14645187562128761775, l4 := UInt64.ofNat 3651525051980876697, l5 := UInt64.ofNat 434250606344352972 } }, inf := false })
def gen2R_T  : Tree (Option (Pg2)) :=
  (.leaf (some ({ x := { c0 := { l0 := UInt64.ofNat 15312334153293348280, l1 := UInt64.ofNat 841050694974028783, l2 := UInt64.ofNat 12993178926126977399, l3 := UInt64.ofNat 14331714969349929730, l4 := UInt64.ofNat 2740446039084699729, l5 := UInt64.ofNat 165123225776229009 }, c1 := { l0 := UInt64.ofNat 16549740192668593022, l1 := UInt64.ofNat 3696594454104530263, l2 := UInt64.ofNat 13103893525273989193, l3 := UInt64.ofNat 6443473286224459290, l4 := UInt64.ofNat 9055845637167730533, l5 := UInt64.ofNat 1432192374203850592 } }, y := { c0 := { l0 := UInt64.ofNat 16254428414758889473, l1 := UInt64.ofNat 10536956157198377609, l2 := UInt64.ofNat 7873024875724591404, l3 := UInt64.ofNat 12537348094477325223, l4 := UInt64.ofNat 10144865889576432922, l5 := UInt64.ofNat 929383263523139089 }, c1 := { l0 := UInt64.ofNat 12297368366147926462, l1 := UInt64.ofNat 4555124010822409633, l2 := UInt64.ofNat 2771000935339432363, l3 := UInt64.ofNat 14645187562128761775, l4 := UInt64.ofNat 3651525051980876697, l5 := UInt64.ofNat 434250606344352972 } }, inf := false })))
theorem gen2R_run  : plainRun (En []) (kRow Pg2).rs 300 Try.f46 [] = gen2R_T  := by kernel_rfl
theorem gen2R_sat  : (gen2R_T ).sat fun q => q = some (gen2R_G ) := (show some _ = some _ from rfl)
def gen2R  : Pg2 := gen2R_G  
theorem gen2R_ok : CallOk Try.prog 46 (K0 (kRow Pg2).rs.res gen2R) :=
  P0 (En_ok .nil) Try.func46 (bodied Try.func46 (by kernel_rfl) (by kernel_rfl)) 300  (kRow Pg2).rs gen2R (gen2R_run ) (gen2R_sat )
def mulS_G (f0 : Fp → Fp → Fp) (f1 : Fp2 → Fp2 → Fp2) (a : Fp2) (b : Fp2) (small : Bool) : Fp2 := (match (small) with | true => ({ c0 := f0 a.c0 b.c0, c1 := zeroFp }) | false => (f1 a b))
def mulS_T (f0 : Fp → Fp → Fp) (f1 : Fp2 → Fp2 → Fp2) (a : Fp2) (b : Fp2) (small : Bool) : Tree (Option (Fp2)) :=
  (.br (small)
    (.leaf (some ({ c0 := f0 a.c0 b.c0, c1 := zeroFp })))
    (.leaf (some (f1 a b))))
theorem mulS_run (f0 : Fp → Fp → Fp) (f1 : Fp2 → Fp2 → Fp2) (a : Fp2) (b : Fp2) (small : Bool) : plainRun (En [(69, Kff f0), (93, K2 (kRow Fp2).arg (kRow Fp2).arg (kRow Fp2).rs.res f1)]) (kRow Fp2).rs 300 Try.f107 [.one ((kRow Fp2).av a), .one ((kRow Fp2).av b), .one (kBool.av small)] = mulS_T f0 f1 a b small := by kernel_rfl
theorem mulS_sat (f0 : Fp → Fp → Fp) (f1 : Fp2 → Fp2 → Fp2) (a : Fp2) (b : Fp2) (small : Bool) : (mulS_T f0 f1 a b small).sat fun q => q = some (mulS_G f0 f1 a b small) := ⟨fun h0 => (show some _ = some _ from congrArg some (by unfold mulS_G; rw [h0])), fun h0 => (show some _ = some _ from congrArg some (by unfold mulS_G; rw [h0]))⟩
def mulS (a : Fp2) (b : Fp2) (small : Bool) : Fp2 := mulS_G mulPF mul2R a b small
theorem mulS_ok : CallOk Try.prog 107 (K3 (kRow Fp2).arg (kRow Fp2).arg kBool.arg (kRow Fp2).rs.res mulS) :=
  P3 (En_ok (.cons mulP_ok (.cons mul2R_ok .nil))) Try.func107 (bodied Try.func107 (by kernel_rfl) (by kernel_rfl)) 300 (kRow Fp2) (kRow Fp2) kBool (kRow Fp2).rs mulS (mulS_run mulPF mul2R) (mulS_sat mulPF mul2R)
def b3R_G (f0 : Fp2 → Fp2 → Fp2) (f1 : Fp2 → Fp2 → Fp2) (f2 : Fp2) (a : Fp2) (small : Bool) : Fp2 := (match (small) with | true => (f0 (f0 (f0 (f0 a a) (f0 a a)) (f0 (f0 a a) (f0 a a))) (f0 (f0 a a) (f0 a a))) | false => (f1 (f0 (f0 (f0 (f0 a a) (f0 a a)) (f0 (f0 a a) (f0 a a))) (f0 (f0 a a) (f0 a a))) f2))
def b3R_T (f0 : Fp2 → Fp2 → Fp2) (f1 : Fp2 → Fp2 → Fp2) (f2 : Fp2) (a : Fp2) (small : Bool) : Tree (Option (Fp2)) :=
  (.br (small)
    (.leaf (some (f0 (f0 (f0 (f0 a a) (f0 a a)) (f0 (f0 a a) (f0 a a))) (f0 (f0 a a) (f0 a a)))))
    (.leaf (some (f1 (f0 (f0 (f0 (f0 a a) (f0 a a)) (f0 (f0 a a) (f0 a a))) (f0 (f0 a a) (f0 a a))) f2))))
theorem b3R_run (f0 : Fp2 → Fp2 → Fp2) (f1 : Fp2 → Fp2 → Fp2) (f2 : Fp2) (a : Fp2) (small : Bool) : plainRun (En [(94, K2 (kRow Fp2).arg (kRow Fp2).arg (kRow Fp2).rs.res f0), (93, K2 (kRow Fp2).arg (kRow Fp2).arg (kRow Fp2).rs.res f1), (140, K0 (kRow Fp2).rs.res f2)]) (kRow Fp2).rs 300 Try.f109 [.one ((kRow Fp2).av a), .one (kBool.av small)] = b3R_T f0 f1 f2 a small := by kernel_rfl
theorem b3R_sat (f0 : Fp2 → Fp2 → Fp2) (f1 : Fp2 → Fp2 → Fp2) (f2 : Fp2) (a : Fp2) (small : Bool) : (b3R_T f0 f1 f2 a small).sat fun q => q = some (b3R_G f0 f1 f2 a small) := ⟨fun h0 => (show some _ = some _ from congrArg some (by unfold b3R_G; rw [h0])), fun h0 => (show some _ = some _ from congrArg some (by unfold b3R_G; rw [h0]))⟩
def b3R (a : Fp2) (small : Bool) : Fp2 := b3R_G add2R mul2R xi2R a small
theorem b3R_ok : CallOk Try.prog 109 (K2 (kRow Fp2).arg kBool.arg (kRow Fp2).rs.res b3R) :=
  P2 (En_ok (.cons add2R_ok (.cons mul2R_ok (.cons xi2R_ok .nil)))) Try.func109 (bodied Try.func109 (by kernel_rfl) (by kernel_rfl)) 300 (kRow Fp2) kBool (kRow Fp2).rs b3R (b3R_run add2R mul2R xi2R) (b3R_sat add2R mul2R xi2R)
def addS5_G (f0 : Fp2 → Fp2 → Bool → Fp2) (f1 : Fp2 → Fp2 → Fp2) (f2 : Fp2 → Fp2 → Fp2) (f3 : Fp2 → Bool → Fp2) (s : Fp6) (t : Fp6) (small : Bool) : Fp6 := ({ c0 := f2 (f0 (f2 (f2 (f0 (f1 s.c0 s.c1) (f1 t.c0 t.c1) small) (f0 s.c0 t.c0 small)) (f0 s.c1 t.c1 small)) (f2 (f0 s.c1 t.c1 small) (f3 (f0 s.c2 t.c2 small) small)) small) (f0 (f2 (f2 (f0 (f1 s.c1 s.c2) (f1 t.c1 t.c2) small) (f0 s.c1 t.c1 small)) (f0 s.c2 t.c2 small)) (f3 (f2 (f2 (f0 (f1 s.c0 s.c2) (f1 t.c0 t.c2) small) (f0 s.c0 t.c0 small)) (f0 s.c2 t.c2 small)) small) small), c1 := f1 (f0 (f2 (f0 s.c1 t.c1 small) (f3 (f0 s.c2 t.c2 small) small)) (f1 (f0 s.c1 t.c1 small) (f3 (f0 s.c2 t.c2 small) small)) small) (f0 (f3 (f2 (f2 (f0 (f1 s.c0 s.c2) (f1 t.c0 t.c2) small) (f0 s.c0 t.c0 small)) (f0 s.c2 t.c2 small)) small) (f1 (f1 (f0 s.c0 t.c0 small) (f0 s.c0 t.c0 small)) (f0 s.c0 t.c0 small)) small), c2 := f1 (f0 (f1 (f0 s.c1 t.c1 small) (f3 (f0 s.c2 t.c2 small) small)) (f2 (f2 (f0 (f1 s.c1 s.c2) (f1 t.c1 t.c2) small) (f0 s.c1 t.c1 small)) (f0 s.c2 t.c2 small)) small) (f0 (f1 (f1 (f0 s.c0 t.c0 small) (f0 s.c0 t.c0 small)) (f0 s.c0 t.c0 small)) (f2 (f2 (f0 (f1 s.c0 s.c1) (f1 t.c0 t.c1) small) (f0 s.c0 t.c0 small)) (f0 s.c1 t.c1 small)) small) })
def addS5_T (f0 : Fp2 → Fp2 → Bool → Fp2) (f1 : Fp2 → Fp2 → Fp2) (f2 : Fp2 → Fp2 → Fp2) (f3 : Fp2 → Bool → Fp2) (s : Fp6) (t : Fp6) (small : Bool) : Tree (Option (Fp6)) :=
  (.leaf (some ({ c0 := f2 (f0 (f2 (f2 (f0 (f1 s.c0 s.c1) (f1 t.c0 t.c1) small) (f0 s.c0 t.c0 small)) (f0 s.c1 t.c1 small)) (f2 (f0 s.c1 t.c1 small) (f3 (f0 s.c2 t.c2 small) small)) small) (f0 (f2 (f2 (f0 (f1 s.c1 s.c2) (f1 t.c1 t.c2) small) (f0 s.c1 t.c1 small)) (f0 s.c2 t.c2 small)) (f3 (f2 (f2 (f0 (f1 s.c0 s.c2) (f1 t.c0 t.c2) small) (f0 s.c0 t.c0 small)) (f0 s.c2 t.c2 small)) small) small), c1 := f1 (f0 (f2 (f0 s.c1 t.c1 small) (f3 (f0 s.c2 t.c2 small) small)) (f1 (f0 s.c1 t.c1 small) (f3 (f0 s.c2 t.c2 small) small)) small) (f0 (f3 (f2 (f2 (f0 (f1 s.c0 s.c2) (f1 t.c0 t.c2) small) (f0 s.c0 t.c0 small)) (f0 s.c2 t.c2 small)) small) (f1 (f1 (f0 s.c0 t.c0 small) (f0 s.c0 t.c0 small)) (f0 s.c0 t.c0 small)) small), c2 := f1 (f0 (f1 (f0 s.c1 t.c1 small) (f3 (f0 s.c2 t.c2 small) small)) (f2 (f2 (f0 (f1 s.c1 s.c2) (f1 t.c1 t.c2) small) (f0 s.c1 t.c1 small)) (f0 s.c2 t.c2 small)) small) (f0 (f1 (f1 (f0 s.c0 t.c0 small) (f0 s.c0 t.c0 small)) (f0 s.c0 t.c0 small)) (f2 (f2 (f0 (f1 s.c0 s.c1) (f1 t.c0 t.c1) small) (f0 s.c0 t.c0 small)) (f0 s.c1 t.c1 small)) small) })))
theorem addS5_run (f0 : Fp2 → Fp2 → Bool → Fp2) (f1 : Fp2 → Fp2 → Fp2) (f2 : Fp2 → Fp2 → Fp2) (f3 : Fp2 → Bool → Fp2) (s : Fp6) (t : Fp6) (small : Bool) : plainRun (En [(107, K3 (kRow Fp2).arg (kRow Fp2).arg kBool.arg (kRow Fp2).rs.res f0), (94, K2 (kRow Fp2).arg (kRow Fp2).arg (kRow Fp2).rs.res f1), (108, K2 (kRow Fp2).arg (kRow Fp2).arg (kRow Fp2).rs.res f2), (109, K2 (kRow Fp2).arg kBool.arg (kRow Fp2).rs.res f3)]) (kRow Fp6).rs 300 Try.f59 [.one ((kRow Fp6).av s), .one ((kRow Fp6).av t), .one (kBool.av small)] = addS5_T f0 f1 f2 f3 s t small := by kernel_rfl
theorem addS5_sat (f0 : Fp2 → Fp2 → Bool → Fp2) (f1 : Fp2 → Fp2 → Fp2) (f2 : Fp2 → Fp2 → Fp2) (f3 : Fp2 → Bool → Fp2) (s : Fp6) (t : Fp6) (small : Bool) : (addS5_T f0 f1 f2 f3 s t small).sat fun q => q = some (addS5_G f0 f1 f2 f3 s t small) := (show some _ = some _ from rfl)
def addS5 (s : Fp6) (t : Fp6) (small : Bool) : Fp6 := addS5_G mulS add2R sub2R b3R s t small
theorem addS5_ok : CallOk Try.prog 59 (K3 (kRow Fp6).arg (kRow Fp6).arg kBool.arg (kRow Fp6).rs.res addS5) :=
  P3 (En_ok (.cons mulS_ok (.cons add2R_ok (.cons sub2R_ok (.cons b3R_ok .nil))))) Try.func59 (bodied Try.func59 (by kernel_rfl) (by kernel_rfl)) 300 (kRow Fp6) (kRow Fp6) kBool (kRow Fp6).rs addS5 (addS5_run mulS add2R sub2R b3R) (addS5_sat mulS add2R sub2R b3R)
def none5_G (f0 : Fp2) : Fp6 := ({ c0 := zeroFp2, c1 := f0, c2 := zeroFp2 })
def none5_T (f0 : Fp2) : Tree (Option (Fp6)) :=
  (.leaf (some ({ c0 := zeroFp2, c1 := f0, c2 := zeroFp2 })))
theorem none5_run (f0 : Fp2) : plainRun (En [(111, K0 (kRow Fp2).rs.res f0)]) (kRow Fp6).rs 300 Try.f110 [] = none5_T f0 := by kernel_rfl
theorem none5_sat (f0 : Fp2) : (none5_T f0).sat fun q => q = some (none5_G f0) := (show some _ = some _ from rfl)
def none5  : Fp6 := none5_G one2R 
theorem none5_ok : CallOk Try.prog 110 (K0 (kRow Fp6).rs.res none5) :=
  P0 (En_ok (.cons one2R_ok .nil)) Try.func110 (bodied Try.func110 (by kernel_rfl) (by kernel_rfl)) 300  (kRow Fp6).rs none5 (none5_run one2R) (none5_sat one2R)
def of1R_G (f0 : Fp6) (f1 : Fp2) (a : Pg1) : Fp6 := (match (a.inf) with | true => (f0) | false => ({ c0 := { c0 := a.x, c1 := zeroFp }, c1 := { c0 := a.y, c1 := zeroFp }, c2 := f1 }))
def of1R_T (f0 : Fp6) (f1 : Fp2) (a : Pg1) : Tree (Option (Fp6)) :=
  (.br (a.inf)
    (.leaf (some (f0)))
    (.leaf (some ({ c0 := { c0 := a.x, c1 := zeroFp }, c1 := { c0 := a.y, c1 := zeroFp }, c2 := f1 }))))
theorem of1R_run (f0 : Fp6) (f1 : Fp2) (a : Pg1) : plainRun (En [(110, K0 (kRow Fp6).rs.res f0), (111, K0 (kRow Fp2).rs.res f1)]) (kRow Fp6).rs 300 Try.f60 [.one ((kRow Pg1).av a)] = of1R_T f0 f1 a := by kernel_rfl
theorem of1R_sat (f0 : Fp6) (f1 : Fp2) (a : Pg1) : (of1R_T f0 f1 a).sat fun q => q = some (of1R_G f0 f1 a) := ⟨fun h0 => (show some _ = some _ from congrArg some (by unfold of1R_G; rw [h0])), fun h0 => (show some _ = some _ from congrArg some (by unfold of1R_G; rw [h0]))⟩
def of1R (a : Pg1) : Fp6 := of1R_G none5 one2R a
theorem of1R_ok : CallOk Try.prog 60 (K1 (kRow Pg1).arg (kRow Fp6).rs.res of1R) :=
  P1 (En_ok (.cons none5_ok (.cons one2R_ok .nil))) Try.func60 (bodied Try.func60 (by kernel_rfl) (by kernel_rfl)) 300 (kRow Pg1) (kRow Fp6).rs of1R (of1R_run none5 one2R) (of1R_sat none5 one2R)
def of2R_G (f0 : Fp6) (f1 : Fp2) (a : Pg2) : Fp6 := (match (a.inf) with | true => (f0) | false => ({ c0 := a.x, c1 := a.y, c2 := f1 }))
def of2R_T (f0 : Fp6) (f1 : Fp2) (a : Pg2) : Tree (Option (Fp6)) :=
  (.br (a.inf)
    (.leaf (some (f0)))
    (.leaf (some ({ c0 := a.x, c1 := a.y, c2 := f1 }))))
theorem of2R_run (f0 : Fp6) (f1 : Fp2) (a : Pg2) : plainRun (En [(110, K0 (kRow Fp6).rs.res f0), (111, K0 (kRow Fp2).rs.res f1)]) (kRow Fp6).rs 300 Try.f85 [.one ((kRow Pg2).av a)] = of2R_T f0 f1 a := by kernel_rfl
theorem of2R_sat (f0 : Fp6) (f1 : Fp2) (a : Pg2) : (of2R_T f0 f1 a).sat fun q => q = some (of2R_G f0 f1 a) := ⟨fun h0 => (show some _ = some _ from congrArg some (by unfold of2R_G; rw [h0])), fun h0 => (show some _ = some _ from congrArg some (by unfold of2R_G; rw [h0]))⟩
def of2R (a : Pg2) : Fp6 := of2R_G none5 one2R a
theorem of2R_ok : CallOk Try.prog 85 (K1 (kRow Pg2).arg (kRow Fp6).rs.res of2R) :=
  P1 (En_ok (.cons none5_ok (.cons one2R_ok .nil))) Try.func85 (bodied Try.func85 (by kernel_rfl) (by kernel_rfl)) 300 (kRow Pg2) (kRow Fp6).rs of2R (of2R_run none5 one2R) (of2R_sat none5 one2R)
def to1R_G (f0 : Fp → Fp × Int) (f1 : Fp → Fp → Fp) (s : Fp6) : Pg1 := (match ((f0 s.c2.c0).snd != 0) with | true => (infG1) | false => ({ x := f1 s.c0.c0 (f0 s.c2.c0).fst, y := f1 s.c1.c0 (f0 s.c2.c0).fst, inf := false }))
def to1R_T (f0 : Fp → Fp × Int) (f1 : Fp → Fp → Fp) (s : Fp6) : Tree (Option (Pg1)) :=
  (.br ((f0 s.c2.c0).snd != 0)
    (.leaf (some (infG1)))
    (.leaf (some ({ x := f1 s.c0.c0 (f0 s.c2.c0).fst, y := f1 s.c1.c0 (f0 s.c2.c0).fst, inf := false }))))
theorem to1R_run (f0 : Fp → Fp × Int) (f1 : Fp → Fp → Fp) (s : Fp6) : plainRun (En [(106, Kinv f0), (69, Kff f1)]) (kRow Pg1).rs 300 Try.f58 [.one ((kRow Fp6).av s)] = to1R_T f0 f1 s := by kernel_rfl
theorem to1R_sat (f0 : Fp → Fp × Int) (f1 : Fp → Fp → Fp) (s : Fp6) : (to1R_T f0 f1 s).sat fun q => q = some (to1R_G f0 f1 s) := ⟨fun h0 => (show some _ = some _ from congrArg some (by unfold to1R_G; rw [h0])), fun h0 => (show some _ = some _ from congrArg some (by unfold to1R_G; rw [h0]))⟩
def to1R (s : Fp6) : Pg1 := to1R_G invPF mulPF s
theorem to1R_ok : CallOk Try.prog 58 (K1 (kRow Fp6).arg (kRow Pg1).rs.res to1R) :=
  P1 (En_ok (.cons invP_ok (.cons mulP_ok .nil))) Try.func58 (bodied Try.func58 (by kernel_rfl) (by kernel_rfl)) 300 (kRow Fp6) (kRow Pg1).rs to1R (to1R_run invPF mulPF) (to1R_sat invPF mulPF)
def to2R_G (f0 : Fp2 → Fp2 × Int) (f1 : Fp2 → Fp2 → Fp2) (s : Fp6) : Pg2 := (match ((f0 s.c2).snd != 0) with | true => (infG2) | false => ({ x := f1 s.c0 (f0 s.c2).fst, y := f1 s.c1 (f0 s.c2).fst, inf := false }))
def to2R_T (f0 : Fp2 → Fp2 × Int) (f1 : Fp2 → Fp2 → Fp2) (s : Fp6) : Tree (Option (Pg2)) :=
  (.br ((f0 s.c2).snd != 0)
    (.leaf (some (infG2)))
    (.leaf (some ({ x := f1 s.c0 (f0 s.c2).fst, y := f1 s.c1 (f0 s.c2).fst, inf := false }))))
theorem to2R_run (f0 : Fp2 → Fp2 × Int) (f1 : Fp2 → Fp2 → Fp2) (s : Fp6) : plainRun (En [(133, K1 (kRow Fp2).arg ((kRow Fp2).rs2 kInt).res f0), (93, K2 (kRow Fp2).arg (kRow Fp2).arg (kRow Fp2).rs.res f1)]) (kRow Pg2).rs 300 Try.f84 [.one ((kRow Fp6).av s)] = to2R_T f0 f1 s := by kernel_rfl
theorem to2R_sat (f0 : Fp2 → Fp2 × Int) (f1 : Fp2 → Fp2 → Fp2) (s : Fp6) : (to2R_T f0 f1 s).sat fun q => q = some (to2R_G f0 f1 s) := ⟨fun h0 => (show some _ = some _ from congrArg some (by unfold to2R_G; rw [h0])), fun h0 => (show some _ = some _ from congrArg some (by unfold to2R_G; rw [h0]))⟩
def to2R (s : Fp6) : Pg2 := to2R_G inv2R mul2R s
theorem to2R_ok : CallOk Try.prog 84 (K1 (kRow Fp6).arg (kRow Pg2).rs.res to2R) :=
  P1 (En_ok (.cons inv2R_ok (.cons mul2R_ok .nil))) Try.func84 (bodied Try.func84 (by kernel_rfl) (by kernel_rfl)) 300 (kRow Fp6) (kRow Pg2).rs to2R (to2R_run inv2R mul2R) (to2R_sat inv2R mul2R)
def on1R_G (f0 : Fp → Bool) (f1 : Fp → Fp → Fp) (f2 : Fp → Fp → Fp) (f3 : UInt64 → Fp) (a : Pg1) : Bool := (match (a.inf) with | true => (match (fpEq (a.x) (zeroFp)) with | true => ((fpEq (a.y) (zeroFp))) | false => ((false))) | false => (match (!(f0 a.x)) with | true => ((false)) | false => (match (!(f0 a.y)) with | true => ((false)) | false => ((fpEq (f1 a.y a.y) (f2 (f1 (f1 a.x a.x) a.x) (f3 (4 : UInt64))))))))
def on1R_T (f0 : Fp → Bool) (f1 : Fp → Fp → Fp) (f2 : Fp → Fp → Fp) (f3 : UInt64 → Fp) (a : Pg1) : Tree (Option (Bool)) :=
  (.br (a.inf)
    (.br (fpEq (a.x) (zeroFp))
      (.leaf (some ((fpEq (a.y) (zeroFp)))))
      (.leaf (some ((false)))))
    (.br (!(f0 a.x))
      (.leaf (some ((false))))
      (.br (!(f0 a.y))
        (.leaf (some ((false))))
        (.leaf (some ((fpEq (f1 a.y a.y) (f2 (f1 (f1 a.x a.x) a.x) (f3 (4 : UInt64))))))))))
theorem on1R_run (f0 : Fp → Bool) (f1 : Fp → Fp → Fp) (f2 : Fp → Fp → Fp) (f3 : UInt64 → Fp) (a : Pg1) : plainRun (En [(68, Kfb f0), (69, Kff f1), (70, Kff f2), (71, Kof f3)]) kBool.rs 300 Try.f27 [.one ((kRow Pg1).av a)] = on1R_T f0 f1 f2 f3 a := by kernel_rfl
theorem on1R_sat (f0 : Fp → Bool) (f1 : Fp → Fp → Fp) (f2 : Fp → Fp → Fp) (f3 : UInt64 → Fp) (a : Pg1) : (on1R_T f0 f1 f2 f3 a).sat fun q => q = some (on1R_G f0 f1 f2 f3 a) := ⟨fun h0 => ⟨fun h1 => (show some _ = some _ from congrArg some (by unfold on1R_G; rw [h0, h1])), fun h1 => (show some _ = some _ from congrArg some (by unfold on1R_G; rw [h0, h1]))⟩, fun h0 => ⟨fun h1 => (show some _ = some _ from congrArg some (by unfold on1R_G; rw [h0, h1])), fun h1 => ⟨fun h2 => (show some _ = some _ from congrArg some (by unfold on1R_G; rw [h0, h1, h2])), fun h2 => (show some _ = some _ from congrArg some (by unfold on1R_G; rw [h0, h1, h2]))⟩⟩⟩
def on1R (a : Pg1) : Bool := on1R_G mayPF mulPF addPF ofF a
theorem on1R_ok : CallOk Try.prog 27 (K1 (kRow Pg1).arg kBool.rs.res on1R) :=
  P1 (En_ok (.cons mayP_ok (.cons mulP_ok (.cons addP_ok (.cons ofP_ok .nil))))) Try.func27 (bodied Try.func27 (by kernel_rfl) (by kernel_rfl)) 300 (kRow Pg1) kBool.rs on1R (on1R_run mayPF mulPF addPF ofF) (on1R_sat mayPF mulPF addPF ofF)
def b2R_G (f0 : UInt64 → Fp) : Fp2 := ({ c0 := f0 (4 : UInt64), c1 := f0 (4 : UInt64) })
def b2R_T (f0 : UInt64 → Fp) : Tree (Option (Fp2)) :=
  (.leaf (some ({ c0 := f0 (4 : UInt64), c1 := f0 (4 : UInt64) })))
theorem b2R_run (f0 : UInt64 → Fp) : plainRun (En [(71, Kof f0)]) (kRow Fp2).rs 300 Try.f95 [] = b2R_T f0 := by kernel_rfl
theorem b2R_sat (f0 : UInt64 → Fp) : (b2R_T f0).sat fun q => q = some (b2R_G f0) := (show some _ = some _ from rfl)
def b2R  : Fp2 := b2R_G ofF 
theorem b2R_ok : CallOk Try.prog 95 (K0 (kRow Fp2).rs.res b2R) :=
  P0 (En_ok (.cons ofP_ok .nil)) Try.func95 (bodied Try.func95 (by kernel_rfl) (by kernel_rfl)) 300  (kRow Fp2).rs b2R (b2R_run ofF) (b2R_sat ofF)
def on2R_G (f0 : Fp2 → Bool) (f1 : Fp2 → Fp2 → Fp2) (f2 : Fp2 → Fp2 → Fp2) (f3 : Fp2) (a : Pg2) : Bool := (match (a.inf) with | true => (match (fp2Eq (a.x) (zeroFp2)) with | true => ((fp2Eq (a.y) (zeroFp2))) | false => ((false))) | false => (match (f0 a.x) with | true => (match (f0 a.y) with | true => ((fp2Eq (f1 a.y a.y) (f2 (f1 (f1 a.x a.x) a.x) f3))) | false => ((false))) | false => ((false))))
def on2R_T (f0 : Fp2 → Bool) (f1 : Fp2 → Fp2 → Fp2) (f2 : Fp2 → Fp2 → Fp2) (f3 : Fp2) (a : Pg2) : Tree (Option (Bool)) :=
  (.br (a.inf)
    (.br (fp2Eq (a.x) (zeroFp2))
      (.leaf (some ((fp2Eq (a.y) (zeroFp2)))))
      (.leaf (some ((false)))))
    (.br (f0 a.x)
      (.br (f0 a.y)
        (.leaf (some ((fp2Eq (f1 a.y a.y) (f2 (f1 (f1 a.x a.x) a.x) f3)))))
        (.leaf (some ((false)))))
      (.leaf (some ((false))))))
theorem on2R_run (f0 : Fp2 → Bool) (f1 : Fp2 → Fp2 → Fp2) (f2 : Fp2 → Fp2 → Fp2) (f3 : Fp2) (a : Pg2) : plainRun (En [(92, K1 (kRow Fp2).arg kBool.rs.res f0), (93, K2 (kRow Fp2).arg (kRow Fp2).arg (kRow Fp2).rs.res f1), (94, K2 (kRow Fp2).arg (kRow Fp2).arg (kRow Fp2).rs.res f2), (95, K0 (kRow Fp2).rs.res f3)]) kBool.rs 300 Try.f47 [.one ((kRow Pg2).av a)] = on2R_T f0 f1 f2 f3 a := by kernel_rfl
theorem on2R_sat (f0 : Fp2 → Bool) (f1 : Fp2 → Fp2 → Fp2) (f2 : Fp2 → Fp2 → Fp2) (f3 : Fp2) (a : Pg2) : (on2R_T f0 f1 f2 f3 a).sat fun q => q = some (on2R_G f0 f1 f2 f3 a) := ⟨fun h0 => ⟨fun h1 => (show some _ = some _ from congrArg some (by unfold on2R_G; rw [h0, h1])), fun h1 => (show some _ = some _ from congrArg some (by unfold on2R_G; rw [h0, h1]))⟩, fun h0 => ⟨fun h1 => ⟨fun h2 => (show some _ = some _ from congrArg some (by unfold on2R_G; rw [h0, h1, h2])), fun h2 => (show some _ = some _ from congrArg some (by unfold on2R_G; rw [h0, h1, h2]))⟩, fun h1 => (show some _ = some _ from congrArg some (by unfold on2R_G; rw [h0, h1]))⟩⟩
def on2R (a : Pg2) : Bool := on2R_G may2R mul2R add2R b2R a
theorem on2R_ok : CallOk Try.prog 47 (K1 (kRow Pg2).arg kBool.rs.res on2R) :=
  P1 (En_ok (.cons may2R_ok (.cons mul2R_ok (.cons add2R_ok (.cons b2R_ok .nil))))) Try.func47 (bodied Try.func47 (by kernel_rfl) (by kernel_rfl)) 300 (kRow Pg2) kBool.rs on2R (on2R_run may2R mul2R add2R b2R) (on2R_sat may2R mul2R add2R b2R)
def plus1R_G (f0 : Fp6 → Pg1) (f1 : Fp6 → Fp6 → Bool → Fp6) (f2 : Pg1 → Fp6) (a : Pg1) (b : Pg1) : Pg1 := (f0 (f1 (f2 a) (f2 b) true))
def plus1R_T (f0 : Fp6 → Pg1) (f1 : Fp6 → Fp6 → Bool → Fp6) (f2 : Pg1 → Fp6) (a : Pg1) (b : Pg1) : Tree (Option (Pg1)) :=
  (.leaf (some (f0 (f1 (f2 a) (f2 b) true))))
theorem plus1R_run (f0 : Fp6 → Pg1) (f1 : Fp6 → Fp6 → Bool → Fp6) (f2 : Pg1 → Fp6) (a : Pg1) (b : Pg1) : plainRun (En [(58, K1 (kRow Fp6).arg (kRow Pg1).rs.res f0), (59, K3 (kRow Fp6).arg (kRow Fp6).arg kBool.arg (kRow Fp6).rs.res f1), (60, K1 (kRow Pg1).arg (kRow Fp6).rs.res f2)]) (kRow Pg1).rs 300 Try.f19 [.one ((kRow Pg1).av a), .one ((kRow Pg1).av b)] = plus1R_T f0 f1 f2 a b := by kernel_rfl
theorem plus1R_sat (f0 : Fp6 → Pg1) (f1 : Fp6 → Fp6 → Bool → Fp6) (f2 : Pg1 → Fp6) (a : Pg1) (b : Pg1) : (plus1R_T f0 f1 f2 a b).sat fun q => q = some (plus1R_G f0 f1 f2 a b) := (show some _ = some _ from rfl)
def plus1R (a : Pg1) (b : Pg1) : Pg1 := plus1R_G to1R addS5 of1R a b
theorem plus1R_ok : CallOk Try.prog 19 (K2 (kRow Pg1).arg (kRow Pg1).arg (kRow Pg1).rs.res plus1R) :=
  P2 (En_ok (.cons to1R_ok (.cons addS5_ok (.cons of1R_ok .nil)))) Try.func19 (bodied Try.func19 (by kernel_rfl) (by kernel_rfl)) 300 (kRow Pg1) (kRow Pg1) (kRow Pg1).rs plus1R (plus1R_run to1R addS5 of1R) (plus1R_sat to1R addS5 of1R)
def plus2R_G (f0 : Fp6 → Pg2) (f1 : Fp6 → Fp6 → Bool → Fp6) (f2 : Pg2 → Fp6) (a : Pg2) (b : Pg2) : Pg2 := (f0 (f1 (f2 a) (f2 b) false))
def plus2R_T (f0 : Fp6 → Pg2) (f1 : Fp6 → Fp6 → Bool → Fp6) (f2 : Pg2 → Fp6) (a : Pg2) (b : Pg2) : Tree (Option (Pg2)) :=
  (.leaf (some (f0 (f1 (f2 a) (f2 b) false))))
theorem plus2R_run (f0 : Fp6 → Pg2) (f1 : Fp6 → Fp6 → Bool → Fp6) (f2 : Pg2 → Fp6) (a : Pg2) (b : Pg2) : plainRun (En [(84, K1 (kRow Fp6).arg (kRow Pg2).rs.res f0), (59, K3 (kRow Fp6).arg (kRow Fp6).arg kBool.arg (kRow Fp6).rs.res f1), (85, K1 (kRow Pg2).arg (kRow Fp6).rs.res f2)]) (kRow Pg2).rs 300 Try.f39 [.one ((kRow Pg2).av a), .one ((kRow Pg2).av b)] = plus2R_T f0 f1 f2 a b := by kernel_rfl
theorem plus2R_sat (f0 : Fp6 → Pg2) (f1 : Fp6 → Fp6 → Bool → Fp6) (f2 : Pg2 → Fp6) (a : Pg2) (b : Pg2) : (plus2R_T f0 f1 f2 a b).sat fun q => q = some (plus2R_G f0 f1 f2 a b) := (show some _ = some _ from rfl)
def plus2R (a : Pg2) (b : Pg2) : Pg2 := plus2R_G to2R addS5 of2R a b
theorem plus2R_ok : CallOk Try.prog 39 (K2 (kRow Pg2).arg (kRow Pg2).arg (kRow Pg2).rs.res plus2R) :=
  P2 (En_ok (.cons to2R_ok (.cons addS5_ok (.cons of2R_ok .nil)))) Try.func39 (bodied Try.func39 (by kernel_rfl) (by kernel_rfl)) 300 (kRow Pg2) (kRow Pg2) (kRow Pg2).rs plus2R (plus2R_run to2R addS5 of2R) (plus2R_sat to2R addS5 of2R)
def minus1R_G (f0 : Fp → Fp) (a : Pg1) : Pg1 := (match (!(a.inf)) with | true => ({ x := a.x, y := f0 a.y, inf := a.inf }) | false => (a))
def minus1R_T (f0 : Fp → Fp) (a : Pg1) : Tree (Option (Pg1)) :=
  (.br (!(a.inf))
    (.leaf (some ({ x := a.x, y := f0 a.y, inf := a.inf })))
    (.leaf (some (a))))
theorem minus1R_run (f0 : Fp → Fp) (a : Pg1) : plainRun (En [(62, Kf f0)]) (kRow Pg1).rs 300 Try.f21 [.one ((kRow Pg1).av a)] = minus1R_T f0 a := by kernel_rfl
theorem minus1R_sat (f0 : Fp → Fp) (a : Pg1) : (minus1R_T f0 a).sat fun q => q = some (minus1R_G f0 a) := ⟨fun h0 => (show some _ = some _ from congrArg some (by unfold minus1R_G; rw [h0])), fun h0 => (show some _ = some _ from congrArg some (by unfold minus1R_G; rw [h0]))⟩
def minus1R (a : Pg1) : Pg1 := minus1R_G negPF a
theorem minus1R_ok : CallOk Try.prog 21 (K1 (kRow Pg1).arg (kRow Pg1).rs.res minus1R) :=
  P1 (En_ok (.cons negP_ok .nil)) Try.func21 (bodied Try.func21 (by kernel_rfl) (by kernel_rfl)) 300 (kRow Pg1) (kRow Pg1).rs minus1R (minus1R_run negPF) (minus1R_sat negPF)
def minus2R_G (f0 : Fp2 → Fp2) (a : Pg2) : Pg2 := (match (!(a.inf)) with | true => ({ x := a.x, y := f0 a.y, inf := a.inf }) | false => (a))
def minus2R_T (f0 : Fp2 → Fp2) (a : Pg2) : Tree (Option (Pg2)) :=
  (.br (!(a.inf))
    (.leaf (some ({ x := a.x, y := f0 a.y, inf := a.inf })))
    (.leaf (some (a))))
theorem minus2R_run (f0 : Fp2 → Fp2) (a : Pg2) : plainRun (En [(87, K1 (kRow Fp2).arg (kRow Fp2).rs.res f0)]) (kRow Pg2).rs 300 Try.f41 [.one ((kRow Pg2).av a)] = minus2R_T f0 a := by kernel_rfl
theorem minus2R_sat (f0 : Fp2 → Fp2) (a : Pg2) : (minus2R_T f0 a).sat fun q => q = some (minus2R_G f0 a) := ⟨fun h0 => (show some _ = some _ from congrArg some (by unfold minus2R_G; rw [h0])), fun h0 => (show some _ = some _ from congrArg some (by unfold minus2R_G; rw [h0]))⟩
def minus2R (a : Pg2) : Pg2 := minus2R_G neg2R a
theorem minus2R_ok : CallOk Try.prog 41 (K1 (kRow Pg2).arg (kRow Pg2).rs.res minus2R) :=
  P1 (En_ok (.cons neg2R_ok .nil)) Try.func41 (bodied Try.func41 (by kernel_rfl) (by kernel_rfl)) 300 (kRow Pg2) (kRow Pg2).rs minus2R (minus2R_run neg2R) (minus2R_sat neg2R)

end Go.Proofs.Ytchlamfdofpolaa
