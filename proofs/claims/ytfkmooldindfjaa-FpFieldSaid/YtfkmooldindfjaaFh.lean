/- The base field's functions, part h: the moduli's limbs; which numbers may be, as the document says it. -/
import Derived.Test.YtfkmooldindfjaaFg
import Derived.Test.YtfkmooldindfjaaEw
set_option linter.unusedSimpArgs false
set_option linter.unusedVariables false
namespace Go.Proofs.Ytfkmooldindfjaa
open Go.RowKit

/-- With functions that answer with new slices. -/
noncomputable abbrev Ens (T : Table) (ns : List Nat) : Env := mkEnv Try.prog T ns
theorem Ens_ok {T : Table} {ns : List Nat} (h : TableOk Try.prog T) : EnvOk (Ens T ns) := mkEnv_ok follows_mixed h

abbrev oS (ty : TypeId) : Out Fp := outSlR Fp ty 6 (fun _ => rfl)
abbrev iS : Inp Fp := inpSlR Fp 6 (fun _ => rfl)
abbrev aS : Arg Fp := argSlR Fp
abbrev rS (ty : TypeId) : Res Fp := resSlR Fp ty 6 (fun _ => rfl)
abbrev oB : Out Bool := kBool.rs.out

theorem P_run (m : Fp) : endT (En [(40, Kc m)]) (oS 24) 100 Try.f22 (flat (codeOf Try.f22)) (startSt Try.f22 [] []) = .leaf (some (m, .t)) := by kernel_rfl
theorem P_ok : CallOk Try.prog 22 (K0 (rS 24) pLimbs) :=
  G0 (E := En [(40, Kc pLimbs)]) Try.func22 (c := codeOf Try.f22) (by kernel_rfl) (bodied Try.func22 (by kernel_rfl) (by kernel_rfl)) (oS 24) pLimbs (DoesL.ends (En_ok (.cons modulus_ok .nil)) 100 (P_run pLimbs) ⟨.t, rfl, trivial⟩)

theorem refP_run : endT (En []) (oS 22) 100 Try.f34 (flat (codeOf Try.f34)) (startSt Try.f34 [] []) = .leaf (some (pLimbs, .t)) := by kernel_rfl
theorem refP_ok : CallOk Try.prog 34 (K0 (rS 22) pLimbs) :=
  G0 (E := En []) Try.func34 (c := codeOf Try.f34) (by kernel_rfl) (bodied Try.func34 (by kernel_rfl) (by kernel_rfl)) (oS 22) pLimbs (DoesL.ends (En_ok .nil) 100 refP_run ⟨.t, rfl, trivial⟩)

/-- From the top limb down: the first that differs tells. -/
def belowF (a m : Fp) : Bool :=
  match a.l5 != m.l5 with
  | true => decide (a.l5 < m.l5)
  | false => match a.l4 != m.l4 with
    | true => decide (a.l4 < m.l4)
    | false => match a.l3 != m.l3 with
      | true => decide (a.l3 < m.l3)
      | false => match a.l2 != m.l2 with
        | true => decide (a.l2 < m.l2)
        | false => match a.l1 != m.l1 with
          | true => decide (a.l1 < m.l1)
          | false => match a.l0 != m.l0 with
            | true => decide (a.l0 < m.l0)
            | false => false

def lfB (b : Bool) : Tree (Option (Bool × Pr)) := .leaf (some (b, .t))
def belowT (a m : Fp) : Tree (Option (Bool × Pr)) :=
  .br (a.l5 != m.l5) (lfB (decide (a.l5 < m.l5))) (.br (a.l4 != m.l4) (lfB (decide (a.l4 < m.l4))) (.br (a.l3 != m.l3) (lfB (decide (a.l3 < m.l3)))
    (.br (a.l2 != m.l2) (lfB (decide (a.l2 < m.l2))) (.br (a.l1 != m.l1) (lfB (decide (a.l1 < m.l1))) (.br (a.l0 != m.l0) (lfB (decide (a.l0 < m.l0))) (lfB false))))))

theorem below_run (a m : Fp) : endT (En []) oB 100 Try.f39 (flat (codeOf Try.f39)) (startSt Try.f39 [iS.av 0 a, iS.av 1 m] (iS.hes a ++ iS.hes m)) = belowT a m := by kernel_rfl

theorem belowT_sat (a m : Fp) : (belowT a m).sat fun q => ∃ p, q = some (belowF a m, p) ∧ p.holds := by
  unfold belowF
  refine ⟨fun h => ?_, fun h => ?_⟩ <;> rw [h]
  · exact ⟨.t, rfl, trivial⟩
  refine ⟨fun h => ?_, fun h => ?_⟩ <;> rw [h]
  · exact ⟨.t, rfl, trivial⟩
  refine ⟨fun h => ?_, fun h => ?_⟩ <;> rw [h]
  · exact ⟨.t, rfl, trivial⟩
  refine ⟨fun h => ?_, fun h => ?_⟩ <;> rw [h]
  · exact ⟨.t, rfl, trivial⟩
  refine ⟨fun h => ?_, fun h => ?_⟩ <;> rw [h]
  · exact ⟨.t, rfl, trivial⟩
  refine ⟨fun h => ?_, fun h => ?_⟩ <;> rw [h]
  · exact ⟨.t, rfl, trivial⟩
  · exact ⟨.t, rfl, trivial⟩

theorem below_ok : CallOk Try.prog 39 (K2 aS aS oB.res belowF) :=
  G2 (E := En []) Try.func39 (c := codeOf Try.f39) (by kernel_rfl) (bodied Try.func39 (by kernel_rfl) (by kernel_rfl)) iS iS oB belowF fun a m _ _ => DoesL.ends (En_ok .nil) 100 (below_run a m) (belowT_sat a m)

def mayPF (a : Fp) : Bool := belowF a pLimbs
theorem mayP_run (bF : Fp → Fp → Bool) (m a : Fp) : plainRun (Ens [(39, K2 aS aS oB.res bF), (34, K0 (rS 22) m)] [34]) kBool.rs 100 Try.f10 [vF a] = .leaf (some (bF a m)) := by kernel_rfl
theorem mayP_ok : CallOk Try.prog 10 (K1 (kRow Fp).arg kBool.rs.res mayPF) := P1 (Ens_ok (.cons below_ok (.cons refP_ok .nil))) Try.func10 (bodied Try.func10 (by kernel_rfl) (by kernel_rfl)) 100 (kRow Fp) kBool.rs mayPF (mayP_run belowF pLimbs) (fun _ => Tree.sat_leaf (by simp only [mayPF]))

end Go.Proofs.Ytfkmooldindfjaa
