/- The points that all begin with: of the curves, and of the order R. -/
import Derived.Test.YtchlamfdofpolaaSc
set_option linter.unusedSimpArgs false
set_option linter.unusedVariables false
namespace Go.Proofs.Ytchlamfdofpolaa
open Go.RowKit

/-- A number that is worked out first. -/
def force {α : Type} (n : Nat) (k : Nat → α) : α := match n with
  | 0 => k 0
  | m + 1 => k (m + 1)
theorem force_eq {α : Type} (n : Nat) (k : Nat → α) : force n k = k n := by cases n <;> rfl
def fcV1 {α : Type} (a : V1) (k : V1 → α) : α := force a.nat fun n => k (V1.of n)
theorem fcV1_eq {α : Type} (a : V1) (k : V1 → α) : fcV1 a k = k a := by unfold fcV1; rw [force_eq, V1.of_nat]
def fcV2 {α : Type} (a : V2) (k : V2 → α) : α := force a.a.nat fun n => force a.b.nat fun m => k ⟨V1.of n, V1.of m⟩
theorem fcV2_eq {α : Type} (a : V2) (k : V2 → α) : fcV2 a k = k a := by unfold fcV2; rw [force_eq, force_eq, V1.of_nat, V1.of_nat]
/-- Multiples by three numbers, each worked out first. -/
def goP {K : Type} [Fld K] [Crv K] (fc : K → (K → K × K × K) → K × K × K) (b gx gy : K) (e : List UInt64) : Nat → K → K → K → K × K × K
  | 0, X, Y, Z => (X, Y, Z)
  | n + 1, X, Y, Z => fc (rx b X Y Z X Y Z) fun X' => fc (ry b X Y Z X Y Z) fun Y' => fc (rz b X Y Z X Y Z) fun Z' => match bitAt e n with
    | true => fc (rx b X' Y' Z' gx gy 1) fun X'' => fc (ry b X' Y' Z' gx gy 1) fun Y'' => fc (rz b X' Y' Z' gx gy 1) fun Z'' => goP fc b gx gy e n X'' Y'' Z''
    | false => goP fc b gx gy e n X' Y' Z'
theorem goP_eq {K : Type} [Fld K] [Crv K] {fc : K → (K → K × K × K) → K × K × K} (h : ∀ a k, fc a k = k a) (b gx gy : K) (e : List UInt64) : ∀ (n : Nat) (X Y Z : K),
    goP fc b gx gy e n X Y Z = dblG (fun s => (rx b s.1 s.2.1 s.2.2 s.1 s.2.1 s.2.2, ry b s.1 s.2.1 s.2.2 s.1 s.2.1 s.2.2, rz b s.1 s.2.1 s.2.2 s.1 s.2.1 s.2.2)) (fun s => (rx b s.1 s.2.1 s.2.2 gx gy 1, ry b s.1 s.2.1 s.2.2 gx gy 1, rz b s.1 s.2.1 s.2.2 gx gy 1)) e n (X, Y, Z)
  | 0, X, Y, Z => rfl
  | n + 1, X, Y, Z => by
    simp only [goP, h, dblG]
    cases bitAt e n with
    | true => exact goP_eq h b gx gy e n _ _ _
    | false => exact goP_eq h b gx gy e n _ _ _
theorem order_of {K : Type} [Fld K] [Crv K] {fc : K → (K → K × K × K) → K × K × K} (h : ∀ a k, fc a k = k a) {gx gy : K} (hg : (Pt.aff gx gy).on) (e : List UInt64) (hz : (goP fc Crv.b gx gy e (64 * e.length) 0 1 0).2.2 = 0) : (Pt.aff gx gy).mul (valL e) = .inf := by
  rw [goP_eq h] at hz
  have key := dblG_all (fun (s : K × K × K) p => Pj s.1 s.2.1 s.2.2 p) (p := Pt.aff gx gy) hg (tw := fun s => (rx Crv.b s.1 s.2.1 s.2.2 s.1 s.2.1 s.2.2, ry Crv.b s.1 s.2.1 s.2.2 s.1 s.2.1 s.2.2, rz Crv.b s.1 s.2.1 s.2.2 s.1 s.2.1 s.2.2)) (pl := fun s => (rx Crv.b s.1 s.2.1 s.2.2 gx gy 1, ry Crv.b s.1 s.2.1 s.2.2 gx gy 1, rz Crv.b s.1 s.2.1 s.2.2 gx gy 1))
    (fun hq k => sum_all hq hq k k) (fun hq k => sum_all hq hg k ⟨one_ne', (CR.mul_one _).symm, (CR.mul_one _).symm⟩) e (o := ((0 : K), (1 : K), (0 : K))) ⟨rfl, rfl, one_ne'⟩
  generalize (Pt.aff gx gy).mul (valL e) = p at *
  cases p with
  | inf => rfl
  | aff x y => exact absurd hz key.1

/-! g1's -/
theorem gen1_eq : gen1R = oneG1 := rfl
theorem gen1_ok : oneG1.x.ok ∧ oneG1.y.ok := ⟨by unfold Fp.ok; decide +kernel, by unfold Fp.ok; decide +kernel⟩
theorem gen1_aff : oneG1.inf = false := rfl
theorem gen1_on : (Pt.aff oneG1.x.v oneG1.y.v).on := V1.ext (by
  show (oneG1.y.v * oneG1.y.v).nat = (oneG1.x.v * oneG1.x.v * oneG1.x.v + (4 : V1)).nat
  rw [V1.nat_mul, V1.nat_add, V1.nat_mul, V1.nat_mul, Fp.v_nat gen1_ok.1, Fp.v_nat gen1_ok.2]
  decide +kernel)
theorem gen1_good : oneG1.good := ⟨.inr ⟨gen1_aff, gen1_ok⟩, gen1_on⟩
theorem gen1_pt : oneG1.pt = .aff oneG1.x.v oneG1.y.v := pt1_aff gen1_aff
theorem rLimbs_val : valL rLimbs.list = qN := by rw [list4_val, rLimbs_nat]
theorem gen1_order : oneG1.pt.mul qN = .inf := by
  rw [← rLimbs_val, gen1_pt]
  exact order_of (fc := fcV1) fcV1_eq gen1_on rLimbs.list (V1.ext (by decide +kernel))

/-! g2's -/
theorem gen2_eq : gen2R = oneG2 := rfl
theorem gen2_ok : oneG2.x.ok ∧ oneG2.y.ok := ⟨⟨by unfold Fp.ok; decide +kernel, by unfold Fp.ok; decide +kernel⟩, ⟨by unfold Fp.ok; decide +kernel, by unfold Fp.ok; decide +kernel⟩⟩
theorem gen2_aff : oneG2.inf = false := rfl
theorem V2.ext_nat {x y : V2} (h : x.a.nat = y.a.nat) (g : x.b.nat = y.b.nat) : x = y := Qd.ext' (V1.ext h) (V1.ext g)
theorem gen2_on : (Pt.aff oneG2.x.v oneG2.y.v).on := V2.ext_nat (by
  show ((oneG2.y.v * oneG2.y.v).a).nat = (oneG2.x.v * oneG2.x.v * oneG2.x.v + bb2).a.nat
  decide +kernel) (by
  show ((oneG2.y.v * oneG2.y.v).b).nat = (oneG2.x.v * oneG2.x.v * oneG2.x.v + bb2).b.nat
  decide +kernel)
theorem gen2_good : oneG2.good := ⟨.inr ⟨gen2_aff, gen2_ok⟩, gen2_on⟩
theorem gen2_pt : oneG2.pt = .aff oneG2.x.v oneG2.y.v := pt2_aff gen2_aff
theorem gen2_order : oneG2.pt.mul qN = .inf := by
  rw [← rLimbs_val, gen2_pt]
  exact order_of (fc := fcV2) fcV2_eq gen2_on rLimbs.list (V2.ext_nat (by decide +kernel) (by decide +kernel))

end Go.Proofs.Ytchlamfdofpolaa
