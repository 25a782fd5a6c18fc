/- The statement G1Sums: its plain law. -/
import Derived.Test.YtchlamfdofpolaaWe
import Derived.Test.YtchlamfdofpolaaQp
import Derived.Test.YtchlamfdofpolaaSe
set_option linter.unusedSimpArgs false
set_option linter.unusedVariables false
namespace Go.Proofs.Ytchlamfdofpolaa
open Go.RowKit

/-- The sum of products, as far as both lists go. -/
def prodTo (ks ms : List Fr) : Nat → Nat
  | 0 => 0
  | j + 1 => if j < ks.length then prodTo ks ms j + (ks.getD j fr0).nat * (ms.getD j fr0).nat else prodTo ks ms j
theorem ssumF_nat {ks ms : List Fr} (hk : ∀ i, i < ks.length → (ks.getD i fr0).nat < qN) (hm : ∀ i, i < ms.length → (ms.getD i fr0).nat < qN) : ∀ j, j ≤ ms.length → (ssumF addRF mulRF ks ms j).nat = prodTo ks ms j % qN
  | 0, _ => by
    show zeroFr.nat = 0 % qN
    rw [zeroFr_nat, Nat.zero_mod]
  | j + 1, h => by
    have ih := ssumF_nat hk hm j (by omega)
    unfold ssumF prodTo
    by_cases hj : j < ks.length
    · rw [if_pos hj, if_pos hj]
      have h2 := hm j (by omega)
      rw [addRF_nat (by rw [ih]; exact Nat.mod_lt _ qN_pos) (mulRF_lt h2), mulRF_nat h2, ih, ← Nat.add_mod]
    · rw [if_neg hj, if_neg hj]
      exact ih
theorem prodTo_wsum {K : Type} [Fld K] [Crv K] {p : Pt K} (hp : p.on) (ks ms : List Fr) : ∀ j, p.mul (prodTo ks ms j) = wsum (fun i => p.mul (ks.getD i fr0).nat) (fun i => (ms.getD i fr0).nat) (min j ks.length)
  | 0 => by
    rw [Nat.zero_min]
    rfl
  | j + 1 => by
    have ih := prodTo_wsum hp ks ms j
    unfold prodTo
    by_cases hj : j < ks.length
    · rw [if_pos hj, mul_add_pt hp, ih, Nat.min_eq_left (by omega), Nat.min_eq_left (by omega), wsum, mul_mul_pt hp]
    · rw [if_neg hj, ih, Nat.min_eq_right (by omega), Nat.min_eq_right (by omega)]
theorem mayRF_lt {a : Fr} (h : mayRF a = true) : a.nat < qN := by
  rw [mayRF_nat] at h
  exact of_decide_eq_true h
theorem sums1_law (ks ms : List Fr) (hk : ∀ i, i < ks.length → mayRF (ks.getD i fr0) = true) (hm : ∀ i, i < ms.length → mayRF (ms.getD i fr0) = true) :
    sumG1 (ks.map (times1R gen1R)) ms = times1R gen1R (ssumF addRF mulRF ks ms ms.length) := by
  have hg : ∀ i, i < (ks.map (times1R gen1R)).length → ((ks.map (times1R gen1R)).getD i pg10).good ∧ ((ks.map (times1R gen1R)).getD i pg10).pt = oneG1.pt.mul (ks.getD i fr0).nat := by
    intro i hi
    rw [List.length_map] at hi
    have e : (ks.map (times1R gen1R)).getD i pg10 = mulG1 oneG1 (ks.getD i fr0) := (getD_map' (times1R gen1R) fr0 pg10 hi).trans (gtimes1 (ks.getD i fr0))
    rw [e]
    exact gmul1 _
  obtain ⟨s1, s2⟩ := laysG1_sum (fun i hi => (hg i hi).1) ms
  obtain ⟨t1, t2⟩ := gmul1 (ssumF addRF mulRF ks ms ms.length)
  rw [gtimes1]
  refine pt1_inj s1.1 t1.1 ?_
  rw [s2, t2, ssumF_nat (fun i hi => mayRF_lt (hk i hi)) (fun i hi => mayRF_lt (hm i hi)) _ (Nat.le_refl _), gmul1_mod, prodTo_wsum gen1_good.2]
  have hn : sumN1 (ks.map (times1R gen1R)) ms = min ms.length ks.length := by show min ms.length (ks.map (times1R gen1R)).length = _; rw [List.length_map]
  rw [hn]
  exact wsum_congr fun j hj => ⟨(hg j (by rw [List.length_map]; omega)).2, rfl⟩
theorem g1Sums_gives {w : World} {v u : Value} {ks ms : List Fr} (hv : RwIs .fr w v ks) (hu : RwIs .fr w u ms) : Gives Try.prog 8 #[v, u] w kBool.rs.res true := by
  have hb := begun8_ok
  rw [begun8_true] at hb
  exact ss1_gives (En_ok (.cons hb (.cons mayR_ok (.cons gen1R_ok (.cons times1R_ok (.cons addR_ok (.cons mulR_ok (.cons sumG1_ok .nil)))))))) hv hu (sums1_law ks ms)

end Go.Proofs.Ytchlamfdofpolaa
