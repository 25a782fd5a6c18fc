/- The statement G1Small: its plain law. -/
import Derived.Test.YtchlamfdofpolaaWe
import Derived.Test.YtchlamfdofpolaaQj
set_option linter.unusedSimpArgs false
set_option linter.unusedVariables false
namespace Go.Proofs.Ytchlamfdofpolaa
open Go.RowKit

theorem smallFr_nat (k : UInt8) : (smallFr k).nat = k.toNat % 20 := by
  unfold smallFr
  rw [tmod_k]
  have h : k.toNat % 20 < 20 := Nat.mod_lt _ (by omega)
  generalize k.toNat % 20 = m at *
  have h1 : ((m : Int) % 18446744073709551616).toNat = m := by omega
  rw [h1]
  unfold Fr.nat
  rw [UInt64.toNat_ofNat']
  have h0 : (UInt64.ofNat 0).toNat = 0 := rfl
  simp only [h0]
  omega
theorem neg_one_nat : (negRF oneFr).nat = qN - 1 := by
  have h1 : oneFr.nat < qN := by rw [oneFr_nat]; decide +kernel
  rw [negRF_nat h1, oneFr_nat]
  exact Nat.mod_eq_of_lt (by have := qN_pos; omega)
theorem small1_pt {p : Pg1} (hp : p.good) : ∀ i, (smallG1 addG1 p i).good ∧ (smallG1 addG1 p i).pt = p.pt.mul i
  | 0 => ⟨good_inf1, pt1_infG⟩
  | i + 1 => by
    obtain ⟨h1, h2⟩ := small1_pt hp i
    obtain ⟨a1, a2⟩ := add1_pt h1 hp
    simp only [smallG1]
    exact ⟨a1, by rw [a2, h2, mul_succ_pt]⟩
theorem last1_pt {P : Pt V1} (hp : P.on) {r : Nat} (hr : 0 < r) (h : P.mul r = .inf) : P.mul (r - 1) = P.neg := by
  obtain ⟨m, rfl⟩ : ∃ m, r = m + 1 := ⟨r - 1, by omega⟩
  rw [mul_succ_pt] at h
  rw [Nat.add_sub_cancel]
  refine (eq_of_neg_add (neg_on hp) (mul_on hp m) ?_).symm
  rw [neg_neg_pt, add_comm_pt hp (mul_on hp m)]
  exact h
theorem g1Small_gives (n : UInt64) (k : UInt8) (a : Fr) (w : World) : Gives Try.prog 7 ((KdL.cons kU64 (KdL.cons kU8 (KdL.cons (kRow Fr) KdL.nil))).vals (n, k, a, ())).toArray w kBool.rs.res true := by
  have hb := begun8_ok
  rw [begun8_true] at hb
  refine sm1_gives (En_ok (.cons hb (.cons out8_ok (.cons mayR_ok (.cons addG1_ok (.cons oneG1_ok (.cons mulG1_ok (.cons negR_ok (.cons eqG1_ok (.cons negG1_ok .nil))))))))) ) n k a w fun h => ?_
  have gp := out8_good h
  generalize (out8 n).1 = p at *
  obtain ⟨s1, s2⟩ := small1_pt gp (k.toNat % 20)
  obtain ⟨m1, m2⟩ := mul1_pt gp (smallFr k)
  obtain ⟨q1, q2⟩ := gmul1 a
  have q3 : (mulG1 oneG1 a).pt.mul qN = .inf := by rw [q2]; exact gmul1_in _
  clear q2
  generalize mulG1 oneG1 a = q at *
  obtain ⟨l1, l2⟩ := mul1_pt q1 (negRF oneFr)
  obtain ⟨n1, n2⟩ := neg1_pt q1
  obtain ⟨v1, v2⟩ := neg1_pt gp
  obtain ⟨w1, w2⟩ := neg1_pt v1
  refine ⟨eq1_of m1 s1 ?_, eq1_of l1 n1 ?_, eq1_of w1 gp ?_⟩
  · rw [m2, s2, smallFr_nat]
  · have e := last1_pt (P := q.pt) (r := qN) q1.2 qN_pos q3
    rw [l2, n2, neg_one_nat, e]
  · rw [w2, v2, neg_neg_pt]

end Go.Proofs.Ytchlamfdofpolaa
