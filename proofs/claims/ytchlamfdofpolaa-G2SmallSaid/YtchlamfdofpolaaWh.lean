/- The statement G2Small: its plain law. -/
import Derived.Test.YtchlamfdofpolaaWf
import Derived.Test.YtchlamfdofpolaaQk
import Derived.Test.YtchlamfdofpolaaWg
set_option linter.unusedSimpArgs false
set_option linter.unusedVariables false
namespace Go.Proofs.Ytchlamfdofpolaa
open Go.RowKit

theorem small2_pt {p : Pg2} (hp : p.good) : ∀ i, (smallG2 addG2 p i).good ∧ (smallG2 addG2 p i).pt = p.pt.mul i
  | 0 => ⟨good_inf2, pt2_infG⟩
  | i + 1 => by
    obtain ⟨h1, h2⟩ := small2_pt hp i
    obtain ⟨a1, a2⟩ := add2_pt h1 hp
    simp only [smallG2]
    exact ⟨a1, by rw [a2, h2, mul_succ_pt]⟩
theorem last2_pt {P : Pt V2} (hp : P.on) {r : Nat} (hr : 0 < r) (h : P.mul r = .inf) : P.mul (r - 1) = P.neg := by
  obtain ⟨m, rfl⟩ : ∃ m, r = m + 1 := ⟨r - 1, by omega⟩
  rw [mul_succ_pt] at h
  rw [Nat.add_sub_cancel]
  refine (eq_of_neg_add (neg_on hp) (mul_on hp m) ?_).symm
  rw [neg_neg_pt, add_comm_pt hp (mul_on hp m)]
  exact h
theorem g2Small_gives (n : UInt64) (k : UInt8) (a : Fr) (w : World) : Gives Try.prog 13 ((KdL.cons kU64 (KdL.cons kU8 (KdL.cons (kRow Fr) KdL.nil))).vals (n, k, a, ())).toArray w kBool.rs.res true := by
  have hb := begun9_ok
  rw [begun9_true] at hb
  refine sm2_gives (En_ok (.cons hb (.cons out9_ok (.cons mayR_ok (.cons addG2_ok (.cons oneG2_ok (.cons mulG2_ok (.cons negR_ok (.cons eqG2_ok (.cons negG2_ok .nil))))))))) ) n k a w fun h => ?_
  have gp := out9_good h
  generalize (out9 n).1 = p at *
  obtain ⟨s1, s2⟩ := small2_pt gp (k.toNat % 20)
  obtain ⟨m1, m2⟩ := mul2_pt gp (smallFr k)
  obtain ⟨q1, q2⟩ := gmul2 a
  have q3 : (mulG2 oneG2 a).pt.mul qN = .inf := by rw [q2]; exact gmul2_in _
  clear q2
  generalize mulG2 oneG2 a = q at *
  obtain ⟨l1, l2⟩ := mul2_pt q1 (negRF oneFr)
  obtain ⟨n1, n2⟩ := neg2_pt q1
  obtain ⟨v1, v2⟩ := neg2_pt gp
  obtain ⟨w1, w2⟩ := neg2_pt v1
  refine ⟨eq2_of m1 s1 ?_, eq2_of l1 n1 ?_, eq2_of w1 gp ?_⟩
  · rw [m2, s2, smallFr_nat]
  · have e := last2_pt (P := q.pt) (r := qN) q1.2 qN_pos q3
    rw [l2, n2, neg_one_nat, e]
  · rw [w2, v2, neg_neg_pt]

end Go.Proofs.Ytchlamfdofpolaa
