/- Powers of pairs. -/
import Derived.Test.YtehhcpopfgieeaaPh
set_option linter.unusedSimpArgs false
set_option linter.unusedVariables false
namespace Go.Proofs.Ytehhcpopfgieeaa
open Go.RowKit

def pw2St (e : List UInt64) (x o : Fp2) (z : Int) : St := mkSt 39 [(1, inV 0 e), (4, ptrV 1), (5, ptrV 2), (6, ptrV 3), (7, vI z)] [inHE eU64 e, own 26 (zeros 12), own 26 (Row.cs x), own 26 (Row.cs o)]
def tPw2 (wF : Fp2 → Fp2) (hF : Fp2 → Fp2 → Fp2) (lF : Fp2 → Fp2) : Table := [(76, Kp1 wF), (77, Kp2 hF), (101, Kp1 lF)]

theorem pw2_front (T : Table) (a : Fp2) (e : List UInt64) : stageT (En T) 100 ((flat (codeOf Try.f64)).take 1) (startSt Try.f64 [vF2 a, iL.av 0 e] [inHE eU64 e]) [1, 2, 4] [0, 1, 2] =
    .leaf (mkSt 39 [(1, inV 0 e), (2, ptrV 1), (4, ptrV 2)] [inHE eU64 e, own 26 (Row.cs a), own 26 (zeros 12)]) := by kernel_rfl
theorem pw2_start (hF : Fp2 → Fp2 → Fp2) (wF lF : Fp2 → Fp2) (a : Fp2) (e : List UInt64) : stageT (En (tPw2 wF hF lF)) 100 ((flat (scopeOf Try.f64)).take 3) (mkSt 39 [(1, inV 0 e), (2, ptrV 1), (4, ptrV 2)] [inHE eU64 e, own 26 (Row.cs a), own 26 (zeros 12)]) [1, 4, 5, 6, 7] [0, 2, 3, 4] =
    .vc (0 + e.length * 1 ≤ (eU64.body e).cells.length ∧ 0 < 1) (.leaf (pw2St e (wF a) (wF oneFp2) (IntKind.i64.wrap (64 * e.length)))) := by kernel_rfl

theorem pw2_iter (hF : Fp2 → Fp2 → Fp2) (wF lF : Fp2 → Fp2) (x o : Fp2) (e : List UInt64) (z : Int) : iterT (En (tPw2 wF hF lF)) oF2 100 Try.f64 ((flat (scopeOf Try.f64)).drop 3) (pw2St e x o z) [1, 4, 5, 6, 7] [0, 1, 2, 3] =
    .br (decide (IntKind.i64.wrap (z - 1) < 0)) (.leaf (.inr (some (lF o, .t))))
      (.vc ((0 ≤ quoZ z ∧ quoZ z < e.length) ∧ 0 + e.length * 1 ≤ (eU64.body e).cells.length ∧ 0 < 1) (.vc (0 + (quoZ z).toNat * 1 < e.length)
        (.br (bitZ e z) (.leaf (.inl (.goto 0, pw2St e x (hF (hF o o) x) (IntKind.i64.wrap (z - 1))))) (.leaf (.inl (.goto 0, pw2St e x (hF o o) (IntKind.i64.wrap (z - 1)))))))) := by kernel_rfl

def pw2At (x : Fp2) (e : List UInt64) : Nat → Fp2 → Fp2
  | 0, o => lowF2 o
  | n + 1, o => pw2At x e n (match bitAt e n with | true => halfF2 (halfF2 o o) x | false => halfF2 o o)
def powF2 (a : Fp2) (e : List UInt64) : Fp2 := pw2At (wholeF2 a) e (64 * e.length) (wholeF2 oneFp2)
abbrev Pw2Ok (a : Fp2) (e : List UInt64) : Type := { q : Int × Fp2 // 0 ≤ q.1 ∧ q.1 ≤ 64 * e.length ∧ pw2At (wholeF2 a) e q.1.toNat q.2 = powF2 a e }
def pw2I (a : Fp2) (e : List UInt64) (q : Pw2Ok a e) : St := pw2St e (wholeF2 a) q.1.2 q.1.1

theorem pw2_ok : CallOk Try.prog 64 (K2 (kRow Fp2).arg aL rF2.res powF2) :=
  G2 (E := En (tPw2 wholeF2 halfF2 lowF2)) Try.func64 (c := codeOf Try.f64) (by kernel_rfl) (bodied Try.func64 (by kernel_rfl) (by kernel_rfl)) (kRow Fp2).inp iL oF2 powF2 fun a e _ he => by
    have hE : EnvOk (En (tPw2 wholeF2 halfF2 lowF2)) := En_ok (.cons wholeF2_ok (.cons halfF2_ok (.cons lowF2_ok .nil)))
    have he : e.length < 1125899906842624 := he
    have hw : IntKind.i64.wrap (64 * (e.length : Int)) = 64 * (e.length : Int) := IntWalk.i64_in _ (by omega)
    refine DoesL.stageE hE 100 1 [1, 2, 4] [0, 1, 2] (pw2_front _ a e) ?_
    refine DoesL.scopeFn (body := scopeOf Try.f64) (rest := restOf Try.f64) (tail := []) (l := 0) hE (by kernel_rfl) (by kernel_rfl) 100 3 (by kernel_rfl) [1, 4, 5, 6, 7] [0, 2, 3, 4] (pw2I a e) (fun q => q.1.1.toNat)
      ⟨(64 * (e.length : Int), wholeF2 oneFp2), by simp only []; omega, by simp only []; omega, by rw [show ((64 * (e.length : Int), wholeF2 oneFp2) : Int × Fp2).1.toNat = 64 * e.length by simp only []; omega]; simp only [powF2]⟩
      (pw2_start halfF2 wholeF2 lowF2 a e) ⟨⟨by rw [cells_len]; omega, by decide⟩, fun _ => by rw [hw]; exact Tree.sat_leaf (by simp only [pw2I])⟩ fun q => ?_
    obtain ⟨⟨z, o⟩, h0, h1, h2⟩ := q
    simp only [] at h0 h1 h2
    have hz : IntKind.i64.wrap (z - 1) = z - 1 := IntWalk.i64_in _ (by omega)
    refine DoesL.iter hE 100 [1, 4, 5, 6, 7] [0, 1, 2, 3] (pw2_iter halfF2 wholeF2 lowF2 (wholeF2 a) o e z) ?_
    rw [hz]
    refine ⟨fun h => ?_, fun h => ?_⟩
    · simp only [decide_eq_true_eq] at h
      obtain rfl : z = 0 := by omega
      exact ⟨.t, by rw [← h2]; rfl, trivial⟩
    · simp only [decide_eq_false_iff_not] at h
      obtain ⟨n, rfl⟩ : ∃ n : Nat, z = (n : Int) + 1 := ⟨(z - 1).toNat, by omega⟩
      rw [quoZ_nat n (by omega), bitZ_nat e n (by omega)]
      rw [show ((n : Int) + 1).toNat = n + 1 by omega] at h2
      simp only [pw2At] at h2
      refine ⟨⟨⟨by omega, by omega⟩, by rw [cells_len]; omega, by decide⟩, fun _ => ⟨by omega, fun _ => ⟨fun h3 => ?_, fun h3 => ?_⟩⟩⟩
      all_goals
        have hn : ((n : Int) + 1 - 1).toNat = n := by omega
        rw [h3] at h2
        simp only [] at h2
      · refine ⟨rfl, ⟨((n : Int) + 1 - 1, halfF2 (halfF2 o o) (wholeF2 a)), ?_, ?_, ?_⟩, ?_, by simp only [pw2I]⟩
        · show 0 ≤ (n : Int) + 1 - 1; omega
        · show (n : Int) + 1 - 1 ≤ 64 * e.length; omega
        · simpa only [hn] using h2
        · show ((n : Int) + 1 - 1).toNat < ((n : Int) + 1).toNat; omega
      · refine ⟨rfl, ⟨((n : Int) + 1 - 1, halfF2 o o), ?_, ?_, ?_⟩, ?_, by simp only [pw2I]⟩
        · show 0 ≤ (n : Int) + 1 - 1; omega
        · show (n : Int) + 1 - 1 ≤ 64 * e.length; omega
        · simpa only [hn] using h2
        · show ((n : Int) + 1 - 1).toNat < ((n : Int) + 1).toNat; omega

end Go.Proofs.Ytehhcpopfgieeaa
