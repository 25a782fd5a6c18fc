/- Powers of sixes of pairs. -/
import Derived.Test.YtehhcpopfgieeaaPi
set_option linter.unusedSimpArgs false
set_option linter.unusedVariables false
namespace Go.Proofs.Ytehhcpopfgieeaa
open Go.RowKit

def rsSt (e : List UInt64) (x o : Fp12) (z : Int) : St := mkSt 34 [(1, inV 0 e), (2, ptrV 1), (4, ptrV 2), (5, ptrV 3), (6, vI z)] [inHE eU64 e, own 48 (Row.cs x), own 48 (zeros 72), own 48 (Row.cs o)]
def tRs (o : Fp12) (wF : Fp12 → Fp12) (hF : Fp12 → Fp12 → Fp12) : Table := [(54, K0 rF12.res o), (95, K1 (kRow Fp12).arg rF12.res wF), (96, Ks2 hF)]
theorem rs_front (T : Table) (a : Fp12) (e : List UInt64) : stageT (En T) 100 ((flat (codeOf Try.f94)).take 1) (startSt Try.f94 [vF12 a, iL.av 0 e] [inHE eU64 e]) [1, 2, 4] [0, 1, 2] =
    .leaf (mkSt 34 [(1, inV 0 e), (2, ptrV 1), (4, ptrV 2)] [inHE eU64 e, own 48 (Row.cs a), own 48 (zeros 72)]) := by kernel_rfl
theorem rs_start (o : Fp12) (wF : Fp12 → Fp12) (hF : Fp12 → Fp12 → Fp12) (a : Fp12) (e : List UInt64) : stageT (En (tRs o wF hF)) 100 ((flat (scopeOf Try.f94)).take 3) (mkSt 34 [(1, inV 0 e), (2, ptrV 1), (4, ptrV 2)] [inHE eU64 e, own 48 (Row.cs a), own 48 (zeros 72)]) [1, 2, 4, 5, 6] [0, 1, 2, 3] =
    .vc (0 + e.length * 1 ≤ (eU64.body e).cells.length ∧ 0 < 1) (.leaf (rsSt e a (wF o) (IntKind.i64.wrap (64 * e.length)))) := by kernel_rfl
theorem rs_iter (o1 : Fp12) (wF : Fp12 → Fp12) (hF : Fp12 → Fp12 → Fp12) (x o : Fp12) (e : List UInt64) (z : Int) : iterT (En (tRs o1 wF hF)) oF12 100 Try.f94 ((flat (scopeOf Try.f94)).drop 3) (rsSt e x o z) [1, 2, 4, 5, 6] [0, 1, 2, 3] =
    .br (decide (IntKind.i64.wrap (z - 1) < 0)) (.leaf (.inr (some (o, .t))))
      (.vc ((0 ≤ quoZ z ∧ quoZ z < e.length) ∧ 0 + e.length * 1 ≤ (eU64.body e).cells.length ∧ 0 < 1) (.vc (0 + (quoZ z).toNat * 1 < e.length)
        (.br (bitZ e z) (.leaf (.inl (.goto 0, rsSt e x (hF (hF o o) x) (IntKind.i64.wrap (z - 1))))) (.leaf (.inl (.goto 0, rsSt e x (hF o o) (IntKind.i64.wrap (z - 1)))))))) := by kernel_rfl
def raisedF (a : Fp12) (e : List UInt64) : Fp12 := powG halfF12 a e (64 * e.length) (wholeF12 oneF12)
abbrev RsOk (a : Fp12) (e : List UInt64) : Type := { q : Int × Fp12 // 0 ≤ q.1 ∧ q.1 ≤ 64 * e.length ∧ powG halfF12 a e q.1.toNat q.2 = raisedF a e }
def rsI (a : Fp12) (e : List UInt64) (q : RsOk a e) : St := rsSt e a q.1.2 q.1.1

theorem raised_ok : CallOk Try.prog 94 (K2 (kRow Fp12).arg aL rF12.res raisedF) :=
  G2 (E := En (tRs oneF12 wholeF12 halfF12)) Try.func94 (c := codeOf Try.f94) (by kernel_rfl) (bodied Try.func94 (by kernel_rfl) (by kernel_rfl)) (kRow Fp12).inp iL oF12 raisedF fun a e _ he => by
    have hE : EnvOk (En (tRs oneF12 wholeF12 halfF12)) := En_ok (.cons oneF12_ok (.cons wholeF12_ok (.cons halfF12_ok .nil)))
    have he : e.length < 1125899906842624 := he
    have hw : IntKind.i64.wrap (64 * (e.length : Int)) = 64 * (e.length : Int) := IntWalk.i64_in _ (by omega)
    refine DoesL.stageE hE 100 1 [1, 2, 4] [0, 1, 2] (rs_front _ a e) ?_
    refine DoesL.scopeFn (body := scopeOf Try.f94) (rest := restOf Try.f94) (tail := []) (l := 0) hE (by kernel_rfl) (by kernel_rfl) 100 3 (by kernel_rfl) [1, 2, 4, 5, 6] [0, 1, 2, 3] (rsI a e) (fun q => q.1.1.toNat)
      ⟨(64 * (e.length : Int), wholeF12 oneF12), by simp only []; omega, by simp only []; omega, by rw [show ((64 * (e.length : Int), wholeF12 oneF12) : Int × Fp12).1.toNat = 64 * e.length by simp only []; omega]; simp only [raisedF]⟩
      (rs_start oneF12 wholeF12 halfF12 a e) ⟨⟨by rw [cells_len]; omega, by decide⟩, fun _ => by rw [hw]; exact Tree.sat_leaf (by simp only [rsI])⟩ fun q => ?_
    obtain ⟨⟨z, o⟩, h0, h1, h2⟩ := q
    simp only [] at h0 h1 h2
    have hz : IntKind.i64.wrap (z - 1) = z - 1 := IntWalk.i64_in _ (by omega)
    refine DoesL.iter hE 100 [1, 2, 4, 5, 6] [0, 1, 2, 3] (rs_iter oneF12 wholeF12 halfF12 a o e z) ?_
    rw [hz]
    refine ⟨fun h => ?_, fun h => ?_⟩
    · simp only [decide_eq_true_eq] at h
      obtain rfl : z = 0 := by omega
      exact ⟨.t, by rw [← h2]; rfl, trivial⟩
    · simp only [decide_eq_false_iff_not] at h
      obtain ⟨n, rfl⟩ : ∃ n : Nat, z = (n : Int) + 1 := ⟨(z - 1).toNat, by omega⟩
      rw [quoZ_nat n (by omega), bitZ_nat e n (by omega)]
      rw [show ((n : Int) + 1).toNat = n + 1 by omega] at h2
      simp only [powG] at h2
      refine ⟨⟨⟨by omega, by omega⟩, by rw [cells_len]; omega, by decide⟩, fun _ => ⟨by omega, fun _ => ⟨fun h3 => ?_, fun h3 => ?_⟩⟩⟩
      all_goals
        have hn : ((n : Int) + 1 - 1).toNat = n := by omega
        rw [h3] at h2
        simp only [] at h2
      · refine ⟨rfl, ⟨((n : Int) + 1 - 1, halfF12 (halfF12 o o) a), ?_, ?_, ?_⟩, ?_, by simp only [rsI]⟩
        · show 0 ≤ (n : Int) + 1 - 1; omega
        · show (n : Int) + 1 - 1 ≤ 64 * e.length; omega
        · simpa only [hn] using h2
        · show ((n : Int) + 1 - 1).toNat < ((n : Int) + 1).toNat; omega
      · refine ⟨rfl, ⟨((n : Int) + 1 - 1, halfF12 o o), ?_, ?_, ?_⟩, ?_, by simp only [rsI]⟩
        · show 0 ≤ (n : Int) + 1 - 1; omega
        · show (n : Int) + 1 - 1 ≤ 64 * e.length; omega
        · simpa only [hn] using h2
        · show ((n : Int) + 1 - 1).toNat < ((n : Int) + 1).toNat; omega



abbrev Kraised (F : Fp12 → List UInt64 → Fp12) : Contract := K2 (kRow Fp12).arg aL rF12.res F
theorem pow12_run (wF : Fp12 → Fp12) (rF' : Fp12 → List UInt64 → Fp12) (lF : Fp12 → Fp12) (a : Fp12) (e : List UInt64) : endT (En [(95, K1 (kRow Fp12).arg rF12.res wF), (94, Kraised rF'), (93, K1 (kRow Fp12).arg rF12.res lF)]) oF12 100 Try.f49 (flat (codeOf Try.f49)) (startSt Try.f49 [vF12 a, iL.av 0 e] [inHE eU64 e]) =
  (.vc (0 + e.length ≤ e.length ∧ e.length < 1125899906842624 ∧ 0 = 0 ∧ 1 = 1)
    (.leaf (some ((lF (rF' (wF a) (List.take e.length (List.drop 0 e))), .t))))) := by kernel_rfl
def powF12 (a : Fp12) (e : List UInt64) : Fp12 := lowF12 (raisedF (wholeF12 a) e)
theorem powF12_ok : CallOk Try.prog 49 (Kraised powF12) :=
  G2 (E := En [(95, K1 (kRow Fp12).arg rF12.res wholeF12), (94, Kraised raisedF), (93, K1 (kRow Fp12).arg rF12.res lowF12)]) Try.func49 (c := codeOf Try.f49) (by kernel_rfl) (bodied Try.func49 (by kernel_rfl) (by kernel_rfl)) (kRow Fp12).inp iL oF12 powF12 fun a e _ he => by
    have he : e.length < 1125899906842624 := he
    refine DoesL.ends (En_ok (.cons wholeF12_ok (.cons raised_ok (.cons lowF12_ok .nil)))) 100 (pow12_run wholeF12 raisedF lowF12 a e) ⟨okL' he, fun _ => reads_t ?_⟩
    rw [whole]
    rfl

end Go.Proofs.Ytehhcpopfgieeaa
