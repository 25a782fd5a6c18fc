/- Bytes of numbers: the writings, walked. -/
import Derived.Test.YtfkmooldindfjaaMv
set_option linter.unusedSimpArgs false
set_option linter.unusedVariables false
namespace Go.Proofs.Ytfkmooldindfjaa
open Go.RowKit

theorem to_nat (m i k : Nat) (hm : m ≤ 192) (hi : i < 4611686018427387904 / 64) (hk : k ≤ 8) : IntKind.i64.wrap (IntKind.i64.wrap (IntKind.i64.wrap ((m : Int) - 1) - IntKind.i64.wrap (8 * (i : Int))) - (k : Int)) = (m : Int) - 1 - (8 * i + k : Nat) := by
  rw [IntWalk.i64_in ((m : Int) - 1) (by omega), IntWalk.i64_in (8 * (i : Int)) (by omega), IntWalk.i64_in ((m : Int) - 1 - 8 * (i : Int)) (by omega), IntWalk.i64_in _ (by omega)]
  omega
theorem shift8 {k : Nat} (hk : k < 8) : (((UInt64.ofNat ((IntKind.i64.wrap (8 * (k : Int))) % 18446744073709551616).toNat).toNat : Nat) : Int) = ((8 * k : Nat) : Int) := by
  rw [IntWalk.i64_in _ (by omega), UInt64.toNat_ofNat']
  omega

theorem putIn_eq (a : List UInt64) (n : Int) (out l : List UInt8) (i : Int) (x : UInt64) (k : Int) (h : l.length = out.length) : mkSt 60 [(1, vI n), (6, .one (.c (.slc 1 0 out.length 1 (.of 0) false))), (7, vI i), (8, .one (.c (.u64 x))), (22, slV 0 a), (23, vI a.length), (24, vI i), (29, vI k)] [ownL a, ownB l] = putIn a n l i x k := by
  unfold putIn slB
  rw [h]

abbrev PIn (a : List UInt64) (m i : Nat) : Type := { k : Nat // k ≤ 8 ∧ overB a m (8 * i + k) = false }

/-- One limb. -/
theorem put_limb {a : List UInt64} {m i : Nat} (hm : m ≤ 192) (hi : i < a.length) (hbig : a.length < 4294967296) {R : X × St → Prop} (hR : ∀ s, EndsAs (putE cutF) Try.f63 (Reads oBI (putO a m)) (.ret, s) → R (.ret, s))
    (hov : overB a m (8 * i) = false)
    (h : overB a m (8 * (i + 1)) = false → ∀ x k, DoesL (putE cutF) ((flat putB).drop 3) (putIn a (m : Int) (fillB a m (8 * (i + 1))) (i : Int) x k) R) : DoesL (putE cutF) ((flat putB).drop 2) (putSt a (m : Int) (fillB a m (8 * i)) (i : Int)) R := by
  have hE : EnvOk (putE cutF) := Ens_ok (.cons cut2_ok .nil)
  rw [putB_split]
  show Does _ (.block 1 putD) _ (ThenX R fun s => DoesL _ ((flat putB).drop 3) s R)
  refine Does.block (Does.flat putD ?_)
  refine DoesL.stageG hE 100 2 _ _ _ _ _ (put_in cutF a (m : Int) (fillB a m (8 * i)) (i : Int)) ⟨vcIdx hi, fun _ => ⟨vcGet hi, fun _ => ?_⟩⟩
  rw [getZ]
  refine (?_ : DoesL _ _ (putIn a (m : Int) (fillB a m (8 * i + 0)) (i : Int) (atF a i) ((0 : Nat) : Int)) _)
  refine DoesL.blockLoop (B := putI) (rest := []) (id := 2) putD_split (fun q : PIn a m i => putIn a (m : Int) (fillB a m (8 * i + q.1)) (i : Int) (atF a i) (q.1 : Int)) (fun q => 8 - q.1) ⟨0, Nat.zero_le _, hov⟩ fun q => ?_
  obtain ⟨k, hk, ho⟩ := q
  show Does _ _ (putIn a (m : Int) (fillB a m (8 * i + k)) (i : Int) (atF a i) (k : Int)) _
  refine Does.of1 (DoesL.partR (x := putO a m) hE 100 1 _ _ (fun s hs => ?_) (put_round cutF a (m : Int) (fillB a m (8 * i + k)) (i : Int) (atF a i) (k : Int)) ?_)
  · exact hR s hs
  rw [to_nat m i k hm (by omega) hk]
  have hl := fillB_len a m (8 * i + k)
  refine ⟨fun h1 => ?_, fun h1 => ?_⟩
  · simp only [decide_eq_true_eq] at h1
    have hk' : k < 8 := by omega
    rw [shift8 hk', ← byte_in a i hk', wrap_succ k (by omega)]
    refine ⟨fun h2 => ?_, fun h2 => ?_⟩
    · simp only [decide_eq_true_eq] at h2
      refine ⟨fun h3 => ?_, fun h3 => ⟨fun h4 => ?_, fun h4 => ?_⟩⟩
      · exact ⟨.t, by rw [overB_yes (by omega) h3 (by omega)], trivial⟩
      · simp only [ge_iff_le, decide_eq_true_eq] at h4
        omega
      · refine ⟨_, Wk.refl _, ⟨k + 1, hk', overB_no ho h3⟩, by show 8 - (k + 1) < 8 - k; omega, ?_⟩
        show _ = putIn a (m : Int) (fillB a m (8 * i + k + 1)) (i : Int) (atF a i) ((k + 1 : Nat) : Int)
        rw [fillB_more a (by omega)]
        rfl
    · simp only [decide_eq_false_iff_not] at h2
      have hg : 8 * i + k < m := by omega
      have hto : (m : Int) - 1 - ((8 * i + k : Nat) : Int) = ((m - 1 - (8 * i + k) : Nat) : Int) := by omega
      rw [hto]
      have hlt : m - 1 - (8 * i + k) < (fillB a m (8 * i + k)).length := by omega
      refine ⟨fun _ => ⟨vcIdxB hlt, fun _ => ⟨vcGetB hlt, fun _ => ?_⟩⟩, fun h4 => ?_⟩
      · refine ⟨_, Wk.refl _, ⟨k + 1, hk', overB_in ho hg⟩, by show 8 - (k + 1) < 8 - k; omega, ?_⟩
        show _ = putIn a (m : Int) (fillB a m (8 * i + k + 1)) (i : Int) (atF a i) ((k + 1 : Nat) : Int)
        rw [← fillB_set a hg, ← putIn_eq a _ (fillB a m (8 * i + k)) _ _ _ _ (by rw [List.length_set]), Int.toNat_natCast, Nat.zero_add, Nat.mul_one]
        rfl
      · simp only [ge_iff_le, decide_eq_false_iff_not] at h4
        omega
  · simp only [decide_eq_false_iff_not] at h1
    obtain rfl : k = 8 := by omega
    have ho : overB a m (8 * (i + 1)) = false := ho
    exact ⟨rfl, _, Wk.refl _, h ho (atF a i) ((8 : Nat) : Int)⟩

theorem put_ok : CallOk Try.prog 63 (K2 aLt kInt.arg rBI putF) :=
  G2 (E := putE cutF) Try.func63 (c := codeOf Try.f63) (by kernel_rfl) (bodied Try.func63 (by kernel_rfl) (by kernel_rfl)) iLt kInt.inp oBI putF fun a0 z ha _ => by
    have ha : a0.length < 4294967296 := ha.2
    have hE : EnvOk (putE cutF) := Ens_ok (.cons cut2_ok .nil)
    refine DoesL.seg hE 100 6 _ _ _ _ _ (put_start cutF a0 z) ?_
    simp only [whole]
    refine ⟨⟨okW (by omega), ha⟩, fun _ => ⟨fun h => ?_, fun h => ⟨fun h2 => ?_, fun h2 => ?_⟩⟩⟩
    · simp only [decide_eq_true_eq] at h
      exact ⟨.t, by unfold putF; rw [if_pos h], trivial⟩
    · simp only [decide_eq_true_eq] at h2
      exact ⟨.t, by unfold putF; rw [if_neg (by omega), if_pos h2], trivial⟩
    simp only [decide_eq_false_iff_not] at h h2
    obtain ⟨m, rfl⟩ : ∃ m : Nat, z = (m : Int) := ⟨z.toNat, by omega⟩
    have hm : m ≤ 192 := by omega
    have hres : putF a0 (m : Int) = putO (cutF a0) m := by unfold putF; rw [if_neg (by omega), if_neg (by omega), Int.toNat_natCast]
    rw [hres]
    have hal : (cutF a0).length < 4294967296 := Nat.lt_of_le_of_lt (cutF_len a0) ha
    generalize cutF a0 = a at *
    refine ⟨⟨by omega, by omega, by omega, by omega⟩, fun _ => ⟨vcLen a, fun _ => ?_⟩⟩
    rw [Int.toNat_natCast, fillB_zero a m]
    refine (?_ : DoesL _ _ (mkSt 60 [(1, vI m), (6, .one (.c (.slc 1 0 m 1 (.of 0) false))), (22, slV 0 a), (23, vI a.length), (24, vI ((0 : Nat) : Int))] [ownL a, ownB (fillB a m (8 * 0))]) _)
    have e0 : mkSt 60 [(1, vI m), (6, .one (.c (.slc 1 0 m 1 (.of 0) false))), (22, slV 0 a), (23, vI a.length), (24, vI ((0 : Nat) : Int))] [ownL a, ownB (fillB a m (8 * 0))] = putSt a (m : Int) (fillB a m (8 * 0)) ((0 : Nat) : Int) := by
      unfold putSt slB
      rw [fillB_len]
    rw [e0]
    refine DoesL.blockLoop (B := putB) (rest := putC.drop 7) (id := 0) (by kernel_rfl) (fun i : { i : Nat // i ≤ a.length ∧ overB a m (8 * i) = false } => putSt a (m : Int) (fillB a m (8 * i.1)) (i.1 : Int)) (fun i => a.length - i.1) ⟨0, Nat.zero_le _, rfl⟩ fun i => ?_
    obtain ⟨i, hi, hov⟩ := i
    show Does _ _ (putSt a (m : Int) (fillB a m (8 * i)) (i : Int)) _
    refine Does.flat putB ?_
    refine DoesL.part hE 100 2 _ (put_head cutF a (m : Int) (fillB a m (8 * i)) (i : Int)) ⟨fun h => ?_, fun h => ?_⟩
    · simp only [decide_eq_true_eq] at h
      have hi' : i < a.length := by omega
      refine put_limb hm hi' hal (fun s hs => hs) hov fun hov2 x k => ?_
      refine DoesL.part hE 100 1 _ (put_next cutF a (m : Int) _ (i : Int) x k) ?_
      rw [wrap_succ i (by omega)]
      simp only [putB_last]
      exact ⟨_, Wk.refl _, ⟨i + 1, hi', hov2⟩, by show a.length - (i + 1) < a.length - i; omega, rfl⟩
    · simp only [decide_eq_false_iff_not] at h
      obtain rfl : i = a.length := by omega
      refine ⟨rfl, DoesL.ends hE 100 (put_end cutF a _ _ _) (reads_p ?_ (Nat.le_refl _))⟩
      rw [List.take_length, putO_done hov, fillB_end]

theorem rput_ok : CallOk Try.prog 64 (K2 aLt kInt.arg rBI putF) :=
  G2 (E := rputE cutF atF) Try.func64 (c := codeOf Try.f64) (by kernel_rfl) (bodied Try.func64 (by kernel_rfl) (by kernel_rfl)) iLt kInt.inp oBI putF fun a0 z ha _ => by
    have ha : a0.length < 4294967296 := ha.2
    have hE : EnvOk (rputE cutF atF) := Ens_ok (.cons cut_ok (.cons limb_ok .nil))
    refine DoesL.seg hE 100 5 _ _ _ _ _ (rput_start cutF atF a0 z) ?_
    simp only [whole]
    refine ⟨⟨okW (by omega), by show a0.length < _; omega⟩, fun _ => ⟨fun h => ?_, fun h => ⟨fun h2 => ?_, fun h2 => ?_⟩⟩⟩
    · simp only [decide_eq_true_eq] at h
      exact ⟨.t, by unfold putF; rw [if_pos h], trivial⟩
    · simp only [decide_eq_true_eq] at h2
      exact ⟨.t, by unfold putF; rw [if_neg (by omega), if_pos h2], trivial⟩
    simp only [decide_eq_false_iff_not] at h h2
    obtain ⟨m, rfl⟩ : ∃ m : Nat, z = (m : Int) := ⟨z.toNat, by omega⟩
    have hm : m ≤ 192 := by omega
    have hres : putF a0 (m : Int) = putO (cutF a0) m := by unfold putF; rw [if_neg (by omega), if_neg (by omega), Int.toNat_natCast]
    rw [hres]
    have hal : (cutF a0).length < 4294967296 := Nat.lt_of_le_of_lt (cutF_len a0) ha
    generalize cutF a0 = a at *
    refine (?_ : DoesL _ _ (rputSt a (m : Int) (m : Int)) _)
    refine DoesL.blockLoopR (B := loopAt Try.f64 0) (rest := rputC.drop 6) (id := 0) (by kernel_rfl) (fun g : { g : Nat // m ≤ g ∧ g ≤ max m (8 * a.length) ∧ overB a m g = false } => rputSt a (m : Int) (g.1 : Int)) (fun g => max m (8 * a.length) - g.1) ⟨m, Nat.le_refl _, by omega, overB_low (Nat.le_refl _)⟩ fun g => ?_
    obtain ⟨g, hg1, hg2, hov⟩ := g
    refine DoesL.iter hE 100 _ _ (rput_round cutF atF a (m : Int) (g : Int)) ?_
    have hw : IntKind.i64.wrap (8 * (a.length : Int)) = ((8 * a.length : Nat) : Int) := by rw [IntWalk.i64_in _ (by omega)]; omega
    rw [hw]
    refine ⟨vcLen a, fun _ => ⟨fun h1 => ?_, fun h1 => ?_⟩⟩
    · simp only [decide_eq_true_eq] at h1
      have hg : g < 8 * a.length := by omega
      rw [tdiv8, tmod8, i64_nat (by omega), shift_nat, wrap_succ g (by omega), getZ]
      have hq : g / 8 < a.length := by omega
      refine ⟨vcIdx hq, fun _ => ⟨vcGet hq, fun _ => ⟨by omega, fun _ => ⟨fun h3 => ?_, fun h3 => ?_⟩⟩⟩⟩
      · exact ⟨.t, by rw [overB_yes hg1 h3 hg], trivial⟩
      · exact ⟨⟨g + 1, by omega, by omega, overB_no hov h3⟩, by show max m (8 * a.length) - (g + 1) < max m (8 * a.length) - g; omega, rfl⟩
    · simp only [decide_eq_false_iff_not] at h1
      refine ⟨rfl, ?_⟩
      have hov2 : overB a m (8 * a.length) = false := by
        cases hb : overB a m (8 * a.length) with
        | false => rfl
        | true => rw [overB_mono (by omega) hb] at hov; exact hov
      rw [putO_done hov2]
      refine DoesL.stageG hE 100 2 _ _ _ _ _ (rput_mid cutF atF a (m : Int) (g : Int)) ⟨⟨by omega, by omega, by omega, by omega⟩, fun _ => ?_⟩
      rw [Int.toNat_natCast, fillB_zero a m]
      have e0 : mkSt 59 [(0, slV 0 a), (1, vI m), (7, .one (.c (.slc 1 0 m 1 (.of 0) false))), (8, vI ((0 : Nat) : Int))] [ownL a, ownB (fillB a m 0)] = rputTo a (m : Int) (fillB a m 0) ((0 : Nat) : Int) := by
        unfold rputTo slB
        rw [fillB_len]
      refine (?_ : DoesL _ _ (mkSt 59 [(0, slV 0 a), (1, vI m), (7, .one (.c (.slc 1 0 m 1 (.of 0) false))), (8, vI ((0 : Nat) : Int))] [ownL a, ownB (fillB a m 0)]) _)
      rw [e0]
      refine DoesL.blockLoop (B := loopAt Try.f64 1) (rest := rputC.drop 9) (id := 2) (by kernel_rfl) (fun i : { i : Nat // i ≤ m } => rputTo a (m : Int) (fillB a m i.1) (i.1 : Int)) (fun i => m - i.1) ⟨0, Nat.zero_le _⟩ fun i => ?_
      obtain ⟨i, hi⟩ := i
      have hl := fillB_len a m i
      show Does _ _ (rputTo a (m : Int) (fillB a m i) (i : Int)) _
      refine Does.round hE 100 _ (rput_fill cutF atF a (m : Int) (fillB a m i) (i : Int)) ⟨fun h4 => ?_, fun h4 => ?_⟩
      · simp only [decide_eq_true_eq] at h4
        have hi' : i < m := by omega
        rw [tdiv8, tmod8, i64_nat (by omega), shift_nat, back_nat hi' (by omega), wrap_succ i (by omega), Int.toNat_natCast, whole]
        have hlt : m - 1 - i < (fillB a m i).length := by omega
        refine ⟨⟨okL' (by omega), by omega⟩, fun _ => ⟨by omega, fun _ => ⟨vcIdxB hlt, fun _ => ⟨vcGetB hlt, fun _ => ?_⟩⟩⟩⟩
        refine ⟨⟨i + 1, hi'⟩, by show m - (i + 1) < m - i; omega, ?_⟩
        show _ = rputTo a (m : Int) (fillB a m (i + 1)) ((i + 1 : Nat) : Int)
        rw [← fillB_set a hi', Int.toNat_natCast, Nat.zero_add, Nat.mul_one]
        unfold rputTo slB
        rw [List.length_set]
        rfl
      · simp only [decide_eq_false_iff_not] at h4
        obtain rfl : i = m := by omega
        refine ⟨rfl, DoesL.ends hE 100 (rput_end cutF atF a _ _ _) (reads_p ?_ (Nat.le_refl _))⟩
        rw [List.take_length, fillB_all a (Nat.le_refl _)]

end Go.Proofs.Ytfkmooldindfjaa
