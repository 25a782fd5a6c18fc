/- Bytes of numbers: the readings, walked. -/
import Derived.Test.YtfkmooldindfjaaMu
set_option linter.unusedSimpArgs false
set_option linter.unusedVariables false
namespace Go.Proofs.Ytfkmooldindfjaa
open Go.RowKit

theorem cut2_split : cut2C.drop 2 = .block 0 (.loop (loopAt Try.f70 0)) :: cut2C.drop 3 := by kernel_rfl
theorem cut2_ok : CallOk Try.prog 70 (K1 aLt rL cutF) :=
  G1 (E := En []) Try.func70 (c := codeOf Try.f70) (by kernel_rfl) (bodied Try.func70 (by kernel_rfl) (by kernel_rfl)) iLt oL cutF fun xs hx => by
    have hx : xs.length < 4294967296 := hx.2
    refine DoesL.stageG (En_ok .nil) 100 2 [0, 3] [0] [(0, .as), (3, .int)] [] [] (cut2_start xs) ⟨⟨by rw [u64_len]; omega, by decide⟩, fun _ => ?_⟩
    refine DoesL.blockLoop cut2_split (fun n : CutOk xs => cut2St xs (n.1 : Int)) (fun n => n.1) ⟨xs.length, Nat.le_refl _, rfl⟩ fun n => ?_
    obtain ⟨n, h1, h2⟩ := n
    refine Does.round (En_ok .nil) 100 _ (cut2_round xs n) ⟨fun h => ?_, fun h => ?_⟩
    · simp only [decide_eq_true_eq] at h
      obtain ⟨m, rfl⟩ : ∃ m, n = m + 1 := ⟨n - 1, by omega⟩
      have hw : IntKind.i64.wrap (((m + 1 : Nat) : Int) - 1) = (m : Int) := by rw [IntWalk.i64_in _ (by omega)]; omega
      rw [hw]
      refine ⟨⟨⟨by omega, by omega⟩, by rw [u64_len]; omega, by decide⟩, fun _ => ⟨by omega, fun _ => ⟨fun h3 => ?_, fun h3 => ?_⟩⟩⟩
      · refine ⟨⟨m, by omega, ?_⟩, by show m < m + 1; omega, rfl⟩
        rw [← h2]
        have : atF xs m = 0 := by
          simp only [beq_iff_eq, Nat.zero_add, Nat.mul_one, Int.toNat_natCast] at h3
          exact h3
        simp only [cutN, if_pos this]
      · refine ⟨rfl, DoesL.ends (En_ok .nil) 100 (cut2_end xs ((m + 1 : Nat) : Int)) ⟨?_, fun _ => ⟨?_, fun _ => reads_p ?_ ?_⟩⟩⟩
        · rw [u64_len, Int.toNat_natCast]; exact ⟨by omega, by omega, by omega, by omega, by decide, .inl rfl, rfl, rfl⟩
        · rw [Int.toNat_natCast]; omega
        · simp only [Int.toNat_natCast, Nat.zero_add, Nat.sub_zero, List.drop_zero, List.nil_append, List.take_take, Nat.min_self]
          unfold cutF
          rw [← h2]
          have : atF xs m ≠ 0 := by
            simp only [beq_eq_false_iff_ne, Nat.zero_add, Nat.mul_one, Int.toNat_natCast] at h3
            exact h3
          simp only [cutN, if_neg this]
        · simp only [Int.toNat_natCast, Nat.zero_add, Nat.sub_zero, List.drop_zero, List.nil_append, List.length_take]
          omega
    · simp only [decide_eq_false_iff_not] at h
      obtain rfl : n = 0 := by omega
      refine ⟨rfl, DoesL.ends (En_ok .nil) 100 (cut2_end xs 0) ⟨?_, fun _ => ⟨?_, fun _ => reads_p ?_ ?_⟩⟩⟩
      · rw [u64_len]; exact ⟨by omega, by omega, by simp, by omega, by decide, .inl rfl, rfl, rfl⟩
      · simp
      · unfold cutF
        rw [← h2]
        simp [cutN]
      · simp

abbrev littleB (xs : List UInt8) : Prop := xs.length < 16777216
abbrev aBs : Arg (List UInt8) := aB.such littleB
abbrev iBs : Inp (List UInt8) := iB.such littleB
theorem u8_len (xs : List UInt8) : (List.map EK.u8.cell xs).length = xs.length := List.length_map _
theorem vcLenB (xs : List UInt8) : 0 + xs.length * 1 ≤ (List.map EK.u8.cell xs).length ∧ 0 < 1 := ⟨by rw [u8_len]; omega, by decide⟩
theorem vcIdxB {xs : List UInt8} {n : Nat} (h : n < xs.length) : ((0 : Int) ≤ (n : Int) ∧ (n : Int) < (xs.length : Int)) ∧ 0 + xs.length * 1 ≤ (List.map EK.u8.cell xs).length ∧ 0 < 1 := ⟨⟨by omega, by omega⟩, vcLenB xs⟩
theorem vcGetB {xs : List UInt8} {n : Nat} (h : n < xs.length) : 0 + ((n : Int)).toNat * 1 < xs.length := by rw [Int.toNat_natCast]; omega
theorem getB (xs : List UInt8) (n : Nat) : xs.getD (0 + ((n : Int)).toNat * 1) 0 = bAt xs n := by rw [Int.toNat_natCast, Nat.zero_add, Nat.mul_one]; rfl

theorem tdiv8 (n : Nat) : ((n : Int)).tdiv 8 = ((n / 8 : Nat) : Int) := by rw [Int.tdiv_eq_ediv_of_nonneg (by omega)]; omega
theorem tmod8 (n : Nat) : ((n : Int)).tmod 8 = ((n % 8 : Nat) : Int) := by rw [Int.tmod_eq_emod_of_nonneg (by omega)]; omega
theorem i64_nat {n : Nat} (h : n < 9223372036854775808) : IntKind.i64.wrap (n : Int) = (n : Int) := IntWalk.i64_in _ (by omega)
theorem back_nat {l i : Nat} (h : i < l) (hl : l < 9223372036854775808) : IntKind.i64.wrap (IntKind.i64.wrap ((l : Int) - 1) - (i : Int)) = ((l - 1 - i : Nat) : Int) := by
  rw [IntWalk.i64_in ((l : Int) - 1) (by omega), IntWalk.i64_in _ (by omega)]
  omega
theorem shift_nat (k : Nat) : IntKind.i64.wrap (8 * ((k % 8 : Nat) : Int)) = ((8 * (k % 8) : Nat) : Int) := by
  rw [IntWalk.i64_in _ (by omega)]
  omega
theorem uint_nat {n : Nat} (h : n < 18446744073709551616) : (((UInt64.ofNat (((n : Int) % 18446744073709551616).toNat)).toNat : Nat) : Int) = (n : Int) := by
  rw [UInt64.toNat_ofNat']
  omega

theorem tak_ok : CallOk Try.prog 61 (K1 aBs rL takF) :=
  G1 (E := takE cutF) Try.func61 (c := codeOf Try.f61) (by kernel_rfl) (bodied Try.func61 (by kernel_rfl) (by kernel_rfl)) iBs oL takF fun b hb => by
    have hb : b.length < 16777216 := hb.2
    have hE : EnvOk (takE cutF) := Ens_ok (.cons cut2_ok .nil)
    refine DoesL.stageG hE 100 3 _ _ _ _ _ (tak_start cutF b) ?_
    have hw : IntKind.i64.wrap (IntKind.i64.wrap ((b.length : Int).tdiv 8) + 1) = ((b.length / 8 + 1 : Nat) : Int) := by
      rw [tdiv8, i64_nat (by omega), IntWalk.i64_in _ (by omega)]
      omega
    rw [hw]
    refine ⟨vcLenB b, fun _ => ⟨⟨by omega, by omega, by omega, by omega⟩, fun _ => ⟨vcLenB b, fun _ => ?_⟩⟩⟩
    rw [Int.toNat_natCast]
    have h0 := takAt_len b 0
    refine (?_ : DoesL _ _ (mkSt 41 [(0, .one (.c (.slc 0 0 b.length 1 (.of 0) false))), (3, .one (.c (.slc 1 0 (b.length / 8 + 1) 1 (.of 0) false))), (12, .one (.c (.slc 0 0 b.length 1 (.of 0) false))), (13, vI b.length), (14, vI 0)] [inHE eU8 b, ownL (takAt b 0)]) _)
    rw [← h0]
    refine (?_ : DoesL _ _ (takSt b (takAt b 0) ((0 : Nat) : Int)) _)
    refine DoesL.blockLoop (B := loopAt Try.f61 0) (rest := takC.drop 4) (id := 0) (by kernel_rfl) (fun i : { i : Nat // i ≤ b.length } => takSt b (takAt b i.1) (i.1 : Int)) (fun i => b.length - i.1) ⟨0, Nat.zero_le _⟩ fun i => ?_
    obtain ⟨i, hi⟩ := i
    have hl := takAt_len b i
    show Does _ _ (takSt b (takAt b i) (i : Int)) _
    refine Does.round hE 100 _ (tak_round cutF b (takAt b i) (i : Int)) ⟨fun h => ?_, fun h => ?_⟩
    · simp only [decide_eq_true_eq] at h
      have hi' : i < b.length := by omega
      rw [back_nat hi' (by omega), tdiv8, tmod8, i64_nat (by omega), shift_nat, uint_nat (by omega), wrap_succ i (by omega)]
      have hq : (b.length - 1 - i) / 8 < (takAt b i).length := by omega
      refine ⟨vcIdxB hi', fun _ => ⟨vcGetB hi', fun _ => ⟨vcLenB b, fun _ => ⟨vcIdx hq, fun _ => ⟨vcGet hq, fun _ => ⟨vcIdx hq, fun _ => ⟨vcGet hq, fun _ => ?_⟩⟩⟩⟩⟩⟩⟩
      refine ⟨⟨i + 1, hi'⟩, by show b.length - (i + 1) < b.length - i; omega, ?_⟩
      rw [getZ, getB, Int.toNat_natCast, Nat.zero_add, Nat.mul_one]
      have e : (takAt b (i + 1)).length = (takAt b i).length := by rw [takAt_len, takAt_len]
      show _ = takSt b (takAt b (i + 1)) ((i + 1 : Nat) : Int)
      unfold takSt slV
      rw [e]
      rfl
    · simp only [decide_eq_false_iff_not] at h
      obtain rfl : i = b.length := by omega
      refine ⟨rfl, DoesL.ends hE 100 (tak_end cutF b _ _) ?_⟩
      simp only [whole]
      refine ⟨⟨okW (by omega), by show (takAt b _).length < _; omega⟩, fun _ => reads_p ?_ (Nat.le_refl _)⟩
      rw [List.take_length]
      rfl

theorem rtk_ok : CallOk Try.prog 62 (K1 aBs rL rtkF) :=
  G1 (E := rtkE cutF) Try.func62 (c := codeOf Try.f62) (by kernel_rfl) (bodied Try.func62 (by kernel_rfl) (by kernel_rfl)) iBs oL rtkF fun b hb => by
    have hb : b.length < 16777216 := hb.2
    have hE : EnvOk (rtkE cutF) := Ens_ok (.cons cut_ok .nil)
    refine DoesL.stageG hE 100 3 _ _ _ _ _ (rtk_start cutF b) ?_
    have hw : IntKind.i64.wrap ((IntKind.i64.wrap ((b.length : Int) + 7)).tdiv 8) = (((b.length + 7) / 8 : Nat) : Int) := by
      rw [show (b.length : Int) + 7 = ((b.length + 7 : Nat) : Int) by omega, i64_nat (by omega), tdiv8, i64_nat (by omega)]
    rw [hw]
    refine ⟨vcLenB b, fun _ => ⟨⟨by omega, by omega, by omega, by omega⟩, fun _ => ?_⟩⟩
    rw [Int.toNat_natCast]
    have h0 := rtkAt_len b 0
    refine (?_ : DoesL _ _ (mkSt 38 [(0, .one (.c (.slc 0 0 b.length 1 (.of 0) false))), (3, .one (.c (.slc 1 0 ((b.length + 7) / 8) 1 (.of 0) false))), (4, vI 0)] [inHE eU8 b, ownL (rtkAt b 0)]) _)
    rw [← h0]
    refine (?_ : DoesL _ _ (rtkSt b (rtkAt b 0) ((0 : Nat) : Int)) _)
    refine DoesL.blockLoop (B := loopAt Try.f62 0) (rest := rtkC.drop 4) (id := 0) (by kernel_rfl) (fun i : { i : Nat // i ≤ b.length } => rtkSt b (rtkAt b i.1) (i.1 : Int)) (fun i => b.length - i.1) ⟨0, Nat.zero_le _⟩ fun i => ?_
    obtain ⟨i, hi⟩ := i
    have hl := rtkAt_len b i
    show Does _ _ (rtkSt b (rtkAt b i) (i : Int)) _
    refine Does.round hE 100 _ (rtk_round cutF b (rtkAt b i) (i : Int)) ⟨vcLenB b, fun _ => ⟨fun h => ?_, fun h => ?_⟩⟩
    · simp only [decide_eq_true_eq] at h
      have hi' : i < b.length := by omega
      rw [back_nat hi' (by omega), tdiv8, tmod8, i64_nat (by omega), shift_nat, wrap_succ i (by omega)]
      have hq : i / 8 < (rtkAt b i).length := by omega
      have hk : b.length - 1 - i < b.length := by omega
      refine ⟨vcIdx hq, fun _ => ⟨vcGet hq, fun _ => ⟨vcLenB b, fun _ => ⟨vcIdxB hk, fun _ => ⟨vcGetB hk, fun _ => ⟨by omega, fun _ => ⟨vcIdx hq, fun _ => ⟨vcGet hq, fun _ => ?_⟩⟩⟩⟩⟩⟩⟩⟩
      refine ⟨⟨i + 1, hi'⟩, by show b.length - (i + 1) < b.length - i; omega, ?_⟩
      rw [getZ, getB, Int.toNat_natCast, Nat.zero_add, Nat.mul_one]
      have e : (rtkAt b (i + 1)).length = (rtkAt b i).length := by rw [rtkAt_len, rtkAt_len]
      show _ = rtkSt b (rtkAt b (i + 1)) ((i + 1 : Nat) : Int)
      unfold rtkSt slV
      rw [e]
      rfl
    · simp only [decide_eq_false_iff_not] at h
      obtain rfl : i = b.length := by omega
      refine ⟨rfl, DoesL.ends hE 100 (rtk_end cutF b _ _) ?_⟩
      simp only [whole]
      refine ⟨⟨okW (by omega), by show (rtkAt b _).length < _; omega⟩, fun _ => reads_p ?_ (Nat.le_refl _)⟩
      rw [List.take_length]
      rfl

end Go.Proofs.Ytfkmooldindfjaa
