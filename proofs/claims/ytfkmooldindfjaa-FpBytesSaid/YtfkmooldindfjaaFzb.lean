/- The base field's statements: FpBytes, what it computes. -/
import Derived.Test.YtfkmooldindfjaaFza
set_option linter.unusedSimpArgs false
set_option linter.unusedVariables false
namespace Go.Proofs.Ytfkmooldindfjaa
open Go.RowKit

theorem whole8 (xs : List UInt8) : List.take xs.length (List.drop 0 xs) = xs := by rw [List.drop_zero, List.take_length]
theorem okWB {xs : List UInt8} (h : xs.length < 1125899906842624) : 0 + xs.length ≤ xs.length ∧ xs.length < 1125899906842624 ∧ True ∧ True := ⟨by omega, h, trivial, trivial⟩
theorem okLB {xs : List UInt8} (h : xs.length < 1125899906842624) : 0 + xs.length ≤ xs.length ∧ xs.length < 1125899906842624 ∧ 0 = 0 ∧ 1 = 1 := ⟨by omega, h, rfl, rfl⟩
abbrev oFI : Out (Fp × Int) := rFI.out
theorem fof_run (xs : List UInt64) : endT (En []) oF 100 Try.f60 (flat (codeOf Try.f60)) (startSt Try.f60 [iL.av 0 xs] [inHE eU64 xs]) =
  (.vc (0 + xs.length ≤ xs.length)
    (.leaf (some (({ l0 := pickC (Nat.blt 0 xs.length) ((List.take xs.length (List.drop 0 xs)).getD 0 0) (UInt64.ofNat 0), l1 := pickC (Nat.blt 1 xs.length) ((List.take xs.length (List.drop 0 xs)).getD 1 0) (UInt64.ofNat 0), l2 := pickC (Nat.blt 2 xs.length) ((List.take xs.length (List.drop 0 xs)).getD 2 0) (UInt64.ofNat 0), l3 := pickC (Nat.blt 3 xs.length) ((List.take xs.length (List.drop 0 xs)).getD 3 0) (UInt64.ofNat 0), l4 := pickC (Nat.blt 4 xs.length) ((List.take xs.length (List.drop 0 xs)).getD 4 0) (UInt64.ofNat 0), l5 := pickC (Nat.blt 5 xs.length) ((List.take xs.length (List.drop 0 xs)).getD 5 0) (UInt64.ofNat 0) }, .t))))) := by kernel_rfl
abbrev Kput (F : List UInt64 → Int → List UInt8 × Int) : Contract := K2 aLt kInt.arg rBI F
theorem fput_run (pF : List UInt64 → Int → List UInt8 × Int) (a : Fp) : endT (Ens [(63, Kput pF)] [63]) oBl 100 Try.f37 (flat (codeOf Try.f37)) (startSt Try.f37 [vF a] []) =
  (.vc (tiny [a.l0, a.l1, a.l2, a.l3, a.l4, a.l5])
    (.leaf (some ((List.take (pF [a.l0, a.l1, a.l2, a.l3, a.l4, a.l5] 48).fst.length (pF [a.l0, a.l1, a.l2, a.l3, a.l4, a.l5] 48).fst, (.p ((pF [a.l0, a.l1, a.l2, a.l3, a.l4, a.l5] 48).fst.length ≤ (pF [a.l0, a.l1, a.l2, a.l3, a.l4, a.l5] 48).fst.length))))))) := by kernel_rfl
theorem rfput_run (pF : List UInt64 → Int → List UInt8 × Int) (a : Fp) : endT (Ens [(64, Kput pF)] [64]) oBl 100 Try.f38 (flat (codeOf Try.f38)) (startSt Try.f38 [vF a] []) =
  (.vc (tiny [a.l0, a.l1, a.l2, a.l3, a.l4, a.l5])
    (.leaf (some ((List.take (pF [a.l0, a.l1, a.l2, a.l3, a.l4, a.l5] 48).fst.length (pF [a.l0, a.l1, a.l2, a.l3, a.l4, a.l5] 48).fst, (.p ((pF [a.l0, a.l1, a.l2, a.l3, a.l4, a.l5] 48).fst.length ≤ (pF [a.l0, a.l1, a.l2, a.l3, a.l4, a.l5] 48).fst.length))))))) := by kernel_rfl
abbrev Ktk (F : List UInt8 → List UInt64) : Contract := K1 aBs rL F
theorem ftake_run (tF : List UInt8 → List UInt64) (oF' : List UInt64 → Fp) (mF : Fp → Bool) (b : List UInt8) : endT (Ens [(61, Ktk tF), (60, Kr oF'), (24, Kfb mF)] [61]) oFI 100 Try.f35 (flat (codeOf Try.f35)) (startSt Try.f35 [iB.av 0 b] [inHE eU8 b]) =
  (.vc (0 + b.length * 1 ≤ (List.map EK.u8.cell b).length ∧ 0 < 1)
    (.br (decide ((↑b.length : Int) < 48))
      (.leaf (some ((({ l0 := UInt64.ofNat 0, l1 := UInt64.ofNat 0, l2 := UInt64.ofNat 0, l3 := UInt64.ofNat 0, l4 := UInt64.ofNat 0, l5 := UInt64.ofNat 0 }, 2), .t))))
      (.vc (0 + b.length * 1 ≤ (List.map EK.u8.cell b).length ∧ 0 < 1)
        (.br (decide ((↑b.length : Int) > 48))
          (.leaf (some ((({ l0 := UInt64.ofNat 0, l1 := UInt64.ofNat 0, l2 := UInt64.ofNat 0, l3 := UInt64.ofNat 0, l4 := UInt64.ofNat 0, l5 := UInt64.ofNat 0 }, 8), .t))))
          (.vc ((0 + b.length ≤ b.length ∧ b.length < 1125899906842624 ∧ 0 = 0 ∧ 1 = 1) ∧ littleB (List.take b.length (List.drop 0 b)))
            (.vc (0 + (tF (List.take b.length (List.drop 0 b))).length ≤ (tF (List.take b.length (List.drop 0 b))).length ∧ (tF (List.take b.length (List.drop 0 b))).length < 1125899906842624 ∧ 0 = 0 ∧ 1 = 1)
              (.br (!mF (oF' (List.take (tF (List.take b.length (List.drop 0 b))).length (List.drop 0 (tF (List.take b.length (List.drop 0 b)))))))
                (.leaf (some ((({ l0 := UInt64.ofNat 0, l1 := UInt64.ofNat 0, l2 := UInt64.ofNat 0, l3 := UInt64.ofNat 0, l4 := UInt64.ofNat 0, l5 := UInt64.ofNat 0 }, 4), .t))))
                (.leaf (some (((oF' (List.take (tF (List.take b.length (List.drop 0 b))).length (List.drop 0 (tF (List.take b.length (List.drop 0 b))))), 0), .t))))))))))) := by kernel_rfl
theorem rftake_run (tF : List UInt8 → List UInt64) (oF' : List UInt64 → Fp) (mF : Fp → Bool) (b : List UInt8) : endT (Ens [(62, Ktk tF), (55, Kr oF'), (10, Kfb mF)] [62]) oFI 100 Try.f36 (flat (codeOf Try.f36)) (startSt Try.f36 [iB.av 0 b] [inHE eU8 b]) =
  (.vc (0 + b.length * 1 ≤ (List.map EK.u8.cell b).length ∧ 0 < 1)
    (.br (decide ((↑b.length : Int) < 48))
      (.leaf (some ((({ l0 := UInt64.ofNat 0, l1 := UInt64.ofNat 0, l2 := UInt64.ofNat 0, l3 := UInt64.ofNat 0, l4 := UInt64.ofNat 0, l5 := UInt64.ofNat 0 }, 2), .t))))
      (.vc (0 + b.length * 1 ≤ (List.map EK.u8.cell b).length ∧ 0 < 1)
        (.br (decide ((↑b.length : Int) > 48))
          (.leaf (some ((({ l0 := UInt64.ofNat 0, l1 := UInt64.ofNat 0, l2 := UInt64.ofNat 0, l3 := UInt64.ofNat 0, l4 := UInt64.ofNat 0, l5 := UInt64.ofNat 0 }, 8), .t))))
          (.vc ((0 + b.length ≤ b.length ∧ b.length < 1125899906842624 ∧ 0 = 0 ∧ 1 = 1) ∧ littleB (List.take b.length (List.drop 0 b)))
            (.vc (0 + (tF (List.take b.length (List.drop 0 b))).length ≤ (tF (List.take b.length (List.drop 0 b))).length ∧ (tF (List.take b.length (List.drop 0 b))).length < 1125899906842624 ∧ 0 = 0 ∧ 1 = 1)
              (.br (!mF (oF' (List.take (tF (List.take b.length (List.drop 0 b))).length (List.drop 0 (tF (List.take b.length (List.drop 0 b)))))))
                (.leaf (some ((({ l0 := UInt64.ofNat 0, l1 := UInt64.ofNat 0, l2 := UInt64.ofNat 0, l3 := UInt64.ofNat 0, l4 := UInt64.ofNat 0, l5 := UInt64.ofNat 0 }, 4), .t))))
                (.leaf (some (((oF' (List.take (tF (List.take b.length (List.drop 0 b))).length (List.drop 0 (tF (List.take b.length (List.drop 0 b))))), 0), .t))))))))))) := by kernel_rfl
abbrev Kfput (F : Fp → List UInt8) : Contract := K1 (kRow Fp).arg rB F
abbrev Kftake (F : List UInt8 → Fp × Int) : Contract := K1 aBs rFI.res F
noncomputable abbrev lbyE (b : Bool) (mpF : Fp → Bool) (p1 p2 : Fp → List UInt8) (t1 t2 : List UInt8 → Fp × Int) : Env := Ens [(9, Kb b), (10, Kfb mpF), (37, Kfput p1), (38, Kfput p2), (35, Kftake t1), (36, Kftake t2)] [37, 38]
def lby_run_T (c0 c1 c2 c3 c4 c5 c6 c7 : Bool) (p0 p1 p2 p3 p4 : Prop) : Tree (Option (Bool × Pr)) :=
  (.br (!c0)
    (.leaf (some (false, .t)))
    (.vc p0
      (.br c1
        (.leaf (some (true, .t)))
        (.br (!c2)
          (.leaf (some (true, .t)))
          (.vc p1
            (.vc p1
              (.vc p2
                (.vc p3
                  (.vc p4
                    (.br c3
                      (.br c4
                        (.br c5
                          (.br c6
                            (.leaf (some (c7, .t)))
                            (.leaf (some (false, .t))))
                          (.leaf (some (false, .t))))
                        (.leaf (some (false, .t))))
                      (.leaf (some (false, .t)))))))))))))
theorem lby_run (b : Bool) (mpF : Fp → Bool) (q1 q2 : Fp → List UInt8) (t1 t2 : List UInt8 → Fp × Int) (a : Fp) (e : List UInt8) : endT (lbyE b mpF q1 q2 t1 t2) oB 300 Try.f8 (flat (codeOf Try.f8)) (startSt Try.f8 [vF a, iB.av 0 e] [inHE eU8 e]) = lby_run_T ((b)) ((decide ((↑e.length : Int) > 100))) ((mpF a)) ((List.take (q1 a).length (List.drop 0 (q1 a)) == List.take (q2 a).length (List.drop 0 (q2 a)))) ((fpEq ((t1 (List.take e.length (List.drop 0 e))).fst) ((t2 (List.take e.length (List.drop 0 e))).fst))) (((t1 (List.take e.length (List.drop 0 e))).snd == (t2 (List.take e.length (List.drop 0 e))).snd)) (((t1 (List.take (q1 a).length (List.drop 0 (q1 a)))).snd == 0)) ((fpEq ((t1 (List.take (q1 a).length (List.drop 0 (q1 a)))).fst) (a))) (0 + e.length * 1 ≤ (List.map EK.u8.cell e).length ∧ 0 < 1) ((0 + e.length ≤ e.length ∧ e.length < 1125899906842624 ∧ 0 = 0 ∧ 1 = 1) ∧ littleB (List.take e.length (List.drop 0 e))) ((0 + (q1 a).length ≤ (q1 a).length ∧ (q1 a).length < 1125899906842624 ∧ 0 = 0 ∧ 1 = 1) ∧ littleB (List.take (q1 a).length (List.drop 0 (q1 a)))) (0 + (q1 a).length ≤ (q1 a).length) (0 + (q2 a).length ≤ (q2 a).length) := by kernel_rfl

theorem fof_ok : CallOk Try.prog 60 (Kr ofL) :=
  G1 (E := En []) Try.func60 (c := codeOf Try.f60) (by kernel_rfl) (bodied Try.func60 (by kernel_rfl) (by kernel_rfl)) iL oF ofL fun xs hx => by
    refine DoesL.ends (En_ok .nil) 100 (fof_run xs) ⟨by omega, fun _ => reads_t ?_⟩
    rw [pick_at, pick_at, pick_at, pick_at, pick_at, pick_at]
    rfl

def fputF (a : Fp) : List UInt8 := (putF a.list 48).1
theorem fput_ok : CallOk Try.prog 37 (Kfput fputF) :=
  G1 (E := Ens [(63, Kput putF)] [63]) Try.func37 (c := codeOf Try.f37) (by kernel_rfl) (bodied Try.func37 (by kernel_rfl) (by kernel_rfl)) (kRow Fp).inp oBl fputF fun a _ => by
    refine DoesL.ends (Ens_ok (.cons put_ok .nil)) 100 (fput_run putF a) ⟨?_, fun _ => reads_p ?_ (Nat.le_refl _)⟩
    · show a.list.length < _; rw [fp_short]; decide
    · rw [List.take_length]; rfl
theorem rfput_ok : CallOk Try.prog 38 (Kfput fputF) :=
  G1 (E := Ens [(64, Kput putF)] [64]) Try.func38 (c := codeOf Try.f38) (by kernel_rfl) (bodied Try.func38 (by kernel_rfl) (by kernel_rfl)) (kRow Fp).inp oBl fputF fun a _ => by
    refine DoesL.ends (Ens_ok (.cons rput_ok .nil)) 100 (rfput_run putF a) ⟨?_, fun _ => reads_p ?_ (Nat.le_refl _)⟩
    · show a.list.length < _; rw [fp_short]; decide
    · rw [List.take_length]; rfl

def takeG (n : Nat) (x : Fp) (m : Bool) : Fp × Int := match decide ((n : Int) < 48) with
  | true => (zeroFp, 2)
  | false => match decide ((n : Int) > 48) with
    | true => (zeroFp, 8)
    | false => match !m with
      | true => (zeroFp, 4)
      | false => (x, 0)
def ftakeF (b : List UInt8) : Fp × Int := takeG b.length (ofL (takF b)) (mayF (ofL (takF b)))
def rftakeF (b : List UInt8) : Fp × Int := takeG b.length (ofL (rtkF b)) (mayPF (ofL (rtkF b)))
theorem takF_len (b : List UInt8) : (takF b).length ≤ b.length / 8 + 1 := by
  have h := cutF_len (takAt b b.length)
  rw [takAt_len] at h
  exact h
theorem rtkF_len (b : List UInt8) : (rtkF b).length ≤ b.length / 8 + 1 := by rw [← takF_eq]; exact takF_len b
theorem ftake_ok : CallOk Try.prog 35 (Kftake ftakeF) :=
  G1 (E := Ens [(61, Ktk takF), (60, Kr ofL), (24, Kfb mayF)] [61]) Try.func35 (c := codeOf Try.f35) (by kernel_rfl) (bodied Try.func35 (by kernel_rfl) (by kernel_rfl)) iBs oFI ftakeF fun b hb => by
    have hb : b.length < 16777216 := hb.2
    have hl := takF_len b
    refine DoesL.ends (Ens_ok (.cons tak_ok (.cons fof_ok (.cons may_ok .nil)))) 100 (ftake_run takF ofL mayF b) ?_
    simp only [whole, whole8]
    refine ⟨vcLenB b, fun _ => ⟨fun h1 => reads_t ?_, fun h1 => ⟨vcLenB b, fun _ => ⟨fun h2 => reads_t ?_, fun h2 => ⟨⟨okWB (by omega), hb⟩, fun _ => ⟨okW (by omega), fun _ => ⟨fun h3 => reads_t ?_, fun h3 => reads_t ?_⟩⟩⟩⟩⟩⟩⟩
    · unfold ftakeF takeG; rw [h1]; rfl
    · unfold ftakeF takeG; rw [h1, h2]; rfl
    · unfold ftakeF takeG; rw [h1, h2, h3]; rfl
    · unfold ftakeF takeG; rw [h1, h2, h3]
theorem rftake_ok : CallOk Try.prog 36 (Kftake rftakeF) :=
  G1 (E := Ens [(62, Ktk rtkF), (55, Kr ofL), (10, Kfb mayPF)] [62]) Try.func36 (c := codeOf Try.f36) (by kernel_rfl) (bodied Try.func36 (by kernel_rfl) (by kernel_rfl)) iBs oFI rftakeF fun b hb => by
    have hb : b.length < 16777216 := hb.2
    have hl := rtkF_len b
    refine DoesL.ends (Ens_ok (.cons rtk_ok (.cons rfp_ok (.cons mayP_ok .nil)))) 100 (rftake_run rtkF ofL mayPF b) ?_
    simp only [whole, whole8]
    refine ⟨vcLenB b, fun _ => ⟨fun h1 => reads_t ?_, fun h1 => ⟨vcLenB b, fun _ => ⟨fun h2 => reads_t ?_, fun h2 => ⟨⟨okWB (by omega), hb⟩, fun _ => ⟨okW (by omega), fun _ => ⟨fun h3 => reads_t ?_, fun h3 => reads_t ?_⟩⟩⟩⟩⟩⟩⟩
    · unfold rftakeF takeG; rw [h1]; rfl
    · unfold rftakeF takeG; rw [h1, h2]; rfl
    · unfold rftakeF takeG; rw [h1, h2, h3]; rfl
    · unfold rftakeF takeG; rw [h1, h2, h3]

theorem lby_law : ∀ (p0 p1 p2 p3 p4 : Prop) (c1 c2 c3 c4 c5 c6 c7 : Bool), (c1 || !c2 || (c3 && c4 && c5 && c6 && c7)) = true → (lby_run_T true c1 c2 c3 c4 c5 c6 c7 p0 p1 p2 p3 p4).evalV = true := fun p0 p1 p2 p3 p4 => of_decide_eq_true (by kernel_rfl)
theorem lby_vc {p0 p1 p2 p3 p4 : Prop} {c0 c1 c2 c3 c4 c5 c6 c7 : Bool} (h0 : p0) (h1 : c1 = false → p1) (h2 : p2) (h3 : p3) (h4 : p4) : (lby_run_T c0 c1 c2 c3 c4 c5 c6 c7 p0 p1 p2 p3 p4).vcAll := by
  simp +contextual only [lby_run_T, Tree.vcAll, h0, h1, h2, h3, h4, implies_true, and_true]
theorem fput_len (a : Fp) : (fputF a).length ≤ 48 := by
  unfold fputF putF
  rw [if_neg (by decide), if_neg (by decide)]
  unfold putO
  split
  · exact Nat.zero_le _
  · exact Nat.le_of_eq (fullB_len _ _)

end Go.Proofs.Ytfkmooldindfjaa
