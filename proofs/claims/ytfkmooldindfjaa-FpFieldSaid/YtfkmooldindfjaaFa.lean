/- The base field's functions, part a: its numbers as rows of cells; a table of what is called. -/
import Derived.Test.YtfkmooldindfjaaEs
import Derived.Test.YtfkmooldindfjaaRows
set_option linter.unusedSimpArgs false
set_option linter.unusedVariables false
namespace Go.Proofs.Ytfkmooldindfjaa
open Go.RowKit

/-- A number of the base field: its limbs. -/
structure Fp where
  l0 : UInt64
  l1 : UInt64
  l2 : UInt64
  l3 : UInt64
  l4 : UInt64
  l5 : UInt64

theorem toU_id {c : Cell} {x : UInt64} (h : toU c = some x) : ∀ β, gc β c = gc β0 (.u64 x) := fun β => toU_gc β h

def Fp.rd (xs : List Cell) : Option Fp :=
  match xs with
  | [a, b, c, d, e, f] => match toU a, toU b, toU c, toU d, toU e, toU f with
    | some a, some b, some c, some d, some e, some f => some ⟨a, b, c, d, e, f⟩
    | _, _, _, _, _, _ => none
  | _ => none

instance : Row Fp where
  rd := Fp.rd
  cs := fun x => [.u64 x.l0, .u64 x.l1, .u64 x.l2, .u64 x.l3, .u64 x.l4, .u64 x.l5]
  rd_ok := fun {xs x} h β => by
    unfold Fp.rd at h
    split at h
    · split at h
      · rename_i h0 h1 h2 h3 h4 h5
        cases h
        simp only [List.map_cons, List.map_nil, toU_id h0 β, toU_id h1 β, toU_id h2 β, toU_id h3 β, toU_id h4 β, toU_id h5 β]
      · cases h
    · cases h
  cs_ok := fun x β => rfl
  cs_id := fun x c hc => by
    simp only [List.mem_cons, List.not_mem_nil, or_false] at hc
    rcases hc with rfl | rfl | rfl | rfl | rfl | rfl <;> rfl

theorem bodied {f : Nat} {fn : Func} (h : Try.prog.funcs[f]? = some fn) (h1 : fn.body.isSome = true) (h2 : (fn.name == "runtime.NumGoroutine") = false) : Bodied Try.prog f := ⟨fn, h, h1, h2⟩

theorem follows_mixed : Try.prog.follows .mixedOrders = true := by kernel_rfl

theorem okv_row {α : Type} [Row α] (x : α) (h : Heap) : okv h (rowA x) := fun c hc => okc_none (Row.cs_id x c hc)
theorem okv_u64 (x : UInt64) (h : Heap) : okv h (.one (.c (.u64 x))) := okc_none rfl

theorem add64_ok : CallOk Try.prog 53 (K3x addS addC) := Kadd_ok Try.func53 (by kernel_rfl) (by kernel_rfl) (by kernel_rfl) (by kernel_rfl)
theorem sub64_ok : CallOk Try.prog 50 (K3x subS subB) := Ksub_ok Try.func50 (by kernel_rfl) (by kernel_rfl) (by kernel_rfl) (by kernel_rfl)

noncomputable def T0 : Table := [(53, K3x addS addC), (50, K3x subS subB)]
theorem T0_ok : TableOk Try.prog T0 := .cons add64_ok (.cons sub64_ok .nil)

/-- The modulus. -/
def pLimbs : Fp := ⟨0xb9feffffffffaaab, 0x1eabfffeb153ffff, 0x6730d2a0f6b0f624, 0x64774b84f38512bf, 0x4b1ba7b6434bacd7, 0x1a0111ea397fe69a⟩

noncomputable def E0 : Env := mkEnv Try.prog T0 []
theorem E0_ok : EnvOk E0 := mkEnv_ok follows_mixed T0_ok

theorem modulus_ok : CallOk Try.prog 40 (K0 (kRow Fp).rs.res pLimbs) := P0 E0_ok Try.func40 (bodied Try.func40 (by kernel_rfl) (by kernel_rfl)) 100 (kRow Fp).rs pLimbs (T := .leaf (some pLimbs)) (by kernel_rfl) rfl

noncomputable def T1 : Table := (40, K0 (kRow Fp).rs.res pLimbs) :: T0
theorem T1_ok : TableOk Try.prog T1 := .cons modulus_ok T0_ok
noncomputable def E1 : Env := mkEnv Try.prog T1 []
theorem E1_ok : EnvOk E1 := mkEnv_ok follows_mixed T1_ok

def lessT (a : Fp) : Fp × Bool :=
  let c0 := subB a.l0 pLimbs.l0 false
  let c1 := subB a.l1 pLimbs.l1 c0
  let c2 := subB a.l2 pLimbs.l2 c1
  let c3 := subB a.l3 pLimbs.l3 c2
  let c4 := subB a.l4 pLimbs.l4 c3
  (⟨subS a.l0 pLimbs.l0 false, subS a.l1 pLimbs.l1 c0, subS a.l2 pLimbs.l2 c1, subS a.l3 pLimbs.l3 c2, subS a.l4 pLimbs.l4 c3, subS a.l5 pLimbs.l5 c4⟩, subB a.l5 pLimbs.l5 c4)

def lessF (a : Fp) (over : UInt64) : Fp := match decide (over < b2u (lessT a).2) with | true => a | false => (lessT a).1

theorem less_ok : CallOk Try.prog 54 (K2 (kRow Fp).arg kU64.arg (kRow Fp).rs.res lessF) :=
  P2 E1_ok Try.func54 (bodied Try.func54 (by kernel_rfl) (by kernel_rfl)) 100 (kRow Fp) kU64 (kRow Fp).rs lessF
    (T := fun a o => .br (decide (o < b2u (lessT a).2)) (.leaf (some a)) (.leaf (some (lessT a).1))) (by intro a o; kernel_rfl)
    (by intro a o; exact ⟨fun h => congrArg some (by unfold lessF; rw [h]), fun h => congrArg some (by unfold lessF; rw [h])⟩)

end Go.Proofs.Ytfkmooldindfjaa
