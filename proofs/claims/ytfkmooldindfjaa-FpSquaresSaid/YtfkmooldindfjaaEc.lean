/- The executor, part c: operators on abstract values whole; conversions; min and max; zero values. -/
import Derived.Test.YtfkmooldindfjaaEb
set_option linter.unusedSimpArgs false
set_option linter.unusedVariables false
namespace Go.Proofs.Ytfkmooldindfjaa
open Go.RowKit

def isEq (op : BinOp) : Option Bool := match op with | .eql => some false | .neq => some true | _ => none

def litB (c : Cell) : Bool := match c with | .tt | .ff | .lit _ _ => true | _ => false

def allLit : List Cell → Bool
  | [] => true
  | c :: cs => match litB c with | true => allLit cs | false => false

def mkB (known neg r : Bool) : Cell :=
  match known with
  | true => ofBool (match neg with | true => !r | false => r)
  | false => .bool (match neg with | true => !r | false => r)

theorem gc_mkB (β : Nat → Pl) (known neg r : Bool) : gc β (mkB known neg r) = .bool (if neg then !r else r) := by
  cases known <;> cases neg <;> simp [mkB, gc_ofBool] <;> rfl

def boolT (P : Program) (t : TypeId) : Bool := match P.underlying t with | some .bool => true | _ => false
def stringT (P : Program) (t : TypeId) : Bool := match P.underlying t with | some .string => true | _ => false

def binC (P : Program) (op : BinOp) (t : TypeId) (a b : AV) : Option (Cond Cell) :=
  match a, b with
  | .one (.c x), .one (.c y) =>
    match numOp op x y with
    | some r => some r
    | none => match isEq op with
      | none => none
      | some neg => match x, y with
        | .str s, .str u => some ⟨.t, .bool (match neg with | true => !(s == u) | false => s == u)⟩
        | _, _ => match boolT P t, eqBool x y with
          | true, some r => some ⟨.t, mkB (litB x && litB y) neg r⟩
          | _, _ => none
  | .one (.agg xs), .one (.agg ys) =>
    match isEq op with
    | none => none
    | some neg => match P.eqGuardType P.depth t with
      | true => none
      | false => match aggT P t, eqIn P 8 t xs ys with
        | some true, some r => some ⟨.t, mkB (allLit xs && allLit ys) neg r⟩
        | _, _ => none
  | _, _ => none

theorem toList_mk (s : List UInt8) : (ByteArray.mk s.toArray).toList = s := by
  rw [ByteArray.toList_eq]

theorem numOp_int {op : BinOp} {a b : Cell} {r : Cond Cell} (β : Nat → Pl) (h : numOp op a b = some r) : ∃ k n, gc β a = .int k n := by
  have hU : ∀ {c : Cell} {x}, toU c = some x → ∃ k n, gc β c = .int k n := fun h => ⟨_, _, toU_gc β h⟩
  have hB : ∀ {c : Cell} {x}, toB c = some x → ∃ k n, gc β c = .int k n := fun h => ⟨_, _, toB_gc β h⟩
  have hW : ∀ {c : Cell} {x}, toW c = some x → ∃ k n, gc β c = .int k n := fun h => ⟨_, _, toW_gc β h⟩
  have hG : genOp op a b = some r → ∃ k n, gc β a = .int k n := by
    intro h
    unfold genOp at h
    split at h
    · rename_i k x k' y ha hb; exact ⟨_, _, toI_gc β ha⟩
    · cases h
  have hS : ∀ right, shiftC right a b = some r → ∃ k n, gc β a = .int k n := by
    intro right h
    unfold shiftC at h
    split at h
    · cases a <;> first | exact ⟨_, _, rfl⟩ | (simp at h)
    · cases h
  unfold numOp at h
  split at h
  · exact hS _ h
  · exact hS _ h
  · split at h
    · exact ⟨_, _, rfl⟩
    · split at h
      · rename_i hx hy; exact hU hx
      · split at h
        · rename_i hx hy; exact hB hx
        · split at h
          · rename_i hx hy; exact hW hx
          · exact hG h

theorem run_binC {P : Program} {op : BinOp} {t : TypeId} {a b : AV} {r : Cond Cell} (β : Nat → Pl) (h : binC P op t a b = some r) (hp : r.pre.holds) (x y : Operand) (w : World) :
    (do eqGuard op t x y (gv β a) (gv β b); binOp op t (gv β a) (gv β b) : Sem Value).run P w = .ok (gc β r.val) w := by
  unfold binC at h
  split at h
  · rename_i x' y'
    simp only [gv, g1]
    split at h
    · rename_i r' hr
      cases h
      obtain ⟨k, n, e⟩ := numOp_int β hr
      have := run_numOp (P := P) β hr hp t w
      rw [e] at this ⊢
      simp only [eqGuard_at_int, Sem.run_bind, Sem.run_pure, Result.andThen_ok, this]
    · split at h
      · cases h
      · rename_i neg hneg
        split at h
        · rename_i s u
          cases h
          simp only [gc, eqGuard_at_string, Sem.run_bind, Sem.run_pure, Result.andThen_ok]
          cases op <;> simp [isEq] at hneg <;> subst hneg <;> simp [binOp, Op.stringOp, toList_mk, bne]
        · split at h
          · rename_i r' ht hr
            cases h
            have ht' : P.underlying t = some .bool := by
              unfold boolT at ht
              split at ht
              · assumption
              · cases ht
            unfold eqBool at hr
            split at hr
            · rename_i u v hu hv
              cases hr
              rw [gc_mkB, toBool_gc β hu, toBool_gc β hv]
              simp only [eqGuard_at_bool, Sem.run_bind, Sem.run_pure, Result.andThen_ok]
              cases op <;> simp [isEq] at hneg <;> subst hneg <;> simp [binOp, Op.equal, Op.maxDepth, run_equalIn_bool' _ _ _ _ _ ht']
            · cases hr
          · cases h
  · rename_i xs ys
    simp only [gv, g1]
    split at h
    · cases h
    · rename_i neg hneg
      split at h
      · cases h
      · rename_i hg
        split at h
        · rename_i r' hagg hr
          cases h
          rw [gc_mkB]
          have := run_eqIn β 8 t xs ys r' hr 10000 true (by omega) hagg w
          simp only [packV] at this
          rw [Sem.run_bind, run_eqGuard_agg w op t x y _ _ hg, Result.andThen_ok]
          cases op <;> simp [isEq] at hneg <;> subst hneg
          · rw [run_eql_struct, this]; simp
          · rw [run_neq_struct, this]; simp
        · cases h
  · cases h

/-! ## one operand -/

def unC (op : UnOp) (a : AV) : Option Cell :=
  match a with
  | .one (.c x) =>
    match op with
    | .not => match x with
      | .tt => some .ff
      | .ff => some .tt
      | .bool b => some (.bool (!b))
      | _ => none
    | .neg => match x with
      | .lit k n => some (.lit k (k.wrap (0 - n)))
      | _ => match toI x with
        | some (k, n) => some (.int k (k.wrap (0 - n)))
        | none => none
    | .xor => match x with
      | .u64 n => some (.u64 (~~~ n))
      | .u32 n => some (.u32 (~~~ n))
      | .lit k n => some (.lit k (bits .xor k (if k.signed then -1 else k.max) n))
      | _ => none
    | _ => none
  | _ => none

theorem run_unC {P : Program} {op : UnOp} {a : AV} {r : Cell} (β : Nat → Pl) (h : unC op a = some r) (w : World) : (Op.unary op (gv β a)).run P w = .ok (gc β r) w := by
  unfold unC at h
  split at h
  · rename_i x
    simp only [gv, g1]
    split at h
    · split at h <;> cases h <;> simp [gc, Op.unary]
    · split at h
      · cases h; simp [gc, Op.unary, Op.intArith]
      · split at h
        · rename_i k n hx
          cases h
          rw [toI_gc β hx]
          simp [gc, Op.unary, Op.intArith]
        · cases h
    · split at h
      · rename_i n
        cases h
        simp only [gc, Op.unary]
        show (Op.intBits .xor .u64 18446744073709551615 (n.toNat : Int)).run P w = _
        rw [intBits_xor]
        have := bits_xor_u64 (18446744073709551615 : UInt64) n
        rw [show ((18446744073709551615 : UInt64).toNat : Int) = 18446744073709551615 from rfl] at this
        rw [this, show (18446744073709551615 : UInt64) ^^^ n = ~~~ n from by
          apply UInt64.toBitVec_inj.1
          show (BitVec.allOnes 64) ^^^ n.toBitVec = ~~~ n.toBitVec
          exact BitVec.allOnes_xor]
        rfl
      · rename_i n
        cases h
        simp only [gc, Op.unary]
        show (Op.intBits .xor .u32 4294967295 (n.toNat : Int)).run P w = _
        rw [intBits_xor]
        have := bits_xor_u32 (4294967295 : UInt32) n
        rw [show ((4294967295 : UInt32).toNat : Int) = 4294967295 from rfl] at this
        rw [this, show (4294967295 : UInt32) ^^^ n = ~~~ n from by
          apply UInt32.toBitVec_inj.1
          show (BitVec.allOnes 32) ^^^ n.toBitVec = ~~~ n.toBitVec
          exact BitVec.allOnes_xor]
        rfl
      · cases h; simp [gc, Op.unary, intBits_xor]
      · cases h
    · cases h
  · cases h

/-! ## conversions of numbers -/

def intT (P : Program) (t : TypeId) : Option IntKind := match P.underlying t with | some (.int k) => some k | _ => none

def convI (k : IntKind) (x : Cell) : Option Cell :=
  match x with
  | .lit _ n => some (.lit k (k.wrap n))
  | .u64 n => match k with
    | .u64 => some (.u64 n)
    | .u8 => some (.u8 n.toUInt8)
    | .u32 => some (.u32 n.toUInt32)
    | _ => some (.int k (k.wrap (n.toNat : Int)))
  | .bit b => match k with
    | .u64 => some (.bit b)
    | _ => some (.int k (k.wrap ((b2u b).toNat : Int)))
  | .u8 n => match k with
    | .u64 => some (.u64 n.toUInt64)
    | .u8 => some (.u8 n)
    | .u32 => some (.u32 n.toUInt32)
    | _ => some (.int k (n.toNat : Int))
  | .u32 n => match k with
    | .u64 => some (.u64 n.toUInt64)
    | .u8 => some (.u8 n.toUInt8)
    | .u32 => some (.u32 n)
    | _ => some (.int k (k.wrap (n.toNat : Int)))
  | .int _ n => match k with
    | .u64 => some (.u64 (UInt64.ofNat (n % 18446744073709551616).toNat))
    | .u8 => some (.u8 (UInt8.ofNat (n % 256).toNat))
    | _ => some (.int k (k.wrap n))
  | _ => none

theorem wrap_small_u8 (k : IntKind) (n : UInt8) (hk : k ≠ .i8) : k.wrap (n.toNat : Int) = (n.toNat : Int) := by
  have := n.toNat_lt
  have h : (n.toNat : Int) < 256 := by omega
  cases k <;> first | exact absurd rfl hk | (simp [IntKind.wrap, IntKind.bits, IntKind.signed]; omega)

theorem gc_convI {k : IntKind} {x r : Cell} (β : Nat → Pl) (h : convI k x = some r) (hk : k ≠ .i8) : ∃ j n, gc β x = .int j n ∧ gc β r = .int k (k.wrap n) := by
  cases x with
  | lit j n => cases h; exact ⟨_, _, rfl, rfl⟩
  | u64 n =>
    have := n.toNat_lt
    refine ⟨_, _, rfl, ?_⟩
    cases k <;> cases h <;> simp only [gc] <;> (try rfl)
    · rw [wrap_u64_nat]; congr 1; omega
  | bit b =>
    refine ⟨_, _, rfl, ?_⟩
    cases k <;> cases h <;> simp only [gc] <;> (try rfl)
    cases b <;> rfl
  | u8 n =>
    refine ⟨_, _, rfl, ?_⟩
    rw [wrap_small_u8 k n hk]
    cases k <;> cases h <;> simp [gc]
  | u32 n =>
    have := n.toNat_lt
    refine ⟨_, _, rfl, ?_⟩
    cases k <;> cases h <;> simp only [gc] <;> (try rfl)
    · rw [wrap_u32_nat]; congr 1; omega
    · rw [wrap_u64_nat]; simp
  | int j n =>
    refine ⟨_, _, rfl, ?_⟩
    cases k <;> cases h <;> simp only [gc] <;> (try rfl)
    · rw [show IntKind.u8.wrap n = n % 256 by simp [IntKind.wrap, IntKind.bits, IntKind.signed], UInt8.toNat_ofNat']; congr 1; omega
    · rw [IntKind.wrap_u64, UInt64.toNat_ofNat']; congr 1; omega
  | _ => simp [convI] at h

def convC (P : Program) (src dst : TypeId) (a : AV) : Option Cell :=
  match a with
  | .one (.c x) => match (P.underlying src).isSome, intT P dst with
    | true, some k => match k with
      | .i8 => none
      | _ => convI k x
    | _, _ => none
  | _ => none

theorem run_convC {P : Program} {src dst : TypeId} {a : AV} {r : Cell} (β : Nat → Pl) (h : convC P src dst a = some r) (w : World) : (convert src dst (gv β a)).run P w = .ok (gc β r) w := by
  unfold convC at h
  split at h
  · rename_i x
    split at h
    · rename_i k hs hd
      have hk : k ≠ .i8 := by rintro rfl; cases h
      have h' : convI k x = some r := by cases k <;> first | exact absurd rfl hk | exact h
      obtain ⟨j, n, e1, e2⟩ := gc_convI β h' hk
      have hd' : P.underlying dst = some (.int k) := by
        unfold intT at hd
        split at hd
        · cases hd; assumption
        · cases hd
      simp only [gv, g1, e1, e2]
      have hkk : P.intKind dst = k := by simp [Program.intKind, hd']
      rw [run_convert_int _ src dst j n hs (by rw [hkk]; exact hd'), hkk]
    · cases h
  · cases h

end Go.Proofs.Ytfkmooldindfjaa
