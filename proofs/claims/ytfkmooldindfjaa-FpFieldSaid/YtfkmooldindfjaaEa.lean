/- The executor, part a: abstract cells, what they stand for, numbers and comparisons. -/
import Derived.WalkKit
import Derived.WalkSpells
import Derived.WalkLawsBesides
set_option linter.unusedSimpArgs false
set_option linter.unusedVariables false
namespace Go.Proofs.Ytfkmooldindfjaa
open Go.RowKit

/-- How much room is behind a slice: a known number of elements, or the place's own capacity less so many. -/
inductive RC where
  | kn (n : Nat)
  | of (k : Nat)

/-- An abstract cell. lit, tt, ff: known; the others hold a term. -/
inductive Cell where
  | lit (k : IntKind) (n : Int)
  | u64 (x : UInt64)
  | bit (b : Bool)
  | u8 (x : UInt8)
  | u32 (x : UInt32)
  | int (k : IntKind) (n : Int)
  | tt | ff
  | bool (b : Bool)
  | ptr (id off : Nat)
  | nilp
  | slc (id off len sz : Nat) (rc : RC) (kn : Bool)
  | nils
  | fn (f : Nat)
  | str (s : List UInt8)

inductive AV1 where
  | c (x : Cell)
  | agg (xs : List Cell)

inductive AV where
  | one (v : AV1)
  | tup (vs : List AV1)

/-- Where a named block lies: its first cell, and the capacity (elements) of the slice that it came as. -/
structure Pl where
  base : Option Addr
  cap : Nat

def b2u (b : Bool) : UInt64 := match b with | true => 1 | false => 0

def RC.val (p : Pl) : RC → Nat
  | .kn n => n
  | .of k => p.cap - k

def gc (β : Nat → Pl) : Cell → Value
  | .lit k n => .int k n
  | .u64 x => .int .u64 (x.toNat : Int)
  | .bit b => .int .u64 ((b2u b).toNat : Int)
  | .u8 x => .int .u8 (x.toNat : Int)
  | .u32 x => .int .u32 (x.toNat : Int)
  | .int k n => .int k n
  | .tt => .bool true
  | .ff => .bool false
  | .bool b => .bool b
  | .ptr id off => .pointer ((β id).base.map (·.add off))
  | .nilp => .pointer none
  | .slc id off len _ rc _ => match (β id).base with
    | none => .slice none 0 0
    | some a => .slice (some (a.add off)) len (rc.val (β id))
  | .nils => .slice none 0 0
  | .fn f => .func (.func f) #[] #[]
  | .str s => .string ⟨s.toArray⟩

def g1 (β : Nat → Pl) : AV1 → Value
  | .c x => gc β x
  | .agg xs => .agg (xs.map (gc β)).toArray

def gv (β : Nat → Pl) : AV → Value
  | .one v => g1 β v
  | .tup vs => .tuple (vs.map (g1 β)).toArray

def AV.undef : AV := .tup []

theorem gv_undef (β : Nat → Pl) : gv β AV.undef = Go.undef := rfl

/-- The name that a cell bears. -/
def Cell.idOf : Cell → Option Nat
  | .ptr id _ => some id
  | .slc id _ _ _ _ _ => some id
  | _ => none

theorem gc_congr {β β' : Nat → Pl} {c : Cell} (h : ∀ i, c.idOf = some i → β' i = β i) : gc β' c = gc β c := by
  cases c <;> simp [gc, Cell.idOf] at * <;> simp [h]

theorem gc_one (β : Nat → Pl) (c : Cell) : (gc β c).oneCell' = true := by
  cases c <;> try rfl
  rename_i id _ _ _ _ _
  cases h : (β id).base <;> simp [gc, h, Value.oneCell']

theorem gc_cells (β : Nat → Pl) (c : Cell) : (gc β c).cells = #[gc β c] := by
  cases c <;> try rfl
  rename_i id _ _ _ _ _
  cases h : (β id).base <;> simp [gc, h, Value.cells]

/-! ## numbers -/

def toU (c : Cell) : Option UInt64 :=
  match c with
  | .u64 x => some x
  | .bit b => some (b2u b)
  | .lit .u64 n => match decide (0 ≤ n), decide (n < 18446744073709551616) with
    | true, true => some (UInt64.ofNat n.toNat)
    | _, _ => none
  | _ => none

theorem toU_gc {c : Cell} {x : UInt64} (β : Nat → Pl) (h : toU c = some x) : gc β c = .int .u64 (x.toNat : Int) := by
  unfold toU at h
  split at h
  · cases h; rfl
  · cases h; rfl
  · rename_i n
    split at h
    · rename_i h0 h1
      cases h
      simp only [decide_eq_true_eq] at h0 h1
      simp only [gc, UInt64.toNat_ofNat']
      congr 1
      omega
    · cases h
  · cases h

def toB (c : Cell) : Option UInt8 :=
  match c with
  | .u8 x => some x
  | .lit .u8 n => match decide (0 ≤ n), decide (n < 256) with
    | true, true => some (UInt8.ofNat n.toNat)
    | _, _ => none
  | _ => none

theorem toB_gc {c : Cell} {x : UInt8} (β : Nat → Pl) (h : toB c = some x) : gc β c = .int .u8 (x.toNat : Int) := by
  unfold toB at h
  split at h
  · cases h; rfl
  · rename_i n
    split at h
    · rename_i h0 h1
      cases h
      simp only [decide_eq_true_eq] at h0 h1
      simp only [gc, UInt8.toNat_ofNat']
      congr 1
      omega
    · cases h
  · cases h

def toW (c : Cell) : Option UInt32 :=
  match c with
  | .u32 x => some x
  | .lit .u32 n => match decide (0 ≤ n), decide (n < 4294967296) with
    | true, true => some (UInt32.ofNat n.toNat)
    | _, _ => none
  | _ => none

theorem toW_gc {c : Cell} {x : UInt32} (β : Nat → Pl) (h : toW c = some x) : gc β c = .int .u32 (x.toNat : Int) := by
  unfold toW at h
  split at h
  · cases h; rfl
  · rename_i n
    split at h
    · rename_i h0 h1
      cases h
      simp only [decide_eq_true_eq] at h0 h1
      simp only [gc, UInt32.toNat_ofNat']
      congr 1
      omega
    · cases h
  · cases h

/-- Any number. -/
def toI (c : Cell) : Option (IntKind × Int) :=
  match c with
  | .lit k n => some (k, n)
  | .int k n => some (k, n)
  | .u64 x => some (.u64, (x.toNat : Int))
  | .bit b => some (.u64, ((b2u b).toNat : Int))
  | .u8 x => some (.u8, (x.toNat : Int))
  | .u32 x => some (.u32, (x.toNat : Int))
  | _ => none

theorem toI_gc {c : Cell} {k : IntKind} {n : Int} (β : Nat → Pl) (h : toI c = some (k, n)) : gc β c = .int k n := by
  unfold toI at h
  split at h <;> first | (cases h; done) | (simp only [Option.some.injEq, Prod.mk.injEq] at h; obtain ⟨rfl, rfl⟩ := h; rfl)

def ofBool (b : Bool) : Cell := match b with | true => .tt | false => .ff

theorem gc_ofBool (β : Nat → Pl) (b : Bool) : gc β (ofBool b) = .bool b := by cases b <;> rfl

/-- A known bool, or a term. -/
def toBool (c : Cell) : Option Bool :=
  match c with
  | .tt => some true
  | .ff => some false
  | .bool b => some b
  | _ => none

theorem toBool_gc {c : Cell} {b : Bool} (β : Nat → Pl) (h : toBool c = some b) : gc β c = .bool b := by
  cases c <;> simp [toBool] at h <;> simp [gc, h]

/-- What Go's operators give on whole numbers of one kind; quo, rem: of a divisor that is not 0. -/
def intOp (op : BinOp) (k : IntKind) (x y : Int) : Option (Int ⊕ Bool) :=
  match op with
  | .add => some (.inl (k.wrap (x + y)))
  | .sub => some (.inl (k.wrap (x - y)))
  | .mul => some (.inl (k.wrap (x * y)))
  | .quo => some (.inl (k.wrap (x.tdiv y)))
  | .rem => some (.inl (x.tmod y))
  | .and => some (.inl (bits .and k x y))
  | .or => some (.inl (bits .or k x y))
  | .xor => some (.inl (bits .xor k x y))
  | .andNot => some (.inl (bits .andNot k x y))
  | .eql => some (.inr (x == y))
  | .neq => some (.inr (x != y))
  | .lss => some (.inr (decide (x < y)))
  | .leq => some (.inr (decide (x ≤ y)))
  | .gtr => some (.inr (decide (x > y)))
  | .geq => some (.inr (decide (x ≥ y)))
  | _ => none

def isDiv (op : BinOp) : Bool := match op with | .quo | .rem => true | _ => false

def sumV (k : IntKind) : Int ⊕ Bool → Value
  | .inl n => .int k n
  | .inr b => .bool b

theorem run_intOp {P : Program} {op : BinOp} {k : IntKind} {x y : Int} {r : Int ⊕ Bool} (h : intOp op k x y = some r) (hd : isDiv op = true → y ≠ 0) (t : TypeId) (w : World) :
    (binOp op t (.int k x) (.int k y)).run P w = .ok (sumV k r) w := by
  cases op <;> simp [intOp] at h <;> subst h <;> simp [binOp, Op.intArith, Op.intDiv, Op.intCmp, sumV, isDiv] at * <;> simp_all [intBits_and, intBits_or, intBits_xor, intBits_andNot]

/-- On 64-bit words. -/
def u64Op (op : BinOp) (x y : UInt64) : Option Cell :=
  match op with
  | .add => some (.u64 (x + y))
  | .sub => some (.u64 (x - y))
  | .mul => some (.u64 (x * y))
  | .and => some (.u64 (x &&& y))
  | .or => some (.u64 (x ||| y))
  | .xor => some (.u64 (x ^^^ y))
  | .eql => some (.bool (x == y))
  | .neq => some (.bool (x != y))
  | .lss => some (.bool (decide (x < y)))
  | .leq => some (.bool (decide (x ≤ y)))
  | .gtr => some (.bool (decide (y < x)))
  | .geq => some (.bool (decide (y ≤ x)))
  | _ => none

def u32Op (op : BinOp) (x y : UInt32) : Option Cell :=
  match op with
  | .add => some (.u32 (x + y))
  | .sub => some (.u32 (x - y))
  | .mul => some (.u32 (x * y))
  | .and => some (.u32 (x &&& y))
  | .or => some (.u32 (x ||| y))
  | .xor => some (.u32 (x ^^^ y))
  | .eql => some (.bool (x == y))
  | .neq => some (.bool (x != y))
  | _ => none

def u8Op (op : BinOp) (x y : UInt8) : Option Cell :=
  match op with
  | .add => some (.u8 (x + y))
  | .sub => some (.u8 (x - y))
  | .and => some (.u8 (x &&& y))
  | .or => some (.u8 (x ||| y))
  | .xor => some (.u8 (x ^^^ y))
  | .andNot => some (.u8 (x &&& ~~~ y))
  | .eql => some (.bool (x == y))
  | .neq => some (.bool (x != y))
  | .lss => some (.bool (decide (x < y)))
  | .leq => some (.bool (decide (x ≤ y)))
  | .gtr => some (.bool (decide (y < x)))
  | .geq => some (.bool (decide (y ≤ x)))
  | _ => none

theorem wrap_u64_nat (n : Nat) : IntKind.u64.wrap (n : Int) = ((n % 18446744073709551616 : Nat) : Int) := by
  rw [IntKind.wrap_u64]; omega
theorem wrap_u32_nat (n : Nat) : IntKind.u32.wrap (n : Int) = ((n % 4294967296 : Nat) : Int) := by
  simp [IntKind.wrap, IntKind.bits, IntKind.signed]
theorem wrap_u8_nat (n : Nat) : IntKind.u8.wrap (n : Int) = ((n % 256 : Nat) : Int) := by
  simp [IntKind.wrap, IntKind.bits, IntKind.signed]

theorem ofInt_nat (n w : Nat) : BitVec.ofInt w (n : Int) = BitVec.ofNat w n := by
  apply BitVec.eq_of_toNat_eq; simp

theorem bits_and_u64 (x y : UInt64) : bits .and .u64 (x.toNat : Int) (y.toNat : Int) = ((x &&& y).toNat : Int) := by
  have e : BitVec.ofNat 64 x.toNat &&& BitVec.ofNat 64 y.toNat = (x &&& y).toBitVec := by simp
  show IntKind.u64.wrap ((BitVec.ofInt 64 (x.toNat : Int) &&& BitVec.ofInt 64 (y.toNat : Int)).toNat : Int) = _
  rw [ofInt_nat, ofInt_nat, e, wrap_u64_nat]
  have := (x &&& y).toNat_lt
  rw [UInt64.toNat_toBitVec]; omega
theorem bits_or_u64 (x y : UInt64) : bits .or .u64 (x.toNat : Int) (y.toNat : Int) = ((x ||| y).toNat : Int) := by
  have e : BitVec.ofNat 64 x.toNat ||| BitVec.ofNat 64 y.toNat = (x ||| y).toBitVec := by simp
  show IntKind.u64.wrap ((BitVec.ofInt 64 (x.toNat : Int) ||| BitVec.ofInt 64 (y.toNat : Int)).toNat : Int) = _
  rw [ofInt_nat, ofInt_nat, e, wrap_u64_nat]
  have := (x ||| y).toNat_lt
  rw [UInt64.toNat_toBitVec]; omega
theorem bits_xor_u64 (x y : UInt64) : bits .xor .u64 (x.toNat : Int) (y.toNat : Int) = ((x ^^^ y).toNat : Int) := by
  have e : BitVec.ofNat 64 x.toNat ^^^ BitVec.ofNat 64 y.toNat = (x ^^^ y).toBitVec := by simp
  show IntKind.u64.wrap ((BitVec.ofInt 64 (x.toNat : Int) ^^^ BitVec.ofInt 64 (y.toNat : Int)).toNat : Int) = _
  rw [ofInt_nat, ofInt_nat, e, wrap_u64_nat]
  have := (x ^^^ y).toNat_lt
  rw [UInt64.toNat_toBitVec]; omega
theorem bits_and_u32 (x y : UInt32) : bits .and .u32 (x.toNat : Int) (y.toNat : Int) = ((x &&& y).toNat : Int) := by
  have e : BitVec.ofNat 32 x.toNat &&& BitVec.ofNat 32 y.toNat = (x &&& y).toBitVec := by simp
  show IntKind.u32.wrap ((BitVec.ofInt 32 (x.toNat : Int) &&& BitVec.ofInt 32 (y.toNat : Int)).toNat : Int) = _
  rw [ofInt_nat, ofInt_nat, e, wrap_u32_nat]
  have := (x &&& y).toNat_lt
  rw [UInt32.toNat_toBitVec]; omega
theorem bits_or_u32 (x y : UInt32) : bits .or .u32 (x.toNat : Int) (y.toNat : Int) = ((x ||| y).toNat : Int) := by
  have e : BitVec.ofNat 32 x.toNat ||| BitVec.ofNat 32 y.toNat = (x ||| y).toBitVec := by simp
  show IntKind.u32.wrap ((BitVec.ofInt 32 (x.toNat : Int) ||| BitVec.ofInt 32 (y.toNat : Int)).toNat : Int) = _
  rw [ofInt_nat, ofInt_nat, e, wrap_u32_nat]
  have := (x ||| y).toNat_lt
  rw [UInt32.toNat_toBitVec]; omega
theorem bits_xor_u32 (x y : UInt32) : bits .xor .u32 (x.toNat : Int) (y.toNat : Int) = ((x ^^^ y).toNat : Int) := by
  have e : BitVec.ofNat 32 x.toNat ^^^ BitVec.ofNat 32 y.toNat = (x ^^^ y).toBitVec := by simp
  show IntKind.u32.wrap ((BitVec.ofInt 32 (x.toNat : Int) ^^^ BitVec.ofInt 32 (y.toNat : Int)).toNat : Int) = _
  rw [ofInt_nat, ofInt_nat, e, wrap_u32_nat]
  have := (x ^^^ y).toNat_lt
  rw [UInt32.toNat_toBitVec]; omega
theorem bits_and_u8 (x y : UInt8) : bits .and .u8 (x.toNat : Int) (y.toNat : Int) = ((x &&& y).toNat : Int) := by
  have e : BitVec.ofNat 8 x.toNat &&& BitVec.ofNat 8 y.toNat = (x &&& y).toBitVec := by simp
  show IntKind.u8.wrap ((BitVec.ofInt 8 (x.toNat : Int) &&& BitVec.ofInt 8 (y.toNat : Int)).toNat : Int) = _
  rw [ofInt_nat, ofInt_nat, e, wrap_u8_nat]
  have := (x &&& y).toNat_lt
  rw [UInt8.toNat_toBitVec]; omega
theorem bits_or_u8 (x y : UInt8) : bits .or .u8 (x.toNat : Int) (y.toNat : Int) = ((x ||| y).toNat : Int) := by
  have e : BitVec.ofNat 8 x.toNat ||| BitVec.ofNat 8 y.toNat = (x ||| y).toBitVec := by simp
  show IntKind.u8.wrap ((BitVec.ofInt 8 (x.toNat : Int) ||| BitVec.ofInt 8 (y.toNat : Int)).toNat : Int) = _
  rw [ofInt_nat, ofInt_nat, e, wrap_u8_nat]
  have := (x ||| y).toNat_lt
  rw [UInt8.toNat_toBitVec]; omega
theorem bits_xor_u8 (x y : UInt8) : bits .xor .u8 (x.toNat : Int) (y.toNat : Int) = ((x ^^^ y).toNat : Int) := by
  have e : BitVec.ofNat 8 x.toNat ^^^ BitVec.ofNat 8 y.toNat = (x ^^^ y).toBitVec := by simp
  show IntKind.u8.wrap ((BitVec.ofInt 8 (x.toNat : Int) ^^^ BitVec.ofInt 8 (y.toNat : Int)).toNat : Int) = _
  rw [ofInt_nat, ofInt_nat, e, wrap_u8_nat]
  have := (x ^^^ y).toNat_lt
  rw [UInt8.toNat_toBitVec]; omega
theorem bits_andNot_u8 (x y : UInt8) : bits .andNot .u8 (x.toNat : Int) (y.toNat : Int) = ((x &&& ~~~ y).toNat : Int) := by
  have e : BitVec.ofNat 8 x.toNat &&& ~~~ (BitVec.ofNat 8 y.toNat) = (x &&& ~~~ y).toBitVec := by simp
  show IntKind.u8.wrap ((BitVec.ofInt 8 (x.toNat : Int) &&& ~~~ (BitVec.ofInt 8 (y.toNat : Int))).toNat : Int) = _
  rw [ofInt_nat, ofInt_nat, e, wrap_u8_nat]
  have := (x &&& ~~~ y).toNat_lt
  rw [UInt8.toNat_toBitVec]; omega

theorem run_u64Op {P : Program} {op : BinOp} {x y : UInt64} {c : Cell} (β : Nat → Pl) (h : u64Op op x y = some c) (t : TypeId) (w : World) :
    (binOp op t (.int .u64 (x.toNat : Int)) (.int .u64 (y.toNat : Int))).run P w = .ok (gc β c) w := by
  have ex := x.toNat_lt
  have ey := y.toNat_lt
  cases op <;> simp only [u64Op, Option.some.injEq, reduceCtorEq] at h <;> subst h <;> simp only [gc]
  · rw [binOp_add]; simp only [Op.intArith, Sem.run_pure]; rw [show (x.toNat : Int) + y.toNat = ((x.toNat + y.toNat : Nat) : Int) by omega, wrap_u64_nat, UInt64.toNat_add]
  · rw [binOp_sub]; simp only [Op.intArith, Sem.run_pure, UInt64.toNat_sub, IntKind.wrap_u64]; congr 2; omega
  · rw [binOp_mul]; simp only [Op.intArith, Sem.run_pure]; rw [show (x.toNat : Int) * y.toNat = ((x.toNat * y.toNat : Nat) : Int) by simp, wrap_u64_nat, UInt64.toNat_mul]
  · rw [binOp_and, intBits_and, bits_and_u64]; rfl
  · rw [binOp_or, intBits_or, bits_or_u64]; rfl
  · rw [binOp_xor, intBits_xor, bits_xor_u64]; rfl
  · rw [binOp_eql]; simp only [Sem.run_pure]; congr 2; rw [Bool.eq_iff_iff]; simp [← UInt64.toNat_inj]; omega
  · rw [binOp_neq]; simp only [Sem.run_pure]; congr 2; rw [Bool.eq_iff_iff]; simp [← UInt64.toNat_inj]; omega
  · rw [binOp_lss]; simp only [Sem.run_pure]; congr 2; rw [Bool.eq_iff_iff]; simp [UInt64.lt_iff_toNat_lt]
  · rw [binOp_leq]; simp only [Sem.run_pure]; congr 2; rw [Bool.eq_iff_iff]; simp [UInt64.le_iff_toNat_le]
  · rw [binOp_gtr]; simp only [Sem.run_pure]; congr 2; rw [Bool.eq_iff_iff]; simp [UInt64.lt_iff_toNat_lt]
  · rw [binOp_geq]; simp only [Sem.run_pure]; congr 2; rw [Bool.eq_iff_iff]; simp [UInt64.le_iff_toNat_le]

theorem run_u32Op {P : Program} {op : BinOp} {x y : UInt32} {c : Cell} (β : Nat → Pl) (h : u32Op op x y = some c) (t : TypeId) (w : World) :
    (binOp op t (.int .u32 (x.toNat : Int)) (.int .u32 (y.toNat : Int))).run P w = .ok (gc β c) w := by
  have ex := x.toNat_lt
  have ey := y.toNat_lt
  cases op <;> simp only [u32Op, Option.some.injEq, reduceCtorEq] at h <;> subst h <;> simp only [gc]
  · rw [binOp_add]; simp only [Op.intArith, Sem.run_pure]; rw [show (x.toNat : Int) + y.toNat = ((x.toNat + y.toNat : Nat) : Int) by omega, wrap_u32_nat, UInt32.toNat_add]
  · rw [binOp_sub]; simp only [Op.intArith, Sem.run_pure, UInt32.toNat_sub]; congr 2; rw [show IntKind.u32.wrap ((x.toNat : Int) - y.toNat) = ((x.toNat : Int) - y.toNat) % 4294967296 by simp [IntKind.wrap, IntKind.bits, IntKind.signed]]; omega
  · rw [binOp_mul]; simp only [Op.intArith, Sem.run_pure]; rw [show (x.toNat : Int) * y.toNat = ((x.toNat * y.toNat : Nat) : Int) by simp, wrap_u32_nat, UInt32.toNat_mul]
  · rw [binOp_and, intBits_and, bits_and_u32]; rfl
  · rw [binOp_or, intBits_or, bits_or_u32]; rfl
  · rw [binOp_xor, intBits_xor, bits_xor_u32]; rfl
  · rw [binOp_eql]; simp only [Sem.run_pure]; congr 2; rw [Bool.eq_iff_iff]; simp [← UInt32.toNat_inj]; omega
  · rw [binOp_neq]; simp only [Sem.run_pure]; congr 2; rw [Bool.eq_iff_iff]; simp [← UInt32.toNat_inj]; omega

theorem run_u8Op {P : Program} {op : BinOp} {x y : UInt8} {c : Cell} (β : Nat → Pl) (h : u8Op op x y = some c) (t : TypeId) (w : World) :
    (binOp op t (.int .u8 (x.toNat : Int)) (.int .u8 (y.toNat : Int))).run P w = .ok (gc β c) w := by
  have ex := x.toNat_lt
  have ey := y.toNat_lt
  cases op <;> simp only [u8Op, Option.some.injEq, reduceCtorEq] at h <;> subst h <;> simp only [gc]
  · rw [binOp_add]; simp only [Op.intArith, Sem.run_pure]; rw [show (x.toNat : Int) + y.toNat = ((x.toNat + y.toNat : Nat) : Int) by omega, wrap_u8_nat, UInt8.toNat_add]
  · rw [binOp_sub]; simp only [Op.intArith, Sem.run_pure, UInt8.toNat_sub]; congr 2; rw [show IntKind.u8.wrap ((x.toNat : Int) - y.toNat) = ((x.toNat : Int) - y.toNat) % 256 by simp [IntKind.wrap, IntKind.bits, IntKind.signed]]; omega
  · rw [binOp_and, intBits_and, bits_and_u8]; rfl
  · rw [binOp_or, intBits_or, bits_or_u8]; rfl
  · rw [binOp_xor, intBits_xor, bits_xor_u8]; rfl
  · rw [binOp_andNot, intBits_andNot, bits_andNot_u8]; rfl
  · rw [binOp_eql]; simp only [Sem.run_pure]; congr 2; rw [Bool.eq_iff_iff]; simp [← UInt8.toNat_inj]; omega
  · rw [binOp_neq]; simp only [Sem.run_pure]; congr 2; rw [Bool.eq_iff_iff]; simp [← UInt8.toNat_inj]; omega
  · rw [binOp_lss]; simp only [Sem.run_pure]; congr 2; rw [Bool.eq_iff_iff]; simp [UInt8.lt_iff_toNat_lt]
  · rw [binOp_leq]; simp only [Sem.run_pure]; congr 2; rw [Bool.eq_iff_iff]; simp [UInt8.le_iff_toNat_le]
  · rw [binOp_gtr]; simp only [Sem.run_pure]; congr 2; rw [Bool.eq_iff_iff]; simp [UInt8.lt_iff_toNat_lt]
  · rw [binOp_geq]; simp only [Sem.run_pure]; congr 2; rw [Bool.eq_iff_iff]; simp [UInt8.le_iff_toNat_le]

/-! ## shifts -/

def shrU (x : UInt64) (n : Int) : UInt64 := UInt64.ofNat (x.toNat / 2 ^ (min n.toNat 64))
def shlU (x : UInt64) (n : Int) : UInt64 := UInt64.ofNat (x.toNat * 2 ^ (min n.toNat 64))
def shrW (x : UInt32) (n : Int) : UInt32 := UInt32.ofNat (x.toNat / 2 ^ (min n.toNat 32))
def shlW (x : UInt32) (n : Int) : UInt32 := UInt32.ofNat (x.toNat * 2 ^ (min n.toNat 32))
def shrB (x : UInt8) (n : Int) : UInt8 := UInt8.ofNat (x.toNat / 2 ^ (min n.toNat 8))
def shlB (x : UInt8) (n : Int) : UInt8 := UInt8.ofNat (x.toNat * 2 ^ (min n.toNat 8))
/-- Any kind. -/
def shrI (k : IntKind) (x n : Int) : Int := x / 2 ^ (min n.toNat k.bits)
def shlI (k : IntKind) (x n : Int) : Int := k.wrap (x * 2 ^ (min n.toNat k.bits))

theorem fdiv_pow (x : Int) (n : Nat) : x.fdiv (2 ^ n) = x / 2 ^ n := by
  rw [Int.fdiv_eq_ediv_of_nonneg]
  exact Int.le_of_lt (by exact_mod_cast Nat.pow_pos (by omega : 0 < 2))

theorem run_shrI {P : Program} {k yk : IntKind} {x n : Int} (h : 0 ≤ n) (t : TypeId) (w : World) : (binOp .shr t (.int k x) (.int yk n)).run P w = .ok (.int k (shrI k x n)) w := by
  rw [binOp_shr]
  simp only [Op.shift, if_neg (Int.not_lt.2 h), Sem.run_pure, fdiv_pow, shrI]
theorem run_shlI {P : Program} {k yk : IntKind} {x n : Int} (h : 0 ≤ n) (t : TypeId) (w : World) : (binOp .shl t (.int k x) (.int yk n)).run P w = .ok (.int k (shlI k x n)) w := by
  rw [binOp_shl]
  simp only [Op.shift, if_neg (Int.not_lt.2 h), Sem.run_pure, shlI]

theorem shrI_u64 (x : UInt64) (n : Int) : shrI .u64 (x.toNat : Int) n = ((shrU x n).toNat : Int) := by
  have := x.toNat_lt
  have h2 : x.toNat / 2 ^ (min n.toNat 64) ≤ x.toNat := Nat.div_le_self _ _
  simp only [shrI, shrU, UInt64.toNat_ofNat', IntKind.bits]
  rw [Nat.mod_eq_of_lt (by omega)]
  simp
theorem shlI_u64 (x : UInt64) (n : Int) : shlI .u64 (x.toNat : Int) n = ((shlU x n).toNat : Int) := by
  simp only [shlI, shlU, UInt64.toNat_ofNat', IntKind.bits]
  rw [show (x.toNat : Int) * 2 ^ (min n.toNat 64) = ((x.toNat * 2 ^ (min n.toNat 64) : Nat) : Int) by simp, wrap_u64_nat]
theorem shrI_u32 (x : UInt32) (n : Int) : shrI .u32 (x.toNat : Int) n = ((shrW x n).toNat : Int) := by
  have := x.toNat_lt
  have h2 : x.toNat / 2 ^ (min n.toNat 32) ≤ x.toNat := Nat.div_le_self _ _
  simp only [shrI, shrW, UInt32.toNat_ofNat', IntKind.bits]
  rw [Nat.mod_eq_of_lt (by omega)]
  simp
theorem shlI_u32 (x : UInt32) (n : Int) : shlI .u32 (x.toNat : Int) n = ((shlW x n).toNat : Int) := by
  simp only [shlI, shlW, UInt32.toNat_ofNat', IntKind.bits]
  rw [show (x.toNat : Int) * 2 ^ (min n.toNat 32) = ((x.toNat * 2 ^ (min n.toNat 32) : Nat) : Int) by simp, wrap_u32_nat]
theorem shrI_u8 (x : UInt8) (n : Int) : shrI .u8 (x.toNat : Int) n = ((shrB x n).toNat : Int) := by
  have := x.toNat_lt
  have h2 : x.toNat / 2 ^ (min n.toNat 8) ≤ x.toNat := Nat.div_le_self _ _
  simp only [shrI, shrB, UInt8.toNat_ofNat', IntKind.bits]
  rw [Nat.mod_eq_of_lt (by omega)]
  simp
theorem shlI_u8 (x : UInt8) (n : Int) : shlI .u8 (x.toNat : Int) n = ((shlB x n).toNat : Int) := by
  simp only [shlI, shlB, UInt8.toNat_ofNat', IntKind.bits]
  rw [show (x.toNat : Int) * 2 ^ (min n.toNat 8) = ((x.toNat * 2 ^ (min n.toNat 8) : Nat) : Int) by simp, wrap_u8_nat]

/-- A condition: none, or one. -/
inductive Pr where
  | t
  | p (x : Prop)

def Pr.holds : Pr → Prop
  | .t => True
  | .p x => x

def Pr.and (a b : Pr) : Pr :=
  match a with
  | .t => b
  | .p x => match b with
    | .t => .p x
    | .p y => .p (x ∧ y)

theorem Pr.and_holds {a b : Pr} (h : (a.and b).holds) : a.holds ∧ b.holds := by
  cases a with
  | t => exact ⟨trivial, h⟩
  | p x => cases b with
    | t => exact ⟨h, trivial⟩
    | p y => exact h

/-- What is told with a condition under which it holds. -/
structure Cond (α : Type) where
  pre : Pr
  val : α

/-- When is a count not below 0? -/
def cntPre (b : Cell) : Option Pr :=
  match b with
  | .lit _ m => match decide (0 ≤ m) with
    | true => some .t
    | false => none
  | .u64 _ => some .t
  | .bit _ => some .t
  | .u8 _ => some .t
  | .u32 _ => some .t
  | .int _ n => some (.p (0 ≤ n))
  | _ => none

theorem cntPre_spec {b : Cell} {p : Pr} {k : IntKind} {n : Int} (h : cntPre b = some p) (hp : p.holds) (hb : toI b = some (k, n)) : 0 ≤ n := by
  cases b <;> simp [toI] at hb <;> obtain ⟨rfl, rfl⟩ := hb <;> simp only [cntPre] at h
  · split at h
    · rename_i h0; simpa using h0
    · cases h
  · omega
  · omega
  · omega
  · omega
  · cases h; exact hp

/-- A shift. -/
def shiftC (right : Bool) (a b : Cell) : Option (Cond Cell) :=
  match toI b, cntPre b with
  | some (_, n), some p =>
    match a with
    | .lit k x => match b with
      | .lit _ _ => some ⟨p, .lit k (match right with | true => shrI k x n | false => shlI k x n)⟩
      | _ => some ⟨p, .int k (match right with | true => shrI k x n | false => shlI k x n)⟩
    | .u64 x => some ⟨p, .u64 (match right with | true => shrU x n | false => shlU x n)⟩
    | .u32 x => some ⟨p, .u32 (match right with | true => shrW x n | false => shlW x n)⟩
    | .u8 x => some ⟨p, .u8 (match right with | true => shrB x n | false => shlB x n)⟩
    | .bit x => some ⟨p, .u64 (match right with | true => shrU (b2u x) n | false => shlU (b2u x) n)⟩
    | .int k x => some ⟨p, .int k (match right with | true => shrI k x n | false => shlI k x n)⟩
    | _ => none
  | _, _ => none

theorem run_shiftC {P : Program} {right : Bool} {a b : Cell} {r : Cond Cell} (β : Nat → Pl) (h : shiftC right a b = some r) (hp : r.pre.holds) (t : TypeId) (w : World) :
    (binOp (if right then .shr else .shl) t (gc β a) (gc β b)).run P w = .ok (gc β r.val) w := by
  unfold shiftC at h
  split at h
  · rename_i k' n p hb hc
    have eb := toI_gc β hb
    have key : ∀ (k : IntKind) (x : Int), p.holds → (binOp (if right then .shr else .shl) t (.int k x) (gc β b)).run P w = .ok (.int k (if right then shrI k x n else shlI k x n)) w := by
      intro k x hn
      have hn := cntPre_spec hc hn hb
      rw [eb]
      cases right
      · exact run_shlI hn t w
      · exact run_shrI hn t w
    cases a with
    | u64 x => simp only [Option.some.injEq] at h; subst h; have := key .u64 (x.toNat : Int) hp; simp only [gc] at this ⊢; rw [this]; cases right <;> simp [shrI_u64, shlI_u64]
    | u32 x => simp only [Option.some.injEq] at h; subst h; have := key .u32 (x.toNat : Int) hp; simp only [gc] at this ⊢; rw [this]; cases right <;> simp [shrI_u32, shlI_u32]
    | u8 x => simp only [Option.some.injEq] at h; subst h; have := key .u8 (x.toNat : Int) hp; simp only [gc] at this ⊢; rw [this]; cases right <;> simp [shrI_u8, shlI_u8]
    | bit x => simp only [Option.some.injEq] at h; subst h; have := key .u64 ((b2u x).toNat : Int) hp; simp only [gc] at this ⊢; rw [this]; cases right <;> simp [shrI_u64, shlI_u64]
    | int k x => simp only [Option.some.injEq] at h; subst h; have := key k x hp; simp only [gc] at this ⊢; rw [this]; cases right <;> rfl
    | lit k x =>
      cases b with
      | lit k2 m => simp only [Option.some.injEq] at h; subst h; have := key k x hp; simp only [gc] at this ⊢; rw [this]; cases right <;> rfl
      | _ => simp only [Option.some.injEq] at h; subst h; have := key k x hp; simp only [gc] at this ⊢; rw [this]; cases right <;> rfl
    | _ => simp at h
  · cases h

end Go.Proofs.Ytfkmooldindfjaa
