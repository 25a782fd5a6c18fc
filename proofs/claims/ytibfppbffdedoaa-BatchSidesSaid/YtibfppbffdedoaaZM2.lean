/- Texts of the proof, joined. -/
import Derived.WalkKit
import Derived.WalkSpells
import Derived.WalkLawsBesides
import Derived.Test.YtibfppbffdedoaaZM1
set_option linter.unusedSectionVars false
set_option linter.unusedSimpArgs false
set_option linter.unusedVariables false
namespace Go.Proofs.Ytibfppbffdedoaa
open Go.RowKit
inductive RC where
 | kn (n:Nat)
 | of (k:Nat)
inductive Cell where
 | lit (k:IntKind) (n:Int)
 | u64 (x:UInt64)
 | bit (b:Bool)
 | u8 (x:UInt8)
 | u32 (x:UInt32)
 | int (k:IntKind) (n:Int)
 | tt | ff
 | bool (b:Bool)
 | ptr (id off:Nat)
 | nilp
 | slc (id off len sz:Nat) (rc:RC) (kn:Bool)
 | nils
 | fn (f:Nat)
 | str (s:List UInt8)
 | res (x:UInt64) (m c:Nat) (h:x.toNat % m=c)
 | pte (id j sz i ssz r:Nat)
 | sle (id j sz r len cap:Nat)
 | oth (id:Nat)
 | clo (f id off:Nat)
inductive AV1 where
 | c (x:Cell)
 | agg (xs:List Cell)
inductive AV where
 | one (v:AV1)
 | tup (vs:List AV1)
structure Pl where
 base:Option Addr
 cap:Nat
 oth:Option (Addr × Nat × Nat)
def b2u (b:Bool):UInt64:=match b with | true=>1 | false=>0
def RC.val (p:Pl):RC->Nat
 | .kn n=>n
 | .of k=>p.cap-k
def gc (β:Nat->Pl):Cell->Value
 | .lit k n => .int k n
 | .u64 x => .int .u64 (x.toNat:Int)
 | .bit b => .int .u64 ((b2u b).toNat:Int)
 | .u8 x => .int .u8 (x.toNat:Int)
 | .u32 x => .int .u32 (x.toNat:Int)
 | .int k n => .int k n
 | .tt => .bool true
 | .ff => .bool false
 | .bool b => .bool b
 | .ptr id off => .pointer ((β id).base.map (·.add off))
 | .nilp => .pointer none
 | .slc id off len _ rc _=>match (β id).base with
  | none => .slice none 0 0
  | some a => .slice (some (a.add off)) len (rc.val (β id))
 | .nils => .slice none 0 0
 | .fn f => .func (.func f) #[] #[]
 | .str s => .string ⟨s.toArray⟩
 | .res x _ _ _ => .int .u64 (x.toNat:Int)
 | .pte id j sz i ssz r => .pointer ((β id).base.map (·.add (j*sz+(i*ssz+r))))
 | .sle id j sz r len cap=>match (β id).base with
  | none => .slice none 0 0
  | some a => .slice (some (a.add (j*sz+r))) len cap
 | .oth id=>match (β id).oth with
  | none => .slice none 0 0
  | some (a,l,c) => .slice (some a) l c
 | .clo f id off => .func (.func f) #[] #[.pointer ((β id).base.map (·.add off))]
def g1 (β:Nat->Pl):AV1->Value
 | .c x=>gc β x
 | .agg xs => .agg (xs.map (gc β)).toArray
def gv (β:Nat->Pl):AV->Value
 | .one v=>g1 β v
 | .tup vs => .tuple (vs.map (g1 β)).toArray
def AV.undef:AV := .tup []
def Cell.idOf:Cell->Option Nat
 | .ptr id _=>some id
 | .slc id _ _ _ _ _=>some id
 | .pte id _ _ _ _ _=>some id
 | .sle id _ _ _ _ _=>some id
 | .oth id=>some id
 | .clo _ id _=>some id
 | _=>none
theorem bX {β β':Nat->Pl} {c:Cell} (h : ∀ i,c.idOf=some i->β' i=β i):gc β' c=gc β c:=by
 cases c <;> simp [gc,Cell.idOf] at * <;> simp [h]
theorem Qe (β:Nat->Pl) (c:Cell):(gc β c).oneCell'=true:=by
 cases c <;> try rfl
 case oth id=>cases h:(β id).oth <;> simp [gc,h,Value.oneCell']
 all_goals rename_i id _ _ _ _ _
 all_goals cases h:(β id).base <;> simp [gc,h,Value.oneCell']
theorem Jf (β:Nat->Pl) (c:Cell):(gc β c).cells = #[gc β c]:=by
 cases c <;> try rfl
 case oth id=>cases h:(β id).oth <;> simp [gc,h,Value.cells]
 all_goals rename_i id _ _ _ _ _
 all_goals cases h:(β id).base <;> simp [gc,h,Value.cells]
def toU (c:Cell):Option UInt64 :=
 match c with
 | .u64 x=>some x
 | .bit b=>some (b2u b)
 | .lit .u64 n=>match decide (0<=n),decide (n<18446744073709551616) with
  | true,true=>some (UInt64.ofNat n.toNat)
  | _,_=>none
 | _=>none
theorem gZ {c:Cell} {x:UInt64} (β:Nat->Pl) (h:toU c=some x):gc β c = .int .u64 (x.toNat:Int):=by
 unfold toU at h
 split at h
 ·cases h;rfl
 ·cases h;rfl
 ·rename_i n
  split at h
  ·rename_i h0 h1
   cases h
   simp only [decide_eq_true_eq] at h0 h1
   simp only [gc,UInt64.toNat_ofNat']
   congr 1
   omega
  ·cases h
 ·cases h
def toB (c:Cell):Option UInt8 :=
 match c with
 | .u8 x=>some x
 | .lit .u8 n=>match decide (0<=n),decide (n<256) with
  | true,true=>some (UInt8.ofNat n.toNat)
  | _,_=>none
 | _=>none
theorem mq {c:Cell} {x:UInt8} (β:Nat->Pl) (h:toB c=some x):gc β c = .int .u8 (x.toNat:Int):=by
 unfold toB at h
 split at h
 ·cases h;rfl
 ·rename_i n
  split at h
  ·rename_i h0 h1
   cases h
   simp only [decide_eq_true_eq] at h0 h1
   simp only [gc,UInt8.toNat_ofNat']
   congr 1
   omega
  ·cases h
 ·cases h
def toW (c:Cell):Option UInt32 :=
 match c with
 | .u32 x=>some x
 | .lit .u32 n=>match decide (0<=n),decide (n<4294967296) with
  | true,true=>some (UInt32.ofNat n.toNat)
  | _,_=>none
 | _=>none
theorem BY {c:Cell} {x:UInt32} (β:Nat->Pl) (h:toW c=some x):gc β c = .int .u32 (x.toNat:Int):=by
 unfold toW at h
 split at h
 ·cases h;rfl
 ·rename_i n
  split at h
  ·rename_i h0 h1
   cases h
   simp only [decide_eq_true_eq] at h0 h1
   simp only [gc,UInt32.toNat_ofNat']
   congr 1
   omega
  ·cases h
 ·cases h
def toI (c:Cell):Option (IntKind × Int) :=
 match c with
 | .lit k n=>some (k,n)
 | .int k n=>some (k,n)
 | .u64 x=>some (.u64,(x.toNat:Int))
 | .bit b=>some (.u64,((b2u b).toNat:Int))
 | .u8 x=>some (.u8,(x.toNat:Int))
 | .u32 x=>some (.u32,(x.toNat:Int))
 | _=>none
theorem cR {c:Cell} {k:IntKind} {n:Int} (β:Nat->Pl) (h:toI c=some (k,n)):gc β c = .int k n:=by
 unfold toI at h
 split at h <;> first | (cases h;done) | (simp only [Option.some.injEq,Prod.mk.injEq] at h;obtain ⟨rfl,rfl⟩:=h;rfl)
def lj (b:Bool):Cell:=match b with | true => .tt | false => .ff
theorem iv (β:Nat->Pl) (b:Bool):gc β (lj b) = .bool b:=by cases b <;> rfl
def iz (c:Cell):Option Bool :=
 match c with
 | .tt=>some true
 | .ff=>some false
 | .bool b=>some b
 | _=>none
theorem cK {c:Cell} {b:Bool} (β:Nat->Pl) (h:iz c=some b):gc β c = .bool b:=by
 cases c <;> simp [iz] at h <;> simp [gc,h]
def Gy (op:BinOp) (k:IntKind) (x y:Int):Option (Int ⊕ Bool) :=
 match op with
 | .add=>some (.inl (k.wrap (x+y)))
 | .sub=>some (.inl (k.wrap (x-y)))
 | .mul=>some (.inl (k.wrap (x*y)))
 | .quo=>some (.inl (k.wrap (x.tdiv y)))
 | .rem=>some (.inl (x.tmod y))
 | .and=>some (.inl (bits .and k x y))
 | .or=>some (.inl (bits .or k x y))
 | .xor=>some (.inl (bits .xor k x y))
 | .andNot=>some (.inl (bits .andNot k x y))
 | .eql=>some (.inr (x==y))
 | .neq=>some (.inr (x != y))
 | .lss=>some (.inr (decide (x<y)))
 | .leq=>some (.inr (decide (x<=y)))
 | .gtr=>some (.inr (decide (x > y)))
 | .geq=>some (.inr (decide (x >= y)))
 | _=>none
def Gx (op:BinOp):Bool:=match op with | .quo | .rem=>true | _=>false
def Ae (k:IntKind):Int ⊕ Bool->Value
 | .inl n => .int k n
 | .inr b => .bool b
theorem cL {P:Program} {op:BinOp} {k:IntKind} {x y:Int} {r:Int ⊕ Bool} (h:Gy op k x y=some r) (hd:Gx op=true->y ≠ 0) (t:TypeId) (w:World) :
  (binOp op t (.int k x) (.int k y)).run P w = .ok (Ae k r) w:=by
 cases op <;> simp [Gy] at h <;> subst h <;> simp [binOp,Op.intArith,Op.intDiv,Op.intCmp,Ae,Gx] at * <;> simp_all [intBits_and,intBits_or,intBits_xor,intBits_andNot]
def z0 (op:BinOp) (x y:UInt64):Option Cell :=
 match op with
 | .add=>some (.u64 (x+y))
 | .sub=>some (.u64 (x-y))
 | .mul=>some (.u64 (x*y))
 | .and=>some (.u64 (x &&& y))
 | .or=>some (.u64 (x ||| y))
 | .xor=>some (.u64 (x ^^^ y))
 | .eql=>some (.bool (x==y))
 | .neq=>some (.bool (x != y))
 | .lss=>some (.bool (decide (x<y)))
 | .leq=>some (.bool (decide (x<=y)))
 | .gtr=>some (.bool (decide (y<x)))
 | .geq=>some (.bool (decide (y<=x)))
 | _=>none
def z4 (op:BinOp) (x y:UInt32):Option Cell :=
 match op with
 | .add=>some (.u32 (x+y))
 | .sub=>some (.u32 (x-y))
 | .mul=>some (.u32 (x*y))
 | .and=>some (.u32 (x &&& y))
 | .or=>some (.u32 (x ||| y))
 | .xor=>some (.u32 (x ^^^ y))
 | .eql=>some (.bool (x==y))
 | .neq=>some (.bool (x != y))
 | _=>none
def LO (op:BinOp) (x y:UInt8):Option Cell :=
 match op with
 | .add=>some (.u8 (x+y))
 | .sub=>some (.u8 (x-y))
 | .and=>some (.u8 (x &&& y))
 | .or=>some (.u8 (x ||| y))
 | .xor=>some (.u8 (x ^^^ y))
 | .andNot=>some (.u8 (x &&& ~~~ y))
 | .eql=>some (.bool (x==y))
 | .neq=>some (.bool (x != y))
 | .lss=>some (.bool (decide (x<y)))
 | .leq=>some (.bool (decide (x<=y)))
 | .gtr=>some (.bool (decide (y<x)))
 | .geq=>some (.bool (decide (y<=x)))
 | _=>none
theorem bL (n:Nat):IntKind.u64.wrap (n:Int)=((n % 18446744073709551616:Nat):Int):=by
 rw [IntKind.wrap_u64];omega
theorem cG (n:Nat):IntKind.u32.wrap (n:Int)=((n % 4294967296:Nat):Int):=by
 simp [IntKind.wrap,IntKind.bits,IntKind.signed]
theorem ct (n:Nat):IntKind.u8.wrap (n:Int)=((n % 256:Nat):Int):=by
 simp [IntKind.wrap,IntKind.bits,IntKind.signed]
theorem aP (n w:Nat):BitVec.ofInt w (n:Int)=BitVec.ofNat w n:=by
 apply BitVec.eq_of_toNat_eq;simp
theorem vh (x y:UInt64):bits .and .u64 (x.toNat:Int) (y.toNat:Int)=((x &&& y).toNat:Int):=by
 have e:BitVec.ofNat 64 x.toNat &&& BitVec.ofNat 64 y.toNat=(x &&& y).toBitVec:=by simp
 show IntKind.u64.wrap ((BitVec.ofInt 64 (x.toNat:Int) &&& BitVec.ofInt 64 (y.toNat:Int)).toNat:Int)=_
 rw [aP,aP,e,bL]
 have:=(x &&& y).toNat_lt
 rw [UInt64.toNat_toBitVec];omega
theorem xY (x y:UInt64):bits .or .u64 (x.toNat:Int) (y.toNat:Int)=((x ||| y).toNat:Int):=by
 have e:BitVec.ofNat 64 x.toNat ||| BitVec.ofNat 64 y.toNat=(x ||| y).toBitVec:=by simp
 show IntKind.u64.wrap ((BitVec.ofInt 64 (x.toNat:Int) ||| BitVec.ofInt 64 (y.toNat:Int)).toNat:Int)=_
 rw [aP,aP,e,bL]
 have:=(x ||| y).toNat_lt
 rw [UInt64.toNat_toBitVec];omega
theorem ml (x y:UInt64):bits .xor .u64 (x.toNat:Int) (y.toNat:Int)=((x ^^^ y).toNat:Int):=by
 have e:BitVec.ofNat 64 x.toNat ^^^ BitVec.ofNat 64 y.toNat=(x ^^^ y).toBitVec:=by simp
 show IntKind.u64.wrap ((BitVec.ofInt 64 (x.toNat:Int) ^^^ BitVec.ofInt 64 (y.toNat:Int)).toNat:Int)=_
 rw [aP,aP,e,bL]
 have:=(x ^^^ y).toNat_lt
 rw [UInt64.toNat_toBitVec];omega
theorem vi (x y:UInt32):bits .and .u32 (x.toNat:Int) (y.toNat:Int)=((x &&& y).toNat:Int):=by
 have e:BitVec.ofNat 32 x.toNat &&& BitVec.ofNat 32 y.toNat=(x &&& y).toBitVec:=by simp
 show IntKind.u32.wrap ((BitVec.ofInt 32 (x.toNat:Int) &&& BitVec.ofInt 32 (y.toNat:Int)).toNat:Int)=_
 rw [aP,aP,e,cG]
 have:=(x &&& y).toNat_lt
 rw [UInt32.toNat_toBitVec];omega
theorem xZ (x y:UInt32):bits .or .u32 (x.toNat:Int) (y.toNat:Int)=((x ||| y).toNat:Int):=by
 have e:BitVec.ofNat 32 x.toNat ||| BitVec.ofNat 32 y.toNat=(x ||| y).toBitVec:=by simp
 show IntKind.u32.wrap ((BitVec.ofInt 32 (x.toNat:Int) ||| BitVec.ofInt 32 (y.toNat:Int)).toNat:Int)=_
 rw [aP,aP,e,cG]
 have:=(x ||| y).toNat_lt
 rw [UInt32.toNat_toBitVec];omega
theorem mm (x y:UInt32):bits .xor .u32 (x.toNat:Int) (y.toNat:Int)=((x ^^^ y).toNat:Int):=by
 have e:BitVec.ofNat 32 x.toNat ^^^ BitVec.ofNat 32 y.toNat=(x ^^^ y).toBitVec:=by simp
 show IntKind.u32.wrap ((BitVec.ofInt 32 (x.toNat:Int) ^^^ BitVec.ofInt 32 (y.toNat:Int)).toNat:Int)=_
 rw [aP,aP,e,cG]
 have:=(x ^^^ y).toNat_lt
 rw [UInt32.toNat_toBitVec];omega
theorem yb (x y:UInt8):bits .and .u8 (x.toNat:Int) (y.toNat:Int)=((x &&& y).toNat:Int):=by
 have e:BitVec.ofNat 8 x.toNat &&& BitVec.ofNat 8 y.toNat=(x &&& y).toBitVec:=by simp
 show IntKind.u8.wrap ((BitVec.ofInt 8 (x.toNat:Int) &&& BitVec.ofInt 8 (y.toNat:Int)).toNat:Int)=_
 rw [aP,aP,e,ct]
 have:=(x &&& y).toNat_lt
 rw [UInt8.toNat_toBitVec];omega
theorem BL (x y:UInt8):bits .or .u8 (x.toNat:Int) (y.toNat:Int)=((x ||| y).toNat:Int):=by
 have e:BitVec.ofNat 8 x.toNat ||| BitVec.ofNat 8 y.toNat=(x ||| y).toBitVec:=by simp
 show IntKind.u8.wrap ((BitVec.ofInt 8 (x.toNat:Int) ||| BitVec.ofInt 8 (y.toNat:Int)).toNat:Int)=_
 rw [aP,aP,e,ct]
 have:=(x ||| y).toNat_lt
 rw [UInt8.toNat_toBitVec];omega
theorem xX (x y:UInt8):bits .xor .u8 (x.toNat:Int) (y.toNat:Int)=((x ^^^ y).toNat:Int):=by
 have e:BitVec.ofNat 8 x.toNat ^^^ BitVec.ofNat 8 y.toNat=(x ^^^ y).toBitVec:=by simp
 show IntKind.u8.wrap ((BitVec.ofInt 8 (x.toNat:Int) ^^^ BitVec.ofInt 8 (y.toNat:Int)).toNat:Int)=_
 rw [aP,aP,e,ct]
 have:=(x ^^^ y).toNat_lt
 rw [UInt8.toNat_toBitVec];omega
theorem pB (x y:UInt8):bits .andNot .u8 (x.toNat:Int) (y.toNat:Int)=((x &&& ~~~ y).toNat:Int):=by
 have e:BitVec.ofNat 8 x.toNat &&& ~~~ (BitVec.ofNat 8 y.toNat)=(x &&& ~~~ y).toBitVec:=by simp
 show IntKind.u8.wrap ((BitVec.ofInt 8 (x.toNat:Int) &&& ~~~ (BitVec.ofInt 8 (y.toNat:Int))).toNat:Int)=_
 rw [aP,aP,e,ct]
 have:=(x &&& ~~~ y).toNat_lt
 rw [UInt8.toNat_toBitVec];omega
theorem Ef {P:Program} {op:BinOp} {x y:UInt64} {c:Cell} (β:Nat->Pl) (h:z0 op x y=some c) (t:TypeId) (w:World) :
  (binOp op t (.int .u64 (x.toNat:Int)) (.int .u64 (y.toNat:Int))).run P w = .ok (gc β c) w:=by
 have ex:=x.toNat_lt
 have ey:=y.toNat_lt
 cases op <;> simp only [z0,Option.some.injEq,reduceCtorEq] at h <;> subst h <;> simp only [gc]
 ·rw [binOp_add];simp only [Op.intArith,Sem.run_pure];rw [show (x.toNat:Int)+y.toNat=((x.toNat+y.toNat:Nat):Int) by omega,bL,UInt64.toNat_add]
 ·rw [binOp_sub];simp only [Op.intArith,Sem.run_pure,UInt64.toNat_sub,IntKind.wrap_u64];congr 2;omega
 ·rw [binOp_mul];simp only [Op.intArith,Sem.run_pure];rw [show (x.toNat:Int)*y.toNat=((x.toNat*y.toNat:Nat):Int) by simp,bL,UInt64.toNat_mul]
 ·rw [binOp_and,intBits_and,vh];rfl
 ·rw [binOp_or,intBits_or,xY];rfl
 ·rw [binOp_xor,intBits_xor,ml];rfl
 ·rw [binOp_eql];simp only [Sem.run_pure];congr 2;rw [Bool.eq_iff_iff];simp [<- UInt64.toNat_inj];omega
 ·rw [binOp_neq];simp only [Sem.run_pure];congr 2;rw [Bool.eq_iff_iff];simp [<- UInt64.toNat_inj];omega
 ·rw [binOp_lss];simp only [Sem.run_pure];congr 2;rw [Bool.eq_iff_iff];simp [UInt64.lt_iff_toNat_lt]
 ·rw [binOp_leq];simp only [Sem.run_pure];congr 2;rw [Bool.eq_iff_iff];simp [UInt64.le_iff_toNat_le]
 ·rw [binOp_gtr];simp only [Sem.run_pure];congr 2;rw [Bool.eq_iff_iff];simp [UInt64.lt_iff_toNat_lt]
 ·rw [binOp_geq];simp only [Sem.run_pure];congr 2;rw [Bool.eq_iff_iff];simp [UInt64.le_iff_toNat_le]
theorem Eg {P:Program} {op:BinOp} {x y:UInt32} {c:Cell} (β:Nat->Pl) (h:z4 op x y=some c) (t:TypeId) (w:World) :
  (binOp op t (.int .u32 (x.toNat:Int)) (.int .u32 (y.toNat:Int))).run P w = .ok (gc β c) w:=by
 have ex:=x.toNat_lt
 have ey:=y.toNat_lt
 cases op <;> simp only [z4,Option.some.injEq,reduceCtorEq] at h <;> subst h <;> simp only [gc]
 ·rw [binOp_add];simp only [Op.intArith,Sem.run_pure];rw [show (x.toNat:Int)+y.toNat=((x.toNat+y.toNat:Nat):Int) by omega,cG,UInt32.toNat_add]
 ·rw [binOp_sub];simp only [Op.intArith,Sem.run_pure,UInt32.toNat_sub];congr 2;rw [show IntKind.u32.wrap ((x.toNat:Int)-y.toNat)=((x.toNat:Int)-y.toNat) % 4294967296 by simp [IntKind.wrap,IntKind.bits,IntKind.signed]];omega
 ·rw [binOp_mul];simp only [Op.intArith,Sem.run_pure];rw [show (x.toNat:Int)*y.toNat=((x.toNat*y.toNat:Nat):Int) by simp,cG,UInt32.toNat_mul]
 ·rw [binOp_and,intBits_and,vi];rfl
 ·rw [binOp_or,intBits_or,xZ];rfl
 ·rw [binOp_xor,intBits_xor,mm];rfl
 ·rw [binOp_eql];simp only [Sem.run_pure];congr 2;rw [Bool.eq_iff_iff];simp [<- UInt32.toNat_inj];omega
 ·rw [binOp_neq];simp only [Sem.run_pure];congr 2;rw [Bool.eq_iff_iff];simp [<- UInt32.toNat_inj];omega
theorem Hs {P:Program} {op:BinOp} {x y:UInt8} {c:Cell} (β:Nat->Pl) (h:LO op x y=some c) (t:TypeId) (w:World) :
  (binOp op t (.int .u8 (x.toNat:Int)) (.int .u8 (y.toNat:Int))).run P w = .ok (gc β c) w:=by
 have ex:=x.toNat_lt
 have ey:=y.toNat_lt
 cases op <;> simp only [LO,Option.some.injEq,reduceCtorEq] at h <;> subst h <;> simp only [gc]
 ·rw [binOp_add];simp only [Op.intArith,Sem.run_pure];rw [show (x.toNat:Int)+y.toNat=((x.toNat+y.toNat:Nat):Int) by omega,ct,UInt8.toNat_add]
 ·rw [binOp_sub];simp only [Op.intArith,Sem.run_pure,UInt8.toNat_sub];congr 2;rw [show IntKind.u8.wrap ((x.toNat:Int)-y.toNat)=((x.toNat:Int)-y.toNat) % 256 by simp [IntKind.wrap,IntKind.bits,IntKind.signed]];omega
 ·rw [binOp_and,intBits_and,yb];rfl
 ·rw [binOp_or,intBits_or,BL];rfl
 ·rw [binOp_xor,intBits_xor,xX];rfl
 ·rw [binOp_andNot,intBits_andNot,pB];rfl
 ·rw [binOp_eql];simp only [Sem.run_pure];congr 2;rw [Bool.eq_iff_iff];simp [<- UInt8.toNat_inj];omega
 ·rw [binOp_neq];simp only [Sem.run_pure];congr 2;rw [Bool.eq_iff_iff];simp [<- UInt8.toNat_inj];omega
 ·rw [binOp_lss];simp only [Sem.run_pure];congr 2;rw [Bool.eq_iff_iff];simp [UInt8.lt_iff_toNat_lt]
 ·rw [binOp_leq];simp only [Sem.run_pure];congr 2;rw [Bool.eq_iff_iff];simp [UInt8.le_iff_toNat_le]
 ·rw [binOp_gtr];simp only [Sem.run_pure];congr 2;rw [Bool.eq_iff_iff];simp [UInt8.lt_iff_toNat_lt]
 ·rw [binOp_geq];simp only [Sem.run_pure];congr 2;rw [Bool.eq_iff_iff];simp [UInt8.le_iff_toNat_le]
def fu (x:UInt64) (n:Int):UInt64:=UInt64.ofNat (x.toNat / 2 ^ (min n.toNat 64))
def Ap (x:UInt64) (n:Int):UInt64:=UInt64.ofNat (x.toNat*2 ^ (min n.toNat 64))
def QM (x:UInt32) (n:Int):UInt32:=UInt32.ofNat (x.toNat / 2 ^ (min n.toNat 32))
def QO (x:UInt32) (n:Int):UInt32:=UInt32.ofNat (x.toNat*2 ^ (min n.toNat 32))
def QN (x:UInt8) (n:Int):UInt8:=UInt8.ofNat (x.toNat / 2 ^ (min n.toNat 8))
def QQ (x:UInt8) (n:Int):UInt8:=UInt8.ofNat (x.toNat*2 ^ (min n.toNat 8))
def tV (k:IntKind) (x n:Int):Int:=x / 2 ^ (min n.toNat k.bits)
def tW (k:IntKind) (x n:Int):Int:=k.wrap (x*2 ^ (min n.toNat k.bits))
theorem Jp (x:Int) (n:Nat):x.fdiv (2 ^ n)=x / 2 ^ n:=by
 rw [Int.fdiv_eq_ediv_of_nonneg]
 exact Int.le_of_lt (by exact_mod_cast Nat.pow_pos (by omega:0<2))
theorem Ht {P:Program} {k yk:IntKind} {x n:Int} (h:0<=n) (t:TypeId) (w:World):(binOp .shr t (.int k x) (.int yk n)).run P w = .ok (.int k (tV k x n)) w:=by
 rw [binOp_shr]
 simp only [Op.shift,if_neg (Int.not_lt.2 h),Sem.run_pure,Jp,tV]
theorem Hu {P:Program} {k yk:IntKind} {x n:Int} (h:0<=n) (t:TypeId) (w:World):(binOp .shl t (.int k x) (.int yk n)).run P w = .ok (.int k (tW k x n)) w:=by
 rw [binOp_shl]
 simp only [Op.shift,if_neg (Int.not_lt.2 h),Sem.run_pure,tW]
theorem yA (x:UInt64) (n:Int):tV .u64 (x.toNat:Int) n=((fu x n).toNat:Int):=by
 have:=x.toNat_lt
 have h2:x.toNat / 2 ^ (min n.toNat 64)<=x.toNat:=Nat.div_le_self _ _
 simp only [tV,fu,UInt64.toNat_ofNat',IntKind.bits]
 rw [Nat.mod_eq_of_lt (by omega)]
 simp
theorem yC (x:UInt64) (n:Int):tW .u64 (x.toNat:Int) n=((Ap x n).toNat:Int):=by
 simp only [tW,Ap,UInt64.toNat_ofNat',IntKind.bits]
 rw [show (x.toNat:Int)*2 ^ (min n.toNat 64)=((x.toNat*2 ^ (min n.toNat 64):Nat):Int) by simp,bL]
theorem Hj (x:UInt32) (n:Int):tV .u32 (x.toNat:Int) n=((QM x n).toNat:Int):=by
 have:=x.toNat_lt
 have h2:x.toNat / 2 ^ (min n.toNat 32)<=x.toNat:=Nat.div_le_self _ _
 simp only [tV,QM,UInt32.toNat_ofNat',IntKind.bits]
 rw [Nat.mod_eq_of_lt (by omega)]
 simp
theorem Hk (x:UInt32) (n:Int):tW .u32 (x.toNat:Int) n=((QO x n).toNat:Int):=by
 simp only [tW,QO,UInt32.toNat_ofNat',IntKind.bits]
 rw [show (x.toNat:Int)*2 ^ (min n.toNat 32)=((x.toNat*2 ^ (min n.toNat 32):Nat):Int) by simp,cG]
theorem L8 (x:UInt8) (n:Int):tV .u8 (x.toNat:Int) n=((QN x n).toNat:Int):=by
 have:=x.toNat_lt
 have h2:x.toNat / 2 ^ (min n.toNat 8)<=x.toNat:=Nat.div_le_self _ _
 simp only [tV,QN,UInt8.toNat_ofNat',IntKind.bits]
 rw [Nat.mod_eq_of_lt (by omega)]
 simp
theorem L9 (x:UInt8) (n:Int):tW .u8 (x.toNat:Int) n=((QQ x n).toNat:Int):=by
 simp only [tW,QQ,UInt8.toNat_ofNat',IntKind.bits]
 rw [show (x.toNat:Int)*2 ^ (min n.toNat 8)=((x.toNat*2 ^ (min n.toNat 8):Nat):Int) by simp,ct]
inductive Pr where
 | t
 | p (x:Prop)
def Pr.holds:Pr->Prop
 | .t=>True
 | .p x=>x
def Pr.and (a b:Pr):Pr :=
 match a with
 | .t=>b
 | .p x=>match b with
  | .t => .p x
  | .p y => .p (x/\y)
theorem Pr.and_holds {a b:Pr} (h:(a.and b).holds):a.holds/\b.holds:=by
 cases a with
 | t=>exact ⟨trivial,h⟩
 | p x=>cases b with
  | t=>exact ⟨h,trivial⟩
  | p y=>exact h
structure Cond (α : Type) where
 pre:Pr
 val:α
def Cp (b:Cell):Option Pr :=
 match b with
 | .lit _ m=>match decide (0<=m) with
  | true=>some .t
  | false=>none
 | .u64 _=>some .t
 | .bit _=>some .t
 | .u8 _=>some .t
 | .u32 _=>some .t
 | .int _ n=>some (.p (0<=n))
 | _=>none
theorem xV {b:Cell} {p:Pr} {k:IntKind} {n:Int} (h:Cp b=some p) (hp:p.holds) (hb:toI b=some (k,n)):0<=n:=by
 cases b <;> simp [toI] at hb <;> obtain ⟨rfl,rfl⟩:=hb <;> simp only [Cp] at h
 ·split at h
  ·rename_i h0;simpa using h0
  ·cases h
 ·omega
 ·omega
 ·omega
 ·omega
 ·cases h;exact hp
def kW (right:Bool) (a b:Cell):Option (Cond Cell) :=
 match toI b,Cp b with
 | some (_,n),some p =>
  match a with
  | .lit k x=>match b with
   | .lit _ _=>some ⟨p,.lit k (match right with | true=>tV k x n | false=>tW k x n)⟩
   | _=>some ⟨p,.int k (match right with | true=>tV k x n | false=>tW k x n)⟩
  | .u64 x=>some ⟨p,.u64 (match right with | true=>fu x n | false=>Ap x n)⟩
  | .u32 x=>some ⟨p,.u32 (match right with | true=>QM x n | false=>QO x n)⟩
  | .u8 x=>some ⟨p,.u8 (match right with | true=>QN x n | false=>QQ x n)⟩
  | .bit x=>some ⟨p,.u64 (match right with | true=>fu (b2u x) n | false=>Ap (b2u x) n)⟩
  | .int k x=>some ⟨p,.int k (match right with | true=>tV k x n | false=>tW k x n)⟩
  | _=>none
 | _,_=>none
theorem qq {P:Program} {right:Bool} {a b:Cell} {r:Cond Cell} (β:Nat->Pl) (h:kW right a b=some r) (hp:r.pre.holds) (t:TypeId) (w:World) :
  (binOp (if right then .shr else .shl) t (gc β a) (gc β b)).run P w = .ok (gc β r.val) w:=by
 unfold kW at h
 split at h
 ·rename_i k' n p hb hc
  have eb:=cR β hb
  have key : ∀ (k:IntKind) (x:Int),p.holds->(binOp (if right then .shr else .shl) t (.int k x) (gc β b)).run P w = .ok (.int k (if right then tV k x n else tW k x n)) w:=by
   intro k x hn
   have hn:=xV hc hn hb
   rw [eb]
   cases right
   ·exact Hu hn t w
   ·exact Ht hn t w
  cases a with
  | u64 x=>simp only [Option.some.injEq] at h;subst h;have:=key .u64 (x.toNat:Int) hp;simp only [gc] at this ⊢;rw [this];cases right <;> simp [yA,yC]
  | u32 x=>simp only [Option.some.injEq] at h;subst h;have:=key .u32 (x.toNat:Int) hp;simp only [gc] at this ⊢;rw [this];cases right <;> simp [Hj,Hk]
  | u8 x=>simp only [Option.some.injEq] at h;subst h;have:=key .u8 (x.toNat:Int) hp;simp only [gc] at this ⊢;rw [this];cases right <;> simp [L8,L9]
  | bit x=>simp only [Option.some.injEq] at h;subst h;have:=key .u64 ((b2u x).toNat:Int) hp;simp only [gc] at this ⊢;rw [this];cases right <;> simp [yA,yC]
  | int k x=>simp only [Option.some.injEq] at h;subst h;have:=key k x hp;simp only [gc] at this ⊢;rw [this];cases right <;> rfl
  | lit k x =>
   cases b with
   | lit k2 m=>simp only [Option.some.injEq] at h;subst h;have:=key k x hp;simp only [gc] at this ⊢;rw [this];cases right <;> rfl
   | _=>simp only [Option.some.injEq] at h;subst h;have:=key k x hp;simp only [gc] at this ⊢;rw [this];cases right <;> rfl
  | _=>simp at h
 ·cases h
end Go.Proofs.Ytibfppbffdedoaa
namespace Go.Proofs.Ytibfppbffdedoaa
open Go.RowKit
def tc:IntKind->Nat
 | .i8=>0 | .i16=>1 | .i32=>2 | .i64=>3 | .u8=>4 | .u16=>5 | .u32=>6 | .u64=>7
theorem j4 {a b:IntKind} (h:(tc a==tc b)=true):a=b:=by
 cases a <;> cases b <;> simp [tc] at h <;> rfl
def lq (n:Int):Bool :=
 match n with
 | .ofNat 0=>true
 | .ofNat (_+1)=>false
 | .negSucc _=>false
theorem kH {n:Int} (h:lq n=false):n ≠ 0:=by
 intro e;subst e;simp [lq] at h
def JW (lit:Bool) (k:IntKind):Int ⊕ Bool->Cell
 | .inl n=>match lit with | true => .lit k n | false => .int k n
 | .inr b=>match lit with | true=>lj b | false => .bool b
theorem rp (β:Nat->Pl) (lit:Bool) (k:IntKind) (r:Int ⊕ Bool):gc β (JW lit k r)=Ae k r:=by
 cases r <;> cases lit <;> first | rfl | exact iv β _
def Gw (op:BinOp) (k:IntKind) (x y:Int):Option (Cond Cell) :=
 match Gx op && lq y with
 | true=>none
 | false=>match Gy op k x y with
  | some r=>some ⟨.t,JW true k r⟩
  | none=>none
def oV (op:BinOp) (a b:Cell):Option (Cond Cell) :=
 match toI a,toI b with
 | some (k,x),some (k',y) =>
  match tc k==tc k' with
  | false=>none
  | true =>
   match Gy op k x y with
   | some r=>match Gx op,b with
    | true,.lit _ _=>match lq y with
     | true=>none
     | false=>some ⟨.t,JW false k r⟩
    | true,_=>some ⟨.p (y ≠ 0),JW false k r⟩
    | false,_=>some ⟨.t,JW false k r⟩
   | none=>none
 | _,_=>none
def Lz (o:Option Cell):Option (Cond Cell):=match o with | some c=>some ⟨.t,c⟩ | none=>none
def sJ (op:BinOp) (x:UInt64) (b:Cell):Option Cell :=
 match b with
 | .lit .u64 n=>match lq n with
  | true=>none
  | false=>match op with
   | .quo=>some (.u64 (x / UInt64.ofNat n.toNat))
   | .rem=>some (.u64 (x % UInt64.ofNat n.toNat))
   | _=>none
 | _=>none
def zZ (op:BinOp) (x:UInt8) (b:Cell):Option Cell :=
 match b with
 | .lit .u8 n=>match lq n with
  | true=>none
  | false=>match op with
   | .quo=>some (.u8 (x / UInt8.ofNat n.toNat))
   | .rem=>some (.u8 (x % UInt8.ofNat n.toNat))
   | .mul=>some (.u8 (x*UInt8.ofNat n.toNat))
   | _=>none
 | _=>none
def tq (op:BinOp) (a b:Cell):Option (Cond Cell) :=
 match a with
 | .res _ m c _=>match op,b with
  | .rem,.lit .u64 (.ofNat (n+1))=>match lq (Int.ofNat (m % (n+1))) with
   | true=>some ⟨.t,.lit .u64 (Int.ofNat (c % (n+1)))⟩
   | false=>none
  | _,_=>none
 | a=>oV op a b
def tA (op:BinOp) (a b:Cell):Option (Cond Cell) :=
 match op with
 | .shl=>kW false a b
 | .shr=>kW true a b
 | _ =>
  match a,b with
  | .lit k x,.lit k' y=>match tc k==tc k' with
   | true=>Gw op k x y
   | false=>none
  | _,_ =>
   match toU a,toU b with
   | some x,some y=>match z0 op x y with
    | some c=>some ⟨.t,c⟩
    | none=>match sJ op x b with
     | some c=>some ⟨.t,c⟩
     | none=>oV op a b
   | _,_ =>
    match toB a,toB b with
    | some x,some y=>match LO op x y with
     | some c=>some ⟨.t,c⟩
     | none=>match zZ op x b with
      | some c=>some ⟨.t,c⟩
      | none=>oV op a b
    | _,_ =>
     match toW a,toW b with
     | some x,some y=>Lz (z4 op x y)
     | _,_=>tq op a b
theorem Ej {P:Program} {op:BinOp} {k:IntKind} {x y:Int} {r:Cond Cell} (β:Nat->Pl) (h:Gw op k x y=some r) (t:TypeId) (w:World) :
  (binOp op t (.int k x) (.int k y)).run P w = .ok (gc β r.val) w:=by
 unfold Gw at h
 split at h
 ·cases h
 ·rename_i hd
  split at h
  ·rename_i r' hr
   cases h
   rw [cL hr (fun e=>by rw [e] at hd;exact kH (by simpa using hd)),rp]
  ·cases h
theorem nU {P:Program} {op:BinOp} {a b:Cell} {r:Cond Cell} (β:Nat->Pl) (h:oV op a b=some r) (hp:r.pre.holds) (t:TypeId) (w:World) :
  (binOp op t (gc β a) (gc β b)).run P w = .ok (gc β r.val) w:=by
 unfold oV at h
 split at h
 ·rename_i k x k' y ha hb
  split at h
  ·cases h
  ·rename_i hk
   have hk:=j4 hk
   subst hk
   rw [cR β ha,cR β hb]
   split at h
   ·rename_i r' hr
    split at h
    ·split at h
     ·cases h
     ·rename_i hz
      cases h
      rw [cL hr (fun _=>kH hz),rp]
    ·cases h
     rw [cL hr (fun _=>hp),rp]
    ·rename_i hd
     cases h
     rw [cL hr (fun e=>by rw [hd] at e;cases e),rp]
   ·cases h
 ·cases h
theorem As {P:Program} {op:BinOp} {x y:UInt64} {b c:Cell} (β:Nat->Pl) (h:sJ op x b=some c) (hy:toU b=some y) (t:TypeId) (w:World) :
  (binOp op t (.int .u64 (x.toNat:Int)) (gc β b)).run P w = .ok (gc β c) w:=by
 unfold sJ at h
 split at h
 ·rename_i n
  split at h
  ·cases h
  ·rename_i hz
   have hz:=kH hz
   simp only [toU] at hy
   split at hy
   ·rename_i h0 h1
    simp only [decide_eq_true_eq] at h0 h1
    have hx:=x.toNat_lt
    have hn:(UInt64.ofNat n.toNat).toNat=n.toNat:=by rw [UInt64.toNat_ofNat'];omega
    obtain ⟨m,rfl⟩ : ∃ m:Nat,n=(m:Int):=⟨n.toNat,by omega⟩
    rw [Int.toNat_natCast] at hn h
    split at h
    ·cases h
     have e:=cL (P:=P) (op := .quo) (k := .u64) (x:=(x.toNat:Int)) (y:=(m:Int)) rfl (fun _=>hz) t w
     simp only [Ae] at e
     show (binOp .quo t (.int .u64 (x.toNat:Int)) (.int .u64 (m:Int))).run P w = .ok (.int .u64 ((x / UInt64.ofNat m).toNat:Int)) w
     rw [e,UInt64.toNat_div,hn,show ((x.toNat:Int).tdiv (m:Int))=((x.toNat / m:Nat):Int) from rfl,bL,Nat.mod_eq_of_lt (Nat.lt_of_le_of_lt (Nat.div_le_self _ _) hx)]
    ·cases h
     have e:=cL (P:=P) (op := .rem) (k := .u64) (x:=(x.toNat:Int)) (y:=(m:Int)) rfl (fun _=>hz) t w
     simp only [Ae] at e
     show (binOp .rem t (.int .u64 (x.toNat:Int)) (.int .u64 (m:Int))).run P w = .ok (.int .u64 ((x % UInt64.ofNat m).toNat:Int)) w
     rw [e,UInt64.toNat_mod,hn]
     rfl
    ·cases h
   ·cases hy
 ·cases h
theorem Ee {P:Program} {op:BinOp} {x y:UInt8} {b c:Cell} (β:Nat->Pl) (h:zZ op x b=some c) (hy:toB b=some y) (t:TypeId) (w:World) :
  (binOp op t (.int .u8 (x.toNat:Int)) (gc β b)).run P w = .ok (gc β c) w:=by
 unfold zZ at h
 split at h
 ·rename_i n
  split at h
  ·cases h
  ·rename_i hz
   have hz:=kH hz
   simp only [toB] at hy
   split at hy
   ·rename_i h0 h1
    simp only [decide_eq_true_eq] at h0 h1
    have hx:=x.toNat_lt
    have hn:(UInt8.ofNat n.toNat).toNat=n.toNat:=by rw [UInt8.toNat_ofNat'];omega
    obtain ⟨m,rfl⟩ : ∃ m:Nat,n=(m:Int):=⟨n.toNat,by omega⟩
    rw [Int.toNat_natCast] at hn h
    split at h
    ·cases h
     have e:=cL (P:=P) (op := .quo) (k := .u8) (x:=(x.toNat:Int)) (y:=(m:Int)) rfl (fun _=>hz) t w
     simp only [Ae] at e
     show (binOp .quo t (.int .u8 (x.toNat:Int)) (.int .u8 (m:Int))).run P w = .ok (.int .u8 ((x / UInt8.ofNat m).toNat:Int)) w
     rw [e,UInt8.toNat_div,hn,show ((x.toNat:Int).tdiv (m:Int))=((x.toNat / m:Nat):Int) from rfl,ct,Nat.mod_eq_of_lt (Nat.lt_of_le_of_lt (Nat.div_le_self _ _) hx)]
    ·cases h
     have e:=cL (P:=P) (op := .rem) (k := .u8) (x:=(x.toNat:Int)) (y:=(m:Int)) rfl (fun _=>hz) t w
     simp only [Ae] at e
     show (binOp .rem t (.int .u8 (x.toNat:Int)) (.int .u8 (m:Int))).run P w = .ok (.int .u8 ((x % UInt8.ofNat m).toNat:Int)) w
     rw [e,UInt8.toNat_mod,hn]
     rfl
    ·cases h
     have e:=cL (P:=P) (op := .mul) (k := .u8) (x:=(x.toNat:Int)) (y:=(m:Int)) rfl (fun _=>hz) t w
     simp only [Ae] at e
     show (binOp .mul t (.int .u8 (x.toNat:Int)) (.int .u8 (m:Int))).run P w = .ok (.int .u8 ((x*UInt8.ofNat m).toNat:Int)) w
     rw [e,UInt8.toNat_mul,hn,show ((x.toNat:Int)*(m:Int))=((x.toNat*m:Nat):Int) from rfl,ct]
    ·cases h
   ·cases hy
 ·cases h
theorem Eh {P:Program} {op:BinOp} {a b:Cell} {r:Cond Cell} (β:Nat->Pl) (h:tq op a b=some r) (hp:r.pre.holds) (t:TypeId) (w:World) :
  (binOp op t (gc β a) (gc β b)).run P w = .ok (gc β r.val) w:=by
 unfold tq at h
 split at h
 ·rename_i x m c hc
  split at h
  ·rename_i n
   split at h
   ·rename_i hz
    cases h
    have hz:m % (n+1)=0:=by
     generalize m % (n+1)=k at *
     cases k with
     | zero=>rfl
     | succ k=>simp [lq] at hz
    have hd:x.toNat % (n+1)=c % (n+1):=by rw [<- hc,Nat.mod_mod_of_dvd _ (Nat.dvd_of_mod_eq_zero hz)]
    have e:=cL (P:=P) (op := .rem) (k := .u64) (x:=(x.toNat:Int)) (y:=Int.ofNat (n+1)) rfl (fun _=>by intro e;cases e) t w
    simp only [Ae] at e
    show (binOp .rem t (.int .u64 (x.toNat:Int)) (.int .u64 (Int.ofNat (n+1)))).run P w = .ok (.int .u64 (Int.ofNat (c % (n+1)))) w
    rw [e,<- hd]
    rfl
   ·cases h
  ·cases h
 ·exact nU β h hp t w
theorem Ei {P:Program} {op:BinOp} {a b:Cell} {r:Cond Cell} (β:Nat->Pl) (h:tA op a b=some r) (hp:r.pre.holds) (t:TypeId) (w:World) :
  (binOp op t (gc β a) (gc β b)).run P w = .ok (gc β r.val) w:=by
 unfold tA at h
 split at h
 ·exact qq (right:=false) β h hp t w
 ·exact qq (right:=true) β h hp t w
 ·split at h
  ·split at h
   ·rename_i hk
    have hk:=j4 hk
    subst hk
    exact Ej β h t w
   ·cases h
  ·split at h
   ·rename_i x y hx hy
    split at h
    ·rename_i c hc
     cases h
     rw [gZ β hx,gZ β hy]
     exact Ef β hc t w
    ·split at h
     ·rename_i c hc
      cases h
      rw [gZ β hx]
      exact As β hc hy t w
     ·exact nU β h hp t w
   ·split at h
    ·rename_i x y hx hy
     split at h
     ·rename_i c hc
      cases h
      rw [mq β hx,mq β hy]
      exact Hs β hc t w
     ·split at h
      ·rename_i c hc
       cases h
       rw [mq β hx]
       exact Ee β hc hy t w
      ·exact nU β h hp t w
    ·split at h
     ·rename_i x y hx hy
      unfold Lz at h
      split at h
      ·rename_i c hc
       cases h
       rw [BY β hx,BY β hy]
       exact Eg β hc t w
      ·cases h
     ·exact Eh β h hp t w
def Lr (a b:Cell):Option Bool :=
 match toU a,toU b with
 | some x,some y=>some (x==y)
 | _,_=>match toI a,toI b with
  | some (k,x),some (k',y)=>match tc k==tc k' with
   | true=>some (x==y)
   | false=>none
  | _,_=>none
theorem LP (x y:UInt64):((x.toNat:Int)==(y.toNat:Int))=(x==y):=by
 rw [Bool.eq_iff_iff];simp [<- UInt64.toNat_inj];omega
theorem BD {a b:Cell} {r:Bool} (β:Nat->Pl) (h:Lr a b=some r) : ∃ k x y,gc β a = .int k x/\gc β b = .int k y/\r=(x==y):=by
 unfold Lr at h
 split at h
 ·rename_i x y hx hy
  cases h
  exact ⟨_,_,_,gZ β hx,gZ β hy,(LP x y).symm⟩
 ·split at h
  ·rename_i k x k' y hx hy
   split at h
   ·rename_i hk
    have hk:=j4 hk
    subst hk
    cases h
    exact ⟨_,_,_,cR β hx,cR β hy,rfl⟩
   ·cases h
  ·cases h
def wX (a b:Cell):Option Bool :=
 match iz a,iz b with
 | some x,some y=>some (x==y)
 | _,_=>none
def and? (a b:Option Bool):Option Bool :=
 match a,b with
 | some x,some y=>some (x && y)
 | _,_=>none
def GD (f:List Cell->List Cell->Option Bool) (s:Nat):Nat->List Cell->List Cell->Option Bool
 | 0,_,_=>some true
 | n+1,xs,ys=>and? (f (xs.take s) (ys.take s)) (GD f s n (xs.drop s) (ys.drop s))
def wW (f:TypeId->List Cell->List Cell->Option Bool) (size:TypeId->Nat) (xs ys:List Cell):List Field->Option Bool
 | []=>some true
 | fl :: fs => match fl.name == "_" with
  | true=>none
  | false=>and? (f fl.type ((xs.drop fl.offset).take (size fl.type)) ((ys.drop fl.offset).take (size fl.type))) (wW f size xs ys fs)
def te (P:Program):Nat->TypeId->List Cell->List Cell->Option Bool
 | 0,_,_,_=>none
 | d+1,t,xs,ys =>
  match P.info? t with
  | none=>none
  | some i =>
  match xs.length==i.size && ys.length==i.size with
  | false=>none
  | true =>
  match P.underlying t with
  | some (.int _)=>match xs,ys with
   | [a],[b]=>Lr a b
   | _,_=>none
  | some .bool=>match xs,ys with
   | [a],[b]=>wX a b
   | _,_=>none
  | some (.array n e)=>match (P.info? e).isSome with
   | true=>GD (te P d e) (P.cellsOf e) n xs ys
   | false=>none
  | some (.struct fs)=>match P.stoodInHeld t with
   | true=>none
   | false=>wW (te P d) P.cellsOf xs ys fs.toList
  | _=>none
def mo (P:Program) (t:TypeId):Option Bool :=
 match P.underlying t with
 | some (.struct _)=>some true
 | some (.array _ _)=>some true
 | some _=>some false
 | none=>none
def C0 (agg:Bool) (xs:List Cell):Option AV1 :=
 match agg with
 | true=>some (.agg xs)
 | false=>match xs with
  | [c]=>some (.c c)
  | _=>none
def eW (agg:Bool) (xs:List Value):Value :=
 match agg with
 | true => .agg xs.toArray
 | false=>xs.headD Go.undef
theorem dn {P:Program} {t:TypeId} {b:Bool} (h:mo P t=some b) (w:World):(isAgg t).run P w = .ok b w:=by
 unfold mo at h
 unfold isAgg
 rw [Sem.run_bind]
 cases hu:P.underlying t with
 | none=>rw [hu] at h;cases h
 | some d =>
  rw [run_underlying hu]
  rw [hu] at h
  simp only [Result.andThen_ok]
  cases d <;> simp at h <;> subst h <;> rfl
theorem aC {P:Program} {t:TypeId} {i:TypeInfo} (hi:P.info? t=some i) (w:World):(sizeOf t).run P w = .ok (P.cellsOf t) w:=by
 simp [sizeOf,typeInfo,hi,Program.cellsOf]
theorem jV {P:Program} {t:TypeId} {b:Bool} {i:TypeInfo} (h:mo P t=some b) (xs:List Value) (off:Nat) (hi:P.info? t=some i) (hn:b=false->P.cellsOf t=1)
  (hl:off+P.cellsOf t<=xs.length) (w:World):(part t xs.toArray off).run P w = .ok (eW b ((xs.drop off).take (P.cellsOf t))) w:=by
 unfold part
 rw [Sem.run_bind,dn h]
 simp only [Result.andThen_ok]
 cases b
 ·have hn:=hn rfl
  rw [hn] at hl ⊢
  have h1:off<xs.length:=by omega
  simp only [Bool.false_eq_true,if_false,eW]
  have e1:xs.toArray[off]? = some xs[off]:=by simp [h1]
  have e2:(xs.drop off).take 1 = [xs[off]]:=by
   rw [List.drop_eq_getElem_cons h1];rfl
  rw [e1,e2]
  rfl
 ·simp only [if_true,eW,Sem.run_bind,aC hi,Result.andThen_ok,Sem.run_pure]
  congr 2
  apply Array.ext'
  rw [Array.toList_extract]
  simp [List.extract,Nat.add_sub_cancel_left]
def lC (P:Program) (d:Nat) (e:TypeId) (s:Nat) (xs ys:Array Value):(n i:Nat)->Sem Bool
 | 0,_=>pure true
 | n+1,i=>do
  let a <- part e xs (i*s)
  let b <- part e ys (i*s)
  let r <- Op.equalIn d e a b
  if (!r)=true then pure false else lC P d e s xs ys n (i+1)
theorem mc {P:Program} (d n:Nat) (t e:TypeId) (i:TypeInfo) (xs ys:Array Value) (ht:P.underlying t=some (.array n e)) (hi:P.info? e=some i) (w:World) :
  (Op.equalIn (d+1) t (.agg xs) (.agg ys)).run P w=(lC P d e (P.cellsOf e) xs ys n 0).run P w:=by
 simp only [Op.equalIn,Sem.run_bind,run_underlying ht,Result.andThen_ok,aC hi]
 simp only [Std.Legacy.Range.forIn_eq_forIn_range',Std.Legacy.Range.size,Nat.sub_zero,Nat.add_one_sub_one,Nat.div_one]
 generalize P.cellsOf e=s
 clear ht hi
 generalize hk:0=k
 clear hk
 induction n generalizing k w with
 | zero=>simp [lC]
 | succ n ih =>
  simp only [List.range'_succ,List.forIn_cons,lC,Sem.run_bind]
  generalize (part e xs (k*s)).run P w=r1
  cases r1 with
  | ok a w1 =>
   simp only [Result.andThen_ok]
   generalize (part e ys (k*s)).run P w1=r2
   cases r2 with
   | ok b w2 =>
    simp only [Result.andThen_ok]
    generalize (Op.equalIn d e a b).run P w2=r3
    cases r3 with
    | ok r w3 =>
     cases r
     ·simp
     ·simp only [Result.andThen_ok,Bool.not_true,Bool.false_eq_true,if_false,Sem.run_bind,Sem.run_pure]
      exact ih w3 (k+1)
    | halt x w3=>simp [Result.andThen]
   | halt x w2=>simp [Result.andThen]
  | halt x w1=>simp [Result.andThen]
theorem and?_some {a b:Option Bool} {r:Bool} (h:and? a b=some r) : ∃ x y,a=some x/\b=some y/\r=(x && y):=by
 unfold and? at h
 split at h
 ·cases h;exact ⟨_,_,rfl,rfl,rfl⟩
 ·cases h
theorem dF (f:Cell->Value) (xs:List Cell) (a n:Nat):((xs.map f).drop a).take n=((xs.drop a).take n).map f:=by
 rw [<- List.map_drop,<- List.map_take]
theorem jb {P:Program} {d:Nat} {t:TypeId} {xs ys:List Cell} {r:Bool} (h:te P d t xs ys=some r) : ∃ i,P.info? t=some i/\xs.length=P.cellsOf t/\ys.length=P.cellsOf t:=by
 cases d with
 | zero=>simp [te] at h
 | succ d =>
  simp only [te] at h
  split at h
  ·cases h
  ·rename_i i hi
   split at h
   ·cases h
   ·rename_i hl
    simp at hl
    exact ⟨i,hi,by simp [Program.cellsOf,hi,hl.1],by simp [Program.cellsOf,hi,hl.2]⟩
theorem zx {P:Program} {d:Nat} {t:TypeId} {xs ys:List Cell} {r:Bool} (h:te P d t xs ys=some r) : ∃ b,mo P t=some b/\(b=false->P.cellsOf t=1):=by
 have hsz:=jb h
 cases d with
 | zero=>simp [te] at h
 | succ d =>
  obtain ⟨i,hi,hx,hy⟩:=hsz
  simp only [te,hi] at h
  split at h
  ·cases h
  ·split at h
   ·rename_i hu
    split at h
    ·refine ⟨false,by simp [mo,hu],fun _ => ?_⟩
     simp at hx;omega
    ·cases h
   ·rename_i hu
    split at h
    ·refine ⟨false,by simp [mo,hu],fun _ => ?_⟩
     simp at hx;omega
    ·cases h
   ·rename_i hu
    exact ⟨true,by simp [mo,hu],fun e=>by cases e⟩
   ·rename_i hu
    exact ⟨true,by simp [mo,hu],fun e=>by cases e⟩
   ·cases h
theorem Hv {P:Program} (β:Nat->Pl) : ∀ (d:Nat) (t:TypeId) (xs ys:List Cell) (r:Bool),te P d t xs ys=some r -> ∀ (D:Nat) (b:Bool),d<=D->mo P t=some b -> ∀ w,
  (Op.equalIn D t (eW b (xs.map (gc β))) (eW b (ys.map (gc β)))).run P w = .ok r w:=by
 intro d
 induction d with
 | zero=>intro t xs ys r h;simp [te] at h
 | succ d ih =>
  intro t xs ys r h D b hD hb w
  obtain ⟨D,rfl⟩ : ∃ D',D=D'+1:=⟨D-1,by omega⟩
  obtain ⟨i,hi,hx,hy⟩:=jb h
  simp only [te,hi] at h
  split at h
  ·cases h
  split at h
  ·rename_i k hu
   have:b=false:=by simpa [mo,hu] using hb.symm
   subst this
   split at h
   ·rename_i a c
    obtain ⟨k',x,y,e1,e2,rfl⟩:=BD β h
    simp only [eW,List.map_cons,List.map_nil,List.headD_cons,e1,e2]
    exact run_equalIn_int w D t k' k x y hu
   ·cases h
  ·rename_i hu
   have:b=false:=by simpa [mo,hu] using hb.symm
   subst this
   split at h
   ·rename_i a c
    unfold wX at h
    split at h
    ·rename_i x y hx hy
     cases h
     simp only [eW,List.map_cons,List.map_nil,List.headD_cons,cK β hx,cK β hy]
     exact run_equalIn_bool' w D t x y hu
    ·cases h
   ·cases h
  ·rename_i n e hu
   have:b=true:=by simpa [mo,hu] using hb.symm
   subst this
   split at h
   ·rename_i hie
    obtain ⟨ie,hie⟩:=Option.isSome_iff_exists.1 hie
    simp only [eW]
    rw [mc D n t e ie _ _ hu hie]
    have H : ∀ (n:Nat) (us vs:List Cell) (r:Bool) (k:Nat) (w:World),us=xs.drop (k*P.cellsOf e)->vs=ys.drop (k*P.cellsOf e) ->
      GD (te P d e) (P.cellsOf e) n us vs=some r ->
      (lC P D e (P.cellsOf e) (xs.map (gc β)).toArray (ys.map (gc β)).toArray n k).run P w = .ok r w:=by
     intro n
     induction n with
     | zero=>intro us vs r k w _ _ h;simp [GD] at h;subst h;rfl
     | succ n ihn =>
      intro us vs r k w hus hvs h
      obtain ⟨a,c,ha,hc,rfl⟩:=and?_some h
      obtain ⟨_,hi2,hlx,hly⟩:=jb ha
      obtain ⟨be,hbe,hbe1⟩:=zx ha
      have e1:(List.take (P.cellsOf e) us).map (gc β)=((xs.map (gc β)).drop (k*P.cellsOf e)).take (P.cellsOf e):=by rw [dF,hus]
      have e2:(List.take (P.cellsOf e) vs).map (gc β)=((ys.map (gc β)).drop (k*P.cellsOf e)).take (P.cellsOf e):=by rw [dF,hvs]
      have l1:k*P.cellsOf e+P.cellsOf e<=(xs.map (gc β)).length \/ P.cellsOf e=0:=by
       rw [List.length_take,hus,List.length_drop] at hlx;simp;omega
      have l2:k*P.cellsOf e+P.cellsOf e<=(ys.map (gc β)).length \/ P.cellsOf e=0:=by
       rw [List.length_take,hvs,List.length_drop] at hly;simp;omega
      have p1:(part e (xs.map (gc β)).toArray (k*P.cellsOf e)).run P w = .ok (eW be ((List.take (P.cellsOf e) us).map (gc β))) w:=by
       rw [e1]
       rcases l1 with l1 | l1
       ·exact jV hbe _ _ hi2 hbe1 l1 w
       ·cases be with
        | false=>have:=hbe1 rfl;omega
        | true =>
         unfold part
         rw [Sem.run_bind,dn hbe]
         simp [eW,aC hi2,l1]
      have p2:(part e (ys.map (gc β)).toArray (k*P.cellsOf e)).run P w = .ok (eW be ((List.take (P.cellsOf e) vs).map (gc β))) w:=by
       rw [e2]
       rcases l2 with l2 | l2
       ·exact jV hbe _ _ hi2 hbe1 l2 w
       ·cases be with
        | false=>have:=hbe1 rfl;omega
        | true =>
         unfold part
         rw [Sem.run_bind,dn hbe]
         simp [eW,aC hi2,l2]
      simp only [lC,Sem.run_bind,p1,Result.andThen_ok,p2,ih e _ _ _ ha D be (by omega) hbe w]
      cases a
      ·simp
      ·simp only [Bool.not_true,Bool.false_eq_true,if_false,Bool.true_and]
       exact ihn _ _ c (k+1) w (by rw [hus,List.drop_drop,Nat.add_mul,Nat.one_mul]) (by rw [hvs,List.drop_drop,Nat.add_mul,Nat.one_mul]) hc
    exact H n xs ys r 0 w (by simp) (by simp) h
   ·cases h
  ·rename_i fs hu
   have:b=true:=by simpa [mo,hu] using hb.symm
   subst this
   split at h
   ·cases h
   ·rename_i hst
    simp only [eW]
    have hfs:P.fieldsOf t=fs:=by simp [Program.fieldsOf,hu]
    rw [run_equalIn_struct w D t _ _ (by rw [hfs];exact hu) hst,hfs]
    generalize fs.toList=fl at h
    clear hu hfs
    induction fl generalizing r w with
    | nil=>simp [wW] at h;subst h;rfl
    | cons f fl ihf =>
     simp only [wW] at h
     split at h
     ·cases h
     ·rename_i hname
      obtain ⟨a,c,ha,hc,rfl⟩:=and?_some h
      obtain ⟨_,hi2,hlx,hly⟩:=jb ha
      obtain ⟨be,hbe,hbe1⟩:=zx ha
      have l1:f.offset+P.cellsOf f.type<=(xs.map (gc β)).length \/ P.cellsOf f.type=0:=by
       rw [List.length_take,List.length_drop] at hlx;simp;omega
      have l2:f.offset+P.cellsOf f.type<=(ys.map (gc β)).length \/ P.cellsOf f.type=0:=by
       rw [List.length_take,List.length_drop] at hly;simp;omega
      have p1:(part f.type (xs.map (gc β)).toArray f.offset).run P w = .ok (eW be ((List.take (P.cellsOf f.type) (xs.drop f.offset)).map (gc β))) w:=by
       rw [<- dF]
       by_cases h0:P.cellsOf f.type=0
       ·cases be with
        | false=>have:=hbe1 rfl;omega
        | true =>
         unfold part
         rw [Sem.run_bind,dn hbe]
         simp [eW,aC hi2,h0]
       ·exact jV hbe _ _ hi2 hbe1 (by omega) w
      have p2:(part f.type (ys.map (gc β)).toArray f.offset).run P w = .ok (eW be ((List.take (P.cellsOf f.type) (ys.drop f.offset)).map (gc β))) w:=by
       rw [<- dF]
       by_cases h0:P.cellsOf f.type=0
       ·cases be with
        | false=>have:=hbe1 rfl;omega
        | true =>
         unfold part
         rw [Sem.run_bind,dn hbe]
         simp [eW,aC hi2,h0]
       ·exact jV hbe _ _ hi2 hbe1 (by omega) w
      have hname' : f.name ≠ "_" := by simpa using hname
      simp only [Op.eqFields,hname',ne_eq,not_false_eq_true,if_true,Sem.run_bind,p1,Result.andThen_ok,p2,ih f.type _ _ _ ha D be (by omega) hbe w]
      cases a
      ·simp
      ·simp only [Bool.not_true,Bool.false_eq_true,if_false,Bool.true_and]
       exact ihf c w hc
  ·cases h
end Go.Proofs.Ytibfppbffdedoaa
namespace Go.Proofs.Ytibfppbffdedoaa
open Go.RowKit
def Ns (op:BinOp):Option Bool:=match op with | .eql=>some false | .neq=>some true | _=>none
def QT (c:Cell):Bool:=match c with | .tt | .ff | .lit _ _=>true | _=>false
def Cx:List Cell->Bool
 | []=>true
 | c :: cs=>match QT c with | true=>Cx cs | false=>false
def mkB (known neg r:Bool):Cell :=
 match known with
 | true=>lj (match neg with | true => !r | false=>r)
 | false => .bool (match neg with | true => !r | false=>r)
theorem KE (β:Nat->Pl) (known neg r:Bool):gc β (mkB known neg r) = .bool (if neg then !r else r):=by
 cases known <;> cases neg <;> simp [mkB,iv] <;> rfl
def OJ (P:Program) (t:TypeId):Bool:=match P.underlying t with | some .bool=>true | _=>false
def CN (P:Program) (t:TypeId):Bool:=match P.underlying t with | some .string=>true | _=>false
def NS (P:Program) (op:BinOp) (t:TypeId) (a b:AV):Option (Cond Cell) :=
 match a,b with
 | .one (.c x),.one (.c y) =>
  match tA op x y with
  | some r=>some r
  | none=>match Ns op with
   | none=>none
   | some neg=>match x,y with
    | .str s,.str u=>some ⟨.t,.bool (match neg with | true => !(s==u) | false=>s==u)⟩
    | _,_=>match OJ P t,wX x y with
     | true,some r=>some ⟨.t,mkB (QT x && QT y) neg r⟩
     | _,_=>none
 | .one (.agg xs),.one (.agg ys) =>
  match Ns op with
  | none=>none
  | some neg=>match P.eqGuardType P.depth t with
   | true=>none
   | false=>match mo P t,te P 8 t xs ys with
    | some true,some r=>some ⟨.t,mkB (Cx xs && Cx ys) neg r⟩
    | _,_=>none
 | _,_=>none
theorem DZ (s:List UInt8):(ByteArray.mk s.toArray).toList=s:=by
 rw [ByteArray.toList_eq]
theorem EV {op:BinOp} {a b:Cell} {r:Cond Cell} (β:Nat->Pl) (h:tA op a b=some r) : ∃ k n,gc β a = .int k n:=by
 have hU : ∀ {c:Cell} {x},toU c=some x -> ∃ k n,gc β c = .int k n:=fun h=>⟨_,_,gZ β h⟩
 have hB : ∀ {c:Cell} {x},toB c=some x -> ∃ k n,gc β c = .int k n:=fun h=>⟨_,_,mq β h⟩
 have hW : ∀ {c:Cell} {x},toW c=some x -> ∃ k n,gc β c = .int k n:=fun h=>⟨_,_,BY β h⟩
 have hG:oV op a b=some r -> ∃ k n,gc β a = .int k n:=by
  intro h
  unfold oV at h
  split at h
  ·rename_i k x k' y ha hb;exact ⟨_,_,cR β ha⟩
  ·cases h
 have hR:tq op a b=some r -> ∃ k n,gc β a = .int k n:=by
  intro h
  unfold tq at h
  split at h
  ·exact ⟨_,_,rfl⟩
  ·exact hG h
 have hS : ∀ right,kW right a b=some r -> ∃ k n,gc β a = .int k n:=by
  intro right h
  unfold kW at h
  split at h
  ·cases a <;> first | exact ⟨_,_,rfl⟩ | (simp at h)
  ·cases h
 unfold tA at h
 split at h
 ·exact hS _ h
 ·exact hS _ h
 ·split at h
  ·exact ⟨_,_,rfl⟩
  ·split at h
   ·rename_i hx hy;exact hU hx
   ·split at h
    ·rename_i hx hy;exact hB hx
    ·split at h
     ·rename_i hx hy;exact hW hx
     ·exact hR h
theorem Hw {P:Program} {op:BinOp} {t:TypeId} {a b:AV} {r:Cond Cell} (β:Nat->Pl) (h:NS P op t a b=some r) (hp:r.pre.holds) (x y:Operand) (w:World) :
  (do eqGuard op t x y (gv β a) (gv β b);binOp op t (gv β a) (gv β b):Sem Value).run P w = .ok (gc β r.val) w:=by
 unfold NS at h
 split at h
 ·rename_i x' y'
  simp only [gv,g1]
  split at h
  ·rename_i r' hr
   cases h
   obtain ⟨k,n,e⟩:=EV β hr
   have:=Ei (P:=P) β hr hp t w
   rw [e] at this ⊢
   simp only [eqGuard_at_int,Sem.run_bind,Sem.run_pure,Result.andThen_ok,this]
  ·split at h
   ·cases h
   ·rename_i neg hneg
    split at h
    ·rename_i s u
     cases h
     simp only [gc,eqGuard_at_string,Sem.run_bind,Sem.run_pure,Result.andThen_ok]
     cases op <;> simp [Ns] at hneg <;> subst hneg <;> simp [binOp,Op.stringOp,DZ,bne]
    ·split at h
     ·rename_i r' ht hr
      cases h
      have ht':P.underlying t=some .bool:=by
       unfold OJ at ht
       split at ht
       ·assumption
       ·cases ht
      unfold wX at hr
      split at hr
      ·rename_i u v hu hv
       cases hr
       rw [KE,cK β hu,cK β hv]
       simp only [eqGuard_at_bool,Sem.run_bind,Sem.run_pure,Result.andThen_ok]
       cases op <;> simp [Ns] at hneg <;> subst hneg <;> simp [binOp,Op.equal,Op.maxDepth,run_equalIn_bool' _ _ _ _ _ ht']
      ·cases hr
     ·cases h
 ·rename_i xs ys
  simp only [gv,g1]
  split at h
  ·cases h
  ·rename_i neg hneg
   split at h
   ·cases h
   ·rename_i hg
    split at h
    ·rename_i r' hagg hr
     cases h
     rw [KE]
     have:=Hv β 8 t xs ys r' hr 10000 true (by omega) hagg w
     simp only [eW] at this
     rw [Sem.run_bind,run_eqGuard_agg w op t x y _ _ hg,Result.andThen_ok]
     cases op <;> simp [Ns] at hneg <;> subst hneg
     ·rw [run_eql_struct,this];simp
     ·rw [run_neq_struct,this];simp
    ·cases h
 ·cases h
def unC (op:UnOp) (a:AV):Option Cell :=
 match a with
 | .one (.c x) =>
  match op with
  | .not=>match x with
   | .tt=>some .ff
   | .ff=>some .tt
   | .bool b=>some (.bool (!b))
   | _=>none
  | .neg=>match x with
   | .lit k n=>some (.lit k (k.wrap (0-n)))
   | .u64 n=>some (.u64 (0-n))
   | _=>match toI x with
    | some (k,n)=>some (.int k (k.wrap (0-n)))
    | none=>none
  | .xor=>match x with
   | .u64 n=>some (.u64 (~~~ n))
   | .u32 n=>some (.u32 (~~~ n))
   | .lit k n=>some (.lit k (bits .xor k (if k.signed then -1 else k.max) n))
   | _=>none
  | _=>none
 | _=>none
theorem Mg {P:Program} {op:UnOp} {a:AV} {r:Cell} (β:Nat->Pl) (h:unC op a=some r) (w:World):(Op.unary op (gv β a)).run P w = .ok (gc β r) w:=by
 unfold unC at h
 split at h
 ·rename_i x
  simp only [gv,g1]
  split at h
  ·split at h <;> cases h <;> simp [gc,Op.unary]
  ·split at h
   ·cases h;simp [gc,Op.unary,Op.intArith]
   ·rename_i n
    cases h
    have e:=n.toNat_lt
    simp only [gc,Op.unary,Op.intArith,Sem.run_pure]
    congr 2
    rw [IntKind.wrap_u64,UInt64.toNat_sub]
    simp
    omega
   ·split at h
    ·rename_i k n hx
     cases h
     rw [cR β hx]
     simp [gc,Op.unary,Op.intArith]
    ·cases h
  ·split at h
   ·rename_i n
    cases h
    simp only [gc,Op.unary]
    show (Op.intBits .xor .u64 18446744073709551615 (n.toNat:Int)).run P w=_
    rw [intBits_xor]
    have:=ml (18446744073709551615:UInt64) n
    rw [show ((18446744073709551615:UInt64).toNat:Int)=18446744073709551615 from rfl] at this
    rw [this,show (18446744073709551615:UInt64) ^^^ n = ~~~ n from by
     apply UInt64.toBitVec_inj.1
     show (BitVec.allOnes 64) ^^^ n.toBitVec = ~~~ n.toBitVec
     exact BitVec.allOnes_xor]
    rfl
   ·rename_i n
    cases h
    simp only [gc,Op.unary]
    show (Op.intBits .xor .u32 4294967295 (n.toNat:Int)).run P w=_
    rw [intBits_xor]
    have:=mm (4294967295:UInt32) n
    rw [show ((4294967295:UInt32).toNat:Int)=4294967295 from rfl] at this
    rw [this,show (4294967295:UInt32) ^^^ n = ~~~ n from by
     apply UInt32.toBitVec_inj.1
     show (BitVec.allOnes 32) ^^^ n.toBitVec = ~~~ n.toBitVec
     exact BitVec.allOnes_xor]
    rfl
   ·cases h;simp [gc,Op.unary,intBits_xor]
   ·cases h
  ·cases h
 ·cases h
def RV (P:Program) (t:TypeId):Option IntKind:=match P.underlying t with | some (.int k)=>some k | _=>none
def w5 (k:IntKind) (x:Cell):Option Cell :=
 match x with
 | .lit _ n=>some (.lit k (k.wrap n))
 | .u64 n=>match k with
  | .u64=>some (.u64 n)
  | .u8=>some (.u8 n.toUInt8)
  | .u32=>some (.u32 n.toUInt32)
  | _=>some (.int k (k.wrap (n.toNat:Int)))
 | .bit b=>match k with
  | .u64=>some (.bit b)
  | _=>some (.int k (k.wrap ((b2u b).toNat:Int)))
 | .u8 n=>match k with
  | .u64=>some (.u64 n.toUInt64)
  | .u8=>some (.u8 n)
  | .u32=>some (.u32 n.toUInt32)
  | _=>some (.int k (n.toNat:Int))
 | .u32 n=>match k with
  | .u64=>some (.u64 n.toUInt64)
  | .u8=>some (.u8 n.toUInt8)
  | .u32=>some (.u32 n)
  | _=>some (.int k (k.wrap (n.toNat:Int)))
 | .int _ n=>match k with
  | .u64=>some (.u64 (UInt64.ofNat (n % 18446744073709551616).toNat))
  | .u8=>some (.u8 (UInt8.ofNat (n % 256).toNat))
  | _=>some (.int k (k.wrap n))
 | _=>none
theorem sG (k:IntKind) (n:UInt8) (hk:k ≠ .i8):k.wrap (n.toNat:Int)=(n.toNat:Int):=by
 have:=n.toNat_lt
 have h:(n.toNat:Int)<256:=by omega
 cases k <;> first | exact absurd rfl hk | (simp [IntKind.wrap,IntKind.bits,IntKind.signed];omega)
theorem Je {k:IntKind} {x r:Cell} (β:Nat->Pl) (h:w5 k x=some r) (hk:k ≠ .i8) : ∃ j n,gc β x = .int j n/\gc β r = .int k (k.wrap n):=by
 cases x with
 | lit j n=>cases h;exact ⟨_,_,rfl,rfl⟩
 | u64 n =>
  have:=n.toNat_lt
  refine ⟨_,_,rfl,?_⟩
  cases k <;> cases h <;> simp only [gc] <;> (try rfl)
  ·rw [bL];congr 1;omega
 | bit b =>
  refine ⟨_,_,rfl,?_⟩
  cases k <;> cases h <;> simp only [gc] <;> (try rfl)
  cases b <;> rfl
 | u8 n =>
  refine ⟨_,_,rfl,?_⟩
  rw [sG k n hk]
  cases k <;> cases h <;> simp [gc]
 | u32 n =>
  have:=n.toNat_lt
  refine ⟨_,_,rfl,?_⟩
  cases k <;> cases h <;> simp only [gc] <;> (try rfl)
  ·rw [cG];congr 1;omega
  ·rw [bL];simp
 | int j n =>
  refine ⟨_,_,rfl,?_⟩
  cases k <;> cases h <;> simp only [gc] <;> (try rfl)
  ·rw [show IntKind.u8.wrap n=n % 256 by simp [IntKind.wrap,IntKind.bits,IntKind.signed],UInt8.toNat_ofNat'];congr 1;omega
  ·rw [IntKind.wrap_u64,UInt64.toNat_ofNat'];congr 1;omega
 | _=>simp [w5] at h
def BH (P:Program) (src dst:TypeId) (a:AV):Option Cell :=
 match a with
 | .one (.c x)=>match (P.underlying src).isSome,RV P dst with
  | true,some k=>match k with
   | .i8=>none
   | _=>w5 k x
  | _,_=>none
 | _=>none
theorem Ek {P:Program} {src dst:TypeId} {a:AV} {r:Cell} (β:Nat->Pl) (h:BH P src dst a=some r) (w:World):(convert src dst (gv β a)).run P w = .ok (gc β r) w:=by
 unfold BH at h
 split at h
 ·rename_i x
  split at h
  ·rename_i k hs hd
   have hk:k ≠ .i8:=by rintro rfl;cases h
   have h':w5 k x=some r:=by cases k <;> first | exact absurd rfl hk | exact h
   obtain ⟨j,n,e1,e2⟩:=Je β h' hk
   have hd':P.underlying dst=some (.int k):=by
    unfold RV at hd
    split at hd
    ·cases hd;assumption
    ·cases hd
   simp only [gv,g1,e1,e2]
   have hkk:P.intKind dst=k:=by simp [Program.intKind,hd']
   rw [run_convert_int _ src dst j n hs (by rw [hkk];exact hd'),hkk]
  ·cases h
 ·cases h
end Go.Proofs.Ytibfppbffdedoaa
namespace Go.Proofs.Ytibfppbffdedoaa
open Go.RowKit
def β0:Nat->Pl:=fun _=>⟨none,0,none⟩
class Row (α : Type) where
 rd:List Cell->Option α
 cs:α->List Cell
 rd_ok : ∀ {xs x},rd xs=some x -> ∀ β,xs.map (gc β)=(cs x).map (gc β0)
 cs_ok : ∀ x β,(cs x).map (gc β)=(cs x).map (gc β0)
 cs_id : ∀ x,∀ c ∈ cs x,c.idOf=none
theorem iy {c:Cell} {x:UInt64} (h:toU c=some x) : ∀ β,gc β c=gc β0 (.u64 x):=fun β=>gZ β h
structure Fp where
 l0:UInt64
 l1:UInt64
 l2:UInt64
 l3:UInt64
 l4:UInt64
 l5:UInt64
def Fp.rd (xs:List Cell):Option Fp :=
 match xs with
 | [a,b,c,d,e,f]=>match toU a,toU b,toU c,toU d,toU e,toU f with
  | some a,some b,some c,some d,some e,some f=>some ⟨a,b,c,d,e,f⟩
  | _,_,_,_,_,_=>none
 | _=>none
instance : Row Fp where
 rd:=Fp.rd
 cs:=fun x => [.u64 x.l0,.u64 x.l1,.u64 x.l2,.u64 x.l3,.u64 x.l4,.u64 x.l5]
 rd_ok:=fun {xs x} h β=>by
  unfold Fp.rd at h
  split at h
  ·split at h
   ·rename_i h0 h1 h2 h3 h4 h5
    cases h
    simp only [List.map_cons,List.map_nil,iy h0 β,iy h1 β,iy h2 β,iy h3 β,iy h4 β,iy h5 β]
   ·cases h
  ·cases h
 cs_ok:=fun x β=>rfl
 cs_id:=fun x c hc=>by
  simp only [List.mem_cons,List.not_mem_nil,or_false] at hc
  rcases hc with rfl | rfl | rfl | rfl | rfl | rfl <;> rfl
theorem rZ {α γ:Type} [Row α] [Row γ] (n:Nat) {xs:List Cell} {a:α} {b:γ} (h1:Row.rd (xs.take n)=some a) (h2:Row.rd (xs.drop n)=some b) (β:Nat->Pl):xs.map (gc β)=(Row.cs a++Row.cs b).map (gc β0):=by
 rw [<- List.take_append_drop n xs,List.map_append,List.map_append,Row.rd_ok h1 β,Row.rd_ok h2 β]
abbrev ju {α γ δ:Type} [Row α] [Row γ] (n:Nat) (mk:α->γ->δ) (a:δ->α) (b:δ->γ) (ha : ∀ x y,a (mk x y)=x:=by intros;rfl) (hb : ∀ x y,b (mk x y)=y:=by intros;rfl):Row δ where
 rd:=fun xs=>match (Row.rd (xs.take n):Option α),(Row.rd (xs.drop n):Option γ) with
  | some x,some y=>some (mk x y)
  | _,_=>none
 cs:=fun x=>Row.cs (a x)++Row.cs (b x)
 rd_ok:=fun {xs x} h β=>by
  split at h
  ·rename_i h1 h2
   cases h
   rw [ha,hb]
   exact rZ n h1 h2 β
  ·cases h
 cs_ok:=fun x β=>by rw [List.map_append,List.map_append,Row.cs_ok (a x),Row.cs_ok (b x)]
 cs_id:=fun x c hc=>by
  rcases List.mem_append.1 hc with h | h
  ·exact Row.cs_id _ c h
  ·exact Row.cs_id _ c h
structure Fp2 where
 c0:Fp
 c1:Fp
instance : Row Fp2 := ju 6 Fp2.mk Fp2.c0 Fp2.c1
structure Fp6 where
 c0:Fp2
 c1:Fp2
 c2:Fp2
theorem z8 {α γ δ:Type} [Row α] [Row γ] [Row δ] (n m:Nat) {xs:List Cell} {a:α} {b:γ} {c:δ} (h1:Row.rd (xs.take n)=some a) (h2:Row.rd ((xs.drop n).take m)=some b) (h3:Row.rd ((xs.drop n).drop m)=some c) (β:Nat->Pl):xs.map (gc β)=(Row.cs a++(Row.cs b++Row.cs c)).map (gc β0):=by
 rw [<- List.take_append_drop n xs,List.map_append,List.map_append,Row.rd_ok h1 β,rZ m h2 h3 β]
abbrev o8 {α γ δ ε:Type} [Row α] [Row γ] [Row δ] (n m:Nat) (mk:α->γ->δ->ε) (a:ε->α) (b:ε->γ) (c:ε->δ) (ha : ∀ x y z,a (mk x y z)=x:=by intros;rfl) (hb : ∀ x y z,b (mk x y z)=y:=by intros;rfl) (hc : ∀ x y z,c (mk x y z)=z:=by intros;rfl):Row ε where
 rd:=fun xs=>match (Row.rd (xs.take n):Option α),(Row.rd ((xs.drop n).take m):Option γ),(Row.rd ((xs.drop n).drop m):Option δ) with
  | some x,some y,some z=>some (mk x y z)
  | _,_,_=>none
 cs:=fun x=>Row.cs (a x)++(Row.cs (b x)++Row.cs (c x))
 rd_ok:=fun {xs x} h β=>by
  split at h
  ·rename_i h1 h2 h3
   cases h
   rw [ha,hb,hc]
   exact z8 n m h1 h2 h3 β
  ·cases h
 cs_ok:=fun x β=>by simp only [List.map_append];rw [Row.cs_ok (a x),Row.cs_ok (b x),Row.cs_ok (c x)]
 cs_id:=fun x c hc=>by
  rcases List.mem_append.1 hc with h | h
  ·exact Row.cs_id _ c h
  ·rcases List.mem_append.1 h with h | h
   ·exact Row.cs_id _ c h
   ·exact Row.cs_id _ c h
instance : Row Fp6 := o8 12 12 Fp6.mk Fp6.c0 Fp6.c1 Fp6.c2
structure Fr where
 l0:UInt64
 l1:UInt64
 l2:UInt64
 l3:UInt64
def Fr.rd (xs:List Cell):Option Fr :=
 match xs with
 | [a,b,c,d]=>match toU a,toU b,toU c,toU d with
  | some a,some b,some c,some d=>some ⟨a,b,c,d⟩
  | _,_,_,_=>none
 | _=>none
instance : Row Fr where
 rd:=Fr.rd
 cs:=fun x => [.u64 x.l0,.u64 x.l1,.u64 x.l2,.u64 x.l3]
 rd_ok:=fun {xs x} h β=>by
  unfold Fr.rd at h
  split at h
  ·split at h
   ·rename_i h0 h1 h2 h3
    cases h
    simp only [List.map_cons,List.map_nil,iy h0 β,iy h1 β,iy h2 β,iy h3 β]
   ·cases h
  ·cases h
 cs_ok:=fun x β=>rfl
 cs_id:=fun x c hc=>by
  simp only [List.mem_cons,List.not_mem_nil,or_false] at hc
  rcases hc with rfl | rfl | rfl | rfl <;> rfl
def Fr.limb (x:Fr) (i:Nat):UInt64:=match i with
 | 0=>x.l0
 | 1=>x.l1
 | 2=>x.l2
 | _=>x.l3
def OK (xs:List Cell):Option Bool:=match xs with
 | [c]=>iz c
 | _=>none
instance bitRow : Row Bool where
 rd:=OK
 cs:=fun b => [.bool b]
 rd_ok:=fun {xs x} h β=>by
  unfold OK at h
  split at h
  ·simp only [List.map_cons,List.map_nil,cK β h];rfl
  ·cases h
 cs_ok:=fun x β=>rfl
 cs_id:=fun x c hc=>by
  simp only [List.mem_cons,List.not_mem_nil,or_false] at hc
  subst hc
  rfl
structure Pg1 where
 x:Fp
 y:Fp
 inf:Bool
instance : Row Pg1 := o8 6 6 Pg1.mk Pg1.x Pg1.y Pg1.inf
structure Pg2 where
 x:Fp2
 y:Fp2
 inf:Bool
instance : Row Pg2 := o8 12 12 Pg2.mk Pg2.x Pg2.y Pg2.inf
structure Sp1 where
 x:Fp
 y:Fp
 z:Fp
instance : Row Sp1 := o8 6 6 Sp1.mk Sp1.x Sp1.y Sp1.z
structure Duo where
 p:Pg1
 q:Pg2
instance : Row Duo := ju 13 Duo.mk Duo.p Duo.q
def OA (xs:List Cell):Option Int:=match xs with
 | [c]=>match toI c with
  | some (.i64,n)=>some n
  | _=>none
 | _=>none
instance intRow : Row Int where
 rd:=OA
 cs:=fun n => [.int .i64 n]
 rd_ok:=fun {xs x} h β=>by
  unfold OA at h
  split at h
  ·split at h
   ·rename_i n hn
    cases h
    simp only [List.map_cons,List.map_nil,cR β hn]
    rfl
   ·cases h
  ·cases h
 cs_ok:=fun x β=>rfl
 cs_id:=fun x c hc=>by
  simp only [List.mem_cons,List.not_mem_nil,or_false] at hc
  subst hc
  rfl
structure FF where
 a:Fr
 b:Fr
instance : Row FF := ju 4 FF.mk FF.a FF.b
structure F4 where
 a:FF
 b:FF
instance : Row F4 := ju 8 F4.mk F4.a F4.b
structure F8 where
 a:F4
 b:F4
instance : Row F8 := ju 16 F8.mk F8.a F8.b
structure F5 where
 a:F4
 b:Fr
instance : Row F5 := ju 16 F5.mk F5.a F5.b
structure I2 where
 a:Int
 b:Int
instance : Row I2 := ju 1 I2.mk I2.a I2.b
structure I3 where
 a:Int
 b:Int
 c:Int
instance : Row I3 := o8 1 1 I3.mk I3.a I3.b I3.c
structure CRow where
 q:F8
 w:I3
instance : Row CRow := ju 32 CRow.mk CRow.q CRow.w
structure Stp where
 kind:Int
 v:I3
 q:F5
instance : Row Stp := o8 1 3 Stp.mk Stp.kind Stp.v Stp.q
def F8.at (x:F8) (i:Nat):Fr:=match i with
 | 0=>x.a.a.a
 | 1=>x.a.a.b
 | 2=>x.a.b.a
 | 3=>x.a.b.b
 | 4=>x.b.a.a
 | 5=>x.b.a.b
 | 6=>x.b.b.a
 | _=>x.b.b.b
def I3.at (x:I3) (i:Nat):Int:=match i with
 | 0=>x.a
 | 1=>x.b
 | _=>x.c
def I2.at (x:I2) (i:Nat):Int:=match i with
 | 0=>x.a
 | _=>x.b
inductive RK where
 | fr | g1 | g2 | duo | sp1 | sp2 | rw | ip | st
abbrev RK.ty:RK->Type
 | .fr=>Fr
 | .g1=>Pg1
 | .g2=>Pg2
 | .duo=>Duo
 | .sp1=>Sp1
 | .sp2=>Fp6
 | .rw=>CRow
 | .ip=>I2
 | .st=>Stp
def RK.sz:RK->Nat
 | .fr=>4
 | .g1=>13
 | .g2=>25
 | .duo=>38
 | .sp1=>18
 | .sp2=>36
 | .rw=>35
 | .ip=>2
 | .st=>24
abbrev RK.row:(k:RK)->Row k.ty
 | .fr=>(inferInstance:Row Fr)
 | .g1=>(inferInstance:Row Pg1)
 | .g2=>(inferInstance:Row Pg2)
 | .duo=>(inferInstance:Row Duo)
 | .sp1=>(inferInstance:Row Sp1)
 | .sp2=>(inferInstance:Row Fp6)
 | .rw=>(inferInstance:Row CRow)
 | .ip=>(inferInstance:Row I2)
 | .st=>(inferInstance:Row Stp)
def RK.cs (k:RK) (x:k.ty):List Cell:=k.row.cs x
def RK.rd (k:RK) (cs:List Cell):Option k.ty:=k.row.rd cs
def fp0:Fp:=⟨0,0,0,0,0,0⟩
def NB:Fp2:=⟨fp0,fp0⟩
def iT:Pg1:=⟨fp0,fp0,false⟩
def RP:Pg2:=⟨NB,NB,false⟩
def frN:Fr:=⟨0,0,0,0⟩
def f4N:F4:=⟨⟨frN,frN⟩,⟨frN,frN⟩⟩
def RK.d:(k:RK)->k.ty
 | .fr=>(⟨0,0,0,0⟩:Fr)
 | .g1=>iT
 | .g2=>RP
 | .duo=>(⟨iT,RP⟩:Duo)
 | .sp1=>(⟨fp0,fp0,fp0⟩:Sp1)
 | .sp2=>(⟨NB,NB,NB⟩:Fp6)
 | .rw=>(⟨⟨f4N,f4N⟩,⟨0,0,0⟩⟩:CRow)
 | .ip=>(⟨0,0⟩:I2)
 | .st=>(⟨0,⟨0,0,0⟩,⟨f4N,frN⟩⟩:Stp)
def RK.sub:(k:RK)->k.ty->(ssz r i n:Nat)->Option (Prop × List Cell)
 | .fr,x,ssz,r,i,n=>match Nat.beq ssz 1 && Nat.beq r 0 && Nat.beq n 1 with
  | true=>some (i<4,[.u64 (Fr.limb x i)])
  | false=>none
 | .rw,x,ssz,r,i,n=>match Nat.beq ssz 4 && Nat.beq r 0 && Nat.beq n 4,Nat.beq ssz 1 && Nat.beq r 32 && Nat.beq n 1 with
  | true,_=>some (i<8,Row.cs (F8.at x.q i))
  | false,true=>some (i<3,[.int .i64 (I3.at x.w i)])
  | _,_=>none
 | .ip,x,ssz,r,i,n=>match Nat.beq ssz 1 && Nat.beq r 0 && Nat.beq n 1 with
  | true=>some (i<2,[.int .i64 (I2.at x i)])
  | false=>none
 | _,_,_,_,_,_=>none
theorem RK.rd_ok (k:RK) {cs:List Cell} {x:k.ty} (h:k.rd cs=some x) (β:Nat->Pl):cs.map (gc β)=(k.cs x).map (gc β0):=k.row.rd_ok h β
theorem RK.cs_ok (k:RK) (x:k.ty) (β:Nat->Pl):(k.cs x).map (gc β)=(k.cs x).map (gc β0):=k.row.cs_ok x β
theorem RK.cs_id (k:RK) (x:k.ty) : ∀ c ∈ k.cs x,c.idOf=none:=k.row.cs_id x
theorem RK.cs_len : ∀ (k:RK) (x:k.ty),(k.cs x).length=k.sz
 | .fr,_ | .g1,_ | .g2,_ | .duo,_ | .sp1,_ | .sp2,_ | .rw,_ | .ip,_ | .st,_=>rfl
theorem RK.sz_pos : ∀ k:RK,0<k.sz
 | .fr | .g1 | .g2 | .duo | .sp1 | .sp2 | .rw | .ip | .st=>by decide
theorem kt {a b c:Bool} {x y z u v w:Nat} (h:(Nat.beq x y && Nat.beq z u && Nat.beq v w)=true):x=y/\z=u/\v=w:=by
 simp only [Bool.and_eq_true] at h
 exact ⟨Nat.eq_of_beq_eq_true h.1.1,Nat.eq_of_beq_eq_true h.1.2,Nat.eq_of_beq_eq_true h.2⟩
theorem RK.sub_ok : ∀ (k:RK) {x:k.ty} {ssz r i n:Nat} {p:Prop} {cs:List Cell},k.sub x ssz r i n=some (p,cs)->p->cs=((k.cs x).drop (i*ssz+r)).take n/\cs.length=n/\i*ssz+r+n<=k.sz
 | .fr,x,ssz,r,i,n,p,cs,h,hp=>by
  simp only [RK.sub] at h
  split at h
  ·rename_i hc
   cases h
   obtain ⟨rfl,rfl,rfl⟩:=kt (a:=true) (b:=true) (c:=true) hc
   match i,hp with
   | 0,_ | 1,_ | 2,_ | 3,_=>exact ⟨rfl,rfl,by decide⟩
   | n+4,hp=>exact absurd hp (by omega)
  ·cases h
 | .rw,x,ssz,r,i,n,p,cs,h,hp=>by
  simp only [RK.sub] at h
  split at h
  ·rename_i hc
   cases h
   obtain ⟨rfl,rfl,rfl⟩:=kt (a:=true) (b:=true) (c:=true) hc
   match i,hp with
   | 0,_ | 1,_ | 2,_ | 3,_ | 4,_ | 5,_ | 6,_ | 7,_=>exact ⟨rfl,rfl,by decide⟩
   | n+8,hp=>exact absurd hp (by omega)
  ·rename_i hc
   cases h
   obtain ⟨rfl,rfl,rfl⟩:=kt (a:=true) (b:=true) (c:=true) hc
   match i,hp with
   | 0,_ | 1,_ | 2,_=>exact ⟨rfl,rfl,by decide⟩
   | n+3,hp=>exact absurd hp (by omega)
  ·cases h
 | .ip,x,ssz,r,i,n,p,cs,h,hp=>by
  simp only [RK.sub] at h
  split at h
  ·rename_i hc
   cases h
   obtain ⟨rfl,rfl,rfl⟩:=kt (a:=true) (b:=true) (c:=true) hc
   match i,hp with
   | 0,_ | 1,_=>exact ⟨rfl,rfl,by decide⟩
   | n+2,hp=>exact absurd hp (by omega)
  ·cases h
 | .g1,_,_,_,_,_,_,_,h,_ | .g2,_,_,_,_,_,_,_,h,_ | .duo,_,_,_,_,_,_,_,h,_ | .sp1,_,_,_,_,_,_,_,h,_ | .sp2,_,_,_,_,_,_,_,h,_ | .st,_,_,_,_,_,_,_,h,_=>by cases h
def ac (k:RK) (xs:List k.ty):List Cell:=xs.flatMap k.cs
theorem cf (k:RK) (x:k.ty) (xs:List k.ty):ac k (x :: xs)=k.cs x++ac k xs:=by simp [ac]
theorem eH (k:RK) (xs ys:List k.ty):ac k (xs++ys)=ac k xs++ac k ys:=by simp [ac]
theorem aY (k:RK) (xs:List k.ty):(ac k xs).length=xs.length*k.sz:=by
 induction xs with
 | nil=>simp [ac]
 | cons x xs ih=>rw [cf,List.length_append,ih,k.cs_len,List.length_cons,Nat.add_mul];omega
theorem iR (k:RK) : ∀ (xs:List k.ty) (e:Nat),(ac k xs).drop (e*k.sz)=ac k (xs.drop e)
 | xs,0=>by simp
 | [],e+1=>by simp [ac]
 | x :: xs,e+1=>by
  rw [cf,List.drop_succ_cons,<- iR k xs e,Nat.add_mul,Nat.one_mul,Nat.add_comm,<- List.drop_drop]
  rw [List.drop_append_of_le_length (by rw [k.cs_len];exact Nat.le_refl _)]
  rw [show (k.cs x).drop k.sz = [] from List.drop_eq_nil_of_le (by rw [k.cs_len];exact Nat.le_refl _)]
  rfl
theorem iQ (k:RK) : ∀ (xs:List k.ty) (e:Nat),(ac k xs).take (e*k.sz)=ac k (xs.take e)
 | xs,0=>by simp [ac]
 | [],e+1=>by simp [ac]
 | x :: xs,e+1=>by
  rw [cf,List.take_succ_cons,cf,<- iQ k xs e,Nat.add_mul,Nat.one_mul,Nat.add_comm,List.take_append,k.cs_len]
  rw [List.take_of_length_le (by rw [k.cs_len];omega)]
  congr 2
  omega
theorem jL (k:RK) (xs:List k.ty) (e q n:Nat) (he:e<xs.length) (hq:q+n<=k.sz):((ac k xs).drop (e*k.sz+q)).take n=((k.cs (xs.getD e k.d)).drop q).take n:=by
 rw [<- List.drop_drop,iR,List.drop_eq_getElem_cons he,cf,List.drop_append_of_le_length (by rw [k.cs_len];omega),List.take_append_of_le_length (by rw [List.length_drop,k.cs_len];omega)]
 simp [List.getD,he]
theorem cM (k:RK) (xs:List k.ty) : ∀ c ∈ ac k xs,c.idOf=none:=by
 intro c hc
 obtain ⟨x,_,hx⟩:=List.mem_flatMap.1 hc
 exact k.cs_id x c hx
theorem fC (k:RK) (xs:List k.ty) (β:Nat->Pl):(ac k xs).map (gc β)=(ac k xs).map (gc β0):=by
 induction xs with
 | nil=>rfl
 | cons x xs ih=>rw [cf,List.map_append,List.map_append,ih,k.cs_ok]
def kY (k:RK):Nat->List Cell->Option (List k.ty)
 | 0,cs=>match cs with
  | []=>some []
  | _ :: _=>none
 | n+1,cs=>match k.rd (cs.take k.sz),kY k n (cs.drop k.sz) with
  | some x,some xs=>some (x :: xs)
  | _,_=>none
theorem fk (k:RK) (β:Nat->Pl) : ∀ {n:Nat} {cs:List Cell} {xs:List k.ty},kY k n cs=some xs->cs.map (gc β)=(ac k xs).map (gc β0)/\xs.length=n
 | 0,cs,xs,h=>by
  unfold kY at h
  split at h
  ·cases h;exact ⟨rfl,rfl⟩
  ·cases h
 | n+1,cs,xs,h=>by
  unfold kY at h
  split at h
  ·rename_i x ys hx hys
   cases h
   obtain ⟨h1,h2⟩:=fk k β hys
   refine ⟨?_,by simp [h2]⟩
   rw [cf,List.map_append,<- h1,<- k.rd_ok hx β,<- List.map_append,List.take_append_drop]
  ·cases h
def mN (k:RK) (cs:List Cell):Option (List k.ty):=kY k (cs.length / k.sz) cs
theorem jM (k:RK) (β:Nat->Pl) {cs:List Cell} {xs:List k.ty} (h:mN k cs=some xs):cs.map (gc β)=(ac k xs).map (gc β0):=(fk k β h).1
end Go.Proofs.Ytibfppbffdedoaa
namespace Go.Proofs.Ytibfppbffdedoaa
open Go.RowKit
inductive EK where
 | u64 | u8 | bool | int
def EK.ty:EK->Type
 | .u64=>UInt64
 | .u8=>UInt8
 | .bool=>Bool
 | .int=>Int
def EK.cell:(k:EK)->k.ty->Cell
 | .u64,x => .u64 x
 | .u8,x => .u8 x
 | .bool,x => .bool x
 | .int,x => .int .i64 x
def EK.rd:(k:EK)->Cell->Option k.ty
 | .u64,c=>toU c
 | .u8,c=>toB c
 | .bool,c=>iz c
 | .int,c=>match toI c with
  | some (.i64,n)=>some n
  | _=>none
def EK.d:(k:EK)->k.ty
 | .u64=>(0:UInt64)
 | .u8=>(0:UInt8)
 | .bool=>false
 | .int=>(0:Int)
theorem EK.rd_ok : ∀ (k:EK) {c:Cell} {x:k.ty},k.rd c=some x -> ∀ β,gc β c=gc β (k.cell x)
 | .u64,c,x,h,β=>gZ β h
 | .u8,c,x,h,β=>mq β h
 | .bool,c,x,h,β=>cK β h
 | .int,c,x,h,β=>by
  simp only [EK.rd] at h
  split at h
  ·rename_i n hn;cases h;exact cR β hn
  ·cases h
theorem EK.cell_id : ∀ (k:EK) (x:k.ty),(k.cell x).idOf=none
 | .u64,x=>rfl
 | .u8,x=>rfl
 | .bool,x=>rfl
 | .int,x=>rfl
theorem EK.cell_gc : ∀ (k:EK) (x:k.ty) (β β':Nat->Pl),gc β (k.cell x)=gc β' (k.cell x)
 | .u64,x,β,β'=>rfl
 | .u8,x,β,β'=>rfl
 | .bool,x,β,β'=>rfl
 | .int,x,β,β'=>rfl
inductive Body where
 | row (cs:List Cell)
 | elts (k:EK) (xs:List k.ty)
 | rows (k:RK) (xs:List k.ty)
def Body.cells:Body->List Cell
 | .row cs=>cs
 | .elts k xs=>xs.map k.cell
 | .rows k xs=>ac k xs
structure Blk where
 own:Bool
 ty:TypeId
 esz:Nat
 body:Body
 pin:Bool
inductive HE where
 | un
 | dead
 | live (b:Blk)
 | lists (k:RK) (l:List (List k.ty))
abbrev ah:=Nat->HE
def upd {α:Type} (f:Nat->α) (i:Nat) (x:α):Nat->α:=fun j=>if j=i then x else f j
theorem ab {α:Type} (f:Nat->α) (i:Nat) (x:α):upd f i x i=x:=if_pos rfl
theorem ak {α:Type} (f:Nat->α) {i j:Nat} (x:α) (h:j ≠ i):upd f i x j=f j:=if_neg h
def okc (h:ah) (c:Cell):Prop := ∀ i,c.idOf=some i->h i ≠ .un
def ok1 (h:ah):AV1->Prop
 | .c x=>okc h x
 | .agg xs => ∀ c ∈ xs,okc h c
def okv (h:ah):AV->Prop
 | .one v=>ok1 h v
 | .tup vs => ∀ v ∈ vs,ok1 h v
structure W0 where
 w:World
 may:Nat->Prop
 at_:TypeId->Pl
def W0.of (w:World):W0:=⟨w,fun _=>False,fun _=>⟨none,0,none⟩⟩
def W0.new (a:W0) (g:Nat):Prop:=a.w.heap.size<=g \/ a.may g
structure Bel (a : W0) (w' : World) : Prop where
 os:w'.os=a.w.os
 tape:w'.tape=a.w.tape
 output:w'.output=a.w.output
 size:a.w.heap.size<=w'.heap.size
 block : ∀ k,k<a.w.heap.size -> ¬ a.may k->w'.heap[k]? = a.w.heap[k]?
theorem Bel.refl (a:W0):Bel a a.w:=⟨rfl,rfl,rfl,Nat.le_refl _,fun _ _ _=>rfl⟩
theorem Bel.trans {a:W0} {w w':World} (h:Bel a w) (k:Below w.heap.size w w'):Bel a w' :=
 ⟨k.os.trans h.os,k.tape.trans h.tape,k.output.trans h.output,Nat.le_trans h.size k.size,fun i hi hm=>(k.block i (Nat.lt_of_lt_of_le hi h.size)).trans (h.block i hi hm)⟩
theorem Bel.below {w w':World} (h:Bel (.of w) w'):Below w.heap.size w w':=⟨h.os,h.tape,h.output,h.size,fun k hk=>h.block k hk id⟩
theorem Bel.setRow {a:W0} {w:World} (h:Bel a w) {g:Nat} (cs:Array Value) (hg:a.new g):Bel a (w.setRow g cs) :=
 ⟨h.os,h.tape,h.output,Nat.le_trans h.size (by simp),fun k hk hm=>by
  rw [setRow_other w g k cs (by
   rintro rfl
   rcases hg with h1 | h1
   ·omega
   ·exact hm h1)]
  exact h.block k hk hm⟩
theorem Bel.sub {a:W0} {w w':World} (h:Bel a w) {m:Nat->Prop} {pl:TypeId->Pl} (k:Bel ⟨w,m,pl⟩ w') (hm : ∀ g,m g->a.new g):Bel a w' :=
 ⟨k.os.trans h.os,k.tape.trans h.tape,k.output.trans h.output,Nat.le_trans h.size k.size,fun i hi hn=>(k.block i (Nat.lt_of_lt_of_le hi h.size) (fun e=>by
  rcases hm i e with h1 | h1
  ·omega
  ·exact hn h1)).trans (h.block i hi hn)⟩
def BlkOk (β:Nat->Pl) (w0:W0) (w:World) (id:Nat) (b:Blk):Prop :=
 match (β id).base with
 | none=>b.body.cells = []/\(β id).cap=0/\b.esz ≠ 0
 | some a=>(b.body.cells ≠ [] \/ b.esz=0 \/ b.own=true->a.spot=none)/\(∀ i c,b.body.cells[i]? = some c->w.cell? (a.add i)=some (gc β c)) /\
   (b.own=false->b.body.cells ≠ [] -> ¬ w0.new a.block)/\(b.esz ≠ 0->b.body.cells.length<=(β id).cap*b.esz) /\
   (b.own=true->w0.new a.block/\a.off=0 /\ ∃ cur,w.heap[a.block]? = some (.cells cur b.ty (0,0))/\b.body.cells.length<=cur.size /\
    (b.esz ≠ 0->cur.size=(β id).cap*b.esz/\(β id).cap<=maxLen)/\(b.esz=0->cur.size=b.body.cells.length))
def SubOk (w0:W0) (k:RK) (v:Value) (xs:List k.ty):Prop :=
 ∃ p:Pl,v=gc (fun _=>p) (.slc 0 0 xs.length k.sz (.of 0) false)/\xs.length<1125899906842624 /\ ∀ ty,BlkOk (fun _=>p) w0 w0.w 0 ⟨false,ty,k.sz,.rows k xs,false⟩
def gJ (p:Pl) (w0:W0) (k:RK) (l:List (List k.ty)):Prop :=
 match p.base with
 | none=>l = []/\p.cap=0
 | some a=>(l ≠ []->a.spot=none)/\(l ≠ [] -> ¬ w0.new a.block)/\l.length<=p.cap/\l.length<1125899906842624 /\ ∀ j (xs:List k.ty),l[j]? = some xs -> ∃ v,w0.w.cell? (a.add j)=some v/\SubOk w0 k v xs
def bG (p:Pl):Option Nat:=p.base.map (·.block)
structure HRel (w0 : W0) (β : Nat -> Pl) (h : ah) (w : World) : Prop where
 below:Bel w0 w
 blk : ∀ i b,h i = .live b->BlkOk β w0 w i b
 sep : ∀ i j b c,h i = .live b->h j = .live c->i ≠ j->b.own=true->c.own=true->(β i).base ≠ none->bG (β i) ≠ bG (β j)
 okc : ∀ i b,h i = .live b -> ∀ c ∈ b.body.cells,okc h c
 pin : ∀ i b,h i = .live b->b.pin=true->β i=w0.at_ b.ty
 lst : ∀ i k l,h i = .lists k l->gJ (β i) w0 k l
theorem Cf {w0:W0} {β:Nat->Pl} {h:ah} {w:World} (r:HRel w0 β h w) {id:Nat} {x:HE} (hx : ∀ k l,x ≠ .lists k l) (p:Pl) : ∀ i k l,upd h id x i = .lists k l->gJ (upd β id p i) w0 k l:=fun i k l hi=>by
 by_cases e:i=id
 ·subst e
  rw [ab] at hi
  exact absurd hi (hx _ _)
 ·rw [ak _ _ e] at hi ⊢
  exact r.lst i k l hi
theorem Ce {w0:W0} {β:Nat->Pl} {h:ah} {w:World} (r:HRel w0 β h w) {id:Nat} {x:HE} (hx : ∀ k l,x ≠ .lists k l) : ∀ i k l,upd h id x i = .lists k l->gJ (β i) w0 k l:=fun i k l hi=>by
 by_cases e:i=id
 ·subst e
  rw [ab] at hi
  exact absurd hi (hx _ _)
 ·rw [ak _ _ e] at hi
  exact r.lst i k l hi
theorem iG {β:Nat->Pl} {h:ah} {c:Cell} (hc:okc h c) {i:Nat} (hi:h i = .un) (p:Pl):gc (upd β i p) c=gc β c :=
 bX fun j hj=>ak _ _ (by rintro rfl;exact hc _ hj hi)
theorem KF {β:Nat->Pl} {h:ah} {v:AV1} (hv:ok1 h v) {i:Nat} (hi:h i = .un) (p:Pl):g1 (upd β i p) v=g1 β v:=by
 cases v with
 | c x=>exact iG hv hi p
 | agg xs=>simp only [g1];congr 2;exact List.map_congr_left fun c hc=>iG (hv c hc) hi p
theorem P9 {β:Nat->Pl} {h:ah} {v:AV} (hv:okv h v) {i:Nat} (hi:h i = .un) (p:Pl):gv (upd β i p) v=gv β v:=by
 cases v with
 | one v=>exact KF hv hi p
 | tup vs=>simp only [gv];congr 2;exact List.map_congr_left fun c hc=>KF (hv c hc) hi p
def Grows (h h':ah):Prop := ∀ i,h i ≠ .un->h' i ≠ .un
theorem Grows.refl (h:ah):Grows h h:=fun _ x=>x
theorem Grows.trans {a b c:ah} (x:Grows a b) (y:Grows b c):Grows a c:=fun i h=>y i (x i h)
theorem Grows.upd (h:ah) (i:Nat) {x:HE} (hx:x ≠ .un):Grows h (upd h i x):=fun j hj=>by
 by_cases e:j=i
 ·subst e;rw [ab];exact hx
 ·rw [ak _ _ e];exact hj
theorem okc.grow {h h':ah} {c:Cell} (hc:okc h c) (g:Grows h h'):okc h' c:=fun i hi=>g i (hc i hi)
theorem ok1.grow {h h':ah} {v:AV1} (hv:ok1 h v) (g:Grows h h'):ok1 h' v:=by
 cases v with
 | c x=>exact okc.grow hv g
 | agg xs=>exact fun c hc=>(hv c hc).grow g
theorem okv.grow {h h':ah} {v:AV} (hv:okv h v) (g:Grows h h'):okv h' v:=by
 cases v with
 | one v=>exact ok1.grow hv g
 | tup vs=>exact fun c hc=>(hv c hc).grow g
theorem BlkOk.lt {β:Nat->Pl} {w0:W0} {w:World} {i:Nat} {b:Blk} {a:Addr} (hb:BlkOk β w0 w i b) (hbel:Bel w0 w) (ha:(β i).base=some a) (hne:b.own=true \/ b.body.cells ≠ []):a.block<w.heap.size:=by
 unfold BlkOk at hb
 rw [ha] at hb
 obtain ⟨_,_,h1,_,h2⟩:=hb
 cases ho:b.own with
 | false =>
  have:=h1 ho (hne.resolve_left (by rw [ho];simp))
  have h3:=hbel.size
  rcases Nat.lt_or_ge a.block w0.w.heap.size with h4 | h4
  ·omega
  ·exact absurd (.inl h4) this
 | true =>
  obtain ⟨_,_,cur,hc,_⟩:=h2 ho
  exact (Array.getElem?_eq_some_iff.1 hc).1
theorem cO (a:Addr) (i:Nat):(a.add i).block=a.block:=by unfold Addr.add;split <;> rfl
theorem BlkOk.mono {β:Nat->Pl} {w0:W0} {w w':World} {i:Nat} {b:Blk} (hb:BlkOk β w0 w i b) (hbel:Bel w0 w)
  (hk : ∀ a,(β i).base=some a->(b.own=true \/ b.body.cells ≠ [])->w'.heap[a.block]? = w.heap[a.block]?):BlkOk β w0 w' i b:=by
 unfold BlkOk at *
 cases ha:(β i).base with
 | none=>rw [ha] at hb;exact hb
 | some a =>
  rw [ha] at hb
  obtain ⟨h0,h1,h2,h3,h4⟩:=hb
  refine ⟨h0,fun j c hj => ?_,h2,h3,fun ho => ?_⟩
  ·rw [<- h1 j c hj]
   exact World.cell?_of_block (by rw [cO];exact hk a ha (.inr (by intro e;rw [e] at hj;simp at hj)))
  ·obtain ⟨h5,h6,cur,h7,h8⟩:=h4 ho
   exact ⟨h5,h6,cur,by rw [hk a ha (.inl ho)];exact h7,h8⟩
theorem HRel.mono {w0:W0} {β:Nat->Pl} {h:ah} {w w':World} (r:HRel w0 β h w) (hb:Below w.heap.size w w'):HRel w0 β h w' where
 below:=r.below.trans hb
 blk:=fun i b hi=>(r.blk i b hi).mono r.below fun a ha hne=>hb.block _ ((r.blk i b hi).lt r.below ha hne)
 sep:=r.sep
 okc:=r.okc
 pin:=r.pin
 lst:=r.lst
theorem HRel.read {w0:W0} {β:Nat->Pl} {h:ah} {w:World} (r:HRel w0 β h w) {i:Nat} {b:Blk} (hi:h i = .live b) {a:Addr} (ha:(β i).base=some a) :
  ∀ (off:Nat) (j:Nat) (v:Value),(((b.body.cells).drop off).map (gc β))[j]? = some v->w.cell? ((a.add off).add j)=some v:=by
 intro off j v hv
 have hb:=r.blk i b hi
 unfold BlkOk at hb
 rw [ha] at hb
 rw [List.getElem?_map,List.getElem?_drop] at hv
 cases hc:b.body.cells[off+j]? with
 | none=>rw [hc] at hv;cases hv
 | some c =>
  rw [hc] at hv
  cases hv
  have:=hb.2.1 _ _ hc
  rw [<- this]
  congr 1
  have h0:=hb.1 (.inl (by intro e;rw [e] at hc;cases hc))
  unfold Addr.add
  split <;> split <;> simp_all <;> (try omega)
theorem Below.setRow {B:Nat} {w:World} {g:Nat} (cs:Array Value) (h:B<=g):Below B w (w.setRow g cs) :=
 ⟨rfl,rfl,rfl,by simp,fun k hk=>setRow_other w g k cs (by omega)⟩
theorem B7 {w0:W0} {β:Nat->Pl} {h:ah} {w:World} (r:HRel w0 β h w) {id:Nat} (hid:h id = .un) {p:Pl} {b:Blk} (hb:b.pin=true->p=w0.at_ b.ty) : ∀ i c,upd h id (.live b) i = .live c->c.pin=true->upd β id p i=w0.at_ c.ty:=fun i c hi hc=>by
 by_cases e:i=id
 ·subst e
  rw [ab] at hi
  cases hi
  rw [ab]
  exact hb hc
 ·rw [ak _ _ e] at hi ⊢
  exact r.pin i c hi hc
theorem J7 {w0:W0} {β:Nat->Pl} {h:ah} {w:World} (r:HRel w0 β h w) {id:Nat} {b:Blk} (hi:h id = .live b) {b':Blk} (hb:b'.pin=b.pin/\b'.ty=b.ty) : ∀ i c,upd h id (.live b') i = .live c->c.pin=true->β i=w0.at_ c.ty:=fun i c hi' hc=>by
 by_cases e:i=id
 ·subst e
  rw [ab] at hi'
  cases hi'
  rw [hb.2]
  exact r.pin i b hi (by rw [<- hb.1];exact hc)
 ·rw [ak _ _ e] at hi'
  exact r.pin i c hi' hc
theorem HRel.new {w0:W0} {β:Nat->Pl} {h:ah} {w w':World} (r:HRel w0 β h w) {id:Nat} (hid:h id = .un) (hb:Below w.heap.size w w') (g cap:Nat) (ty:TypeId) (esz:Nat) (body:Body)
  (cur:Array Value) {oth:Option (Addr × Nat × Nat)} (hg:w.heap.size<=g) (hc:w'.heap[g]? = some (.cells cur ty (0,0)))
  (hpre : ∀ (i:Nat) (c:Cell),body.cells[i]? = some c->cur[i]? = some (gc β c)) (hlen:body.cells.length<=cur.size) (h1:esz ≠ 0->cur.size=cap*esz/\cap<=maxLen)
  (h0:esz=0->cur.size=body.cells.length) (hok : ∀ c ∈ body.cells,Go.Proofs.Ytibfppbffdedoaa.okc h c) :
  HRel w0 (upd β id ⟨some ⟨g,0,none⟩,cap,oth⟩) (upd h id (.live ⟨true,ty,esz,body,false⟩)) w':=by
 have hB:w0.w.heap.size<=w.heap.size:=r.below.size
 have hgr:Grows h (upd h id (.live ⟨true,ty,esz,body,false⟩)):=Grows.upd _ _ (by simp)
 have hkeep : ∀ i b,h i = .live b->i ≠ id:=fun i b hi e=>by subst e;rw [hid] at hi;cases hi
 refine ⟨r.below.trans hb,fun i b hi => ?_,fun i j b c hi hj hne hbo hco => ?_,fun i b hi c hc' => ?_,B7 r hid (fun e=>by cases e),Cf r (by simp) _⟩
 ·by_cases e:i=id
  ·subst e
   rw [ab] at hi
   cases hi
   unfold BlkOk
   simp only [ab]
   refine ⟨fun _=>trivial,fun j c hj => ?_,(by simp),fun he=>by have:=(h1 he).1;omega,fun _=>⟨.inl (by show w0.w.heap.size<=g;omega),trivial,cur,hc,hlen,h1,h0⟩⟩
   rw [iG (hok c (List.mem_of_getElem? hj)) hid,Addr.add_lit]
   rw [cell_of_row w' g _ cur ty (0,0) hc]
   simpa using hpre j c hj
  ·rw [ak _ _ e] at hi
   have hbk:=(r.blk i b hi).mono r.below (w':=w') fun a ha hne=>hb.block _ ((r.blk i b hi).lt r.below ha hne)
   unfold BlkOk at hbk ⊢
   rw [ak _ _ e]
   cases ha:(β i).base with
   | none=>rw [ha] at hbk;exact hbk
   | some a =>
    rw [ha] at hbk
    refine ⟨hbk.1,fun j c hj => ?_,hbk.2.2⟩
    rw [iG (r.okc i b hi c (List.mem_of_getElem? hj)) hid]
    exact hbk.2.1 j c hj
 ·have old : ∀ k (d:Blk),h k = .live d->d.own=true -> ∀ m,bG (β k)=some m->m<w.heap.size:=by
   intro k d hk hdo m hm
   unfold bG at hm
   cases ha:(β k).base with
   | none=>rw [ha] at hm;cases hm
   | some a=>rw [ha] at hm;cases hm;exact (r.blk k d hk).lt r.below ha (.inl hdo)
  by_cases e:i=id
  ·subst e
   rw [ak _ _ (Ne.symm hne)] at hj ⊢
   rw [ab]
   intro _ he
   have:=old j c hj hco g he.symm
   omega
  ·rw [ak _ _ e] at hi ⊢
   by_cases e2:j=id
   ·subst e2
    rw [ab]
    intro _ he
    have:=old i b hi hbo g he
    omega
   ·rw [ak _ _ e2] at hj ⊢
    exact r.sep i j b c hi hj hne hbo hco
 ·by_cases e:i=id
  ·subst e
   rw [ab] at hi
   cases hi
   exact (hok c hc').grow hgr
  ·rw [ak _ _ e] at hi
   exact (r.okc i b hi c hc').grow hgr
theorem HRel.put {w0:W0} {β:Nat->Pl} {h:ah} {w:World} (r:HRel w0 β h w) {id:Nat} {b:Blk} (hi:h id = .live b) (ho:b.own=true) {a:Addr} (ha:(β id).base=some a)
  (body:Body) (cur cur':Array Value) (hcur:w.heap[a.block]? = some (.cells cur b.ty (0,0))) (hsz:cur'.size=cur.size) (hlen:body.cells.length=b.body.cells.length)
  (hpre : ∀ (i:Nat) (c:Cell),body.cells[i]? = some c->cur'[i]? = some (gc β c)) (hok : ∀ c ∈ body.cells,Go.Proofs.Ytibfppbffdedoaa.okc h c) :
  HRel w0 β (upd h id (.live { b with body:=body })) (w.setRow a.block cur'):=by
 have hgr:Grows h (upd h id (.live { b with body:=body })):=Grows.upd _ _ (by simp)
 have hbid:=r.blk id b hi
 have hB:w0.new a.block:=by
  unfold BlkOk at hbid;rw [ha] at hbid;exact (hbid.2.2.2.2 ho).1
 refine ⟨r.below.setRow _ hB,fun i c hc => ?_,fun i j c d hc hd hne hco hdo => ?_,fun i c hc x hx => ?_,J7 r hi ⟨rfl,rfl⟩,Ce r (by simp)⟩
 ·by_cases e:i=id
  ·subst e
   rw [ab] at hc
   cases hc
   unfold BlkOk at hbid ⊢
   rw [ha] at hbid ⊢
   obtain ⟨h0,h1,h2,h3,h4⟩:=hbid
   obtain ⟨h5,h6,cur0,h7,h8,h9,h10⟩:=h4 ho
   have:cur0=cur:=by rw [h7] at hcur;cases hcur;rfl
   subst this
   have hs0:=h0 (.inr (.inr ho))
   clear h0
   refine ⟨fun _=>hs0,fun j x hj => ?_,fun e=>absurd ho (by rw [e];simp),fun he=>by show body.cells.length<=_;rw [hlen];exact h3 he,fun _=>⟨h5,h6,cur',setRow_heap w a.block cur0 cur' b.ty (0,0) h7,?_,?_,?_⟩⟩
   ·have e1:a.add j=⟨a.block,j,none⟩:=by
     obtain ⟨blk,off,spot⟩:=a
     simp only at h6 hs0
     subst h6 hs0
     rw [Addr.add_lit,Nat.zero_add]
    rw [e1,cell_setRow_same w a.block j cur0 cur' b.ty (0,0) h7]
    exact hpre j x hj
   ·show body.cells.length<=_;rw [hlen,hsz];exact h8
   ·intro he;rw [hsz];exact h9 he
   ·intro he;show _=body.cells.length;rw [hsz,hlen];exact h10 he
  ·rw [ak _ _ e] at hc
   refine (r.blk i c hc).mono r.below fun a' ha' hne'=>setRow_other w _ _ _ ?_
   have hci:=r.blk i c hc
   unfold BlkOk at hci
   rw [ha'] at hci
   cases hown:c.own with
   | false =>
    have:=hci.2.2.1 hown (hne'.resolve_left (by rw [hown];simp))
    rintro e2
    exact this (by rw [e2];exact hB)
   | true =>
    have:=r.sep i id c b hc hi e hown ho (by rw [ha'];simp)
    unfold bG at this
    rw [ha,ha'] at this
    intro e2
    exact this (by simp [e2])
 ·by_cases e:i=id
  ·subst e
   rw [ab] at hc
   cases hc
   rw [ak _ _ (Ne.symm hne)] at hd
   exact r.sep i j b d hi hd hne ho hdo
  ·rw [ak _ _ e] at hc
   by_cases e2:j=id
   ·subst e2
    rw [ab] at hd
    cases hd
    exact r.sep i j c b hc hi hne hco ho
   ·rw [ak _ _ e2] at hd
    exact r.sep i j c d hc hd hne hco hdo
 ·by_cases e:i=id
  ·subst e
   rw [ab] at hc
   cases hc
   exact (hok x hx).grow hgr
  ·rw [ak _ _ e] at hc
   exact (r.okc i c hc x hx).grow hgr
theorem HRel.wrote {w0:W0} {β:Nat->Pl} {h:ah} {w w':World} (r:HRel w0 β h w) {id:Nat} {b:Blk} (hi:h id = .live b) (ho:b.own=true) {a:Addr} (ha:(β id).base=some a) (body:Body)
  (hb:Bel ⟨w,fun g=>g=a.block,fun _=>⟨none,0,none⟩⟩ w') (hblk:BlkOk β w0 w' id { b with body:=body }) (hok : ∀ c ∈ body.cells,Go.Proofs.Ytibfppbffdedoaa.okc h c):HRel w0 β (upd h id (.live { b with body:=body })) w':=by
 have hgr:Grows h (upd h id (.live { b with body:=body })):=Grows.upd _ _ (by simp)
 have hbid:=r.blk id b hi
 have hB:w0.new a.block:=by
  unfold BlkOk at hbid;rw [ha] at hbid;exact (hbid.2.2.2.2 ho).1
 refine ⟨r.below.sub hb (by rintro g rfl;exact hB),fun i c hc => ?_,fun i j c d hc hd hne hco hdo => ?_,fun i c hc x hx => ?_,J7 r hi ⟨rfl,rfl⟩,Ce r (by simp)⟩
 ·by_cases e:i=id
  ·subst e
   rw [ab] at hc
   cases hc
   exact hblk
  ·rw [ak _ _ e] at hc
   have hci:=r.blk i c hc
   refine hci.mono r.below fun a' ha' hne'=>hb.block _ (hci.lt r.below ha' hne') ?_
   show ¬ a'.block=a.block
   unfold BlkOk at hci
   rw [ha'] at hci
   cases hown:c.own with
   | false =>
    have:=hci.2.2.1 hown (hne'.resolve_left (by rw [hown];simp))
    rintro e2
    exact this (by rw [e2];exact hB)
   | true =>
    have:=r.sep i id c b hc hi e hown ho (by rw [ha'];simp)
    unfold bG at this
    rw [ha,ha'] at this
    intro e2
    exact this (by simp [e2])
 ·by_cases e:i=id
  ·subst e
   rw [ab] at hc
   cases hc
   rw [ak _ _ (Ne.symm hne)] at hd
   exact r.sep i j b d hi hd hne ho hdo
  ·rw [ak _ _ e] at hc
   by_cases e2:j=id
   ·subst e2
    rw [ab] at hd
    cases hd
    exact r.sep i j c b hc hi hne hco ho
   ·rw [ak _ _ e2] at hd
    exact r.sep i j c d hc hd hne hco hdo
 ·by_cases e:i=id
  ·subst e
   rw [ab] at hc
   cases hc
   exact (hok x hx).grow hgr
  ·rw [ak _ _ e] at hc
   exact (r.okc i c hc x hx).grow hgr
theorem HRel.kill {w0:W0} {β:Nat->Pl} {h:ah} {w:World} (r:HRel w0 β h w) (id:Nat):HRel w0 β (upd h id .dead) w:=by
 have hgr:Grows h (upd h id .dead):=Grows.upd _ _ (by simp)
 have key : ∀ i b,upd h id .dead i = .live b->h i = .live b:=by
  intro i b hi
  by_cases e:i=id
  ·subst e;rw [ab] at hi;cases hi
  ·rwa [ak _ _ e] at hi
 exact ⟨r.below,fun i b hi=>r.blk i b (key i b hi),fun i j b c hi hj=>r.sep i j b c (key i b hi) (key j c hj),fun i b hi c hc=>(r.okc i b (key i b hi) c hc).grow hgr,fun i b hi hp=>r.pin i b (key i b hi) hp,Ce r (by simp)⟩
theorem HRel.extL {w0:W0} {β:Nat->Pl} {h:ah} {w:World} (r:HRel w0 β h w) {id:Nat} (hid:h id = .un) (p:Pl) {k:RK} {l:List (List k.ty)} (hl:gJ p w0 k l):HRel w0 (upd β id p) (upd h id (.lists k l)) w:=by
 have hgr:Grows h (upd h id (.lists k l)):=Grows.upd _ _ (by simp)
 have key : ∀ i c,upd h id (.lists k l) i = .live c->i ≠ id/\h i = .live c:=fun i c hc=>by
  by_cases e:i=id
  ·subst e;rw [ab] at hc;cases hc
  ·rw [ak _ _ e] at hc;exact ⟨e,hc⟩
 refine ⟨r.below,fun i c hc => ?_,fun i j c d hc hd hne hco hdo => ?_,fun i c hc x hx => ?_,fun i c hc hp => ?_,fun i k' l' hc => ?_⟩
 ·obtain ⟨e,hc⟩:=key i c hc
  have hbk:=r.blk i c hc
  unfold BlkOk at hbk ⊢
  rw [ak _ _ e]
  cases ha:(β i).base with
  | none=>rw [ha] at hbk;exact hbk
  | some a =>
   rw [ha] at hbk
   refine ⟨hbk.1,fun j x hj => ?_,hbk.2.2⟩
   rw [iG (r.okc i c hc x (List.mem_of_getElem? hj)) hid]
   exact hbk.2.1 j x hj
 ·obtain ⟨e,hc⟩:=key i c hc
  obtain ⟨e2,hd⟩:=key j d hd
  rw [ak _ _ e,ak _ _ e2]
  exact r.sep i j c d hc hd hne hco hdo
 ·obtain ⟨e,hc⟩:=key i c hc
  exact (r.okc i c hc x hx).grow hgr
 ·obtain ⟨e,hc⟩:=key i c hc
  rw [ak _ _ e]
  exact r.pin i c hc hp
 ·by_cases e:i=id
  ·subst e
   rw [ab] at hc ⊢
   cases hc
   exact hl
  ·rw [ak _ _ e] at hc ⊢
   exact r.lst i k' l' hc
theorem HRel.add {w0:W0} {β:Nat->Pl} {h:ah} {w:World} (r:HRel w0 β h w) {id:Nat} (hid:h id = .un) (p:Pl) (b:Blk) (ho:b.own=true -> ∀ k (d:Blk),h k = .live d->d.own=true -> ∀ m,bG p=some m->bG (β k) ≠ some m) (hpin:b.pin=true->p=w0.at_ b.ty)
  (hok : ∀ c ∈ b.body.cells,Go.Proofs.Ytibfppbffdedoaa.okc h c) (hb:BlkOk (upd β id p) w0 w id b):HRel w0 (upd β id p) (upd h id (.live b)) w:=by
 have hgr:Grows h (upd h id (.live b)):=Grows.upd _ _ (by simp)
 refine ⟨r.below,fun i c hc => ?_,fun i j c d hc hd hne hco hdo => ?_,fun i c hc x hx => ?_,B7 r hid hpin,Cf r (by simp) _⟩
 ·by_cases e:i=id
  ·subst e;rw [ab] at hc;cases hc;exact hb
  ·rw [ak _ _ e] at hc
   have hbk:=r.blk i c hc
   unfold BlkOk at hbk ⊢
   rw [ak _ _ e]
   cases ha:(β i).base with
   | none=>rw [ha] at hbk;exact hbk
   | some a =>
    rw [ha] at hbk
    refine ⟨hbk.1,fun j x hj => ?_,hbk.2.2⟩
    rw [iG (r.okc i c hc x (List.mem_of_getElem? hj)) hid]
    exact hbk.2.1 j x hj
 ·by_cases e:i=id
  ·subst e
   rw [ab] at hc
   cases hc
   rw [ak _ _ (Ne.symm hne)] at hd ⊢
   rw [ab]
   intro hb0 he
   cases hp:p.base with
   | none=>exact hb0 hp
   | some a=>exact ho hco j d hd hdo a.block (by simp [bG,hp]) (by rw [<- he];simp [bG,hp])
  ·rw [ak _ _ e] at hc ⊢
   by_cases e2:j=id
   ·subst e2
    rw [ab] at hd
    cases hd
    rw [ab]
    intro hb0 he
    cases hp:p.base with
    | none =>
     rw [show bG p=none by simp [bG,hp]] at he
     unfold bG at he
     cases ha:(β i).base with
     | none=>exact hb0 ha
     | some a=>rw [ha] at he;cases he
    | some a=>exact ho hdo i c hc hco a.block (by simp [bG,hp]) (by rw [he];simp [bG,hp])
   ·rw [ak _ _ e2] at hd ⊢
    exact r.sep i j c d hc hd hne hco hdo
 ·by_cases e:i=id
  ·subst e;rw [ab] at hc;cases hc;exact (hok x hx).grow hgr
  ·rw [ak _ _ e] at hc;exact (r.okc i c hc x hx).grow hgr
theorem HRel.ext {w0:W0} {β:Nat->Pl} {h:ah} {w:World} (r:HRel w0 β h w) {id:Nat} (hid:h id = .un) (p:Pl) (b:Blk) (ho:b.own=false) (hpin:b.pin=false)
  (hok : ∀ c ∈ b.body.cells,Go.Proofs.Ytibfppbffdedoaa.okc h c) (hb:BlkOk (upd β id p) w0 w id b):HRel w0 (upd β id p) (upd h id (.live b)) w :=
 r.add hid p b (fun e=>by rw [ho] at e;cases e) (fun e=>by rw [hpin] at e;cases e) hok hb
end Go.Proofs.Ytibfppbffdedoaa
namespace Go.Proofs.Ytibfppbffdedoaa
open Go.RowKit
def tz:Value->Option Cell
 | .int k n=>some (.lit k n)
 | .bool b=>some (lj b)
 | .pointer none=>some .nilp
 | .slice none 0 0=>some .nils
 | .string s=>some (.str s.data.toList)
 | _=>none
def cP {α β:Type} (f:α->Option β):List α->Option (List β)
 | []=>some []
 | x :: xs=>match f x,cP f xs with
  | some y,some ys=>some (y :: ys)
  | _,_=>none
def nz:Value->Option AV
 | .agg cs=>match cP tz cs.toList with
  | some xs=>some (.one (.agg xs))
  | none=>none
 | v=>match tz v with
  | some c=>some (.one (.c c))
  | none=>none
def mG (P:Program) (t:TypeId):Option (List Cell) :=
 match P.info? t with
 | none=>none
 | some i=>match i.zero with
  | none=>none
  | some v=>cP tz v.cells.toList
def fK:AV->Option (List Cell)
 | .one (.c x)=>some [x]
 | .one (.agg xs)=>some xs
 | .tup _=>none
structure CRes where
 val:AV
 pre:Pr
 reads:List Nat
 new:List Blk
 wrote:List (Nat × HE)
structure Env where
 P:Program
 C:Nat->Nat->ah->List AV->Option CRes
 news:Nat->Nat
structure Eff where
 val:AV
 pre:Pr
 reads:List Nat
 wr:List (Nat × HE)
def tu (v:AV):Eff:=⟨v,.t,[],[]⟩
def jF (c:Cell):Eff:=⟨.one (.c c),.t,[],[]⟩
def aH (h:ah) (i:Nat):Option Blk:=match h i with | .live b=>some b | _=>none
def leB (a b:Nat):Bool:=Nat.ble a b
def wv (c:Cell) (a b:Option AV):Option Eff :=
 match c with
 | .tt=>match a with | some v=>some (tu v) | none=>none
 | .ff=>match b with | some v=>some (tu v) | none=>none
 | .bool p=>match a,b with
  | some (.one (.c x)),some (.one (.c y))=>match iz x,iz y with
   | some x,some y=>some (jF (.bool (match p with | true=>x | false=>y)))
   | _,_=>none
  | _,_=>none
 | _=>none
def Body.get (b:Body) (off n:Nat):Option (Cond (List Cell)) :=
 match b with
 | .row cs=>match ((cs.drop off).take n) with
  | xs=>match xs.length==n with
   | true=>some ⟨.t,xs⟩
   | false=>none
 | .elts k xs=>match n with
  | 1=>some ⟨.p (off<xs.length),[k.cell (xs.getD off k.d)]⟩
  | _=>none
 | .rows _ _=>none
def Body.put (b:Body) (off:Nat) (vs:List Cell):Option (Cond Body) :=
 match b with
 | .row cs=>match leB (off+vs.length) cs.length with
  | true=>some ⟨.t,.row (cs.take off++vs++cs.drop (off+vs.length))⟩
  | false=>none
 | .elts k xs=>match vs with
  | [c]=>match k.rd c with
   | some v=>some ⟨.p (off<xs.length),.elts k (xs.set off v)⟩
   | none=>none
  | _=>none
 | .rows _ _=>none
def ik (P:Program) (h:ah) (t:TypeId) (i off:Nat):Option Eff :=
 match aH h i,P.info? t,mo P t with
 | some b,some ti,some g=>match ti.size with
  | 0=>none
  | n+1=>match b.body.get off (n+1) with
   | some ⟨pre,xs⟩=>match C0 g xs with
    | some v=>some ⟨.one v,pre,[i],[]⟩
    | none=>none
   | none=>none
 | _,_,_=>none
def iM (P:Program) (h:ah) (t:TypeId) (i off:Nat) (v:AV):Option Eff :=
 match aH h i,P.info? t,fK v with
 | some b,some ti,some vs=>match b.own,vs.length==ti.size,vs with
  | true,true,_ :: _=>match b.body.put off vs with
   | some ⟨pre,body⟩=>some ⟨AV.undef,pre,[i],[(i,.live { b with body:=body })]⟩
   | none=>none
  | _,_,_=>none
 | _,_,_=>none
def idx (ix:AV) (len:Nat) (lenKnown:Bool):Option (Cond Nat) :=
 match ix with
 | .one (.c (.lit _ n))=>match lenKnown with
  | true=>match decide (0<=n),leB (n.toNat+1) len with
   | true,true=>some ⟨.t,n.toNat⟩
   | _,_=>none
  | false=>match decide (0<=n) with
   | true=>some ⟨.p (n.toNat<len),n.toNat⟩
   | false=>none
 | .one (.c c)=>match toI c with
  | some (_,n)=>some ⟨.p (0<=n/\n<(len:Int)),n.toNat⟩
  | none=>none
 | _=>none
def cH (P:Program) (h:ah) (t:TypeId) (x ix:AV):Option Eff :=
 match x,P.underlying t with
 | .one (.c (.ptr i off)),some (.array n e)=>match (P.info? e),aH h i,idx ix n true with
  | some ei,some b,some ⟨pre,k⟩=>match b.esz with
   | 0=>some ⟨.one (.c (.ptr i (off+k*ei.size))),pre,[i],[]⟩
   | _=>none
  | _,_,_=>none
 | .one (.c (.slc i off len sz _ kn)),some (.slice e)=>match (P.info? e),aH h i,idx ix len kn with
  | some ei,some b,some ⟨pre,k⟩=>match ei.size==sz,kn,b.body with
   | true,true,.row cs=>match leB (off+len*sz) cs.length,sz with
    | true,_+1=>some ⟨.one (.c (.ptr i (off+k*sz))),pre,[i],[]⟩
    | _,_=>none
   | true,_,.rows _ xs=>some ⟨.one (.c (.pte i (off / sz+k) sz 0 0 0)),pre.and (.p (off+len*sz<=b.body.cells.length/\0<sz/\off % sz=0)),[i],[]⟩
   | true,_,_=>some ⟨.one (.c (.ptr i (off+k*sz))),pre.and (.p (off+len*sz<=b.body.cells.length/\0<sz)),[i],[]⟩
   | _,_,_=>none
  | _,_,_=>none
 | _,_=>none
def eJ (P:Program) (h:ah) (s:TypeId) (x:AV) (f:Nat):Option Eff :=
 match x,P.underlying s with
 | .one (.c (.ptr i off)),some (.struct fs)=>match fs[f]?,aH h i with
  | some fl,some b=>match P.info? fl.type,b.esz with
   | some fi,0=>match fi.size with
    | 0=>none
    | _+1=>some ⟨.one (.c (.ptr i (off+fl.offset))),.t,[i],[]⟩
   | _,_=>none
  | _,_=>none
 | _,_=>none
def nL (P:Program) (t:TypeId) (xs:List Cell) (off:Nat):Option AV :=
 match P.info? t,mo P t with
 | some ti,some g=>match ((xs.drop off).take ti.size) with
  | ys=>match ys.length==ti.size with
   | true=>match C0 g ys with
    | some v=>some (.one v)
    | none=>none
   | false=>none
 | _,_=>none
def nj (P:Program) (t:TypeId) (x:AV) (f:Nat):Option Eff :=
 match x,P.underlying t with
 | .one (.agg xs),some (.struct fs)=>match fs[f]? with
  | some fl=>match nL P fl.type xs fl.offset with
   | some v=>some (tu v)
   | none=>none
  | none=>none
 | _,_=>none
def ni (P:Program) (t:TypeId) (x ix:AV):Option Eff :=
 match x,P.underlying t with
 | .one (.agg xs),some (.array n e)=>match idx ix n true with
  | some ⟨pre,k⟩=>match nL P e xs (k*P.cellsOf e) with
   | some v=>some ⟨v,pre,[],[]⟩
   | none=>none
  | none=>none
 | _,_=>none
def jf (x:AV) (k:Nat):Option Eff :=
 match x with
 | .tup vs=>match vs[k]? with
  | some v=>some (tu (.one v))
  | none=>none
 | _=>none
def bnd (o:Option (Option AV)) (dflt:Nat) (dk:Bool):Option (Cond Nat × Bool) :=
 match o with
 | none=>some (⟨.t,dflt⟩,dk)
 | some (some (.one (.c (.lit _ n))))=>match decide (0<=n) with
  | true=>some (⟨.t,n.toNat⟩,true)
  | false=>none
 | some (some (.one (.c c)))=>match toI c with
  | some (_,n)=>some (⟨.p (0<=n),n.toNat⟩,false)
  | none=>none
 | _=>none
def RC.by (rc:RC) (l:Nat):RC:=match rc with | .kn n => .kn (n-l) | .of k => .of (k+l)
def RC.fits (rc:RC) (off len sz esz:Nat):Prop:=match rc with | .kn n=>len<=n | .of k=>k*sz=off/\esz=sz
def RC.fitsB (rc:RC) (off len sz esz:Nat):Bool:=match rc with | .kn n=>leB len n | .of k=>Nat.beq (k*sz) off && Nat.beq esz sz
def OB (hi mx:Option (Option AV)):Bool:=match mx,hi with | some _,none=>false | _,_=>true
def kd (P:Program) (h:ah) (id:Nat) (t:TypeId) (x:AV) (lo hi mx:Option (Option AV)):Option Eff :=
 match x,P.underlying t with
 | .one (.c (.ptr i off)),some (.array n e)=>match P.info? e,aH h i,bnd mx n true with
  | some ei,some b,some (⟨pm,m⟩,true)=>match bnd hi n true,bnd lo 0 true with
   | some (⟨ph,hv⟩,kh),some (⟨_,l⟩,true)=>match b.esz,kh with
    | 0,true=>match leB l hv && leB hv m && leB m n && OB hi mx with
     | true=>match Nat.beq m l with
      | true=>some ⟨.one (.c (.slc i off (hv-l) ei.size (.kn (m-l)) true)),.t,[i],[]⟩
      | false=>some ⟨.one (.c (.slc i (off+l*ei.size) (hv-l) ei.size (.kn (m-l)) true)),.t,[i],[]⟩
     | false=>none
    | 0,false=>match Nat.beq m l,leB m n && OB hi mx with
     | false,true=>some ⟨.one (.c (.slc i (off+l*ei.size) (hv-l) ei.size (.kn (m-l)) false)),ph.and (.p (l<=hv/\hv<=m)),[i],[]⟩
     | _,_=>none
    | _,_=>none
   | _,_=>none
  | _,_,_=>none
 | .one (.c (.slc i off len sz rc kn)),some (.slice e)=>match P.info? e,aH h i,mx with
  | some ei,some b,none=>match bnd hi len kn,bnd lo 0 true with
   | some (⟨ph,hv⟩,kh),some (⟨pl,l⟩,kl)=>match Nat.beq ei.size sz with
    | true =>
     match kn,kh,kl,b.body with
     | true,true,true,.row cs =>
      match leB l hv && leB hv len && leB (off+len*sz) cs.length && Nat.blt 0 sz with
      | true =>
       match rc.fitsB off len sz b.esz with
       | true=>match Nat.beq l 0 || Nat.blt l hv with
        | true=>some ⟨.one (.c (.slc i (off+l*sz) (hv-l) sz (rc.by l) true)),.t,[i],[]⟩
        | false=>some ⟨.one (.c (.slc id 0 0 sz (.of 0) true)),.t,[i],[(id,.live ⟨false,e,sz,.row [],false⟩)]⟩
       | false=>none
      | false=>none
     | _,_,_,_ =>
      some ⟨.one (.c (.slc i (off+l*sz) (hv-l) sz (rc.by l) false)),
       (ph.and pl).and (.p (l<=hv/\hv<=len/\off+len*sz<=b.body.cells.length/\0<sz/\(l=0 \/ l<hv)/\rc.fits off len sz b.esz)),[i],[]⟩
    | false=>none
   | _,_=>none
  | _,_,_=>none
 | _,_=>none
def gI (P:Program) (h:ah) (t:TypeId) (x:AV):Option Eff :=
 match x,P.underlying t with
 | .one (.c (.slc i off len sz _ true)),some (.array n _)=>match aH h i with
  | some b=>match b.body with
   | .row cs=>match leB n len && leB (off+len*sz) cs.length && Nat.blt 0 (len*sz) && Nat.beq b.esz 0 with
    | true=>some ⟨.one (.c (.ptr i off)),.t,[i],[]⟩
    | false=>none
   | _=>none
  | none=>none
 | _,_=>none
def fy (h:ah) (x:AV):Option Eff :=
 match x with
 | .one (.c (.ptr i off))=>match aH h i with
  | some b=>match b.esz with
   | 0=>some ⟨x,.t,[i],[]⟩
   | _=>none
  | none=>none
 | _=>none
def tI (place:Nat->Option (Nat × Nat)) (cells:List Cell):List (Nat × List Cell)->Option (List Cell)
 | []=>some cells
 | (i,vs) :: rest=>match place i with
  | none=>none
  | some (off,size)=>match Nat.beq vs.length size && leB (off+size) cells.length with
   | true=>tI place (cells.take off++vs++cells.drop (off+vs.length)) rest
   | false=>none
def iC (ev:Operand->Option AV) (ps:List (Nat × Operand)):Option (List (Nat × List Cell)) :=
 cP (fun p=>match ev p.2 with
  | some v=>match fK v with
   | some vs=>some (p.1,vs)
   | none=>none
  | none=>none) ps
def CX (P:Program) (t:TypeId):Option (Nat->Option (Nat × Nat)) :=
 match P.underlying t with
 | some (.array _ e)=>match P.info? e with
  | some ei=>some fun i=>some (i*ei.size,ei.size)
  | none=>none
 | some (.struct fs)=>match cP (fun (f:Field)=>match P.info? f.type with | some fi=>some (f.offset,fi.size) | none=>none) fs.toList with
  | some pl=>some fun i=>pl[i]?
  | none=>none
 | _=>none
def nk (P:Program) (t:TypeId) (parts:Option (List (Nat × List Cell))):Option Eff :=
 match mG P t,CX P t,parts with
 | some z,some pl,some ps=>match tI pl z ps with
  | some cs=>some (tu (.one (.agg cs)))
  | none=>none
 | _,_,_=>none
def Nq (kn:Bool) (len:Nat):Cell:=match kn with | true => .lit .i64 len | false => .int .i64 len
def mB (P:Program) (h:ah) (t:TypeId) (x:AV):Option Eff :=
 match x,P.underlying t with
 | .one (.c (.slc i off len sz _ kn)),some (.slice _)=>match aH h i with
  | some b=>match b.body with
   | .row cs=>match leB (off+len*sz) cs.length && Nat.blt 0 sz with
    | true=>some ⟨.one (.c (Nq kn len)),.t,[i],[]⟩
    | false=>none
   | _=>some ⟨.one (.c (Nq kn len)),.p (off+len*sz<=b.body.cells.length/\0<sz),[i],[]⟩
  | none=>none
 | .one (.c .nils),some (.slice _)=>some (jF (.lit .i64 0))
 | .one (.c (.str s)),some .string=>some (jF (.int .i64 s.length))
 | .one (.c (.ptr _ _)),some (.array n _)=>some (jF (.lit .i64 n))
 | .one (.agg _),some (.array n _)=>some (jF (.lit .i64 n))
 | _,_=>none
def Ca (isMax:Bool) (a b:Cell):Option Cell :=
 match a,b with
 | .lit k x,.lit k' y=>match tc k==tc k' with
  | true=>some (.lit k (match isMax with | true=>if y > x then y else x | false=>if y<x then y else x))
  | false=>none
 | _,_=>match toI a,toI b with
  | some (k,x),some (k',y)=>match tc k==tc k' with
   | true=>some (.int k (match isMax with | true=>if y > x then y else x | false=>if y<x then y else x))
   | false=>none
  | _,_=>none
def q9 (isMax:Bool):Cell->List AV->Option Cell
 | c,[]=>some c
 | c,.one (.c d) :: rest=>match Ca isMax c d with
  | some e=>q9 isMax e rest
  | none=>none
 | _,_=>none
def xa (isMax:Bool) (args:List AV):Option Eff :=
 match args with
 | .one (.c c) :: rest=>match q9 isMax c rest with
  | some e=>some (jF e)
  | none=>none
 | _=>none
def cyc (z:List Cell) (n:Nat):List Cell:=(List.range n).map fun i=>z.getD (i % z.length) .nilp
def fj (P:Program) (id:Nat) (t:TypeId) (len:Nat) (parts:Option (List (Nat × List Cell))):Option Eff :=
 match P.underlying t,parts with
 | some (.slice e),some ps=>match P.info? e,mG P e with
  | some ei,some z=>match leB (len*ei.size) 16777216 && Nat.beq z.length ei.size && Nat.blt 0 ei.size,tI (fun i=>some (i*ei.size,ei.size)) (cyc z (len*ei.size)) ps with
   | true,some cs=>some ⟨.one (.c (.slc id 0 len ei.size (.of 0) true)),.t,[],[(id,.live ⟨true,e,ei.size,.row cs,false⟩)]⟩
   | _,_=>none
  | _,_=>none
 | _,_=>none
def qe (z:List Cell) (n:Nat):Option Body :=
 match z with
 | [.lit .u64 (.ofNat 0)]=>some (.elts .u64 (List.replicate n (0:UInt64)))
 | [.lit .u8 (.ofNat 0)]=>some (.elts .u8 (List.replicate n (0:UInt8)))
 | [.ff]=>some (.elts .bool (List.replicate n false))
 | [.lit .i64 (.ofNat 0)]=>some (.elts .int (List.replicate n (0:Int)))
 | [.lit .u64 (.ofNat 0),.lit .u64 (.ofNat 0),.lit .u64 (.ofNat 0),.lit .u64 (.ofNat 0)]=>some (.rows .fr (List.replicate n (⟨0,0,0,0⟩:Fr)))
 | _=>none
def fU (P:Program) (id:Nat) (t:TypeId) (l c:AV):Option Eff :=
 match P.underlying t with
 | some (.slice e)=>match P.info? e,mG P e with
  | some ei,some z=>match l,c with
   | .one (.c (.lit _ n)),.one (.c (.lit _ m)) =>
    match decide (0<=n) && decide (n<=m) && leB (m.toNat*ei.size) 16777216 && leB (ei.bytes*m.toNat) 281474976710656 && Nat.beq z.length ei.size && Nat.blt 0 ei.size with
    | true=>some ⟨.one (.c (.slc id 0 n.toNat ei.size (.of 0) true)),.t,[],[(id,.live ⟨true,e,ei.size,.row (cyc z (m.toNat*ei.size)),false⟩)]⟩
    | false=>none
   | .one (.c a),.one (.c b)=>match toI a,toI b,Nat.beq z.length ei.size && Nat.blt 0 ei.size with
    | some (_,n),some (_,m),true=>match qe z m.toNat with
     | some body=>some ⟨.one (.c (.slc id 0 n.toNat ei.size (.of 0) false)),.p (0<=n/\n<=m/\ei.bytes*m<=281474976710656/\m<1125899906842624),[],[(id,.live ⟨true,e,ei.size,body,false⟩)]⟩
     | none=>none
    | _,_,_=>none
   | _,_=>none
  | _,_=>none
 | _=>none
inductive Els where
 | row (cs:List Cell)
 | lst (k:EK) (xs:List k.ty)
 | rws (k:RK) (xs:List k.ty)
def Els.cells:Els->List Cell
 | .row cs=>cs
 | .lst k xs=>xs.map k.cell
 | .rws k xs=>ac k xs
def Els.body:Els->Body
 | .row cs => .row cs
 | .lst k xs => .elts k xs
 | .rws k xs => .rows k xs
def iV (j m:Nat):Nat:=match m with | 1=>j | m=>j*m
def LB (a b:Nat):Nat:=match b with | 0=>a | b+1=>a+(b+1)
theorem gL (j m:Nat):iV j m=j*m:=by unfold iV;split <;> simp
theorem zP (a b:Nat):LB a b=a+b:=by cases b <;> rfl
def atE (ks j sz i ssz r:Nat):Option (Nat × Nat) :=
 match Nat.beq (sz / ks*ks) sz && Nat.beq (ssz / ks*ks) ssz with
 | true=>match ssz with
  | 0=>some (LB (iV j (sz / ks)) (r / ks),r % ks)
  | s+1=>some (LB (iV j (sz / ks)+iV i ((s+1) / ks)) (r / ks),r % ks)
 | false=>none
theorem KW {ks j sz i ssz r e q:Nat} (h0:0<ks) (h:atE ks j sz i ssz r=some (e,q)):j*sz+(i*ssz+r)=e*ks+q/\q<ks:=by
 unfold atE at h
 split at h
 ·rename_i hc
  simp only [Bool.and_eq_true] at hc
  have h1:=Nat.eq_of_beq_eq_true hc.1
  have h2:=Nat.eq_of_beq_eq_true hc.2
  have hr:=Nat.div_add_mod r ks
  rw [Nat.mul_comm] at hr
  split at h
  ·cases h
   refine ⟨?_,Nat.mod_lt _ h0⟩
   rw [zP,gL,Nat.add_mul,Nat.mul_assoc,h1,Nat.mul_zero]
   omega
  ·rename_i s
   cases h
   refine ⟨?_,Nat.mod_lt _ h0⟩
   rw [zP,gL,gL,Nat.add_mul,Nat.add_mul,Nat.mul_assoc,Nat.mul_assoc,h1,h2]
   omega
 ·cases h
def Ls (b:Body) (off len sz:Nat) (kn:Bool):Option (Cond Els) :=
 match b with
 | .row cs=>match kn,leB (off+len*sz) cs.length with
  | true,true=>some ⟨.t,.row ((cs.drop off).take (len*sz))⟩
  | _,_=>none
 | .elts k xs=>match Nat.beq sz 1 with
  | true=>some ⟨.p (off+len<=xs.length),.lst k ((xs.drop off).take len)⟩
  | false=>none
 | .rows k xs=>match Nat.beq (sz / k.sz*k.sz) sz with
  | true=>some ⟨.p (off+len*sz<=(ac k xs).length/\off % k.sz=0),.rws k ((xs.drop (off / k.sz)).take (iV len (sz / k.sz)))⟩
  | false=>none
def Lk (k k':EK) (xs:List k.ty) (ys:List k'.ty):Option (List k.ty) :=
 match k,k',xs,ys with
 | .u64,.u64,xs,ys=>some (xs++ys)
 | .u8,.u8,xs,ys=>some (xs++ys)
 | .bool,.bool,xs,ys=>some (xs++ys)
 | .int,.int,xs,ys=>some (xs++ys)
 | _,_,_,_=>none
def Lj (k k':RK) (xs:List k.ty) (ys:List k'.ty):Option (List k.ty) :=
 match k,k',xs,ys with
 | .fr,.fr,xs,ys=>some (xs++ys)
 | .g1,.g1,xs,ys=>some (xs++ys)
 | .g2,.g2,xs,ys=>some (xs++ys)
 | .duo,.duo,xs,ys=>some (xs++ys)
 | .sp1,.sp1,xs,ys=>some (xs++ys)
 | .sp2,.sp2,xs,ys=>some (xs++ys)
 | .rw,.rw,xs,ys=>some (xs++ys)
 | .ip,.ip,xs,ys=>some (xs++ys)
 | .st,.st,xs,ys=>some (xs++ys)
 | _,_,_,_=>none
def Els.join:Els->Els->Option Els
 | .row a,.row b=>some (.row (a++b))
 | .lst k xs,.row b=>match cP k.rd b with
  | some ys=>some (.lst k (xs++ys))
  | none=>none
 | .row a,.lst k ys=>match cP k.rd a with
  | some xs=>some (.lst k (xs++ys))
  | none=>none
 | .lst k xs,.lst k' ys=>match Lk k k' xs ys with
  | some zs=>some (.lst k zs)
  | none=>none
 | .rws k xs,.row b=>match mN k b with
  | some ys=>some (.rws k (xs++ys))
  | none=>none
 | .row a,.rws k ys=>match mN k a with
  | some xs=>some (.rws k (xs++ys))
  | none=>none
 | .rws k xs,.rws k' ys=>match Lj k k' xs ys with
  | some zs=>some (.rws k zs)
  | none=>none
 | .rws _ _,.lst _ _=>none
 | .lst _ _,.rws _ _=>none
def Body.getE (b:Body) (j sz i ssz r n:Nat):Option (Cond (List Cell)) :=
 match b with
 | .rows k xs=>match atE k.sz j sz i ssz r with
  | some (e,q)=>match leB (q+n) k.sz with
   | true=>some ⟨.p (e<xs.length),((k.cs (xs.getD e k.d)).drop q).take n⟩
   | false=>none
  | none=>match Nat.beq sz k.sz,k.sub (xs.getD j k.d) ssz r i n with
   | true,some (p,cs)=>some ⟨.p (j<xs.length/\p),cs⟩
   | _,_=>none
 | _=>none
structure SlV where
 els:Els
 len:Nat
 kn:Bool
 id:List Nat
def ec (h:ah) (sz:Nat) (v:AV):Option (Cond SlV) :=
 match v with
 | .one (.c .nils)=>some ⟨.t,⟨.row [],0,true,[]⟩⟩
 | .one (.c (.slc i off len sz' _ kn))=>match aH h i,Nat.beq sz' sz with
  | some b,true=>match Ls b.body off len sz kn with
   | some ⟨p,e⟩=>some ⟨p,⟨e,len,kn,[i]⟩⟩
   | none=>none
  | _,_=>none
 | .one (.c (.sle i j s r len _))=>match aH h i,Nat.beq sz 1 with
  | some b,true=>match b.body.getE j s 0 0 r len with
   | some ⟨p,cs⟩=>some ⟨p,⟨.row cs,len,true,[i]⟩⟩
   | none=>none
  | _,_=>none
 | _=>none
def ma (h:ah) (e:TypeId) (sz:Nat) (v:AV):Bool :=
 match v with
 | .one (.c .nils)=>true
 | .one (.c (.slc i off _ _ rc _))=>match aH h i,rc with
  | some b,.of k=>b.own && Nat.beq off 0 && Nat.beq k 0 && Nat.beq b.ty e && Nat.beq b.esz sz
  | _,_=>false
 | _=>false
def KX (kn:Bool) (n bytes:Nat):Option Pr :=
 match kn with
 | true=>match leB n 1048576 && leB (n*bytes) 140737488355328 with
  | true=>some .t
  | false=>none
 | false=>some (.p (n<=maxLen/\n*bytes<=140737488355328))
def gH:List Nat->List (Nat × HE)
 | [] => []
 | i :: is=>(i,.dead) :: gH is
def et (P:Program) (h:ah) (id:Nat) (t:TypeId) (x y:AV):Option Eff :=
 match P.underlying t with
 | some (.slice e)=>match P.info? e,mG P e with
  | some ei,some z=>match Nat.beq z.length ei.size && Nat.blt 0 ei.size && ma h e ei.size x,ec h ei.size x,ec h ei.size y with
   | true,some ⟨p,u⟩,some ⟨q,v⟩=>match u.els.join v.els,KX (u.kn && v.kn) (u.len+v.len) ei.bytes with
    | some r,some o=>some ⟨.one (.c (.slc id 0 (u.len+v.len) ei.size (.of 0) (u.kn && v.kn))),(p.and q).and o,u.id++v.id,gH u.id ++ [(id,.live ⟨true,e,ei.size,r.body,false⟩)]⟩
    | _,_=>none
   | _,_,_=>none
  | _,_=>none
 | _=>none
def Body.els:Body->Els
 | .row cs => .row cs
 | .elts k xs => .lst k xs
 | .rows k xs => .rws k xs
def dg (P:Program) (h:ah) (id:Nat) (t t':TypeId) (x y:AV):Option Eff :=
 match P.underlying t,P.underlying t' with
 | some (.slice e),some (.int _)=>match P.info? e,mG P e with
  | some ei,some z=>match y with
   | .one (.c c)=>match toI c with
    | some (_,n)=>match Nat.beq z.length ei.size && Nat.blt 0 ei.size && ma h e ei.size x,ec h ei.size x,qe z n.toNat with
     | true,some ⟨p,u⟩,some b=>match u.els.join b.els with
      | some r=>some ⟨.one (.c (.slc id 0 (u.len+n.toNat) ei.size (.of 0) false)),p.and (.p (0<=n/\u.len+n.toNat<=maxLen/\(u.len+n.toNat)*ei.bytes<=140737488355328)),u.id,gH u.id ++ [(id,.live ⟨true,e,ei.size,r.body,false⟩)]⟩
      | none=>none
     | _,_,_=>none
    | none=>none
   | _=>none
  | _,_=>none
 | _,_=>none
def gp {α:Type} (b:Bool) (x y:α):α:=match b with | true=>x | false=>y
def Gu (k:EK) (ys:List k.ty) (m:Nat):Nat->List Cell->Option (List Cell)
 | _,[]=>some []
 | p,c :: cs=>match k.rd c,Gu k ys m (p+1) cs with
  | some o,some rest=>some (k.cell (gp (Nat.blt p m) (ys.getD p k.d) o) :: rest)
  | _,_=>none
def il (P:Program) (h:ah) (t:TypeId) (x y:AV):Option Eff :=
 match x,P.underlying t with
 | .one (.c (.slc i off len 1 _ true)),some (.slice e)=>match aH h i,P.info? e,ec h 1 y with
  | some b,some ei,some ⟨q,v⟩=>match b.own && Nat.beq ei.size 1,b.body with
   | true,.row cs=>match leB (off+len) cs.length,v.els,v.kn with
    | true,.row ds,true=>some ⟨.one (.c (.lit .i64 ((min v.len len:Nat):Int))),q,i :: v.id,[(i,.live { b with body := .row (cs.take off++ds.take (min v.len len)++cs.drop (off+min v.len len)) })]⟩
    | true,.lst k ys,_=>match Gu k ys v.len 0 ((cs.drop off).take len) with
     | some ds=>some ⟨.one (.c (.int .i64 ((min v.len len:Nat):Int))),q,i :: v.id,[(i,.live { b with body := .row (cs.take off++ds++cs.drop (off+len)) })]⟩
     | none=>none
    | _,_,_=>none
   | _,_=>none
  | _,_,_=>none
 | _,_=>none
def KT (P:Program) (t:TypeId):Bool:=match P.underlying t with
 | some (.slice e)=>match P.underlying e,P.info? e with
  | some (.int .u8),some ei=>Nat.beq ei.size 1
  | _,_=>false
 | _=>false
def lE (P:Program) (h:ah) (src dst:TypeId) (x:AV):Option Eff :=
 match KT P src && CN P dst,ec h 1 x with
 | true,some ⟨p,v⟩=>match v.els with
  | .lst .u8 xs=>some ⟨.one (.c (.str xs)),p,v.id,[]⟩
  | .row cs=>match cP toB cs with
   | some xs=>some ⟨.one (.c (.str xs)),p,v.id,[]⟩
   | none=>none
  | _=>none
 | _,_=>none
def Body.putE (b:Body) (j sz i ssz r:Nat) (vs:List Cell):Option (Cond Body) :=
 match b with
 | .rows k xs=>match atE k.sz j sz i ssz r with
  | some (e,q)=>match leB (q+vs.length) k.sz,k.rd ((k.cs (xs.getD e k.d)).take q++vs++(k.cs (xs.getD e k.d)).drop (q+vs.length)) with
   | true,some x=>some ⟨.p (e<xs.length),.rows k (xs.set e x)⟩
   | _,_=>none
  | none=>none
 | _=>none
def dR (P:Program) (h:ah) (t:TypeId) (id j sz i ssz r:Nat):Option Eff :=
 match aH h id,P.info? t,mo P t with
 | some b,some ti,some g=>match ti.size with
  | 0=>none
  | n+1=>match b.body.getE j sz i ssz r (n+1) with
   | some ⟨pre,xs⟩=>match C0 g xs with
    | some v=>some ⟨.one v,pre,[id],[]⟩
    | none=>none
   | none=>none
 | _,_,_=>none
def du (P:Program) (h:ah) (t:TypeId) (id j sz i ssz r:Nat) (v:AV):Option Eff :=
 match aH h id,P.info? t,fK v with
 | some b,some ti,some vs=>match b.own,vs.length==ti.size,vs with
  | true,true,_ :: _=>match b.body.putE j sz i ssz r vs with
   | some ⟨pre,body⟩=>some ⟨AV.undef,pre,[id],[(id,.live { b with body:=body })]⟩
   | none=>none
  | _,_,_=>none
 | _,_,_=>none
def eo (P:Program) (h:ah) (t:TypeId) (id j sz i ssz r:Nat) (ix:AV):Option Eff :=
 match P.underlying t with
 | some (.array n e)=>match P.info? e,aH h id,idx ix n true with
  | some ei,some b,some ⟨pre,k⟩=>match ix with
   | .one (.c (.lit _ _))=>some ⟨.one (.c (.pte id j sz i ssz (r+k*ei.size))),pre.and (.p (j*sz<b.body.cells.length)),[id],[]⟩
   | _=>match ssz with
    | 0=>some ⟨.one (.c (.pte id j sz k ei.size r)),pre.and (.p (j*sz<b.body.cells.length)),[id],[]⟩
    | _+1=>none
  | _,_,_=>none
 | _=>none
def es (P:Program) (h:ah) (s:TypeId) (id j sz i ssz r:Nat) (f:Nat):Option Eff :=
 match P.underlying s with
 | some (.struct fs)=>match fs[f]?,aH h id with
  | some fl,some b=>match P.info? fl.type with
   | some fi=>match fi.size with
    | 0=>none
    | _+1=>some ⟨.one (.c (.pte id j sz i ssz (r+fl.offset))),.p (j*sz<b.body.cells.length),[id],[]⟩
   | none=>none
  | _,_=>none
 | _=>none
def jq (h:ah) (id j sz i ssz r:Nat):Option Eff :=
 match aH h id with
 | some b=>some ⟨.one (.c (.pte id j sz i ssz r)),.p (j*sz<b.body.cells.length),[id],[]⟩
 | none=>none
def en (P:Program) (h:ah) (t:TypeId) (id j sz ssz r:Nat) (lo hi mx:Option (Option AV)):Option Eff :=
 match P.underlying t with
 | some (.array n e)=>match P.info? e,aH h id,lo,hi,mx,ssz with
  | some ei,some b,none,none,none,0=>match Nat.beq ei.size 1 with
   | true=>some ⟨.one (.c (.sle id j sz r n n)),.p (j*sz<b.body.cells.length),[id],[]⟩
   | false=>none
  | _,_,_,_,_,_=>none
 | _=>none
def gU (h:ah) (v:AV):Option (Nat × Nat × Σ k:RK,List (List k.ty)) :=
 match v with
 | .one (.c (.slc i 0 len 1 _ _))=>match h i with
  | .lists k l=>some (i,len,⟨k,l⟩)
  | _=>none
 | _=>none
def fq (P:Program) (t:TypeId) (i len:Nat) (kl:Σ k:RK,List (List k.ty)) (ix:AV):Option Eff :=
 match P.underlying t with
 | some (.slice e)=>match P.info? e,idx ix len false with
  | some ei,some ⟨pre,k⟩=>match Nat.beq ei.size 1 with
   | true=>some ⟨.one (.c (.pte i k 1 0 0 0)),pre.and (.p (len<=kl.2.length)),[i],[]⟩
   | false=>none
  | _,_=>none
 | _=>none
def nM (P:Program) (t:TypeId) (i len:Nat) (kl:Σ k:RK,List (List k.ty)):Option Eff :=
 match P.underlying t with
 | some (.slice _)=>some ⟨.one (.c (.int .i64 len)),.p (len=kl.2.length),[i],[]⟩
 | _=>none
def j0 (t:TypeId):Nat:=t+1000000
def ke (E:Env) (new:Nat) (t:TypeId) (i j:Nat) (k:RK) (l:List (List k.ty)):Option Eff :=
 match E.news (j0 t),E.P.underlying t,E.P.info? t,mo E.P t with
 | _+1,some (.slice e),some ti,some false=>match Nat.beq ti.size 1 with
  | true=>some ⟨.one (.c (.slc new 0 (l.getD j []).length k.sz (.of 0) false)),.p (j<l.length),[i],[(new,.live ⟨false,e,k.sz,.rows k (l.getD j []),false⟩)]⟩
  | false=>none
 | _,_,_,_=>none
def fN (E:Env) (h:ah) (new:Nat) (t:TypeId) (id j sz i ssz r:Nat):Option Eff :=
 match h id with
 | .lists k l=>match sz,i,ssz,r with
  | 1,0,0,0=>ke E new t id j k l
  | _,_,_,_=>none
 | _=>dR E.P h t id j sz i ssz r
def ck (E:Env) (o:Oper):Nat :=
 match o.op with
 | .load t _=>E.news (j0 t)
 | .alloc _ | .box _ _ | .slice .. | .makeSlice .. | .buildSlice .. => 1
 | .call c=>match c.callee with
  | .value (.func f)=>E.news f
  | .value _=>0
  | .builtin .append=>1
  | _=>0
 | _=>0
def oE:Nat->List Blk->List (Nat × HE)
 | _,[] => []
 | id,b :: bs=>(id,.live b) :: oE (id+1) bs
def act (E:Env) (id:Nat) (ev:Operand->Option AV) (h:ah) (o:Oper):Option Eff :=
 match o.op with
 | .move x | .assign x=>match ev x with | some v=>some (tu v) | none=>none
 | .pick c a b=>match ev c with
  | some (.one (.c c))=>wv c (ev a) (ev b)
  | _=>none
 | .alloc t=>match mG E.P t with
  | some cs=>some ⟨.one (.c (.ptr id 0)),.t,[],[(id,.live ⟨true,t,0,.row cs,false⟩)]⟩
  | none=>none
 | .box t x=>match ev x with
  | some v=>match fK v with
   | some cs=>some ⟨.one (.c (.ptr id 0)),.t,[],[(id,.live ⟨true,t,0,.row cs,false⟩)]⟩
   | none=>none
  | none=>none
 | .build t parts=>nk E.P t (iC ev parts.toList)
 | .load t a=>match ev a with
  | some (.one (.c (.ptr i off)))=>ik E.P h t i off
  | some (.one (.c (.pte id' j sz i ssz r)))=>fN E h id t id' j sz i ssz r
  | _=>none
 | .store t a x=>match ev a,ev x with
  | some (.one (.c (.ptr i off))),some v=>iM E.P h t i off v
  | some (.one (.c (.pte id j sz i ssz r))),some v=>du E.P h t id j sz i ssz r v
  | _,_=>none
 | .nilCheck x=>match ev x with
  | some (.one (.c (.pte id j sz i ssz r)))=>jq h id j sz i ssz r
  | some v=>fy h v
  | none=>none
 | .binOp op t x y _=>match ev x,ev y with
  | some a,some b=>match NS E.P op t a b with
   | some r=>some ⟨.one (.c r.val),r.pre,[],[]⟩
   | none=>none
  | _,_=>none
 | .unOp op _ x=>match ev x with
  | some a=>match unC op a with
   | some c=>some (jF c)
   | none=>none
  | none=>none
 | .convert src dst x=>match ev x with
  | some a=>match BH E.P src dst a with
   | some c=>some (jF c)
   | none=>lE E.P h src dst a
  | none=>none
 | .sliceToArrayPointer t x=>match ev x with
  | some v=>gI E.P h t v
  | none=>none
 | .slice t x lo hi mx=>match ev x with
  | some (.one (.c (.pte id j sz _ ssz r)))=>en E.P h t id j sz ssz r (lo.map ev) (hi.map ev) (mx.map ev)
  | some v=>kd E.P h id t v (lo.map ev) (hi.map ev) (mx.map ev)
  | none=>none
 | .fieldAddr s x f=>match ev x with
  | some (.one (.c (.pte id j sz i ssz r)))=>es E.P h s id j sz i ssz r f
  | some v=>eJ E.P h s v f
  | none=>none
 | .field t x f=>match ev x with
  | some v=>nj E.P t v f
  | none=>none
 | .indexAddr t x ix=>match ev x,ev ix with
  | some (.one (.c (.pte id j sz i ssz r))),some k=>eo E.P h t id j sz i ssz r k
  | some v,some k=>match gU h v with
   | some (i,len,kl)=>fq E.P t i len kl k
   | none=>cH E.P h t v k
  | _,_=>none
 | .index t x ix=>match ev x,ev ix with
  | some v,some k=>ni E.P t v k
  | _,_=>none
 | .extract x k=>match ev x with
  | some v=>jf v k
  | none=>none
 | .call c=>match c.callee with
  | .value f=>match ev f,cP ev c.args.toList with
   | some (.one (.c (.fn f))),some args=>match E.C f id h args with
    | some r=>match leB r.new.length (ck E o) with
     | true=>some ⟨r.val,r.pre,r.reads,oE id r.new++r.wrote⟩
     | false=>none
    | none=>none
   | some (.one (.c (.clo f i off))),some args=>match E.C f id h (args ++ [.one (.c (.ptr i off))]) with
    | some r=>match r.new with
     | []=>some ⟨r.val,r.pre,r.reads,r.wrote⟩
     | _ :: _=>none
    | none=>none
   | _,_=>none
  | .builtin b=>match cP ev c.args.toList with
   | some args=>match b,args,c.argTypes.toList with
    | .len,[x],[t]=>match gU h x with
     | some (i,len,kl)=>nM E.P t i len kl
     | none=>mB E.P h t x
    | .max,_,_=>xa true args
    | .min,_,_=>xa false args
    | .append,[x,y],[t,t']=>match Nat.beq t t' with
     | true=>et E.P h id t x y
     | false=>dg E.P h id t t' x y
    | .copy,[x,y],[t,t']=>match Nat.beq t t' with
     | true=>il E.P h t x y
     | false=>none
    | _,_,_=>none
   | none=>none
  | _=>none
 | .buildSlice t len parts=>fj E.P id t len (iC ev parts.toList)
 | .makeSlice t l c=>match ev l,ev c with
  | some a,some b=>fU E.P id t a b
  | _,_=>none
 | .makeFunc fn first captured=>match fn,first.toList,captured.toList with
  | .func f,[],[x]=>match ev x with
   | some (.one (.c (.ptr i off)))=>some (jF (.clo f i off))
   | _=>none
  | _,_,_=>none
 | _=>none
end Go.Proofs.Ytibfppbffdedoaa
namespace Go.Proofs.Ytibfppbffdedoaa
open Go.RowKit
inductive Tree (α : Type) where
 | leaf (a:α)
 | br (b:Bool) (t f:Tree α)
 | vc (p:Prop) (t:Tree α)
 | fail
def Tree.bind {α β:Type}:Tree α->(α->Tree β)->Tree β
 | .leaf a,k=>k a
 | .br b t f,k => .br b (t.bind k) (f.bind k)
 | .vc p t,k => .vc p (t.bind k)
 | .fail,_ => .fail
def Tree.sat {α:Type}:Tree α->(α->Prop)->Prop
 | .leaf a,Q=>Q a
 | .br b t f,Q=>(b=true->t.sat Q)/\(b=false->f.sat Q)
 | .vc p t,Q=>p/\(p->t.sat Q)
 | .fail,_=>False
theorem Tree.sat_bind {α β:Type} (t:Tree α) (k:α->Tree β) (Q:β->Prop):(t.bind k).sat Q <-> t.sat fun a=>(k a).sat Q:=by
 induction t with
 | leaf a=>exact Iff.rfl
 | br b t f iht ihf=>simp only [Tree.bind,Tree.sat,iht,ihf]
 | vc p t ih=>simp only [Tree.bind,Tree.sat,ih]
 | fail=>exact Iff.rfl
theorem Tree.sat_mono {α:Type} {t:Tree α} {Q R:α->Prop} (h : ∀ a,Q a->R a) (s:t.sat Q):t.sat R:=by
 induction t with
 | leaf a=>exact h a s
 | br b t f iht ihf=>exact ⟨fun e=>iht (s.1 e),fun e=>ihf (s.2 e)⟩
 | vc p t ih=>exact ⟨s.1,fun e=>ih (s.2 e)⟩
 | fail=>exact s
def nth {α:Type}:List α->Nat->Option α
 | [],_=>none
 | x :: _,0=>some x
 | _ :: xs,n+1=>nth xs n
def tY {α:Type}:List α->Nat->α->List α
 | [],_,_ => []
 | _ :: xs,0,y=>y :: xs
 | x :: xs,n+1,y=>x :: tY xs n y
inductive Tr where
 | nil
 | nd (v:Option AV) (l r:Tr)
def Tr.get:Tr->Nat->Option AV
 | .nil,_=>none
 | .nd v l r,k=>match k with
  | 0=>v
  | k+1=>match Nat.beq (k % 2) 0 with
   | true=>l.get (k / 2)
   | false=>r.get (k / 2)
def Tr.val:Tr->Option AV | .nil=>none | .nd v _ _=>v
def Tr.lf:Tr->Tr | .nil => .nil | .nd _ l _=>l
def Tr.rt:Tr->Tr | .nil => .nil | .nd _ _ r=>r
def Tr.setF:Nat->Tr->Nat->AV->Tr
 | 0,t,_,x => .nd (some x) t.lf t.rt
 | n+1,t,k,x=>match k with
  | 0 => .nd (some x) t.lf t.rt
  | k+1=>match Nat.beq (k % 2) 0 with
   | true => .nd t.val (setF n t.lf (k / 2) x) t.rt
   | false => .nd t.val t.lf (setF n t.rt (k / 2) x)
def Tr.set (t:Tr) (k:Nat) (x:AV):Tr:=Tr.setF k t k x
structure Tm where
 n:Nat
 tr:Tr
structure St where
 tmps:Tm
 heap:List HE
def evS (tmps:Tm):Operand->Option AV
 | .tmp t=>tmps.tr.get t
 | .const v=>nz v
 | .global _=>none
 | .func f=>some (.one (.c (.fn f)))
def hpS (heap:List HE):ah:=fun i=>match nth heap i with | some x=>x | none => .un
def ir (tmps:Tm) (dst:Option Tmp) (v:AV):Tm:=match dst with
 | some d=>⟨tmps.n,match Nat.blt d tmps.n with | true=>tmps.tr.set d v | false=>tmps.tr⟩
 | none=>tmps
def gQ (heap:List HE):List (Nat × HE)->List HE
 | []=>heap
 | (i,x) :: rest=>gQ (tY heap i x) rest
def pi (ops:List Oper) (tmps:Tm) (j:Nat):Option (Option Bool) :=
 match nth ops j with
 | some o=>match o.dst with
  | some d=>match tmps.tr.get d with
   | some (.one (.c .tt))=>some (some true)
   | some (.one (.c .ff))=>some (some false)
   | some (.tup [])=>some none
   | _=>none
  | none=>none
 | none=>none
def cY (ops:List Oper) (tmps:Tm) (o:Oper):Option Bool :=
 match o.guard with
 | none=>some true
 | some (j,want)=>match pi ops tmps j with
  | some (some b)=>some (match b,want with | true,true=>true | false,false=>true | _,_=>false)
  | some none=>some false
  | none=>none
def rk:List Oper->Nat->Bool
 | [],_=>false
 | o :: rest,j=>match o.guard with
  | some (k,_)=>match Nat.beq k j with
   | true=>true
   | false=>rk rest j
  | none=>rk rest j
abbrev pp:=List Nat × List Nat
def jG (E:Env) (o:Oper) (id:Nat):Nat:=id+ck E o
def M4 (E:Env) (o:Oper) (L id:Nat):Nat:=match ck E o with | _+1=>id | 0=>L
def hH (E:Env) (ops:List Oper) (L:Nat):List Oper->Nat->Nat->St->List pp->Tree (St × List pp)
 | [],_,_,st,log => .leaf (st,log)
 | o :: rest,j,id,st,log =>
  match cY ops st.tmps o with
  | none => .fail
  | some false=>hH E ops L rest (j+1) (jG E o id) ⟨ir st.tmps o.dst AV.undef,st.heap⟩ (([],[]) :: log)
  | some true =>
   match act E (M4 E o L id) (evS st.tmps) (hpS st.heap) o with
   | none => .fail
   | some e =>
    let next (v:AV):Tree (St × List pp):=hH E ops L rest (j+1) (jG E o id) ⟨ir st.tmps o.dst v,gQ st.heap e.wr⟩ ((e.reads,e.wr.map (·.1)) :: log)
    let ways:Tree (St × List pp):=match e.val with
     | .one (.c (.bool b))=>match rk ops j with
      | true => .br b (next (.one (.c .tt))) (next (.one (.c .ff)))
      | false=>next e.val
     | _=>next e.val
    match e.pre with
    | .t=>ways
    | .p x => .vc x ways
def dc (E:Env):List Oper->Nat
 | []=>0
 | o :: rest=>dc E rest+ck E o
def dv:Nat->List HE
 | 0 => []
 | n+1 => .un :: dv n
def wR (xs ys:List Nat):Bool:=xs.any fun x=>ys.any fun y=>Nat.beq x y
def iw (a b:pp):Bool := !(wR a.2 b.1 || wR a.2 b.2 || wR a.1 b.2)
def jj (ops:List Oper):List Nat->List Nat
 | acc=>match ops with
  | []=>acc
  | o :: rest=>jj rest (acc ++ [o.after.toList.foldl (fun m e=>match Region.binds .any e with
    | true=>m ||| (1 <<< e.on) ||| (match nth acc e.on with | some x=>x | none=>0)
    | false=>m) 0])
def pe (allOps:Array Oper) (x:Oper) (fx:pp):List Oper->List pp->List Nat->Nat->Bool
 | [],_,_,_=>true
 | o :: os,f :: fs,m :: ms,i=>(Nat.testBit m i || (x.apart allOps o && iw fx f)) && pe allOps x fx os fs ms i
 | _ :: _,_,_,_=>false
def n9 (o:Oper) (i:Nat):Bool:=o.after.toList.all fun e=>match Region.binds .any e with | true=>Nat.blt e.on i | false=>true
def iK (allOps:Array Oper):List Oper->List pp->List Nat->Nat->Bool
 | [],_,_,_=>true
 | o :: os,f :: fs,_ :: ms,i=>n9 o i && pe allOps o f os fs ms i && iK allOps os fs ms (i+1)
 | _ :: _,_,_,_=>false
def ux (ops:List Oper) (log:List pp):Bool:=iK ops.toArray ops log (jj ops []) 0
def nV (E:Env) (ops:List Oper) (draw:Bool) (st:St):Tree St :=
 (hH E ops (st.heap.length+dc E ops) ops 0 st.heap.length ⟨st.tmps,st.heap++dv (dc E ops)⟩ []).bind fun r =>
  match draw with
  | false => .leaf r.1
  | true=>match ux ops r.2.reverse with
   | true => .leaf r.1
   | false => .fail
inductive X where
 | normal
 | exit (id:Nat)
 | goto (l:Nat)
 | ret
def wS (ex:St->Tree (X × St)):Nat->St->Tree (X × St)
 | 0,_ => .fail
 | n+1,st=>(ex st).bind fun r=>match r.1 with
  | .normal=>wS ex n r.2
  | _ => .leaf r
def qm (ex:Code->St->Tree (X × St)) (a:Code):Nat->Code->St->Tree (X × St)
 | 0,_,_ => .fail
 | n+1,cur,st=>(ex cur st).bind fun r=>match r.1 with
  | .goto l=>match findLabel a l with
   | some rest=>qm ex a n rest r.2
   | none => .leaf r
  | _ => .leaf r
def refine (tmps:Tm) (c:Operand) (v:Cell):Tm:=match c with | .tmp t=>⟨tmps.n,tmps.tr.set t (.one (.c v))⟩ | _=>tmps
def exec (E:Env):Nat->Code->St->Tree (X × St)
 | 0,_,_ => .fail
 | n+1,c,st=>match c with
  | .skip => .leaf (.normal,st)
  | .label _ => .leaf (.normal,st)
  | .region _ ops draw=>(nV E ops.toList draw st).bind fun s => .leaf (.normal,s)
  | .seq a b=>(exec E n a st).bind fun r=>match r.1 with
   | .normal=>exec E n b r.2
   | _ => .leaf r
  | .cond c a b=>match evS st.tmps c with
   | some (.one (.c .tt))=>exec E n a st
   | some (.one (.c .ff))=>exec E n b st
   | some (.one (.c (.bool p))) => .br p (exec E n a ⟨refine st.tmps c .tt,st.heap⟩) (exec E n b ⟨refine st.tmps c .ff,st.heap⟩)
   | _ => .fail
  | .block id a=>(exec E n a st).bind fun r=>match r.1 with
   | .exit id'=>match Nat.beq id' id with
    | true => .leaf (.normal,r.2)
    | false => .leaf r
   | _ => .leaf r
  | .loop a=>wS (exec E n a) n st
  | .exit id => .leaf (.exit id,st)
  | .goto l => .leaf (.goto l,st)
  | .scope a=>qm (exec E n) a n a st
  | .ret => .leaf (.ret,st)
  | _ => .fail
def o9 (P:Program) (st:St):ResultVar->Option AV1
 | .tmp t=>match st.tmps.tr.get t with
  | some (.one v)=>some v
  | _=>none
 | .cell p t=>match st.tmps.tr.get p with
  | some (.one (.c (.ptr i off)))=>match ik P (hpS st.heap) t i off with
   | some ⟨.one v,.t,_,_⟩=>some v
   | _=>none
  | _=>none
def ee (P:Program) (rs:List ResultVar) (st:St):Option AV :=
 match cP (o9 P st) rs with
 | some [v]=>some (.one v)
 | some vs=>some (.tup vs)
 | none=>none
def Tr.args:List AV->Nat->Tr->Tr
 | [],_,t=>t
 | v :: vs,k,t=>Tr.args vs (k+1) (t.set k v)
def CT (E:Env) (fuel:Nat) (rs:List ResultVar) (c:Code) (st:St):Tree (AV × List HE) :=
 (exec E fuel c st).bind fun r=>match r.1 with
  | .normal | .ret=>match ee E.P rs r.2 with
   | some v => .leaf (v,r.2.heap)
   | none => .fail
  | _ => .fail
def Tree.map {α β:Type} (f:α->β):Tree α->Tree β
 | .leaf a => .leaf (f a)
 | .br b t g => .br b (t.map f) (g.map f)
 | .vc p t => .vc p (t.map f)
 | .fail => .fail
def Ll (E:Env) (fuel:Nat) (fn:Func) (args:List AV) (heap:List HE):Tree (AV × List HE) :=
 match fn.body with
 | some c=>CT E fuel fn.results.toList c ⟨⟨args.length+(fn.ntmps-args.length),Tr.args args 0 .nil⟩,heap⟩
 | none => .fail
end Go.Proofs.Ytibfppbffdedoaa
namespace Go.Proofs.Ytibfppbffdedoaa
open Go.RowKit
def OpRuns (P:Program) (o:Oper) (ρ:Operand->Value) (w:World) (R:Value->World->Prop):Prop :=
 (∃ v w',(execOp ρ o).run P w = .ok (.value v) w'/\R v w') \/ (∃ w',(execOp ρ o).run P w = .ok .skip w'/\R Go.undef w') \/
  ∃ f args w1,(execOp ρ o).run P w = .ok (.enter f args) w1/\Calls P f args w1 fun e w' => ∃ v,e = .returned v/\R v w'
theorem OpRuns.wp {P:Program} {o:Oper} {a:Act} {w:World} {R:Value->World->Prop} (h:OpRuns P o a.eval w R) {next:Act->World->Prop} {Q:Exit->Act->World->Prop}
  (hn : ∀ v w',R v w'->next (a.put o.dst v) w'):o.wp P a w next Q:=by
 unfold Oper.wp
 rcases h with ⟨v,w',e,r⟩ | ⟨w',e,r⟩ | ⟨f,args,w1,e,r⟩
 ·rw [e];exact hn _ _ r
 ·rw [e];exact hn _ _ r
 ·rw [e]
  refine Calls.mono r fun e' w' ⟨v,he,hr⟩ => ?_
  subst he
  exact hn _ _ hr
def Cz (P:Program) (f:FuncId) (args:Array Value) (w:World) (R:Value->World->Prop):Prop :=
 (∃ v w',(callFunc f args).run P w = .ok (.value v) w'/\R v w') \/
  ((callFunc f args).run P w = .ok (.enter f args) w/\Calls P f args w fun e w' => ∃ v,e = .returned v/\R v w')
def eg (h:ah):List (Nat × HE)->ah
 | []=>h
 | (i,x) :: rest=>eg (upd h i x) rest
def EffOk (w0:W0) (β:Nat->Pl) (h:ah) (id:Nat) (val:AV) (wr:List (Nat × HE)) (v:Value) (w':World):Prop :=
 ∃ β',(∀ i,h i ≠ .un->β' i=β i)/\v=gv β' val/\HRel w0 β' (eg h wr) w'/\okv (eg h wr) val
theorem EffOk.one {w0:W0} {β:Nat->Pl} {h:ah} {id:Nat} {val:AV} {wr:List (Nat × HE)} {v:Value} {w':World} (hid:h id = .un) (p:Pl) (h1:v=gv (upd β id p) val) (h2:HRel w0 (upd β id p) (eg h wr) w') (h3:okv (eg h wr) val) :
  EffOk w0 β h id val wr v w':=⟨_,fun i hi=>ak _ _ fun e=>hi (by rw [e];exact hid),h1,h2,h3⟩
def GP (h:ah) (id n:Nat):Prop:=h id = .un /\ ∀ j,j<n->h (id+j) = .un
structure EnvOk (E : Env) : Prop where
 mixed:E.P.follows .mixedOrders=true
 call : ∀ f id h args r,E.C f id h args=some r->r.pre.holds -> ∀ w0 β w,HRel w0 β h w->GP h id r.new.length->(∀ v ∈ args,okv h v) ->
  Cz E.P f (args.map (gv β)).toArray w (EffOk w0 β h id r.val (oE id r.new++r.wrote))
 near : ∀ f id h h' args r,E.C f id h args=some r->(∀ i ∈ r.reads,h i=h' i)->E.C f id h' args=some r
 wrote : ∀ f id h args r,E.C f id h args=some r -> ∀ p ∈ r.wrote,p.2 ≠ .un/\h p.1 ≠ .un
theorem GW {α:Type} (f:Nat->α) (i:Nat):upd f i (f i)=f:=by
 funext j;unfold upd;split <;> simp_all
theorem EffOk.same {w0:W0} {β:Nat->Pl} {h:ah} {id:Nat} {val:AV} {wr:List (Nat × HE)} {w':World} (h1:HRel w0 β (eg h wr) w') (h2:okv (eg h wr) val) :
  EffOk w0 β h id val wr (gv β val) w':=⟨β,fun _ _=>rfl,rfl,h1,h2⟩
theorem EffOk.pure {w0:W0} {β:Nat->Pl} {h:ah} {id:Nat} {val:AV} {w:World} (h1:HRel w0 β h w) (h2:okv h val) :
  EffOk w0 β h id val [] (gv β val) w:=EffOk.same h1 h2
theorem sl {v:Value} {c:Cell} (h:tz v=some c) (β:Nat->Pl):gc β c=v:=by
 unfold tz at h
 split at h <;> cases h <;> first | rfl | exact iv β _ | (simp only [gc])
theorem sk {v:Value} {c:Cell} (h:tz v=some c):c.idOf=none:=by
 unfold tz at h
 split at h <;> cases h <;> first | rfl | (rename_i b;cases b <;> rfl)
theorem eM {α β γ:Type} {f:α->Option β} {g:β->γ} {k:α->γ} (hfg : ∀ x y,f x=some y->g y=k x) {xs:List α} {ys:List β} (h:cP f xs=some ys):ys.map g=xs.map k:=by
 induction xs generalizing ys with
 | nil=>cases h;rfl
 | cons x xs ih =>
  simp only [cP] at h
  split at h
  ·rename_i y ys' hy hys
   cases h
   simp [ih hys,hfg x y hy]
  ·cases h
theorem zf {α β:Type} {f:α->Option β} {p:β->Prop} (hp : ∀ x y,f x=some y->p y) {xs:List α} {ys:List β} (h:cP f xs=some ys) : ∀ y ∈ ys,p y:=by
 induction xs generalizing ys with
 | nil=>cases h;simp
 | cons x xs ih =>
  simp only [cP] at h
  split at h
  ·rename_i y ys' hy hys
   cases h
   intro z hz
   rcases List.mem_cons.1 hz with rfl | hz
   ·exact hp _ _ hy
   ·exact ih hys z hz
  ·cases h
theorem A8 {v:Value} {a:AV} (h:nz v=some a) (β:Nat->Pl):gv β a=v:=by
 unfold nz at h
 split at h
 ·rename_i cs
  split at h
  ·rename_i xs hx
   cases h
   simp only [gv,g1]
   rw [eM (g:=gc β) (k:=_root_.id) (fun x y hxy=>sl hxy β) hx]
   simp
  ·cases h
 ·split at h
  ·rename_i c hc
   cases h
   exact sl hc β
  ·cases h
theorem al {h:ah} {c:Cell} (hc:c.idOf=none):okc h c:=by intro i hi;rw [hc] at hi;cases hi
theorem A7 {v:Value} {a:AV} (h:nz v=some a) (hp:ah):okv hp a:=by
 unfold nz at h
 split at h
 ·split at h
  ·rename_i xs hx
   cases h
   exact zf (p:=okc hp) (fun x y hxy=>al (sk hxy)) hx
  ·cases h
 ·split at h
  ·rename_i c hc
   cases h
   exact al (sk hc)
  ·cases h
theorem eT {P:Program} {t:TypeId} {cs:List Cell} (h:mG P t=some cs) (β:Nat->Pl) : ∃ i z,P.info? t=some i/\i.zero=some z/\z.cells=(cs.map (gc β)).toArray:=by
 unfold mG at h
 split at h
 ·cases h
 ·rename_i i hi
  split at h
  ·cases h
  ·rename_i z hz
   refine ⟨i,z,hi,hz,?_⟩
   rw [eM (g:=gc β) (k:=_root_.id) (fun x y hxy=>sl hxy β) h]
   simp
theorem mE {P:Program} {t:TypeId} {cs:List Cell} (h:mG P t=some cs) (hp:ah) : ∀ c ∈ cs,okc hp c:=by
 unfold mG at h
 split at h
 ·cases h
 ·split at h
  ·cases h
  ·exact zf (p:=okc hp) (fun x y hxy=>al (sk hxy)) h
theorem fw {v:AV} {cs:List Cell} (h:fK v=some cs) (β:Nat->Pl):(gv β v).cells=(cs.map (gc β)).toArray:=by
 unfold fK at h
 split at h <;> cases h
 ·simp only [gv,g1,Jf];rfl
 ·rfl
theorem gX {v:AV} {cs:List Cell} (h:fK v=some cs) {hp:ah} (hv:okv hp v) : ∀ c ∈ cs,okc hp c:=by
 unfold fK at h
 split at h <;> cases h
 ·intro c hc;simp at hc;subst hc;exact hv
 ·exact hv
theorem EffOk.alloc {w0:W0} {β:Nat->Pl} {h:ah} {w:World} (r:HRel w0 β h w) {id:Nat} (hid:h id = .un) (t:TypeId) (cs:List Cell) (hok : ∀ c ∈ cs,okc h c) :
  EffOk w0 β h id (.one (.c (.ptr id 0))) [(id,.live ⟨true,t,0,.row cs,false⟩)] (.pointer (some ⟨w.heap.size,0,none⟩)) (w.alloc (.cells (cs.map (gc β)).toArray t)):=by
 refine .one hid ⟨some ⟨w.heap.size,0,none⟩,0,none⟩ ?_ ?_ ?_
 ·simp [gv,g1,gc,ab,Addr.add]
 ·exact r.new hid ((Below.refl _ _).alloc (Nat.le_refl _) _) w.heap.size 0 t 0 (.row cs) (cs.map (gc β)).toArray (Nat.le_refl _) (heap_alloc_new w _)
   (fun i c hc=>by simp only [Body.cells] at hc;simp [hc]) (by simp [Body.cells]) (fun e=>absurd rfl e) (fun _=>by simp [Body.cells]) hok
 ·intro i hi
  simp [Cell.idOf] at hi
  subst hi
  simp [eg,ab]
theorem aj {h:ah} {i:Nat} {b:Blk} (e:aH h i=some b):h i = .live b:=by
 unfold aH at e
 split at e
 ·cases e;assumption
 ·cases e
theorem n0 {g:Bool} {xs:List Cell} {v:AV1} (h:C0 g xs=some v) (β:Nat->Pl):g1 β v=eW g (xs.map (gc β))/\(∀ hp:ah,(∀ c ∈ xs,okc hp c)->ok1 hp v):=by
 unfold C0 at h
 split at h
 ·cases h;exact ⟨rfl,fun hp H=>H⟩
 ·split at h
  ·cases h;exact ⟨rfl,fun hp H=>H _ (by simp)⟩
  ·cases h
theorem Body.get_spec {b:Body} {off n:Nat} {r:Cond (List Cell)} (h:b.get off n=some r) (hp:r.pre.holds):r.val=(b.cells.drop off).take n/\r.val.length=n:=by
 unfold Body.get at h
 split at h
 ·rename_i cs
  simp only [] at h
  split at h
  ·rename_i hl
   cases h
   exact ⟨rfl,by simpa using hl⟩
  ·cases h
 ·rename_i k xs
  split at h
  ·cases h
   simp only [Pr.holds] at hp
   refine ⟨?_,rfl⟩
   simp only [Body.cells]
   rw [List.drop_eq_getElem_cons (by simpa using hp)]
   simp [List.getD,hp]
  ·cases h
 ·cases h
theorem HRel.base_some {w0:W0} {β:Nat->Pl} {h:ah} {w:World} (r:HRel w0 β h w) {i:Nat} {b:Blk} (hi:h i = .live b) (hne:b.body.cells ≠ [] \/ b.esz=0) : ∃ a,(β i).base=some a/\a.spot=none:=by
 have hb:=r.blk i b hi
 unfold BlkOk at hb
 cases ha:(β i).base with
 | none =>
  rw [ha] at hb
  rcases hne with h1 | h1
  ·exact absurd hb.1 h1
  ·exact absurd h1 hb.2.2
 | some a=>rw [ha] at hb;exact ⟨a,rfl,hb.1 (by rcases hne with h1 | h1;exact .inl h1;exact .inr (.inl h1))⟩
theorem ow {P:Program} {w0:W0} {β:Nat->Pl} {h:ah} {w:World} (r:HRel w0 β h w) {t:TypeId} {i off:Nat} {e:Eff} (he:ik P h t i off=some e) (hp:e.pre.holds) :
  (Instr.loadAt t (gc β (.ptr i off))).run P w = .ok (gv β e.val) w/\okv h e.val/\e.wr = []:=by
 unfold ik at he
 split at he
 ·rename_i b ti g hb hti hg
  have hi:=aj hb
  split at he
  ·cases he
  ·rename_i n hn
   split at he
   ·rename_i pre xs hx
    split at he
    ·rename_i v hv
     cases he
     obtain ⟨e1,e2⟩:=n0 hv β
     have hpc:Pr.holds pre:=hp
     obtain ⟨e3,e4⟩:=Body.get_spec hx hpc
     simp only at e3 e4
     have hne:b.body.cells ≠ []:=by
      intro e0
      rw [e0] at e3
      simp at e3
      rw [e3] at e4
      simp at e4
     obtain ⟨a,ha,hs⟩:=r.base_some hi (.inl hne)
     have hrd:=r.read hi ha off
     have hcells : ∀ j v,(xs.map (gc β))[j]? = some v->w.cell? ((a.add off).add j)=some v:=by
      intro j v hj
      apply hrd j v
      rw [e3] at hj
      rw [List.getElem?_map] at hj ⊢
      rw [List.getElem?_take] at hj
      split at hj
      ·exact hj
      ·cases hj
     have hl:=run_loadCells_list (P:=P) w (a.add off) (xs.map (gc β)) hcells
     refine ⟨?_,e2 h (fun c hc=>r.okc i b hi c ?_),rfl⟩
     ·simp only [gc,ha,Option.map_some,Instr.loadAt,Instr.sureAddr,Sem.run_bind,Sem.run_pure,Result.andThen_ok,loadVar,dn hg,gv,e1]
      cases g with
      | true =>
       simp only [if_true,Sem.run_bind,aC hti,Result.andThen_ok]
       have hsz:P.cellsOf t=(xs.map (gc β)).length:=by simp [Program.cellsOf,hti,hn,e4]
       rw [hsz,hl]
       rfl
      | false =>
       simp only [Bool.false_eq_true,if_false,run_load]
       unfold C0 at hv
       split at hv
       ·rename_i hgt;cases hgt
       ·split at hv
        ·rename_i c
         cases hv
         have:=hcells 0 (gc β c) (by simp)
         rw [show (a.add off).add 0=a.add off from Addr.add_zero' _] at this
         rw [this]
         rfl
        ·cases hv
     ·rw [e3] at hc
      exact List.mem_of_mem_drop (List.mem_of_mem_take hc)
    ·cases he
   ·cases he
 ·cases he
end Go.Proofs.Ytibfppbffdedoaa
namespace Go.Proofs.Ytibfppbffdedoaa
open Go.RowKit
theorem HRel.own {w0:W0} {β:Nat->Pl} {h:ah} {w:World} (r:HRel w0 β h w) {i:Nat} {b:Blk} (hi:h i = .live b) (ho:b.own=true) (hne:b.body.cells ≠ [] \/ b.esz=0) :
  ∃ g cur,(β i).base=some ⟨g,0,none⟩/\w.heap[g]? = some (.cells cur b.ty (0,0))/\b.body.cells.length<=cur.size/\(∀ (j:Nat) (c:Cell),b.body.cells[j]? = some c->cur[j]? = some (gc β c)):=by
 obtain ⟨a,ha,hs⟩:=r.base_some hi hne
 have hb:=r.blk i b hi
 unfold BlkOk at hb
 rw [ha] at hb
 obtain ⟨h0,h1,h2,h3,h4⟩:=hb
 obtain ⟨h5,h6,cur,h7,h8,_⟩:=h4 ho
 obtain ⟨g,off,sp⟩:=a
 simp only at h6 hs
 subst h6 hs
 refine ⟨g,cur,ha,h7,h8,fun j c hj => ?_⟩
 have:=h1 j c hj
 rw [Addr.add_lit,Nat.zero_add,cell_of_row w g j cur b.ty (0,0) h7] at this
 exact this
theorem qj {f:Cell->Value} {cs vs:List Cell} {cur:List Value} {off:Nat} (hc : ∀ (j:Nat) (c:Cell),cs[j]? = some c->cur[j]? = some (f c)) (hl:off+vs.length<=cs.length) :
  ∀ (j:Nat) (c:Cell),(cs.take off++vs++cs.drop (off+vs.length))[j]? = some c->(cur.take off++vs.map f++cur.drop (off+vs.length))[j]? = some (f c):=by
 have hcl:cs.length<=cur.length:=by
  rcases Nat.lt_or_ge cur.length cs.length with h | h
  ·have:=hc cur.length cs[cur.length] (by simp [h])
   simp at this
  ·exact h
 intro j c hj
 rw [List.append_assoc,List.getElem?_append] at hj ⊢
 have e1:(cs.take off).length=off:=by simp;omega
 have e2:(cur.take off).length=off:=by simp;omega
 rw [e1] at hj
 rw [e2]
 by_cases h1:j<off
 ·rw [if_pos h1] at hj ⊢
  rw [List.getElem?_take_of_lt h1] at hj ⊢
  exact hc j c hj
 ·rw [if_neg h1] at hj ⊢
  rw [List.getElem?_append] at hj ⊢
  rw [List.length_map]
  by_cases h2:j-off<vs.length
  ·rw [if_pos h2] at hj ⊢
   rw [List.getElem?_map,hj]
   rfl
  ·rw [if_neg h2] at hj ⊢
   rw [List.getElem?_drop] at hj ⊢
   exact hc _ c hj
theorem g9 {α:Type} (cs vs:List α) (off:Nat) (hl:off+vs.length<=cs.length):(cs.take off++vs++cs.drop (off+vs.length)).length=cs.length:=by
 simp;omega
theorem aT {a b:Nat} (h:leB a b=true):a<=b:=Nat.le_of_ble_eq_true h
theorem Body.put_spec {b:Body} {off:Nat} {vs:List Cell} {r:Cond Body} (h:b.put off vs=some r) (hp:r.pre.holds) (β:Nat->Pl) :
  off+vs.length<=b.cells.length /\ ∃ us,us.map (gc β)=vs.map (gc β)/\us.length=vs.length/\r.val.cells=b.cells.take off++us++b.cells.drop (off+us.length)/\(∀ hp:ah,(∀ c ∈ vs,okc hp c) -> ∀ c ∈ us,okc hp c):=by
 unfold Body.put at h
 split at h
 ·rename_i cs
  split at h
  ·rename_i hl
   cases h
   exact ⟨aT hl,vs,rfl,rfl,rfl,fun _ H=>H⟩
  ·cases h
 ·rename_i k xs
  split at h
  ·rename_i c
   split at h
   ·rename_i v hv
    cases h
    simp only [Pr.holds] at hp
    refine ⟨by simp [Body.cells];omega,[k.cell v],by simp only [List.map_cons,List.map_nil,k.rd_ok hv β],rfl,?_,fun _ _ c hc=>by simp at hc;subst hc;exact al (k.cell_id v)⟩
    simp only [Body.cells]
    rw [List.set_eq_take_append_cons_drop,if_pos hp]
    simp [List.map_take,List.map_drop]
   ·cases h
  ·cases h
 ·cases h
theorem fv (β:Nat->Pl) (vs:List Cell) : ∀ v ∈ vs.map (gc β),v.oneCell'=true:=by
 intro v hv
 obtain ⟨c,_,rfl⟩:=List.mem_map.1 hv
 exact Qe β c
theorem uO {P:Program} {w0:W0} {β:Nat->Pl} {h:ah} {w:World} (r:HRel w0 β h w) {t:TypeId} {i off:Nat} {x:AV} {e:Eff} (he:iM P h t i off x=some e) (hp:e.pre.holds)
  (hx:okv h x) : ∃ w',(Instr.storeAt t (gc β (.ptr i off)) (gv β x)).run P w = .ok () w'/\HRel w0 β (eg h e.wr) w'/\e.val=AV.undef:=by
 unfold iM at he
 split at he
 ·rename_i b ti vs hb hti hvs
  have hi:=aj hb
  split at he
  ·rename_i v0 vs0 ho hsz
   split at he
   ·rename_i pre body hput
    cases he
    have hpre:Pr.holds pre:=hp
    obtain ⟨hl,us,hu1,hu2,hu3,hu4⟩:=Body.put_spec hput hpre β
    have hne:b.body.cells ≠ []:=by
     intro e0;rw [e0] at hl;simp at hl
    obtain ⟨g,cur,hbase,hg,hle,hcells⟩:=r.own hi ho (.inl hne)
    have hst:=run_storeCells_at P g off b.ty (us.map (gc β)) 0 cur w hg (by simp [hu2];simp at hl;omega) (fv β us)
    simp only [Nat.add_zero] at hst
    have hvc:=fw hvs β
    have hvc2:=gX hvs hx
    simp only [beq_iff_eq] at hsz
    refine ⟨_,?_,r.put hi ho hbase body cur (cur.toList.take off++us.map (gc β)++cur.toList.drop (off+us.length)).toArray hg ?_ ?_ ?_ ?_,rfl⟩
    ·simp only [gc,hbase,Option.map_some,Instr.storeAt,Instr.sureAddr,Sem.run_bind,Sem.run_pure,Result.andThen_ok,storeVar,aC hti,hvc,Addr.add_lit,Nat.zero_add]
     have e1:(List.map (gc β) (v0 :: vs0)).toArray.size=P.cellsOf t:=by simp [Program.cellsOf,hti,<- hsz]
     rw [if_neg (by rw [e1];simp)]
     rw [<- hu1,hst]
     simp
    ·have:=g9 cur.toList (us.map (gc β)) off (by simp [hu2] at hl ⊢;omega)
     simp only [List.length_map,Array.length_toList] at this
     simp only [List.size_toArray]
     exact this
    ·rw [hu3]
     exact g9 _ _ _ (by rw [hu2];exact hl)
    ·intro j c hj
     rw [hu3] at hj
     have:=qj (f:=gc β) (cur:=cur.toList) (fun j c hj=>by simpa using hcells j c hj) (by rw [hu2];exact hl) j c hj
     simpa using this
    ·intro c hc
     rw [hu3] at hc
     rcases List.mem_append.1 hc with hc | hc
     ·rcases List.mem_append.1 hc with hc | hc
      ·exact r.okc i b hi c (List.mem_of_mem_take hc)
      ·exact hu4 h hvc2 c hc
     ·exact r.okc i b hi c (List.mem_of_mem_drop hc)
   ·cases he
  ·cases he
 ·cases he
theorem j5 {ix:AV} {len:Nat} {kn:Bool} {r:Cond Nat} (h:idx ix len kn=some r) (hp:r.pre.holds) (β:Nat->Pl) : ∃ k n,gv β ix = .int k n/\0<=n/\n<(len:Int)/\r.val=n.toNat/\r.val<len:=by
 unfold idx at h
 split at h
 ·rename_i k n
  split at h
  ·split at h
   ·rename_i h0 h1
    cases h
    have:=aT h1
    simp at h0
    exact ⟨k,n,rfl,h0,by omega,rfl,by show n.toNat<len;omega⟩
   ·cases h
  ·split at h
   ·rename_i h0
    cases h
    simp only [Pr.holds] at hp
    simp at h0
    exact ⟨k,n,rfl,h0,by omega,rfl,by show n.toNat<len;omega⟩
   ·cases h
 ·split at h
  ·rename_i k n hc
   cases h
   simp only [Pr.holds] at hp
   exact ⟨k,n,cR β hc,hp.1,hp.2,rfl,by show n.toNat<len;omega⟩
  ·cases h
 ·cases h
theorem bi (a:Addr) (hs:a.spot=none) (m n:Nat):(a.add m).add n=a.add (m+n):=by
 obtain ⟨b,o,s⟩:=a
 simp only at hs
 subst hs
 simp only [Addr.add_lit,Nat.add_assoc]
theorem jE {β:Nat->Pl} {i off:Nat} {a:Addr} (ha:(β i).base=some a):gc β (.ptr i off) = .pointer (some (a.add off)):=by simp [gc,ha]
theorem li {h:ah} {i off:Nat} {b:Blk} (hi:h i = .live b):okc h (.ptr i off):=by
 intro j hj;simp [Cell.idOf] at hj;subst hj;rw [hi];simp
theorem qJ {h:ah} {i off len sz:Nat} {rc:RC} {kn:Bool} {b:Blk} (hi:h i = .live b):okc h (.slc i off len sz rc kn):=by
 intro j hj;simp [Cell.idOf] at hj;subst hj;rw [hi];simp
theorem cg (β:Nat->Pl) (id j sz i ssz r:Nat):gc β (.pte id j sz i ssz r)=gc β (.ptr id (j*sz+(i*ssz+r))):=rfl
theorem qK {h:ah} {id j sz i ssz r:Nat} {b:Blk} (hi:h id = .live b):okc h (.pte id j sz i ssz r):=by
 intro k hk;simp [Cell.idOf] at hk;subst hk;rw [hi];simp
theorem MT {h:ah} {id j sz r len cap:Nat} {b:Blk} (hi:h id = .live b):okc h (.sle id j sz r len cap):=by
 intro k hk;simp [Cell.idOf] at hk;subst hk;rw [hi];simp
theorem nt {P:Program} {w0:W0} {β:Nat->Pl} {h:ah} {w:World} (r:HRel w0 β h w) {t:TypeId} {x ix:AV} {e:Eff} (he:cH P h t x ix=some e) (hp:e.pre.holds) :
  (Instr.indexAt t (gv β x) (gv β ix)).run P w = .ok (gv β e.val) w/\okv h e.val/\e.wr = []:=by
 unfold cH at he
 split at he
 ·rename_i i off n el hu
  split at he
  ·rename_i ei b pre k hei hb hix
   have hi:=aj hb
   split at he
   ·rename_i hz
    cases he
    obtain ⟨kk,m,e1,h0,h1,e2,h2⟩:=j5 hix hp β
    simp only at e2 h2
    obtain ⟨a,ha,hs⟩:=r.base_some hi (.inr hz)
    refine ⟨?_,li hi,rfl⟩
    have hsz:P.cellsOf el=ei.size:=by simp [Program.cellsOf,hei]
    simp only [Instr.indexAt]
    rw [e1]
    simp only [asIntOf,Sem.run_bind,Sem.run_pure,Result.andThen_ok,run_underlying hu,gv,g1,jE ha,Instr.sureAddr,h0,h1,and_self,if_true,
     aC hei,bi a hs,hsz,e2]
   ·cases he
  ·cases he
 ·rename_i i off len sz rc kn el hu
  have main : ∀ (ei:TypeInfo) (b:Blk) (pre:Pr) (k:Nat),P.info? el=some ei->h i = .live b->idx ix len kn=some ⟨pre,k⟩->pre.holds->ei.size=sz->off+len*sz<=b.body.cells.length->0<sz ->
    (Instr.indexAt t (gv β (.one (.c (.slc i off len sz rc kn)))) (gv β ix)).run P w = .ok (gv β (.one (.c (.ptr i (off+k*sz))))) w:=by
   intro ei b pre k hei hi hix hp hes hl hs0
   obtain ⟨kk,m,e1,h0,h1,e2,h2⟩:=j5 hix hp β
   simp only at e2 h2
   have hne:b.body.cells ≠ []:=by
    intro e0
    rw [e0] at hl
    simp only [List.length_nil] at hl
    have:0<len*sz:=Nat.mul_pos (by omega) hs0
    omega
   obtain ⟨a,ha,hs⟩:=r.base_some hi (.inl hne)
   have hsz:P.cellsOf el=sz:=by simp [Program.cellsOf,hei,hes]
   simp only [Instr.indexAt]
   rw [e1]
   simp only [asIntOf,Sem.run_bind,Sem.run_pure,Result.andThen_ok,run_underlying hu,gv,g1,jE ha,gc,ha,h0,h1,and_self,if_true,
    aC hei,bi a hs,hsz,e2,Option.map_some]
  split at he
  ·rename_i ei b pre k hei hb hix
   have hi:=aj hb
   split at he
   ·rename_i _ cs hes hbody
    split at he
    ·rename_i n hle
     cases he
     exact ⟨main ei b pre k hei hi hix hp (beq_iff_eq.1 hes) (by rw [hbody];exact aT hle) (by omega),li hi,rfl⟩
    ·cases he
   ·rename_i hes _
    cases he
    obtain ⟨hp1,hp2⟩:=Pr.and_holds hp
    simp only [Pr.holds] at hp2
    simp only [beq_iff_eq] at hes
    refine ⟨(main ei b pre k hei hi hix hp1 hes hp2.1 hp2.2.1).trans ?_,qK hi,rfl⟩
    have:off=off / sz*sz:=by
     have:=Nat.div_add_mod off sz
     rw [hp2.2.2,Nat.mul_comm] at this
     omega
    rw [gv,gv,g1,g1,cg,Nat.zero_mul,Nat.add_zero,Nat.add_mul (off / sz) k sz,<- this]
   ·rename_i hes _ _
    cases he
    obtain ⟨hp1,hp2⟩:=Pr.and_holds hp
    simp only [Pr.holds] at hp2
    simp only [beq_iff_eq] at hes
    exact ⟨main ei b pre k hei hi hix hp1 hes hp2.1 hp2.2,li hi,rfl⟩
   ·cases he
  ·cases he
 ·cases he
theorem nu {P:Program} {w0:W0} {β:Nat->Pl} {h:ah} {w:World} (r:HRel w0 β h w) {s:TypeId} {x:AV} {f:Nat} {e:Eff} (he:eJ P h s x f=some e) :
  (Instr.fieldAt s (gv β x) f).run P w = .ok (gv β e.val) w/\okv h e.val/\e.wr = []:=by
 unfold eJ at he
 split at he
 ·rename_i i off fs hu
  split at he
  ·rename_i fl b hfl hb
   have hi:=aj hb
   split at he
   ·rename_i fi hfi hz
    split at he
    ·cases he
    ·rename_i n hn
     cases he
     obtain ⟨a,ha,hs⟩:=r.base_some hi (.inr hz)
     refine ⟨?_,li hi,rfl⟩
     have hsz:P.cellsOf fl.type=n+1:=by simp [Program.cellsOf,hfi,hn]
     simp only [Instr.fieldAt,Sem.run_bind,run_underlying hu,Result.andThen_ok,hfl,gv,g1,jE ha,Instr.sureAddr,Sem.run_pure,fieldPlace,aC hfi,hsz,Nat.add_eq_zero_iff,Nat.succ_ne_zero,and_false,if_false,bi a hs]
   ·cases he
  ·cases he
 ·cases he
theorem Body.getE_spec {b:Body} {j sz i ssz r n:Nat} {c:Cond (List Cell)} (h:b.getE j sz i ssz r n=some c) (hp:c.pre.holds) :
  c.val=(b.cells.drop (j*sz+(i*ssz+r))).take n/\c.val.length=n:=by
 unfold Body.getE at h
 split at h
 ·rename_i k xs
  split at h
  ·rename_i e q he
   obtain ⟨e1,e2⟩:=KW k.sz_pos he
   split at h
   ·rename_i hl
    cases h
    have hl:=aT hl
    simp only [Pr.holds] at hp
    rw [e1]
    exact ⟨(jL k xs e q n hp hl).symm,by simp only [List.length_take,List.length_drop,k.cs_len];omega⟩
   ·cases h
  ·split at h
   ·rename_i p cs hsz hsub
    cases h
    have hsz:=Nat.eq_of_beq_eq_true hsz
    subst hsz
    simp only [Pr.holds] at hp
    obtain ⟨s1,s2,hle⟩:=k.sub_ok hsub hp.2
    refine ⟨?_,s2⟩
    rw [s1]
    exact (jL k xs j _ n hp.1 hle).symm
   ·cases h
 ·cases h
theorem Body.putE_spec {b:Body} {j sz i ssz r:Nat} {vs:List Cell} {c:Cond Body} (h:b.putE j sz i ssz r vs=some c) (hp:c.pre.holds) (β:Nat->Pl) :
  j*sz+(i*ssz+r)+vs.length<=b.cells.length/\c.val.cells.length=b.cells.length/\(∀ x ∈ c.val.cells,x.idOf=none) /\
   c.val.cells.map (gc β)=(b.cells.take (j*sz+(i*ssz+r))++vs++b.cells.drop (j*sz+(i*ssz+r)+vs.length)).map (gc β):=by
 unfold Body.putE at h
 split at h
 ·rename_i k xs
  split at h
  ·rename_i e q he
   obtain ⟨e1,e2⟩:=KW k.sz_pos he
   split at h
   ·rename_i x hl hx
    cases h
    have hl:=aT hl
    simp only [Pr.holds] at hp
    rw [e1]
    simp only [Body.cells]
    have hm:(e+1)*k.sz<=xs.length*k.sz:=Nat.mul_le_mul_right _ hp
    rw [Nat.add_mul,Nat.one_mul] at hm
    refine ⟨by rw [aY];omega,by rw [aY,aY,List.length_set],cM k _,?_⟩
    have hsplit:ac k xs=ac k (xs.take e)++(k.cs (xs.getD e k.d)++ac k (xs.drop (e+1))):=by
     have:xs=xs.take e++(xs.getD e k.d :: xs.drop (e+1)):=by
      rw [show xs.getD e k.d=xs[e] by simp [List.getD,hp],<- List.drop_eq_getElem_cons hp,List.take_append_drop]
     conv=>lhs;rw [this]
     rw [eH,cf]
    have hl1:(ac k (xs.take e)).length=e*k.sz:=by rw [aY,List.length_take,Nat.min_eq_left (by omega)]
    have e3:(ac k xs).take (e*k.sz+q)=ac k (xs.take e)++(k.cs (xs.getD e k.d)).take q:=by
     rw [hsplit,<- hl1,List.take_length_add_append,List.take_append_of_le_length (by rw [k.cs_len];omega)]
    have e4:(ac k xs).drop (e*k.sz+q+vs.length)=(k.cs (xs.getD e k.d)).drop (q+vs.length)++ac k (xs.drop (e+1)):=by
     rw [hsplit,<- hl1,Nat.add_assoc,List.drop_length_add_append,List.drop_append_of_le_length (by rw [k.cs_len];omega)]
    rw [e3,e4]
    have e5:ac k (xs.set e x)=ac k (xs.take e)++(k.cs x++ac k (xs.drop (e+1))):=by
     rw [List.set_eq_take_append_cons_drop,if_pos hp,eH,cf]
    rw [e5]
    have e6:=k.rd_ok hx β
    simp only [List.map_append] at e6 ⊢
    rw [k.cs_ok x β,<- e6]
    simp [List.append_assoc]
   ·cases h
  ·cases h
 ·cases h
theorem uR {P:Program} {w0:W0} {β:Nat->Pl} {h:ah} {w:World} (r:HRel w0 β h w) {t:TypeId} {id j sz i ssz q:Nat} {e:Eff} (he:dR P h t id j sz i ssz q=some e) (hp:e.pre.holds) :
  (Instr.loadAt t (gc β (.pte id j sz i ssz q))).run P w = .ok (gv β e.val) w/\okv h e.val/\e.wr = []:=by
 rw [cg]
 unfold dR at he
 split at he
 ·rename_i b ti g hb hti hg
  have hi:=aj hb
  split at he
  ·cases he
  ·rename_i n hn
   split at he
   ·rename_i pre xs hx
    split at he
    ·rename_i v hv
     cases he
     obtain ⟨e1,e2⟩:=n0 hv β
     have hpc:Pr.holds pre:=hp
     obtain ⟨e3,e4⟩:=Body.getE_spec hx hpc
     simp only at e3 e4
     have hne:b.body.cells ≠ []:=by
      intro e0
      rw [e0] at e3
      simp at e3
      rw [e3] at e4
      simp at e4
     obtain ⟨a,ha,hs⟩:=r.base_some hi (.inl hne)
     generalize j*sz+(i*ssz+q)=off at *
     have hrd:=r.read hi ha off
     have hcells : ∀ j v,(xs.map (gc β))[j]? = some v->w.cell? ((a.add off).add j)=some v:=by
      intro j v hj
      apply hrd j v
      rw [e3] at hj
      rw [List.getElem?_map] at hj ⊢
      rw [List.getElem?_take] at hj
      split at hj
      ·exact hj
      ·cases hj
     have hl:=run_loadCells_list (P:=P) w (a.add off) (xs.map (gc β)) hcells
     refine ⟨?_,e2 h (fun c hc=>r.okc id b hi c ?_),rfl⟩
     ·simp only [gc,ha,Option.map_some,Instr.loadAt,Instr.sureAddr,Sem.run_bind,Sem.run_pure,Result.andThen_ok,loadVar,dn hg,gv,e1]
      cases g with
      | true =>
       simp only [if_true,Sem.run_bind,aC hti,Result.andThen_ok]
       have hsz:P.cellsOf t=(xs.map (gc β)).length:=by simp [Program.cellsOf,hti,hn,e4]
       rw [hsz,hl]
       rfl
      | false =>
       simp only [Bool.false_eq_true,if_false,run_load]
       unfold C0 at hv
       split at hv
       ·rename_i hgt;cases hgt
       ·split at hv
        ·rename_i c
         cases hv
         have:=hcells 0 (gc β c) (by simp)
         rw [show (a.add off).add 0=a.add off from Addr.add_zero' _] at this
         rw [this]
         rfl
        ·cases hv
     ·rw [e3] at hc
      exact List.mem_of_mem_drop (List.mem_of_mem_take hc)
    ·cases he
   ·cases he
 ·cases he
theorem sO {P:Program} {w0:W0} {β:Nat->Pl} {h:ah} {w:World} (r:HRel w0 β h w) {t:TypeId} {id j sz i ssz q:Nat} {x:AV} {e:Eff} (he:du P h t id j sz i ssz q x=some e) (hp:e.pre.holds)
  (hx:okv h x) : ∃ w',(Instr.storeAt t (gc β (.pte id j sz i ssz q)) (gv β x)).run P w = .ok () w'/\HRel w0 β (eg h e.wr) w'/\e.val=AV.undef:=by
 rw [cg]
 unfold du at he
 split at he
 ·rename_i b ti vs hb hti hvs
  have hi:=aj hb
  split at he
  ·rename_i v0 vs0 ho hsz
   split at he
   ·rename_i pre body hput
    cases he
    have hpre:Pr.holds pre:=hp
    obtain ⟨hl,hlen,hid,hmap⟩:=Body.putE_spec hput hpre β
    simp only at hlen hid hmap
    generalize j*sz+(i*ssz+q)=off at *
    have hne:b.body.cells ≠ []:=by
     intro e0;rw [e0] at hl;simp at hl
    obtain ⟨g,cur,hbase,hg,hle,hcells⟩:=r.own hi ho (.inl hne)
    have hst:=run_storeCells_at P g off b.ty ((v0 :: vs0).map (gc β)) 0 cur w hg (by simp at hl ⊢;omega) (fv β _)
    simp only [Nat.add_zero] at hst
    have hvc:=fw hvs β
    simp only [beq_iff_eq] at hsz
    refine ⟨_,?_,r.put hi ho hbase body cur (cur.toList.take off++(v0 :: vs0).map (gc β)++cur.toList.drop (off+(v0 :: vs0).length)).toArray hg ?_ ?_ ?_ ?_,rfl⟩
    ·simp only [gc,hbase,Option.map_some,Instr.storeAt,Instr.sureAddr,Sem.run_bind,Sem.run_pure,Result.andThen_ok,storeVar,aC hti,hvc,Addr.add_lit,Nat.zero_add]
     have e1:(List.map (gc β) (v0 :: vs0)).toArray.size=P.cellsOf t:=by simp [Program.cellsOf,hti,<- hsz]
     rw [if_neg (by rw [e1];simp)]
     rw [hst]
     simp
    ·have:=g9 cur.toList ((v0 :: vs0).map (gc β)) off (by simp at hl ⊢;omega)
     simp only [List.length_map,Array.length_toList] at this
     simp only [List.size_toArray]
     exact this
    ·exact hlen
    ·intro k c hk
     have h1:(body.cells.map (gc β))[k]? = some (gc β c):=by rw [List.getElem?_map,hk];rfl
     rw [hmap,List.getElem?_map] at h1
     cases hc:(b.body.cells.take off++(v0 :: vs0)++b.body.cells.drop (off+(v0 :: vs0).length))[k]? with
     | none=>rw [hc] at h1;cases h1
     | some c' =>
      rw [hc] at h1
      simp only [Option.map_some,Option.some.injEq] at h1
      have:=qj (f:=gc β) (cur:=cur.toList) (fun j c hj=>by simpa using hcells j c hj) hl k c' hc
      rw [<- h1]
      simpa using this
    ·exact fun c hc=>al (hid c hc)
   ·cases he
  ·cases he
 ·cases he
theorem je {w0:W0} {β:Nat->Pl} {h:ah} {w:World} (r:HRel w0 β h w) {i n:Nat} {b:Blk} (hi:h i = .live b) (hn:n<b.body.cells.length) : ∃ a,(β i).base=some a/\a.spot=none :=
 r.base_some hi (.inl (by intro e;rw [e] at hn;simp at hn))
theorem sR {P:Program} {w0:W0} {β:Nat->Pl} {h:ah} {w:World} (r:HRel w0 β h w) {t:TypeId} {id j sz i ssz q:Nat} {ix:AV} {e:Eff} (he:eo P h t id j sz i ssz q ix=some e) (hp:e.pre.holds) :
  (Instr.indexAt t (gc β (.pte id j sz i ssz q)) (gv β ix)).run P w = .ok (gv β e.val) w/\okv h e.val/\e.wr = []:=by
 rw [cg]
 unfold eo at he
 split at he
 ·rename_i n el hu
  split at he
  ·rename_i ei b pre k hei hb hix
   have hi:=aj hb
   have main:pre.holds->j*sz<b.body.cells.length->(Instr.indexAt t (gc β (.ptr id (j*sz+(i*ssz+q)))) (gv β ix)).run P w = .ok (gc β (.ptr id (j*sz+(i*ssz+q)+k*ei.size))) w:=by
    intro hpre hlt
    obtain ⟨kk,m,e1,h0,h1,e2,h2⟩:=j5 hix hpre β
    simp only at e2 h2
    obtain ⟨a,ha,hs⟩:=je r hi hlt
    have hsz:P.cellsOf el=ei.size:=by simp [Program.cellsOf,hei]
    simp only [Instr.indexAt]
    rw [e1]
    simp only [asIntOf,Sem.run_bind,Sem.run_pure,Result.andThen_ok,run_underlying hu,jE ha,Instr.sureAddr,h0,h1,and_self,if_true,
     aC hei,bi a hs,hsz,e2]
   split at he
   ·cases he
    obtain ⟨hp1,hp2⟩:=Pr.and_holds hp
    refine ⟨(main hp1 hp2).trans ?_,qK hi,rfl⟩
    rw [gv,g1,cg]
    simp only [Nat.add_assoc]
   ·split at he
    ·cases he
     obtain ⟨hp1,hp2⟩:=Pr.and_holds hp
     refine ⟨(main hp1 hp2).trans ?_,qK hi,rfl⟩
     rw [gv,g1,cg,Nat.mul_zero,Nat.zero_add,Nat.add_assoc,Nat.add_comm q]
    ·cases he
  ·cases he
 ·cases he
theorem sS {P:Program} {w0:W0} {β:Nat->Pl} {h:ah} {w:World} (r:HRel w0 β h w) {s:TypeId} {id j sz i ssz q:Nat} {f:Nat} {e:Eff} (he:es P h s id j sz i ssz q f=some e) (hp:e.pre.holds) :
  (Instr.fieldAt s (gc β (.pte id j sz i ssz q)) f).run P w = .ok (gv β e.val) w/\okv h e.val/\e.wr = []:=by
 rw [cg]
 unfold es at he
 split at he
 ·rename_i fs hu
  split at he
  ·rename_i fl b hfl hb
   have hi:=aj hb
   split at he
   ·rename_i fi hfi
    split at he
    ·cases he
    ·rename_i n hn
     cases he
     obtain ⟨a,ha,hs⟩:=je r hi hp
     refine ⟨?_,qK hi,rfl⟩
     have hsz:P.cellsOf fl.type=n+1:=by simp [Program.cellsOf,hfi,hn]
     simp only [Instr.fieldAt,Sem.run_bind,run_underlying hu,Result.andThen_ok,hfl,gv,g1,cg,jE ha,Instr.sureAddr,Sem.run_pure,fieldPlace,aC hfi,hsz,Nat.add_eq_zero_iff,Nat.succ_ne_zero,and_false,if_false,bi a hs,Nat.add_assoc]
   ·cases he
  ·cases he
 ·cases he
theorem ov {P:Program} {β:Nat->Pl} {t:TypeId} {xs:List Cell} {off:Nat} {v:AV} (h:nL P t xs off=some v) (w:World) :
  (part t (xs.map (gc β)).toArray off).run P w = .ok (gv β v) w/\(∀ hp:ah,(∀ c ∈ xs,okc hp c)->okv hp v):=by
 unfold nL at h
 split at h
 ·rename_i ti g hti hg
  simp only [] at h
  split at h
  ·rename_i hl
   split at h
   ·rename_i v1 hv
    cases h
    obtain ⟨e1,e2⟩:=n0 hv β
    have hsz:P.cellsOf t=ti.size:=by simp [Program.cellsOf,hti]
    simp only [beq_iff_eq,List.length_take,List.length_drop] at hl
    refine ⟨?_,fun hp H=>e2 hp fun c hc=>H c (List.mem_of_mem_drop (List.mem_of_mem_take hc))⟩
    have hn:g=false->P.cellsOf t=1:=by
     rintro rfl
     unfold C0 at hv
     simp only [] at hv
     split at hv
     ·rename_i c hc
      rw [hsz,<- hl]
      have:=congrArg List.length hc
      simp only [List.length_take,List.length_drop,List.length_cons,List.length_nil] at this
      omega
     ·cases hv
    by_cases h0:P.cellsOf t=0
    ·cases g with
     | false=>have:=hn rfl;omega
     | true =>
      unfold part
      rw [Sem.run_bind,dn hg]
      simp only [gv,e1,Result.andThen_ok,if_true,Sem.run_bind,aC hti,h0,eW]
      rw [hsz] at h0
      simp [h0]
    ·have:=jV (P:=P) hg (xs.map (gc β)) off hti hn (by simp;omega) w
     rw [this,dF,hsz]
     simp only [gv,e1]
   ·cases h
  ·cases h
 ·cases h
theorem uT {P:Program} {β:Nat->Pl} {h:ah} {t:TypeId} {x:AV} {f:Nat} {e:Eff} (he:nj P t x f=some e) (hx:okv h x) (w:World) :
  (Instr.field t (gv β x) f).run P w = .ok (gv β e.val) w/\okv h e.val/\e.wr = []:=by
 unfold nj at he
 split at he
 ·rename_i xs fs hu
  split at he
  ·rename_i fl hfl
   split at he
   ·rename_i v hv
    cases he
    obtain ⟨e1,e2⟩:=ov (β:=β) hv w
    refine ⟨?_,e2 h hx,rfl⟩
    simp only [Instr.field,Sem.run_bind,run_underlying hu,Result.andThen_ok,hfl,gv,g1,asAgg,Sem.run_pure] at e1 ⊢
    exact e1
   ·cases he
  ·cases he
 ·cases he
theorem uS {P:Program} {β:Nat->Pl} {h:ah} {t:TypeId} {x ix:AV} {e:Eff} (he:ni P t x ix=some e) (hp:e.pre.holds) (hx:okv h x) (w:World) :
  (Instr.index t (gv β x) (gv β ix)).run P w = .ok (gv β e.val) w/\okv h e.val/\e.wr = []:=by
 unfold ni at he
 split at he
 ·rename_i xs n el hu
  split at he
  ·rename_i pre k hix
   split at he
   ·rename_i v hv
    cases he
    obtain ⟨kk,m,e1,h0,h1,e2,h2⟩:=j5 hix hp β
    simp only at e2
    obtain ⟨e3,e4⟩:=ov (β:=β) hv w
    refine ⟨?_,e4 h hx,rfl⟩
    have hie : ∃ ei,P.info? el=some ei:=by
     unfold nL at hv
     split at hv
     ·exact ⟨_,by assumption⟩
     ·cases hv
    obtain ⟨ei,hei⟩:=hie
    simp only [Instr.index]
    rw [e1]
    simp only [asIntOf,Sem.run_bind,Sem.run_pure,Result.andThen_ok,run_underlying hu,gv,g1,h0,h1,and_self,if_true,aC hei,<- e2]
    exact e3
   ·cases he
  ·cases he
 ·cases he
theorem pq {P:Program} {β:Nat->Pl} {h:ah} {x:AV} {k:Nat} {e:Eff} (he:jf x k=some e) (hx:okv h x) (w:World) :
  (Instr.extract (gv β x) k).run P w = .ok (gv β e.val) w/\okv h e.val/\e.wr = []:=by
 unfold jf at he
 split at he
 ·rename_i vs
  split at he
  ·rename_i v hv
   cases he
   refine ⟨?_,hx v (List.mem_of_getElem? hv),rfl⟩
   simp [Instr.extract,gv,hv,tu]
  ·cases he
 ·cases he
theorem iZ {h:ah} {v:AV} {i len:Nat} {kl:Σ k:RK,List (List k.ty)} (e:gU h v=some (i,len,kl)):(∃ rc kn,v = .one (.c (.slc i 0 len 1 rc kn)))/\h i = .lists kl.1 kl.2:=by
 unfold gU at e
 split at e
 ·rename_i i' len' rc kn
  split at e
  ·rename_i k l hi
   cases e
   exact ⟨⟨rc,kn,rfl⟩,hi⟩
  ·cases e
 ·cases e
theorem sQ {P:Program} {w0:W0} {β:Nat->Pl} {h:ah} {w:World} (r:HRel w0 β h w) {t:TypeId} {v ix:AV} {i len:Nat} {kl:Σ k:RK,List (List k.ty)} (hl:gU h v=some (i,len,kl)) {e:Eff} (he:fq P t i len kl ix=some e) (hp:e.pre.holds) :
  (Instr.indexAt t (gv β v) (gv β ix)).run P w = .ok (gv β e.val) w/\okv h e.val/\e.wr = []:=by
 obtain ⟨⟨rc,kn,rfl⟩,hi⟩:=iZ hl
 unfold fq at he
 split at he
 ·rename_i el hu
  split at he
  ·rename_i ei pre k hei hix
   split at he
   ·rename_i hsz
    cases he
    obtain ⟨hp1,hp2⟩:=Pr.and_holds hp
    have hp2:len<=kl.2.length:=hp2
    obtain ⟨kk,m,e1,h0,h1,e2,h2⟩:=j5 hix hp1 β
    simp only at e2 h2
    have hL:=r.lst i kl.1 kl.2 hi
    unfold gJ at hL
    cases ha:(β i).base with
    | none =>
     rw [ha] at hL
     rw [hL.1] at hp2
     simp only [List.length_nil] at hp2
     omega
    | some a =>
     rw [ha] at hL
     have hs:=hL.1 (fun e0=>by
      rw [e0] at hp2
      simp only [List.length_nil] at hp2
      omega)
     have hsz:P.cellsOf el=1:=by simp [Program.cellsOf,hei,Nat.eq_of_beq_eq_true hsz]
     refine ⟨?_,?_,rfl⟩
     ·simp only [Instr.indexAt]
      rw [e1]
      simp only [asIntOf,Sem.run_bind,Sem.run_pure,Result.andThen_ok,run_underlying hu,gv,g1,cg,jE ha,gc,ha,h0,h1,and_self,if_true,
       aC hei,bi a hs,hsz,e2,Option.map_some,Nat.zero_mul,Nat.zero_add,Nat.add_zero,Nat.mul_one]
     ·intro j hj
      simp only [Cell.idOf,Option.some.injEq] at hj
      subst hj
      rw [hi]
      simp
   ·cases he
  ·cases he
 ·cases he
theorem xo {P:Program} {w0:W0} {β:Nat->Pl} {h:ah} {w:World} (r:HRel w0 β h w) {t ty:TypeId} {v:AV} {i len:Nat} {kl:Σ k:RK,List (List k.ty)} (hl:gU h v=some (i,len,kl)) {e:Eff} (he:nM P t i len kl=some e) (hp:e.pre.holds) :
  (Builtin.len_ #[t] ty #[gv β v]).run P w = .ok (gv β e.val) w/\okv h e.val/\e.wr = []:=by
 obtain ⟨⟨rc,kn,rfl⟩,hi⟩:=iZ hl
 unfold nM at he
 split at he
 ·rename_i el hu
  cases he
  have hp:len=kl.2.length:=hp
  have hL:=r.lst i kl.1 kl.2 hi
  unfold gJ at hL
  refine ⟨?_,al rfl,rfl⟩
  show (Builtin.len_ #[t] ty #[gc β (.slc i 0 len 1 rc kn)]).run P w = .ok (.int .i64 len) w
  cases ha:(β i).base with
  | none =>
   rw [ha] at hL
   have h0:len=0:=by rw [hp,hL.1];rfl
   subst h0
   have e2:gc β (.slc i 0 0 1 rc kn) = .slice none 0 0:=by simp [gc,ha]
   rw [e2]
   simp only [Builtin.len_]
   simp [run_underlying hu]
   rfl
  | some a =>
   have e2:gc β (.slc i 0 len 1 rc kn) = .slice (some (a.add 0)) len (rc.val (β i)):=by simp [gc,ha]
   rw [e2]
   simp only [Builtin.len_]
   simp [run_underlying hu]
   rfl
 ·cases he
theorem uQ {E:Env} {w0:W0} {β:Nat->Pl} {h:ah} {w:World} (r:HRel w0 β h w) {new:Nat} (hnew:h new = .un) {t:TypeId} {i j:Nat} {k:RK} {l:List (List k.ty)} (hi:h i = .lists k l) {e:Eff} (he:ke E new t i j k l=some e) (hp:e.pre.holds) :
  ∃ u,(Instr.loadAt t (gc β (.pte i j 1 0 0 0))).run E.P w = .ok u w/\EffOk w0 β h new e.val e.wr u w:=by
 unfold ke at he
 split at he
 ·rename_i el ti hn hu hti hg
  split at he
  ·rename_i hsz
   cases he
   have hp:j<l.length:=hp
   have hL:=r.lst i k l hi
   unfold gJ at hL
   cases ha:(β i).base with
   | none =>
    rw [ha] at hL
    rw [hL.1] at hp
    cases hp
   | some a =>
    rw [ha] at hL
    obtain ⟨hs,hb,_,_,hL⟩:=hL
    have hb:=hb (by intro e0;rw [e0] at hp;cases hp)
    have hx:l[j]? = some (l.getD j []):=by
     rw [List.getD_eq_getElem?_getD,List.getElem?_eq_getElem hp]
     rfl
    obtain ⟨v,hv,p,e1,_,e2⟩:=hL j _ hx
    have hcell:w.cell? (a.add j)=some v:=by
     rw [<- hv]
     refine World.cell?_of_block ?_
     rw [cO]
     have hlt:a.block<w0.w.heap.size:=by
      rcases Nat.lt_or_ge a.block w0.w.heap.size with h4 | h4
      ·exact h4
      ·exact absurd (.inl h4) hb
     exact r.below.block _ hlt fun hm=>hb (.inr hm)
    have hblk:BlkOk (upd β new p) w0 w new ⟨false,el,k.sz,.rows k (l.getD j []),false⟩:=by
     have e2:=e2 el
     unfold BlkOk at e2 ⊢
     rw [ab]
     cases hpb:p.base with
     | none=>simp only [hpb] at e2 ⊢;exact e2
     | some b =>
      simp only [hpb] at e2 ⊢
      obtain ⟨q1,q2,q3,q4,q5⟩:=e2
      refine ⟨q1,fun n c hc => ?_,q3,q4,by simp⟩
      have hne:ac k (l.getD j []) ≠ []:=by
       intro e0
       simp only [Body.cells] at hc
       rw [e0] at hc
       cases hc
      have hnb:=q3 trivial hne
      have hlt:b.block<w0.w.heap.size:=by
       rcases Nat.lt_or_ge b.block w0.w.heap.size with h4 | h4
       ·exact h4
       ·exact absurd (.inl h4) hnb
      have q:=q2 n c hc
      have hid:c.idOf=none:=cM k _ c (List.mem_of_getElem? hc)
      rw [bX (β:=fun _=>p) (β':=upd β new p) (fun m hm=>by rw [hid] at hm;cases hm)]
      rw [<- q]
      refine World.cell?_of_block ?_
      rw [cO]
      exact r.below.block _ hlt fun hm=>hnb (.inr hm)
    refine ⟨v,?_,.one hnew p ?_ ?_ ?_⟩
    ·rw [cg,jE ha]
     simp only [Instr.loadAt,Instr.sureAddr,Sem.run_bind,Sem.run_pure,Result.andThen_ok,loadVar,dn hg,Bool.false_eq_true,if_false,run_load,Nat.zero_mul,Nat.add_zero,Nat.mul_one]
     rw [hcell]
    ·rw [e1]
     show _=gc (upd β new p) (.slc new 0 (l.getD j []).length k.sz (.of 0) false)
     simp only [gc,ab]
    ·exact r.ext hnew p _ rfl rfl (fun c hc m hm=>by
      rw [cM k _ c hc] at hm
      cases hm) hblk
    ·intro m hm
     simp only [Cell.idOf,Option.some.injEq] at hm
     subst hm
     show upd h new _ new ≠ .un
     rw [ab]
     simp
  ·cases he
 ·cases he
end Go.Proofs.Ytibfppbffdedoaa
