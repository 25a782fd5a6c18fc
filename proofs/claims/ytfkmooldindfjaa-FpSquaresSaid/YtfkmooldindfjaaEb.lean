/- The executor, part b: what Go's operators give on abstract values: numbers, bools, strings, arrays and structs held against one another. -/
import Derived.Test.YtfkmooldindfjaaEa
set_option linter.unusedSimpArgs false
set_option linter.unusedVariables false
namespace Go.Proofs.Ytfkmooldindfjaa
open Go.RowKit

def kNum : IntKind → Nat
  | .i8 => 0 | .i16 => 1 | .i32 => 2 | .i64 => 3 | .u8 => 4 | .u16 => 5 | .u32 => 6 | .u64 => 7

theorem kNum_inj {a b : IntKind} (h : (kNum a == kNum b) = true) : a = b := by
  cases a <;> cases b <;> simp [kNum] at h <;> rfl

def isZero (n : Int) : Bool :=
  match n with
  | .ofNat 0 => true
  | .ofNat (_ + 1) => false
  | .negSucc _ => false

theorem isZero_ne {n : Int} (h : isZero n = false) : n ≠ 0 := by
  intro e; subst e; simp [isZero] at h

def sumC (lit : Bool) (k : IntKind) : Int ⊕ Bool → Cell
  | .inl n => match lit with | true => .lit k n | false => .int k n
  | .inr b => match lit with | true => ofBool b | false => .bool b

theorem gc_sumC (β : Nat → Pl) (lit : Bool) (k : IntKind) (r : Int ⊕ Bool) : gc β (sumC lit k r) = sumV k r := by
  cases r <;> cases lit <;> first | rfl | exact gc_ofBool β _

/-- Two numbers that are known. -/
def litOp (op : BinOp) (k : IntKind) (x y : Int) : Option (Cond Cell) :=
  match isDiv op && isZero y with
  | true => none
  | false => match intOp op k x y with
    | some r => some ⟨.t, sumC true k r⟩
    | none => none

/-- Two numbers of any make; 'nz': the divisor is known not to be 0. -/
def genOp (op : BinOp) (a b : Cell) : Option (Cond Cell) :=
  match toI a, toI b with
  | some (k, x), some (k', y) =>
    match kNum k == kNum k' with
    | false => none
    | true =>
      match intOp op k x y with
      | some r => match isDiv op, b with
        | true, .lit _ _ => match isZero y with
          | true => none
          | false => some ⟨.t, sumC false k r⟩
        | true, _ => some ⟨.p (y ≠ 0), sumC false k r⟩
        | false, _ => some ⟨.t, sumC false k r⟩
      | none => none
  | _, _ => none

def cell1 (o : Option Cell) : Option (Cond Cell) := match o with | some c => some ⟨.t, c⟩ | none => none

/-- Numbers, whatever they are. -/
def numOp (op : BinOp) (a b : Cell) : Option (Cond Cell) :=
  match op with
  | .shl => shiftC false a b
  | .shr => shiftC true a b
  | _ =>
    match a, b with
    | .lit k x, .lit k' y => match kNum k == kNum k' with
      | true => litOp op k x y
      | false => none
    | _, _ =>
      match toU a, toU b with
      | some x, some y => match u64Op op x y with
        | some c => some ⟨.t, c⟩
        | none => genOp op a b
      | _, _ =>
        match toB a, toB b with
        | some x, some y => cell1 (u8Op op x y)
        | _, _ =>
          match toW a, toW b with
          | some x, some y => cell1 (u32Op op x y)
          | _, _ => genOp op a b

theorem run_litOp {P : Program} {op : BinOp} {k : IntKind} {x y : Int} {r : Cond Cell} (β : Nat → Pl) (h : litOp op k x y = some r) (t : TypeId) (w : World) :
    (binOp op t (.int k x) (.int k y)).run P w = .ok (gc β r.val) w := by
  unfold litOp at h
  split at h
  · cases h
  · rename_i hd
    split at h
    · rename_i r' hr
      cases h
      rw [run_intOp hr (fun e => by rw [e] at hd; exact isZero_ne (by simpa using hd)), gc_sumC]
    · cases h

theorem run_genOp {P : Program} {op : BinOp} {a b : Cell} {r : Cond Cell} (β : Nat → Pl) (h : genOp op a b = some r) (hp : r.pre.holds) (t : TypeId) (w : World) :
    (binOp op t (gc β a) (gc β b)).run P w = .ok (gc β r.val) w := by
  unfold genOp at h
  split at h
  · rename_i k x k' y ha hb
    split at h
    · cases h
    · rename_i hk
      have hk := kNum_inj hk
      subst hk
      rw [toI_gc β ha, toI_gc β hb]
      split at h
      · rename_i r' hr
        split at h
        · split at h
          · cases h
          · rename_i hz
            cases h
            rw [run_intOp hr (fun _ => isZero_ne hz), gc_sumC]
        · cases h
          rw [run_intOp hr (fun _ => hp), gc_sumC]
        · rename_i hd
          cases h
          rw [run_intOp hr (fun e => by rw [hd] at e; cases e), gc_sumC]
      · cases h
  · cases h

theorem run_numOp {P : Program} {op : BinOp} {a b : Cell} {r : Cond Cell} (β : Nat → Pl) (h : numOp op a b = some r) (hp : r.pre.holds) (t : TypeId) (w : World) :
    (binOp op t (gc β a) (gc β b)).run P w = .ok (gc β r.val) w := by
  unfold numOp at h
  split at h
  · exact run_shiftC (right := false) β h hp t w
  · exact run_shiftC (right := true) β h hp t w
  · split at h
    · split at h
      · rename_i hk
        have hk := kNum_inj hk
        subst hk
        exact run_litOp β h t w
      · cases h
    · split at h
      · rename_i x y hx hy
        split at h
        · rename_i c hc
          cases h
          rw [toU_gc β hx, toU_gc β hy]
          exact run_u64Op β hc t w
        · exact run_genOp β h hp t w
      · split at h
        · rename_i x y hx hy
          unfold cell1 at h
          split at h
          · rename_i c hc
            cases h
            rw [toB_gc β hx, toB_gc β hy]
            exact run_u8Op β hc t w
          · cases h
        · split at h
          · rename_i x y hx hy
            unfold cell1 at h
            split at h
            · rename_i c hc
              cases h
              rw [toW_gc β hx, toW_gc β hy]
              exact run_u32Op β hc t w
            · cases h
          · exact run_genOp β h hp t w

/-! ## equality -/

/-- Are two cells one? (numbers, bools) -/
def eqNum (a b : Cell) : Option Bool :=
  match toU a, toU b with
  | some x, some y => some (x == y)
  | _, _ => match toI a, toI b with
    | some (k, x), some (k', y) => match kNum k == kNum k' with
      | true => some (x == y)
      | false => none
    | _, _ => none

theorem u64_beq (x y : UInt64) : ((x.toNat : Int) == (y.toNat : Int)) = (x == y) := by
  rw [Bool.eq_iff_iff]; simp [← UInt64.toNat_inj]; omega

theorem eqNum_spec {a b : Cell} {r : Bool} (β : Nat → Pl) (h : eqNum a b = some r) : ∃ k x y, gc β a = .int k x ∧ gc β b = .int k y ∧ r = (x == y) := by
  unfold eqNum at h
  split at h
  · rename_i x y hx hy
    cases h
    exact ⟨_, _, _, toU_gc β hx, toU_gc β hy, (u64_beq x y).symm⟩
  · split at h
    · rename_i k x k' y hx hy
      split at h
      · rename_i hk
        have hk := kNum_inj hk
        subst hk
        cases h
        exact ⟨_, _, _, toI_gc β hx, toI_gc β hy, rfl⟩
      · cases h
    · cases h

def eqBool (a b : Cell) : Option Bool :=
  match toBool a, toBool b with
  | some x, some y => some (x == y)
  | _, _ => none

def and? (a b : Option Bool) : Option Bool :=
  match a, b with
  | some x, some y => some (x && y)
  | _, _ => none

def eqArr (f : List Cell → List Cell → Option Bool) (s : Nat) : Nat → List Cell → List Cell → Option Bool
  | 0, _, _ => some true
  | n + 1, xs, ys => and? (f (xs.take s) (ys.take s)) (eqArr f s n (xs.drop s) (ys.drop s))

/-- Fields one by one. -/
def eqFlds (f : TypeId → List Cell → List Cell → Option Bool) (size : TypeId → Nat) (xs ys : List Cell) : List Field → Option Bool
  | [] => some true
  | fl :: fs => match fl.name == "_" with
    | true => none
    | false => and? (f fl.type ((xs.drop fl.offset).take (size fl.type)) ((ys.drop fl.offset).take (size fl.type))) (eqFlds f size xs ys fs)

def eqIn (P : Program) : Nat → TypeId → List Cell → List Cell → Option Bool
  | 0, _, _, _ => none
  | d + 1, t, xs, ys =>
    match P.info? t with
    | none => none
    | some i =>
    match xs.length == i.size && ys.length == i.size with
    | false => none
    | true =>
    match P.underlying t with
    | some (.int _) => match xs, ys with
      | [a], [b] => eqNum a b
      | _, _ => none
    | some .bool => match xs, ys with
      | [a], [b] => eqBool a b
      | _, _ => none
    | some (.array n e) => match (P.info? e).isSome with
      | true => eqArr (eqIn P d e) (P.cellsOf e) n xs ys
      | false => none
    | some (.struct fs) => match P.stoodInHeld t with
      | true => none
      | false => eqFlds (eqIn P d) P.cellsOf xs ys fs.toList
    | _ => none

/-- Is a variable of the type a row of cells? -/
def aggT (P : Program) (t : TypeId) : Option Bool :=
  match P.underlying t with
  | some (.struct _) => some true
  | some (.array _ _) => some true
  | some _ => some false
  | none => none

/-- Cells as a value of a type. -/
def pack (agg : Bool) (xs : List Cell) : Option AV1 :=
  match agg with
  | true => some (.agg xs)
  | false => match xs with
    | [c] => some (.c c)
    | _ => none

def packV (agg : Bool) (xs : List Value) : Value :=
  match agg with
  | true => .agg xs.toArray
  | false => xs.headD Go.undef

theorem run_isAgg {P : Program} {t : TypeId} {b : Bool} (h : aggT P t = some b) (w : World) : (isAgg t).run P w = .ok b w := by
  unfold aggT at h
  unfold isAgg
  rw [Sem.run_bind]
  cases hu : P.underlying t with
  | none => rw [hu] at h; cases h
  | some d =>
    rw [run_underlying hu]
    rw [hu] at h
    simp only [Result.andThen_ok]
    cases d <;> simp at h <;> subst h <;> rfl

theorem run_sizeOf {P : Program} {t : TypeId} {i : TypeInfo} (hi : P.info? t = some i) (w : World) : (sizeOf t).run P w = .ok (P.cellsOf t) w := by
  simp [sizeOf, typeInfo, hi, Program.cellsOf]

theorem run_part {P : Program} {t : TypeId} {b : Bool} {i : TypeInfo} (h : aggT P t = some b) (xs : List Value) (off : Nat) (hi : P.info? t = some i) (hn : b = false → P.cellsOf t = 1)
    (hl : off + P.cellsOf t ≤ xs.length) (w : World) : (part t xs.toArray off).run P w = .ok (packV b ((xs.drop off).take (P.cellsOf t))) w := by
  unfold part
  rw [Sem.run_bind, run_isAgg h]
  simp only [Result.andThen_ok]
  cases b
  · have hn := hn rfl
    rw [hn] at hl ⊢
    have h1 : off < xs.length := by omega
    simp only [Bool.false_eq_true, if_false, packV]
    have e1 : xs.toArray[off]? = some xs[off] := by simp [h1]
    have e2 : (xs.drop off).take 1 = [xs[off]] := by
      rw [List.drop_eq_getElem_cons h1]; rfl
    rw [e1, e2]
    rfl
  · simp only [if_true, packV, Sem.run_bind, run_sizeOf hi, Result.andThen_ok, Sem.run_pure]
    congr 2
    apply Array.ext'
    rw [Array.toList_extract]
    simp [List.extract, Nat.add_sub_cancel_left]

/-- The loop of '==' at an array's type, from element i on. -/
def arrLoop (P : Program) (d : Nat) (e : TypeId) (s : Nat) (xs ys : Array Value) : (n i : Nat) → Sem Bool
  | 0, _ => pure true
  | n + 1, i => do
    let a ← part e xs (i * s)
    let b ← part e ys (i * s)
    let r ← Op.equalIn d e a b
    if (!r) = true then pure false else arrLoop P d e s xs ys n (i + 1)

theorem run_equalIn_array {P : Program} (d n : Nat) (t e : TypeId) (i : TypeInfo) (xs ys : Array Value) (ht : P.underlying t = some (.array n e)) (hi : P.info? e = some i) (w : World) :
    (Op.equalIn (d + 1) t (.agg xs) (.agg ys)).run P w = (arrLoop P d e (P.cellsOf e) xs ys n 0).run P w := by
  simp only [Op.equalIn, Sem.run_bind, run_underlying ht, Result.andThen_ok, run_sizeOf hi]
  simp only [Std.Legacy.Range.forIn_eq_forIn_range', Std.Legacy.Range.size, Nat.sub_zero, Nat.add_one_sub_one, Nat.div_one]
  generalize P.cellsOf e = s
  clear ht hi
  generalize hk : 0 = k
  clear hk
  induction n generalizing k w with
  | zero => simp [arrLoop]
  | succ n ih =>
    simp only [List.range'_succ, List.forIn_cons, arrLoop, Sem.run_bind]
    generalize (part e xs (k * s)).run P w = r1
    cases r1 with
    | ok a w1 =>
      simp only [Result.andThen_ok]
      generalize (part e ys (k * s)).run P w1 = r2
      cases r2 with
      | ok b w2 =>
        simp only [Result.andThen_ok]
        generalize (Op.equalIn d e a b).run P w2 = r3
        cases r3 with
        | ok r w3 =>
          cases r
          · simp
          · simp only [Result.andThen_ok, Bool.not_true, Bool.false_eq_true, if_false, Sem.run_bind, Sem.run_pure]
            exact ih w3 (k + 1)
        | halt x w3 => simp [Result.andThen]
      | halt x w2 => simp [Result.andThen]
    | halt x w1 => simp [Result.andThen]

theorem and?_some {a b : Option Bool} {r : Bool} (h : and? a b = some r) : ∃ x y, a = some x ∧ b = some y ∧ r = (x && y) := by
  unfold and? at h
  split at h
  · cases h; exact ⟨_, _, rfl, rfl, rfl⟩
  · cases h

theorem map_drop_take (f : Cell → Value) (xs : List Cell) (a n : Nat) : ((xs.map f).drop a).take n = ((xs.drop a).take n).map f := by
  rw [← List.map_drop, ← List.map_take]

theorem eqIn_sizes {P : Program} {d : Nat} {t : TypeId} {xs ys : List Cell} {r : Bool} (h : eqIn P d t xs ys = some r) : ∃ i, P.info? t = some i ∧ xs.length = P.cellsOf t ∧ ys.length = P.cellsOf t := by
  cases d with
  | zero => simp [eqIn] at h
  | succ d =>
    simp only [eqIn] at h
    split at h
    · cases h
    · rename_i i hi
      split at h
      · cases h
      · rename_i hl
        simp at hl
        exact ⟨i, hi, by simp [Program.cellsOf, hi, hl.1], by simp [Program.cellsOf, hi, hl.2]⟩

theorem eqIn_agg {P : Program} {d : Nat} {t : TypeId} {xs ys : List Cell} {r : Bool} (h : eqIn P d t xs ys = some r) : ∃ b, aggT P t = some b ∧ (b = false → P.cellsOf t = 1) := by
  have hsz := eqIn_sizes h
  cases d with
  | zero => simp [eqIn] at h
  | succ d =>
    obtain ⟨i, hi, hx, hy⟩ := hsz
    simp only [eqIn, hi] at h
    split at h
    · cases h
    · split at h
      · rename_i hu
        split at h
        · refine ⟨false, by simp [aggT, hu], fun _ => ?_⟩
          simp at hx; omega
        · cases h
      · rename_i hu
        split at h
        · refine ⟨false, by simp [aggT, hu], fun _ => ?_⟩
          simp at hx; omega
        · cases h
      · rename_i hu
        exact ⟨true, by simp [aggT, hu], fun e => by cases e⟩
      · rename_i hu
        exact ⟨true, by simp [aggT, hu], fun e => by cases e⟩
      · cases h

theorem run_eqIn {P : Program} (β : Nat → Pl) : ∀ (d : Nat) (t : TypeId) (xs ys : List Cell) (r : Bool), eqIn P d t xs ys = some r → ∀ (D : Nat) (b : Bool), d ≤ D → aggT P t = some b → ∀ w,
    (Op.equalIn D t (packV b (xs.map (gc β))) (packV b (ys.map (gc β)))).run P w = .ok r w := by
  intro d
  induction d with
  | zero => intro t xs ys r h; simp [eqIn] at h
  | succ d ih =>
    intro t xs ys r h D b hD hb w
    obtain ⟨D, rfl⟩ : ∃ D', D = D' + 1 := ⟨D - 1, by omega⟩
    obtain ⟨i, hi, hx, hy⟩ := eqIn_sizes h
    simp only [eqIn, hi] at h
    split at h
    · cases h
    split at h
    · rename_i k hu
      have : b = false := by simpa [aggT, hu] using hb.symm
      subst this
      split at h
      · rename_i a c
        obtain ⟨k', x, y, e1, e2, rfl⟩ := eqNum_spec β h
        simp only [packV, List.map_cons, List.map_nil, List.headD_cons, e1, e2]
        exact run_equalIn_int w D t k' k x y hu
      · cases h
    · rename_i hu
      have : b = false := by simpa [aggT, hu] using hb.symm
      subst this
      split at h
      · rename_i a c
        unfold eqBool at h
        split at h
        · rename_i x y hx hy
          cases h
          simp only [packV, List.map_cons, List.map_nil, List.headD_cons, toBool_gc β hx, toBool_gc β hy]
          exact run_equalIn_bool' w D t x y hu
        · cases h
      · cases h
    · rename_i n e hu
      have : b = true := by simpa [aggT, hu] using hb.symm
      subst this
      split at h
      · rename_i hie
        obtain ⟨ie, hie⟩ := Option.isSome_iff_exists.1 hie
        simp only [packV]
        rw [run_equalIn_array D n t e ie _ _ hu hie]
        have H : ∀ (n : Nat) (us vs : List Cell) (r : Bool) (k : Nat) (w : World), us = xs.drop (k * P.cellsOf e) → vs = ys.drop (k * P.cellsOf e) →
            eqArr (eqIn P d e) (P.cellsOf e) n us vs = some r →
            (arrLoop P D e (P.cellsOf e) (xs.map (gc β)).toArray (ys.map (gc β)).toArray n k).run P w = .ok r w := by
          intro n
          induction n with
          | zero => intro us vs r k w _ _ h; simp [eqArr] at h; subst h; rfl
          | succ n ihn =>
            intro us vs r k w hus hvs h
            obtain ⟨a, c, ha, hc, rfl⟩ := and?_some h
            obtain ⟨_, hi2, hlx, hly⟩ := eqIn_sizes ha
            obtain ⟨be, hbe, hbe1⟩ := eqIn_agg ha
            have e1 : (List.take (P.cellsOf e) us).map (gc β) = ((xs.map (gc β)).drop (k * P.cellsOf e)).take (P.cellsOf e) := by rw [map_drop_take, hus]
            have e2 : (List.take (P.cellsOf e) vs).map (gc β) = ((ys.map (gc β)).drop (k * P.cellsOf e)).take (P.cellsOf e) := by rw [map_drop_take, hvs]
            have l1 : k * P.cellsOf e + P.cellsOf e ≤ (xs.map (gc β)).length ∨ P.cellsOf e = 0 := by
              rw [List.length_take, hus, List.length_drop] at hlx; simp; omega
            have l2 : k * P.cellsOf e + P.cellsOf e ≤ (ys.map (gc β)).length ∨ P.cellsOf e = 0 := by
              rw [List.length_take, hvs, List.length_drop] at hly; simp; omega
            have p1 : (part e (xs.map (gc β)).toArray (k * P.cellsOf e)).run P w = .ok (packV be ((List.take (P.cellsOf e) us).map (gc β))) w := by
              rw [e1]
              rcases l1 with l1 | l1
              · exact run_part hbe _ _ hi2 hbe1 l1 w
              · cases be with
                | false => have := hbe1 rfl; omega
                | true =>
                  unfold part
                  rw [Sem.run_bind, run_isAgg hbe]
                  simp [packV, run_sizeOf hi2, l1]
            have p2 : (part e (ys.map (gc β)).toArray (k * P.cellsOf e)).run P w = .ok (packV be ((List.take (P.cellsOf e) vs).map (gc β))) w := by
              rw [e2]
              rcases l2 with l2 | l2
              · exact run_part hbe _ _ hi2 hbe1 l2 w
              · cases be with
                | false => have := hbe1 rfl; omega
                | true =>
                  unfold part
                  rw [Sem.run_bind, run_isAgg hbe]
                  simp [packV, run_sizeOf hi2, l2]
            simp only [arrLoop, Sem.run_bind, p1, Result.andThen_ok, p2, ih e _ _ _ ha D be (by omega) hbe w]
            cases a
            · simp
            · simp only [Bool.not_true, Bool.false_eq_true, if_false, Bool.true_and]
              exact ihn _ _ c (k + 1) w (by rw [hus, List.drop_drop, Nat.add_mul, Nat.one_mul]) (by rw [hvs, List.drop_drop, Nat.add_mul, Nat.one_mul]) hc
        exact H n xs ys r 0 w (by simp) (by simp) h
      · cases h
    · rename_i fs hu
      have : b = true := by simpa [aggT, hu] using hb.symm
      subst this
      split at h
      · cases h
      · rename_i hst
        simp only [packV]
        have hfs : P.fieldsOf t = fs := by simp [Program.fieldsOf, hu]
        rw [run_equalIn_struct w D t _ _ (by rw [hfs]; exact hu) hst, hfs]
        generalize fs.toList = fl at h
        clear hu hfs
        induction fl generalizing r w with
        | nil => simp [eqFlds] at h; subst h; rfl
        | cons f fl ihf =>
          simp only [eqFlds] at h
          split at h
          · cases h
          · rename_i hname
            obtain ⟨a, c, ha, hc, rfl⟩ := and?_some h
            obtain ⟨_, hi2, hlx, hly⟩ := eqIn_sizes ha
            obtain ⟨be, hbe, hbe1⟩ := eqIn_agg ha
            have l1 : f.offset + P.cellsOf f.type ≤ (xs.map (gc β)).length ∨ P.cellsOf f.type = 0 := by
              rw [List.length_take, List.length_drop] at hlx; simp; omega
            have l2 : f.offset + P.cellsOf f.type ≤ (ys.map (gc β)).length ∨ P.cellsOf f.type = 0 := by
              rw [List.length_take, List.length_drop] at hly; simp; omega
            have p1 : (part f.type (xs.map (gc β)).toArray f.offset).run P w = .ok (packV be ((List.take (P.cellsOf f.type) (xs.drop f.offset)).map (gc β))) w := by
              rw [← map_drop_take]
              by_cases h0 : P.cellsOf f.type = 0
              · cases be with
                | false => have := hbe1 rfl; omega
                | true =>
                  unfold part
                  rw [Sem.run_bind, run_isAgg hbe]
                  simp [packV, run_sizeOf hi2, h0]
              · exact run_part hbe _ _ hi2 hbe1 (by omega) w
            have p2 : (part f.type (ys.map (gc β)).toArray f.offset).run P w = .ok (packV be ((List.take (P.cellsOf f.type) (ys.drop f.offset)).map (gc β))) w := by
              rw [← map_drop_take]
              by_cases h0 : P.cellsOf f.type = 0
              · cases be with
                | false => have := hbe1 rfl; omega
                | true =>
                  unfold part
                  rw [Sem.run_bind, run_isAgg hbe]
                  simp [packV, run_sizeOf hi2, h0]
              · exact run_part hbe _ _ hi2 hbe1 (by omega) w
            have hname' : f.name ≠ "_" := by simpa using hname
            simp only [Op.eqFields, hname', ne_eq, not_false_eq_true, if_true, Sem.run_bind, p1, Result.andThen_ok, p2, ih f.type _ _ _ ha D be (by omega) hbe w]
            cases a
            · simp
            · simp only [Bool.not_true, Bool.false_eq_true, if_false, Bool.true_and]
              exact ihf c w hc
    · cases h

end Go.Proofs.Ytfkmooldindfjaa
