/- The machine on virtual values: a part of its definition or of its soundness proof. -/
import Derived.Test.YtjkelipglcnpmaaVmB
import Derived.Laws.StructEq
import Derived.Laws.Build
namespace Go.VM

/-! ### The state, the types' table, the operations -/

abbrev Blk := List VV × TypeId

def getA {α : Type} : List (Nat × α) → Nat → Option α
  | [], _ => none
  | (a, v) :: r, t => bif Nat.beq a t then some v else getA r t

def setA {α : Type} : List (Nat × α) → Nat → α → List (Nat × α)
  | [], t, v => [(t, v)]
  | (a, u) :: r, t, v => bif Nat.beq a t then (a, v) :: r else (a, u) :: setA r t v

theorem getA_setA {α : Type} (l : List (Nat × α)) (t : Nat) (v : α) (x : Nat) : getA (setA l t v) x = if x = t then some v else getA l x := by
  induction l with
  | nil =>
    simp only [setA, getA]
    by_cases h : x = t
    · subst h; simp
    · have : Nat.beq t x = false := by rw [← Bool.not_eq_true, Nat.beq_eq]; exact fun e => h (Eq.symm e)
      simp [this, h]
  | cons p l ih =>
    obtain ⟨a, u⟩ := p
    simp only [setA]
    cases hb : Nat.beq a t with
    | true =>
      have : a = t := by simpa using hb
      subst this
      simp only [cond_true, getA]
      by_cases h : x = a
      · subst h; simp
      · have : Nat.beq a x = false := by rw [← Bool.not_eq_true, Nat.beq_eq]; exact fun e => h (Eq.symm e)
        simp [this, h]
    | false =>
      simp only [cond_false, getA, ih]
      cases hq : Nat.beq a x with
      | true =>
        have h1 : a = x := by simpa using hq
        have h2 : ¬ a = t := by rw [← Nat.beq_eq, hb]; simp
        simp [← h1, h2]
      | false => simp

/-- What is known of a type. -/
structure TI where
  size : Nat
  desc : TypeDesc
  zero : List VV
  esz : Nat := 0
  fsz : List Nat := []
  plainEq : Bool := false

def isAggD : TypeDesc → Bool
  | .struct _ | .array _ _ => true
  | _ => false

/-- What an operation reads of memory, what it leaves there, how many blocks are new. -/
structure ME where
  rd : List Nat := []
  up : List (Nat × Blk) := []
  nn : Nat := 0

def ofConst : Value → Option VV
  | .int k n => some (.int k n)
  | .bool b => some (.bool b)
  | .string s => some (.str s)
  | .pointer none => some (.raw (.pointer none))
  | .slice none 0 0 => some (.raw (.slice none 0 0))
  | .nilFunc => some (.raw .nilFunc)
  | .nilIface => some (.raw .nilIface)
  | .agg ⟨.int k n :: l⟩ => (ints k (.int k n :: l)).map fun m => .agg [.ints k m.length m]
  | _ => none
where
  ints (k : IntKind) : List Value → Option (List Int)
    | [] => some []
    | .int k' n :: l => if k' = k then (ints k l).map (n :: ·) else none
    | _ => none

def ev (L : List (Nat × VV)) : Operand → Option VV
  | .tmp t => getA L t
  | .const v => ofConst v
  | .func f => some (.fn f [])
  | .global _ => none

def evs (L : List (Nat × VV)) : List Operand → Option (List VV)
  | [] => some []
  | x :: l => (ev L x).bind fun v => (evs L l).bind fun vs => some (v :: vs)

def shiftI (op : BinOp) (k : IntKind) (x y : Int) : Int := match op with
  | .shl => k.wrap (x * 2 ^ (min y.toNat k.bits))
  | _ => x.fdiv (2 ^ (min y.toNat k.bits))

/-- Are so many numbers alike? -/
def eqL (n : Nat) (l m : List Int) : Bool := (List.range n).all fun i => l.getD i 0 == m.getD i 0

/-- Equality of aggregates that are made of the same runs of numbers. -/
def eqR : List VV → List VV → Option Bool
  | [], [] => some true
  | .ints k n l :: xs, .ints k' n' m :: ys => if k = k' ∧ n = n' then (eqR xs ys).map fun b => eqL n l m && b else none
  | _, _ => none

def binI (op : BinOp) (k : IntKind) (a b : Int) : Option (Bool × VV) := match op with
  | .add => some (true, .int k (k.wrap (a + b)))
  | .sub => some (true, .int k (k.wrap (a - b)))
  | .mul => some (true, .int k (k.wrap (a * b)))
  | .quo => some (decide (b ≠ 0), .int k (k.wrap (a.tdiv b)))
  | .rem => some (decide (b ≠ 0), .int k (a.tmod b))
  | .and | .or | .xor | .andNot => some (true, .int k (bits op k a b))
  | .eql => some (true, .bool (a == b))
  | .neq => some (true, .bool (a != b))
  | .lss => some (true, .bool (decide (a < b)))
  | .leq => some (true, .bool (decide (a ≤ b)))
  | .gtr => some (true, .bool (decide (a > b)))
  | .geq => some (true, .bool (decide (a ≥ b)))
  | _ => none

def bin (ty : TypeId → Option TI) (op : BinOp) (t : TypeId) : VV → VV → Option (Bool × VV)
  | .int k a, .int k' b => match op with
    | .shl | .shr => some (decide (0 ≤ b), .int k (shiftI op k a b))
    | _ => if k = k' then binI op k a b else none
  | .bool a, .bool b => (ty t).bind fun i => match i.desc, op with
    | .bool, .eql => some (true, .bool (a == b))
    | .bool, .neq => some (true, .bool (!(a == b)))
    | _, _ => none
  | .agg xs, .agg ys => (ty t).bind fun i => bif i.plainEq && Nat.beq i.size (VV.ws xs) then (eqR xs ys).bind fun b => match op with
    | .eql => some (true, .bool b)
    | .neq => some (true, .bool (!b))
    | _ => none else none
  | _, _ => none

def un (op : UnOp) : VV → Option VV
  | .int k n => match op with
    | .neg => some (.int k (k.wrap (0 - n)))
    | .xor => some (.int k (bits .xor k (if k.signed then -1 else k.max) n))
    | _ => none
  | .bool b => match op with
    | .not => some (.bool (!b))
    | _ => none
  | _ => none

/-- Parts put into a row, one behind the other. -/
def fillR (off : Nat → Option (Nat × Nat)) : List VV → List (Nat × VV) → Option (List VV)
  | runs, [] => some runs
  | runs, (i, v) :: rest => (off i).bind fun p => bif v.mem && Nat.beq v.w p.2 then (storeR runs p.1 v).bind fun runs' => fillR off runs' rest else none

def runsOf : VV → List VV
  | .agg l => l
  | v => [v]

def evParts (L : List (Nat × VV)) : List (Nat × Operand) → Option (List (Nat × VV))
  | [] => some []
  | (i, x) :: l => (ev L x).bind fun v => (evParts L l).bind fun vs => some ((i, v) :: vs)

/-- A value read through an address. -/
def rdAt (M : List (Nat × Blk)) (i : TI) : VV → Option (VV × Nat)
  | .ptr b off => (getA M b).bind fun blk => (loadR blk.1 off i.size (isAggD i.desc)).map fun u => (u, b)
  | .pel b off m j es => (getA M b).bind fun blk => (loadP blk.1 off m j es i.size (isAggD i.desc)).map fun u => (u, b)
  | _ => none

/-- One operation that is no call: does it go on, its value, what becomes of memory. -/
def xop (ty : TypeId → Option TI) (L : List (Nat × VV)) (M : List (Nat × Blk)) (n : Nat) : Op → Option (Bool × VV × ME)
  | .move x | .assign x => (ev L x).map fun v => (true, v, {})
  | .pick c a b => (ev L c).bind fun
    | .bool t => (bif t then ev L a else ev L b).map fun v => (true, v, {})
    | _ => none
  | .alloc t => (ty t).map fun i => (true, .ptr n 0, { up := [(n, (i.zero, t))], nn := 1 })
  | .box t x => (ev L x).bind fun v => bif v.mem && v.sto then some (true, .ptr n 0, { up := [(n, (runsOf v, t))], nn := 1 }) else none
  | .build t parts => (ty t).bind fun i => (evParts L parts.toList).bind fun ps =>
      match i.desc with
      | .struct fs => (fillR (fun j => (fs[j]?).bind fun f => (i.fsz[j]?).map fun s => (f.offset, s)) i.zero ps).map fun runs => (true, .agg runs, {})
      | .array _ _ => (fillR (fun j => some (j * i.esz, i.esz)) i.zero ps).map fun runs => (true, .agg runs, {})
      | _ => none
  | .load t x => (ev L x).bind fun v => (ty t).bind fun i => (rdAt M i v).map fun p => (true, p.1, { rd := [p.2] })
  | .store t x y => (ev L x).bind fun v => (ev L y).bind fun u => (ty t).bind fun i =>
      bif u.mem && u.sto && Nat.beq u.w i.size then
        match v with
        | .ptr b off => (getA M b).bind fun blk => (storeR blk.1 off u).map fun runs => (true, .tup [], { rd := [b], up := [(b, (runs, blk.2))] })
        | .pel b off m j es => (getA M b).bind fun blk => (storeP blk.1 off m j es u).map fun runs => (true, .tup [], { rd := [b], up := [(b, (runs, blk.2))] })
        | _ => none
      else none
  | .nilCheck x => (ev L x).bind fun v => match v with
    | .ptr .. | .pel .. => some (true, v, {})
    | _ => none
  | .binOp op t x y _ => (ev L x).bind fun v => (ev L y).bind fun u => (bin ty op t v u).map fun p => (p.1, p.2, {})
  | .unOp op _ x => (ev L x).bind fun v => (un op v).map fun u => (true, u, {})
  | .convert s d x => (ev L x).bind fun v => (ty s).bind fun _ => (ty d).bind fun i => match v, i.desc with
    | .int _ m, .int k => some (true, .int k (k.wrap m), {})
    | _, _ => none
  | .makeFunc (.func f) first caps => bif first.isEmpty then (evs L caps.toList).bind fun vs => bif VV.mems vs then some (true, .fn f vs, {}) else none else none
  | .fieldAddr t x j => (ev L x).bind fun v => (ty t).bind fun i => match i.desc, v with
    | .struct fs, .ptr b off => (fs[j]?).bind fun f => (i.fsz[j]?).bind fun s => bif Nat.beq s 0 then none else some (true, .ptr b (off + f.offset), {})
    | _, _ => none
  | .field t x j => (ev L x).bind fun v => (ty t).bind fun i => match i.desc, v with
    | .struct fs, .agg runs => (fs[j]?).bind fun f => (ty f.type).bind fun e => (loadR runs f.offset e.size (isAggD e.desc)).map fun u => (true, u, {})
    | _, _ => none
  | .indexAddr t x y => (ev L x).bind fun v => (ev L y).bind fun u => (ty t).bind fun i => match i.desc, v, u with
    | .array m _, .ptr b off, .int _ j => some (decide (0 ≤ j ∧ j < m), .pel b off m j.toNat i.esz, {})
    | .array m _, .pel b off m' j' es, .int _ j => bif Nat.beq es (m * i.esz) then some (decide (0 ≤ j ∧ j < m), .pel b off (m' * m) (j' * m + j.toNat) i.esz, {}) else none
    | _, _, _ => none
  | .index t x y => (ev L x).bind fun v => (ev L y).bind fun u => (ty t).bind fun i => match i.desc, v, u with
    | .array m e, .agg runs, .int _ j => (ty e).bind fun ei => (loadP runs 0 m j.toNat ei.size ei.size (isAggD ei.desc)).map fun w => (decide (0 ≤ j ∧ j < m), w, {})
    | _, _, _ => none
  | .extract x j => (ev L x).bind fun v => match v with
    | .tup l => (l[j]?).map fun u => (true, u, {})
    | _ => none
  | _ => none

end Go.VM
