/- The machine on virtual values: a part of its definition or of its soundness proof. -/
import Derived.Calls
import Derived.Orders
import Derived.Below
import Derived.Laws.Rows
namespace Go.VM

/-- A value of the machine: addresses are numbers of its own ('virtual' blocks); a run of whole numbers is kept as a list of numbers. -/
inductive VV where
  | int (k : IntKind) (n : Int)
  | bool (b : Bool)
  | str (s : ByteArray)
  | ptr (b off : Nat)
  | pel (b off n j es : Nat)
  | sl (b off len cap : Nat)
  | fn (f : FuncId) (caps : List VV)
  | ints (k : IntKind) (n : Nat) (l : List Int)
  | agg (l : List VV)
  | tup (l : List VV)
  | raw (v : Value)
  deriving Inhabited

section
variable (ρ : Nat → Nat)
mutual
/-- The cells that a value takes up in memory. -/
def VV.cells : VV → List Value
  | .int k n => [.int k n]
  | .bool b => [.bool b]
  | .str s => [.string s]
  | .ptr b off => [.pointer (some ⟨ρ b, off, none⟩)]
  | .pel b off _ j es => [.pointer (some ⟨ρ b, off + j * es, none⟩)]
  | .sl b off len cap => [.slice (some ⟨ρ b, off, none⟩) len cap]
  | .fn f caps => [.func (.func f) #[] (VV.caps caps).toArray]
  | .ints k n l => (List.range n).map fun i => .int k (l.getD i 0)
  | .agg l => VV.cellss l
  | .tup _ => [undef]
  | .raw v => [v]
def VV.cellss : List VV → List Value
  | [] => []
  | v :: l => VV.cells v ++ VV.cellss l
/-- Captured values. -/
def VV.caps : List VV → List Value
  | [] => []
  | v :: l => (match v with | .agg _ => .agg (VV.cells v).toArray | .ints .. => undef | _ => (VV.cells v).headD undef) :: VV.caps l
end

/-- A value, as the model has it; of no tuple. -/
def VV.den0 (v : VV) : Value := match v with
  | .agg _ => .agg (v.cells ρ).toArray
  | .ints .. => undef
  | v => (v.cells ρ).headD undef

/-- A value, as the model has it. -/
def VV.den : VV → Value
  | .tup l => .tuple (l.map (VV.den0 ρ)).toArray
  | v => v.den0 ρ
end

theorem caps_eq (ρ : Nat → Nat) (l : List VV) : VV.caps ρ l = l.map (VV.den0 ρ) := by
  induction l with
  | nil => rfl
  | cons v l ih => simp only [VV.caps, List.map_cons, ih]; cases v <;> rfl

mutual
/-- The blocks that a value names. -/
def VV.ids : VV → List Nat
  | .ptr b _ => [b]
  | .pel b _ _ _ _ => [b]
  | .sl b _ _ _ => [b]
  | .fn _ caps => VV.idss caps
  | .agg l => VV.idss l
  | .tup l => VV.idss l
  | _ => []
def VV.idss : List VV → List Nat
  | [] => []
  | v :: l => VV.ids v ++ VV.idss l
end

mutual
/-- How many cells. -/
def VV.w : VV → Nat
  | .ints _ n _ => n
  | .agg l => VV.ws l
  | _ => 1
def VV.ws : List VV → Nat
  | [] => 0
  | v :: l => VV.w v + VV.ws l
end

theorem mem_idss {l : List VV} {i : Nat} : i ∈ VV.idss l ↔ ∃ v ∈ l, i ∈ v.ids := by
  induction l with
  | nil => simp [VV.idss]
  | cons v l ih => simp [VV.idss, ih]

theorem cellss_eq (ρ : Nat → Nat) (l : List VV) : VV.cellss ρ l = l.flatMap (VV.cells ρ) := by
  induction l with
  | nil => rfl
  | cons v l ih => simp [VV.cellss, ih]

theorem cellss_append (ρ : Nat → Nat) (l m : List VV) : VV.cellss ρ (l ++ m) = VV.cellss ρ l ++ VV.cellss ρ m := by simp [cellss_eq]

theorem idss_append (l m : List VV) : VV.idss (l ++ m) = VV.idss l ++ VV.idss m := by
  induction l with
  | nil => rfl
  | cons v l ih => simp [VV.idss, ih]

theorem ws_append (l m : List VV) : VV.ws (l ++ m) = VV.ws l + VV.ws m := by
  induction l with
  | nil => simp [VV.ws]
  | cons v l ih => simp [VV.ws, ih]; omega

mutual
theorem cells_congr {ρ ρ' : Nat → Nat} : ∀ (v : VV), (∀ i ∈ v.ids, ρ i = ρ' i) → v.cells ρ = v.cells ρ'
  | .int .., _ | .bool .., _ | .str .., _ | .ints .., _ | .raw .., _ | .tup .., _ => rfl
  | .ptr b off, h => by simp only [VV.cells, h b (by simp [VV.ids])]
  | .pel b off n j es, h => by simp only [VV.cells, h b (by simp [VV.ids])]
  | .sl b off n c, h => by simp only [VV.cells, h b (by simp [VV.ids])]
  | .fn f caps, h => by simp only [VV.cells]; rw [caps_congr caps (by simpa [VV.ids] using h)]
  | .agg l, h => by simp only [VV.cells]; rw [cellss_congr l (by simpa [VV.ids] using h)]
theorem cellss_congr {ρ ρ' : Nat → Nat} : ∀ (l : List VV), (∀ i ∈ VV.idss l, ρ i = ρ' i) → VV.cellss ρ l = VV.cellss ρ' l
  | [], _ => rfl
  | v :: l, h => by
    simp only [VV.cellss]
    rw [cells_congr v (fun i hi => h i (by simp [VV.idss, hi])), cellss_congr l (fun i hi => h i (by simp [VV.idss, hi]))]
theorem caps_congr {ρ ρ' : Nat → Nat} : ∀ (l : List VV), (∀ i ∈ VV.idss l, ρ i = ρ' i) → VV.caps ρ l = VV.caps ρ' l
  | [], _ => rfl
  | v :: l, h => by
    simp only [VV.caps]
    rw [cells_congr v (fun i hi => h i (by simp [VV.idss, hi])), caps_congr l (fun i hi => h i (by simp [VV.idss, hi]))]
end

theorem den0_congr {ρ ρ' : Nat → Nat} (v : VV) (h : ∀ i ∈ v.ids, ρ i = ρ' i) : v.den0 ρ = v.den0 ρ' := by
  unfold VV.den0
  cases v <;> simp only [cells_congr _ h]

theorem den_congr {ρ ρ' : Nat → Nat} (v : VV) (h : ∀ i ∈ v.ids, ρ i = ρ' i) : v.den ρ = v.den ρ' := by
  cases v
  case tup l =>
    simp only [VV.den]
    congr 2
    exact List.map_congr_left fun x hx => den0_congr x fun i hi => h i (by simp only [VV.ids, mem_idss]; exact ⟨x, hx, hi⟩)
  all_goals exact den0_congr _ h

mutual
theorem cells_length (ρ : Nat → Nat) : ∀ v : VV, (v.cells ρ).length = v.w
  | .int .. | .bool .. | .str .. | .raw .. | .tup .. | .ptr .. | .pel .. | .sl .. | .fn .. => rfl
  | .ints k n l => by simp [VV.cells, VV.w]
  | .agg l => by simp only [VV.cells, VV.w]; exact cellss_length ρ l
theorem cellss_length (ρ : Nat → Nat) : ∀ l : List VV, (VV.cellss ρ l).length = VV.ws l
  | [] => rfl
  | v :: l => by simp only [VV.cellss, VV.ws, List.length_append]; rw [cells_length ρ v, cellss_length ρ l]
end

/-- A value that is one cell in memory, and as a value is that cell. -/
def VV.one : VV → Bool
  | .ints .. | .agg _ | .tup _ => false
  | _ => true

theorem one_cells {ρ : Nat → Nat} {v : VV} (h : v.one = true) : v.cells ρ = [v.den ρ] := by
  cases v <;> simp [VV.one] at h <;> rfl

theorem one_den0 {ρ : Nat → Nat} {v : VV} (h : v.one = true) : v.den ρ = v.den0 ρ := by
  cases v <;> simp [VV.one] at h <;> rfl

/-- Whatever is stored: its cells are the model's cells of the value. -/
def VV.sto : VV → Bool
  | .ints .. | .tup _ => false
  | _ => true

/-- no value of the model that is itself an aggregate hides behind 'raw'. -/
def VV.fine : VV → Bool
  | .raw (.agg _) => false
  | _ => true

theorem sto_cells {ρ : Nat → Nat} {v : VV} (h : v.sto = true) (hf : v.fine = true) : (v.den ρ).cells.toList = v.cells ρ := by
  cases v <;> simp [VV.sto] at h
  case agg l => simp [VV.den, VV.den0, Value.cells]
  case raw v => cases v <;> simp [VV.fine] at hf <;> simp [VV.den, VV.den0, VV.cells, Value.cells]
  all_goals simp [VV.den, VV.den0, VV.cells, Value.cells]

end Go.VM
