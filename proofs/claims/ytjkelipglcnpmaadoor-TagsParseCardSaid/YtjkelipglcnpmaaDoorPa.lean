/- Plain laws: lemmas that hold with no condition but those that each states. -/
import Derived.Test.YtjkelipglcnpmaaDoorVmb
import Derived.Laws.Bits64
import Derived.Laws.Bits64b
namespace Go.VM
open Go
theorem wrap_i (z : Int) (h1 : -9223372036854775808 ≤ z) (h2 : z < 9223372036854775808) : IntKind.wrap .i64 z = z := by
  simp only [IntKind.wrap, IntKind.bits, IntKind.signed, Bool.true_and]
  split
  · rename_i h; have := of_decide_eq_true h; omega
  · rename_i h; have : ¬ _ := fun h' => h (decide_eq_true h'); omega
theorem fdiv_nat (a k : Nat) : Int.fdiv (a : Int) (2 ^ k) = ((a / 2 ^ k : Nat) : Int) := by
  rw [Int.fdiv_eq_ediv_of_nonneg _ (by exact Int.le_of_lt (Int.pow_pos (by decide)))]
  simp
theorem tdiv_nat (a m : Nat) : Int.tdiv (a : Int) (m : Int) = ((a / m : Nat) : Int) := by simp
theorem tmod_nat (a m : Nat) : Int.tmod (a : Int) (m : Int) = ((a % m : Nat) : Int) := rfl
def vec (n : Nat) (f : Nat → Nat) : List Int := (List.range n).map fun j => (f j : Int)
theorem getD_vec {n : Nat} {f : Nat → Nat} {i : Nat} (h : i < n) : (vec n f).getD i 0 = (f i : Int) := by
  simp [vec, List.getD, h]
theorem length_vec (n : Nat) (f : Nat → Nat) : (vec n f).length = n := by simp [vec]
theorem vec_congr {n : Nat} {f g : Nat → Nat} (h : ∀ j, j < n → f j = g j) : vec n f = vec n g :=
  List.map_congr_left fun j hj => by rw [h j (by simpa using hj)]
theorem length_setD {l : List Int} {i : Nat} {x : Int} (h : i < l.length) : (setD l i x).length = l.length := by
  induction i generalizing l with
  | zero => cases l with
    | nil => simp at h
    | cons a l => rfl
  | succ i ih => cases l with
    | nil => simp at h
    | cons a l => simp only [setD, List.length_cons]; rw [ih (by simpa using h)]
theorem ext_getD {l m : List Int} (hl : l.length = m.length) (h : ∀ i, i < l.length → l.getD i 0 = m.getD i 0) : l = m := by
  refine List.ext_getElem hl fun i h1 h2 => ?_
  have := h i h1
  simpa [List.getD, h1, h2] using this
theorem setD_vec {n : Nat} {f : Nat → Nat} {i v : Nat} (h : i < n) : setD (vec n f) i (v : Int) = vec n fun j => if j = i then v else f j := by
  have hl : (setD (vec n f) i (v : Int)).length = n := by rw [length_setD (by rw [length_vec]; exact h), length_vec]
  refine ext_getD (by rw [hl, length_vec]) fun j hj => ?_
  rw [hl] at hj
  rw [getD_setD, getD_vec hj, getD_vec hj]
  by_cases he : j = i <;> simp [he]
theorem bind_s {α β : Type} (a : α) (f : α → Option β) : (some a).bind f = f a := Eq.trans (Option.bind_some a f) (Eq.symm (Eq.symm (Eq.trans rfl rfl)))
theorem cond_t {α : Type} (a b : α) : (bif true then a else b) = a := Eq.trans (cond_true a b) (Eq.symm (Eq.symm (Eq.trans rfl rfl)))
theorem cond_f {α : Type} (a b : α) : (bif false then a else b) = b := Eq.trans (cond_false a b) (Eq.symm (Eq.symm (Eq.trans rfl rfl)))
theorem iter_for {X Y : Type} {stp : (X → Option Y) → X → Option Y} {N : Nat} (st : Nat → X) {y : Option Y} (hstep : ∀ i, i < N → ∀ rec, stp rec (st i) = rec (st (i + 1))) (hend : ∀ rec, stp rec (st N) = y) {K : Nat} (hK : N < K) :
    iter stp K (st 0) = y := by
  have : ∀ m i, i + m = N → ∀ K, m < K → iter stp K (st i) = y := by
    intro m
    induction m with
    | zero =>
      intro i hi K hK
      obtain ⟨k, rfl⟩ : ∃ k, K = k + 1 := ⟨K - 1, by omega⟩
      have : i = N := by omega
      subst this
      exact hend _
    | succ m ih =>
      intro i hi K hK
      obtain ⟨k, rfl⟩ : ∃ k, K = k + 1 := ⟨K - 1, by omega⟩
      rw [iter, hstep i (by omega)]
      exact ih (i + 1) (by omega) k (by omega)
  exact this N 0 (by omega) K hK
end Go.VM
