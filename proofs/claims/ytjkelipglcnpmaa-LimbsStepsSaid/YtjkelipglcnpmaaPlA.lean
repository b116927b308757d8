/- Plain laws: lemmas that hold with no condition but those that each states. -/
import Derived.Test.YtjkelipglcnpmaaVmN
import Derived.Laws.Bits64
import Derived.Laws.Bits64b
namespace Go.VM
open Go

/-! ### Plain numbers: what the machine's arithmetic is on natural numbers -/

theorem wrap_nat (n : Nat) : IntKind.wrap .u64 (n : Int) = ((n % 18446744073709551616 : Nat) : Int) := by
  simp only [IntKind.wrap, IntKind.bits, IntKind.signed, Bool.false_and, Bool.false_eq_true, if_false]
  omega

theorem wrap_i (z : Int) (h1 : -9223372036854775808 ≤ z) (h2 : z < 9223372036854775808) : IntKind.wrap .i64 z = z := by
  simp only [IntKind.wrap, IntKind.bits, IntKind.signed, Bool.true_and]
  split
  · rename_i h; have := of_decide_eq_true h; omega
  · rename_i h; have : ¬ _ := fun h' => h (decide_eq_true h'); omega

theorem wrap_u (z : Int) (h1 : 0 ≤ z) (h2 : z < 18446744073709551616) : IntKind.wrap .u64 z = z := by
  simp only [IntKind.wrap, IntKind.bits, IntKind.signed, Bool.false_and, Bool.false_eq_true, if_false]
  omega

theorem and_mask32 (a : Nat) (ha : a < 18446744073709551616) : bits .and .u64 (a : Int) 4294967295 = ((a % 4294967296 : Nat) : Int) := by
  rw [show (4294967295 : Int) = ((4294967295 : Nat) : Int) from rfl, bits_and_u64_nat a _ ha (by omega), show (4294967295 : Nat) = 2 ^ 32 - 1 from rfl, Nat.and_two_pow_sub_one_eq_mod]

theorem fdiv_nat (a k : Nat) : Int.fdiv (a : Int) (2 ^ k) = ((a / 2 ^ k : Nat) : Int) := by
  rw [Int.fdiv_eq_ediv_of_nonneg _ (by exact Int.le_of_lt (Int.pow_pos (by decide)))]
  simp

theorem tdiv_nat (a m : Nat) : Int.tdiv (a : Int) (m : Int) = ((a / m : Nat) : Int) := by simp
theorem tmod_nat (a m : Nat) : Int.tmod (a : Int) (m : Int) = ((a % m : Nat) : Int) := rfl

/-! ### Rows of natural numbers -/

def vec (n : Nat) (f : Nat → Nat) : List Int := (List.range n).map fun j => (f j : Int)

theorem getD_vec {n : Nat} {f : Nat → Nat} {i : Nat} (h : i < n) : (vec n f).getD i 0 = (f i : Int) := by
  simp [vec, List.getD, h]

theorem length_vec (n : Nat) (f : Nat → Nat) : (vec n f).length = n := by simp [vec]

theorem vec_congr {n : Nat} {f g : Nat → Nat} (h : ∀ j, j < n → f j = g j) : vec n f = vec n g :=
  List.map_congr_left fun j hj => by rw [h j (by simpa using hj)]

theorem length_setD {l : List Int} {i : Nat} {x : Int} (h : i < l.length) : (setD l i x).length = l.length := by
  induction i generalizing l with
  | zero => cases l with
    | nil => simp at h
    | cons a l => rfl
  | succ i ih => cases l with
    | nil => simp at h
    | cons a l => simp only [setD, List.length_cons]; rw [ih (by simpa using h)]

theorem ext_getD {l m : List Int} (hl : l.length = m.length) (h : ∀ i, i < l.length → l.getD i 0 = m.getD i 0) : l = m := by
  refine List.ext_getElem hl fun i h1 h2 => ?_
  have := h i h1
  simpa [List.getD, h1, h2] using this

theorem setD_vec {n : Nat} {f : Nat → Nat} {i v : Nat} (h : i < n) : setD (vec n f) i (v : Int) = vec n fun j => if j = i then v else f j := by
  have hl : (setD (vec n f) i (v : Int)).length = n := by rw [length_setD (by rw [length_vec]; exact h), length_vec]
  refine ext_getD (by rw [hl, length_vec]) fun j hj => ?_
  rw [hl] at hj
  rw [getD_setD, getD_vec hj, getD_vec hj]
  by_cases he : j = i <;> simp [he]

theorem eq_vec {l : List Int} {n : Nat} (hl : l.length = n) (h : ∀ i, i < n → 0 ≤ l.getD i 0) : l = vec n fun j => (l.getD j 0).toNat :=
  ext_getD (by rw [hl, length_vec]) fun i hi => by
    rw [getD_vec (by omega)]
    have := h i (by omega)
    omega

/-- The words of a number: j from 0 to n - 1, each of w bits. -/
def words (w n A : Nat) : List Int := vec n fun j => A / 2 ^ (w * j) % 2 ^ w

theorem getD_words {w n A i : Nat} (h : i < n) : (words w n A).getD i 0 = ((A / 2 ^ (w * i) % 2 ^ w : Nat) : Int) := getD_vec h

abbrev num (A : Nat) : List Int := words 64 4 A
abbrev halves (A : Nat) : List Int := words 32 8 A

/-- Of words a number: back. -/
def ofWords (w : Nat) (f : Nat → Nat) : Nat → Nat
  | 0 => 0
  | n + 1 => ofWords w f n + f n * 2 ^ (w * n)

theorem ofWords_lt {w : Nat} {f : Nat → Nat} {n : Nat} (h : ∀ i, i < n → f i < 2 ^ w) : ofWords w f n < 2 ^ (w * n) := by
  induction n with
  | zero => simp [ofWords]
  | succ n ih =>
    have h1 := ih fun i hi => h i (by omega)
    have h2 := h n (by omega)
    have h3 : 2 ^ (w * (n + 1)) = 2 ^ w * 2 ^ (w * n) := by rw [Nat.mul_succ, Nat.pow_add, Nat.mul_comm]
    simp only [ofWords]
    rw [h3]
    calc ofWords w f n + f n * 2 ^ (w * n) < 2 ^ (w * n) + f n * 2 ^ (w * n) := by omega
      _ = (f n + 1) * 2 ^ (w * n) := by rw [Nat.add_mul]; omega
      _ ≤ 2 ^ w * 2 ^ (w * n) := Nat.mul_le_mul_right _ h2

theorem ofWords_word {w : Nat} {f : Nat → Nat} {n : Nat} (h : ∀ i, i < n → f i < 2 ^ w) {i : Nat} (hi : i < n) : ofWords w f n / 2 ^ (w * i) % 2 ^ w = f i := by
  induction n with
  | zero => omega
  | succ n ih =>
    have hp : 0 < 2 ^ (w * i) := Nat.two_pow_pos _
    simp only [ofWords]
    by_cases he : i = n
    · subst he
      have := ofWords_lt (w := w) (f := f) (n := i) fun j hj => h j (by omega)
      rw [Nat.add_mul_div_right _ _ hp, Nat.div_eq_of_lt this, Nat.zero_add, Nat.mod_eq_of_lt (h i (by omega))]
    · have h1 := ih (fun j hj => h j (by omega)) (by omega)
      have h2 : f n * 2 ^ (w * n) = (f n * 2 ^ (w * (n - i - 1)) * 2 ^ w) * 2 ^ (w * i) := by
        have h3 : w * n = w * (n - i - 1) + w + w * i := by
          rw [← Nat.mul_succ, ← Nat.mul_add]; congr 1; omega
        rw [h3, Nat.pow_add, Nat.pow_add]
        simp only [Nat.mul_assoc]
      rw [h2, Nat.add_mul_div_right _ _ hp, Nat.add_mul_mod_self_right]
      exact h1

/-- Every row of n words is the words of its number. -/
theorem words_of {w n : Nat} {f : Nat → Nat} (h : ∀ i, i < n → f i < 2 ^ w) : vec n f = words w n (ofWords w f n) :=
  vec_congr fun _ hj => (ofWords_word h hj).symm

theorem ofWords_words (w n A : Nat) : ofWords w (fun j => A / 2 ^ (w * j) % 2 ^ w) n = A % 2 ^ (w * n) := by
  induction n with
  | zero => simp [ofWords, Nat.mod_one]
  | succ n ih => rw [ofWords, ih, Nat.mul_succ, Nat.pow_add, Nat.mod_mul, Nat.mul_comm (2 ^ (w * n))]

theorem words_mod (w n A : Nat) : words w n (A % 2 ^ (w * n)) = words w n A := by
  rw [← ofWords_words, words, words]
  refine vec_congr fun j hj => ?_
  rw [ofWords_word (fun i _ => Nat.mod_lt _ (Nat.two_pow_pos _)) hj]

theorem words_inj {w n A B : Nat} (hA : A < 2 ^ (w * n)) (hB : B < 2 ^ (w * n)) (h : words w n A = words w n B) : A = B := by
  rw [← Nat.mod_eq_of_lt hA, ← Nat.mod_eq_of_lt hB, ← ofWords_words, ← ofWords_words]
  have : ∀ m, m ≤ n → ofWords w (fun j => A / 2 ^ (w * j) % 2 ^ w) m = ofWords w (fun j => B / 2 ^ (w * j) % 2 ^ w) m := by
    intro m
    induction m with
    | zero => intro _; rfl
    | succ m ih =>
      intro hm
      simp only [ofWords, ih (by omega)]
      have h1 := getD_words (w := w) (A := A) (show m < n by omega)
      have h2 := getD_words (w := w) (A := B) (show m < n by omega)
      rw [h] at h1
      rw [h1] at h2
      have h3 : A / 2 ^ (w * m) % 2 ^ w = B / 2 ^ (w * m) % 2 ^ w := by exact_mod_cast h2
      rw [h3]
  exact this n (Nat.le_refl n)

/-- Are words alike? -/
theorem eqL_words {w n A B : Nat} (hA : A < 2 ^ (w * n)) (hB : B < 2 ^ (w * n)) : eqL n (words w n A) (words w n B) = decide (A = B) := by
  rw [Bool.eq_iff_iff, decide_eq_true_eq]
  simp only [eqL, List.all_eq_true, List.mem_range, beq_iff_eq]
  constructor
  · intro h
    refine words_inj hA hB (ext_getD (by simp [words, length_vec]) fun i hi => h i (by simpa [words, length_vec] using hi))
  · intro h i _
    rw [h]

theorem vec_step (n i : Nat) (X F : Nat → Nat) : vec n (fun j => if j = i then X i else if j < i then X j else F j) = vec n (fun j => if j < i + 1 then X j else F j) :=
  vec_congr fun j _ => by
    by_cases hj : j = i
    · subst hj; simp
    · rw [if_neg hj]
      by_cases hl : j < i
      · rw [if_pos hl, if_pos (by omega)]
      · rw [if_neg hl, if_neg (by omega)]

theorem vec_none (n : Nat) (X F : Nat → Nat) : vec n (fun j => if j < 0 then X j else F j) = vec n F := vec_congr fun j _ => by simp
theorem vec_all (n : Nat) (X F : Nat → Nat) : vec n (fun j => if j < n then X j else F j) = vec n X := vec_congr fun j hj => by simp [hj]

/-! ### Steps that the kernel does not reckon anew: their proofs are no 'rfl' -/

theorem bind_s {α β : Type} (a : α) (f : α → Option β) : (some a).bind f = f a := Eq.trans (Option.bind_some a f) (Eq.symm (Eq.symm (Eq.trans rfl rfl)))
theorem cond_t {α : Type} (a b : α) : (bif true then a else b) = a := Eq.trans (cond_true a b) (Eq.symm (Eq.symm (Eq.trans rfl rfl)))
theorem cond_f {α : Type} (a b : α) : (bif false then a else b) = b := Eq.trans (cond_false a b) (Eq.symm (Eq.symm (Eq.trans rfl rfl)))

/-! ### Loops -/

/-- A loop that counts. -/
theorem iter_for {X Y : Type} {stp : (X → Option Y) → X → Option Y} {N : Nat} (st : Nat → X) {y : Option Y} (hstep : ∀ i, i < N → ∀ rec, stp rec (st i) = rec (st (i + 1))) (hend : ∀ rec, stp rec (st N) = y) {K : Nat} (hK : N < K) :
    iter stp K (st 0) = y := by
  have : ∀ m i, i + m = N → ∀ K, m < K → iter stp K (st i) = y := by
    intro m
    induction m with
    | zero =>
      intro i hi K hK
      obtain ⟨k, rfl⟩ : ∃ k, K = k + 1 := ⟨K - 1, by omega⟩
      have : i = N := by omega
      subst this
      exact hend _
    | succ m ih =>
      intro i hi K hK
      obtain ⟨k, rfl⟩ : ∃ k, K = k + 1 := ⟨K - 1, by omega⟩
      rw [iter, hstep i (by omega)]
      exact ih (i + 1) (by omega) k (by omega)
  exact this N 0 (by omega) K hK

/-- Addition, word by word: p words' bits so far, q one word's. -/
theorem carry_step (A B c p q : Nat) (hp : 0 < p) :
    ((A % p + B % p + c) / p + A / p % q + B / p % q) / q = (A % (p * q) + B % (p * q) + c) / (p * q) ∧ ((A % p + B % p + c) / p + A / p % q + B / p % q) % q = (A + B + c) / p % q := by
  have h1 : A % (p * q) + B % (p * q) + c = (A % p + B % p + c) + p * (A / p % q + B / p % q) := by
    rw [Nat.mod_mul, Nat.mod_mul, Nat.mul_add]; omega
  have h2 : (A % (p * q) + B % (p * q) + c) / p = (A % p + B % p + c) / p + (A / p % q + B / p % q) := by
    rw [h1, Nat.add_mul_div_left _ _ hp]
  constructor
  · rw [← Nat.div_div_eq_div_mul, h2, Nat.add_assoc]
  · rw [Nat.add_assoc, ← h2]
    have h3 : A + B + c = (A % (p * q) + B % (p * q) + c) + p * (q * (A / (p * q) + B / (p * q))) := by
      have e1 := Nat.mod_add_div A (p * q)
      have e2 := Nat.mod_add_div B (p * q)
      rw [← Nat.mul_assoc, Nat.mul_add]
      omega
    rw [h3, Nat.add_mul_div_left _ _ hp, Nat.add_mul_mod_self_left]

end Go.VM
