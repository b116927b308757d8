/- Plain laws: lemmas that hold with no condition but those that each states. -/
import Derived.Test.YtjkelipglcnpmaaVmb
import Derived.Test.YtjkelipglcnpmaaFl
import Derived.Laws.Bits64
import Derived.Laws.Bits64b
namespace Go.VM
open Go
theorem wrap_nat (n : Nat) : IntKind.wrap .u64 (n : Int) = ((n % 18446744073709551616 : Nat) : Int) := by
  simp only [IntKind.wrap, IntKind.bits, IntKind.signed, Bool.false_and, Bool.false_eq_true, if_false]
  omega
theorem wrap_i (z : Int) (h1 : -9223372036854775808 ≤ z) (h2 : z < 9223372036854775808) : IntKind.wrap .i64 z = z := by
  simp only [IntKind.wrap, IntKind.bits, IntKind.signed, Bool.true_and]
  split
  · rename_i h; have := of_decide_eq_true h; omega
  · rename_i h; have : ¬ _ := fun h' => h (decide_eq_true h'); omega
theorem wrap_u (z : Int) (h1 : 0 ≤ z) (h2 : z < 18446744073709551616) : IntKind.wrap .u64 z = z := by
  simp only [IntKind.wrap, IntKind.bits, IntKind.signed, Bool.false_and, Bool.false_eq_true, if_false]
  omega
theorem and_mask32 (a : Nat) (ha : a < 18446744073709551616) : bits .and .u64 (a : Int) 4294967295 = ((a % 4294967296 : Nat) : Int) := by
  rw [show (4294967295 : Int) = ((4294967295 : Nat) : Int) from rfl, bits_and_u64_nat a _ ha (by omega), show (4294967295 : Nat) = 2 ^ 32 - 1 from rfl, Nat.and_two_pow_sub_one_eq_mod]
theorem fdiv_nat (a k : Nat) : Int.fdiv (a : Int) (2 ^ k) = ((a / 2 ^ k : Nat) : Int) := by
  rw [Int.fdiv_eq_ediv_of_nonneg _ (by exact Int.le_of_lt (Int.pow_pos (by decide)))]
  simp
theorem tdiv_nat (a m : Nat) : Int.tdiv (a : Int) (m : Int) = ((a / m : Nat) : Int) := by simp
theorem tmod_nat (a m : Nat) : Int.tmod (a : Int) (m : Int) = ((a % m : Nat) : Int) := rfl
def vec (n : Nat) (f : Nat → Nat) : List Int := (List.range n).map fun j => (f j : Int)
theorem getD_vec {n : Nat} {f : Nat → Nat} {i : Nat} (h : i < n) : (vec n f).getD i 0 = (f i : Int) := by
  simp [vec, List.getD, h]
theorem length_vec (n : Nat) (f : Nat → Nat) : (vec n f).length = n := by simp [vec]
theorem vec_congr {n : Nat} {f g : Nat → Nat} (h : ∀ j, j < n → f j = g j) : vec n f = vec n g :=
  List.map_congr_left fun j hj => by rw [h j (by simpa using hj)]
theorem length_setD {l : List Int} {i : Nat} {x : Int} (h : i < l.length) : (setD l i x).length = l.length := by
  induction i generalizing l with
  | zero => cases l with
    | nil => simp at h
    | cons a l => rfl
  | succ i ih => cases l with
    | nil => simp at h
    | cons a l => simp only [setD, List.length_cons]; rw [ih (by simpa using h)]
theorem ext_getD {l m : List Int} (hl : l.length = m.length) (h : ∀ i, i < l.length → l.getD i 0 = m.getD i 0) : l = m := by
  refine List.ext_getElem hl fun i h1 h2 => ?_
  have := h i h1
  simpa [List.getD, h1, h2] using this
theorem setD_vec {n : Nat} {f : Nat → Nat} {i v : Nat} (h : i < n) : setD (vec n f) i (v : Int) = vec n fun j => if j = i then v else f j := by
  have hl : (setD (vec n f) i (v : Int)).length = n := by rw [length_setD (by rw [length_vec]; exact h), length_vec]
  refine ext_getD (by rw [hl, length_vec]) fun j hj => ?_
  rw [hl] at hj
  rw [getD_setD, getD_vec hj, getD_vec hj]
  by_cases he : j = i <;> simp [he]
def words (w n A : Nat) : List Int := vec n fun j => A / 2 ^ (w * j) % 2 ^ w
theorem getD_words {w n A i : Nat} (h : i < n) : (words w n A).getD i 0 = ((A / 2 ^ (w * i) % 2 ^ w : Nat) : Int) := getD_vec h
abbrev num (A : Nat) : List Int := words 64 4 A
abbrev halves (A : Nat) : List Int := words 32 8 A
def ofWords (w : Nat) (f : Nat → Nat) : Nat → Nat
  | 0 => 0
  | n + 1 => ofWords w f n + f n * 2 ^ (w * n)
theorem ofWords_lt {w : Nat} {f : Nat → Nat} {n : Nat} (h : ∀ i, i < n → f i < 2 ^ w) : ofWords w f n < 2 ^ (w * n) := by
  induction n with
  | zero => simp [ofWords]
  | succ n ih =>
    have h1 := ih fun i hi => h i (by omega)
    have h2 := h n (by omega)
    have h3 : 2 ^ (w * (n + 1)) = 2 ^ w * 2 ^ (w * n) := by rw [Nat.mul_succ, Nat.pow_add, Nat.mul_comm]
    simp only [ofWords]
    rw [h3]
    calc ofWords w f n + f n * 2 ^ (w * n) < 2 ^ (w * n) + f n * 2 ^ (w * n) := by omega
      _ = (f n + 1) * 2 ^ (w * n) := by rw [Nat.add_mul]; omega
      _ ≤ 2 ^ w * 2 ^ (w * n) := Nat.mul_le_mul_right _ h2
theorem ofWords_word {w : Nat} {f : Nat → Nat} {n : Nat} (h : ∀ i, i < n → f i < 2 ^ w) {i : Nat} (hi : i < n) : ofWords w f n / 2 ^ (w * i) % 2 ^ w = f i := by
  induction n with
  | zero => omega
  | succ n ih =>
    have hp : 0 < 2 ^ (w * i) := Nat.two_pow_pos _
    simp only [ofWords]
    by_cases he : i = n
    · subst he
      have := ofWords_lt (w := w) (f := f) (n := i) fun j hj => h j (by omega)
      rw [Nat.add_mul_div_right _ _ hp, Nat.div_eq_of_lt this, Nat.zero_add, Nat.mod_eq_of_lt (h i (by omega))]
    · have h1 := ih (fun j hj => h j (by omega)) (by omega)
      have h2 : f n * 2 ^ (w * n) = (f n * 2 ^ (w * (n - i - 1)) * 2 ^ w) * 2 ^ (w * i) := by
        have h3 : w * n = w * (n - i - 1) + w + w * i := by
          rw [← Nat.mul_succ, ← Nat.mul_add]; congr 1; omega
        rw [h3, Nat.pow_add, Nat.pow_add]
        simp only [Nat.mul_assoc]
      rw [h2, Nat.add_mul_div_right _ _ hp, Nat.add_mul_mod_self_right]
      exact h1
theorem words_of {w n : Nat} {f : Nat → Nat} (h : ∀ i, i < n → f i < 2 ^ w) : vec n f = words w n (ofWords w f n) :=
  vec_congr fun _ hj => (ofWords_word h hj).symm
theorem ofWords_words (w n A : Nat) : ofWords w (fun j => A / 2 ^ (w * j) % 2 ^ w) n = A % 2 ^ (w * n) := by
  induction n with
  | zero => simp [ofWords, Nat.mod_one]
  | succ n ih => rw [ofWords, ih, Nat.mul_succ, Nat.pow_add, Nat.mod_mul, Nat.mul_comm (2 ^ (w * n))]
theorem words_mod (w n A : Nat) : words w n (A % 2 ^ (w * n)) = words w n A := by
  rw [← ofWords_words, words, words]
  refine vec_congr fun j hj => ?_
  rw [ofWords_word (fun i _ => Nat.mod_lt _ (Nat.two_pow_pos _)) hj]
theorem words_inj {w n A B : Nat} (hA : A < 2 ^ (w * n)) (hB : B < 2 ^ (w * n)) (h : words w n A = words w n B) : A = B := by
  rw [← Nat.mod_eq_of_lt hA, ← Nat.mod_eq_of_lt hB, ← ofWords_words, ← ofWords_words]
  have : ∀ m, m ≤ n → ofWords w (fun j => A / 2 ^ (w * j) % 2 ^ w) m = ofWords w (fun j => B / 2 ^ (w * j) % 2 ^ w) m := by
    intro m
    induction m with
    | zero => intro _; rfl
    | succ m ih =>
      intro hm
      simp only [ofWords, ih (by omega)]
      have h1 := getD_words (w := w) (A := A) (show m < n by omega)
      have h2 := getD_words (w := w) (A := B) (show m < n by omega)
      rw [h] at h1
      rw [h1] at h2
      have h3 : A / 2 ^ (w * m) % 2 ^ w = B / 2 ^ (w * m) % 2 ^ w := by exact_mod_cast h2
      rw [h3]
  exact this n (Nat.le_refl n)
theorem eqL_words {w n A B : Nat} (hA : A < 2 ^ (w * n)) (hB : B < 2 ^ (w * n)) : eqL n (words w n A) (words w n B) = decide (A = B) := by
  rw [Bool.eq_iff_iff, decide_eq_true_eq]
  simp only [eqL, List.all_eq_true, List.mem_range, beq_iff_eq]
  constructor
  · intro h
    refine words_inj hA hB (ext_getD (by simp [words, length_vec]) fun i hi => h i (by simpa [words, length_vec] using hi))
  · intro h i _
    rw [h]
theorem vec_step (n i : Nat) (X F : Nat → Nat) : vec n (fun j => if j = i then X i else if j < i then X j else F j) = vec n (fun j => if j < i + 1 then X j else F j) :=
  vec_congr fun j _ => by
    by_cases hj : j = i
    · subst hj; simp
    · rw [if_neg hj]
      by_cases hl : j < i
      · rw [if_pos hl, if_pos (by omega)]
      · rw [if_neg hl, if_neg (by omega)]
theorem vec_none (n : Nat) (X F : Nat → Nat) : vec n (fun j => if j < 0 then X j else F j) = vec n F := vec_congr fun j _ => by simp
theorem vec_all (n : Nat) (X F : Nat → Nat) : vec n (fun j => if j < n then X j else F j) = vec n X := vec_congr fun j hj => by simp [hj]
theorem bind_s {α β : Type} (a : α) (f : α → Option β) : (some a).bind f = f a := Eq.trans (Option.bind_some a f) (Eq.symm (Eq.symm (Eq.trans rfl rfl)))
theorem cond_t {α : Type} (a b : α) : (bif true then a else b) = a := Eq.trans (cond_true a b) (Eq.symm (Eq.symm (Eq.trans rfl rfl)))
theorem cond_f {α : Type} (a b : α) : (bif false then a else b) = b := Eq.trans (cond_false a b) (Eq.symm (Eq.symm (Eq.trans rfl rfl)))
theorem iter_for {X Y : Type} {stp : (X → Option Y) → X → Option Y} {N : Nat} (st : Nat → X) {y : Option Y} (hstep : ∀ i, i < N → ∀ rec, stp rec (st i) = rec (st (i + 1))) (hend : ∀ rec, stp rec (st N) = y) {K : Nat} (hK : N < K) :
    iter stp K (st 0) = y := by
  have : ∀ m i, i + m = N → ∀ K, m < K → iter stp K (st i) = y := by
    intro m
    induction m with
    | zero =>
      intro i hi K hK
      obtain ⟨k, rfl⟩ : ∃ k, K = k + 1 := ⟨K - 1, by omega⟩
      have : i = N := by omega
      subst this
      exact hend _
    | succ m ih =>
      intro i hi K hK
      obtain ⟨k, rfl⟩ : ∃ k, K = k + 1 := ⟨K - 1, by omega⟩
      rw [iter, hstep i (by omega)]
      exact ih (i + 1) (by omega) k (by omega)
  exact this N 0 (by omega) K hK
theorem carry_step (A B c p q : Nat) (hp : 0 < p) :
    ((A % p + B % p + c) / p + A / p % q + B / p % q) / q = (A % (p * q) + B % (p * q) + c) / (p * q) ∧ ((A % p + B % p + c) / p + A / p % q + B / p % q) % q = (A + B + c) / p % q := by
  have h1 : A % (p * q) + B % (p * q) + c = (A % p + B % p + c) + p * (A / p % q + B / p % q) := by
    rw [Nat.mod_mul, Nat.mod_mul, Nat.mul_add]; omega
  have h2 : (A % (p * q) + B % (p * q) + c) / p = (A % p + B % p + c) / p + (A / p % q + B / p % q) := by
    rw [h1, Nat.add_mul_div_left _ _ hp]
  constructor
  · rw [← Nat.div_div_eq_div_mul, h2, Nat.add_assoc]
  · rw [Nat.add_assoc, ← h2]
    have h3 : A + B + c = (A % (p * q) + B % (p * q) + c) + p * (q * (A / (p * q) + B / (p * q))) := by
      have e1 := Nat.mod_add_div A (p * q)
      have e2 := Nat.mod_add_div B (p * q)
      rw [← Nat.mul_assoc, Nat.mul_add]
      omega
    rw [h3, Nat.add_mul_div_left _ _ hp, Nat.add_mul_mod_self_left]
end Go.VM

namespace Go.Proofs
open Go.VM
theorem lo_half (x : Nat) (h : x < 18446744073709551616) : bits .and .u64 (Int.fdiv (x : Int) (2 ^ 0)) 4294967295 = ((x % 4294967296 : Nat) : Int) := by
  rw [fdiv_nat, Nat.pow_zero, Nat.div_one, and_mask32 _ h]
theorem hi_half (x : Nat) (h : x < 18446744073709551616) : bits .and .u64 (Int.fdiv (x : Int) (2 ^ 32)) 4294967295 = ((x / 4294967296 : Nat) : Int) := by
  rw [fdiv_nat, and_mask32 _ (by omega)]
  congr 1
  omega
theorem words4 (w A : Nat) : words w 4 A = [((A / 2 ^ (w * 0) % 2 ^ w : Nat) : Int), ((A / 2 ^ (w * 1) % 2 ^ w : Nat) : Int), ((A / 2 ^ (w * 2) % 2 ^ w : Nat) : Int), ((A / 2 ^ (w * 3) % 2 ^ w : Nat) : Int)] := rfl
theorem words8 (w A : Nat) : words w 8 A = [((A / 2 ^ (w * 0) % 2 ^ w : Nat) : Int), ((A / 2 ^ (w * 1) % 2 ^ w : Nat) : Int), ((A / 2 ^ (w * 2) % 2 ^ w : Nat) : Int), ((A / 2 ^ (w * 3) % 2 ^ w : Nat) : Int),
    ((A / 2 ^ (w * 4) % 2 ^ w : Nat) : Int), ((A / 2 ^ (w * 5) % 2 ^ w : Nat) : Int), ((A / 2 ^ (w * 6) % 2 ^ w : Nat) : Int), ((A / 2 ^ (w * 7) % 2 ^ w : Nat) : Int)] := rfl
theorem f92.spec (K A : Nat) : f92.F K (num A) = some (halves A) := by
  simp only [f92.F, f92.T, num, halves, getD_words (show 0 < 4 by decide), getD_words (show 1 < 4 by decide), getD_words (show 2 < 4 by decide), getD_words (show 3 < 4 by decide)]
  rw [lo_half _ (Nat.mod_lt _ (by decide)), lo_half _ (Nat.mod_lt _ (by decide)), lo_half _ (Nat.mod_lt _ (by decide)), lo_half _ (Nat.mod_lt _ (by decide)),
    hi_half _ (Nat.mod_lt _ (by decide)), hi_half _ (Nat.mod_lt _ (by decide)), hi_half _ (Nat.mod_lt _ (by decide)), hi_half _ (Nat.mod_lt _ (by decide)), words8]
  simp only [Option.some.injEq, List.cons.injEq, and_true, Nat.reduceMul, Nat.reducePow]
  refine ⟨?_, ?_, ?_, ?_, ?_, ?_, ?_, ?_⟩ <;> congr 1 <;> omega
theorem or_halves (x y : Nat) (hx : x < 4294967296) (hy : y < 4294967296) : bits .or .u64 (IntKind.wrap .u64 ((x : Int) * 2 ^ 32)) (y : Int) = ((x * 4294967296 + y : Nat) : Int) := by
  rw [show (x : Int) * 2 ^ 32 = ((x * 4294967296 : Nat) : Int) by omega, wrap_nat, Nat.mod_eq_of_lt (by omega), bits_or_u64_nat _ _ (by omega) (by omega)]
  congr 1
  rw [show x * 4294967296 = x <<< 32 by rw [Nat.shiftLeft_eq], ← Nat.shiftLeft_add_eq_or_of_lt (show y < 2 ^ 32 from hy)]
theorem f93.spec (K A : Nat) : f93.F K (halves A) = some (num A) := by
  simp only [f93.F, f93.T, num, halves, getD_words (show 0 < 8 by decide), getD_words (show 1 < 8 by decide), getD_words (show 2 < 8 by decide), getD_words (show 3 < 8 by decide),
    getD_words (show 4 < 8 by decide), getD_words (show 5 < 8 by decide), getD_words (show 6 < 8 by decide), getD_words (show 7 < 8 by decide)]
  rw [or_halves _ _ (Nat.mod_lt _ (by decide)) (Nat.mod_lt _ (by decide)), or_halves _ _ (Nat.mod_lt _ (by decide)) (Nat.mod_lt _ (by decide)), or_halves _ _ (Nat.mod_lt _ (by decide)) (Nat.mod_lt _ (by decide)),
    or_halves _ _ (Nat.mod_lt _ (by decide)) (Nat.mod_lt _ (by decide)), words4]
  simp only [Option.some.injEq, List.cons.injEq, and_true, Nat.reduceMul, Nat.reducePow]
  refine ⟨?_, ?_, ?_, ?_⟩ <;> congr 1 <;> omega
theorem f46.spec (K n : Nat) (h : n < 18446744073709551616) : f46.F K (n : Int) = some (num n) := by
  simp only [f46.F, f46.T, num, words4, Option.some.injEq, List.cons.injEq, and_true, Nat.reduceMul, Nat.reducePow]
  refine ⟨?_, ?_, ?_, ?_⟩ <;> omega
theorem inR_nat {i n : Nat} (h : i < n) : decide ((0 : Int) ≤ (i : Int) ∧ (i : Int) < (n : Int)) = true := decide_eq_true ⟨by omega, by omega⟩
def carry (w A B c i : Nat) : Nat := (A % 2 ^ (w * i) + B % 2 ^ (w * i) + c) / 2 ^ (w * i)
theorem carry_zero (w A B c : Nat) : carry w A B c 0 = c := by simp [carry, Nat.mod_one]
theorem carry_le {w A B c i : Nat} (hc : c ≤ 1) : carry w A B c i ≤ 1 := by
  have hpos := Nat.two_pow_pos (w * i)
  have a1 := Nat.mod_lt A hpos
  have a2 := Nat.mod_lt B hpos
  exact Nat.le_of_lt_succ (Nat.div_lt_of_lt_mul (by omega))
theorem carry_succ (w A B c i : Nat) : (carry w A B c i + A / 2 ^ (w * i) % 2 ^ w + B / 2 ^ (w * i) % 2 ^ w) / 2 ^ w = carry w A B c (i + 1) ∧
    (carry w A B c i + A / 2 ^ (w * i) % 2 ^ w + B / 2 ^ (w * i) % 2 ^ w) % 2 ^ w = (A + B + c) / 2 ^ (w * i) % 2 ^ w := by
  obtain ⟨c1, c2⟩ := carry_step A B c (2 ^ (w * i)) (2 ^ w) (Nat.two_pow_pos _)
  unfold carry
  rw [show w * (i + 1) = w * i + w from Nat.mul_succ w i, Nat.pow_add]
  exact ⟨c1, c2⟩
theorem f32.round (K i : Nat) (hi : i < 8) (rec : _ → _) (f g : Nat → Nat) (c : Nat) (hf : f i < 4294967296) (hg : g i < 4294967296) (hc : c ≤ 1) (z : List Int) :
    f32.s0 K rec (c, i, z, vec 8 f, vec 8 g) = rec ((((c + f i + g i) / 4294967296 : Nat) : Int), ((i + 1 : Nat) : Int), z, vec 8 (fun j => if j = i then (c + f i + g i) % 4294967296 else f j), vec 8 g) := by
  simp only [f32.s0, f32.s0t]
  have h1 : decide ((i : Int) < 8) = true := decide_eq_true (by omega)
  have h2 : decide ((0 : Int) ≤ (i : Int) ∧ (i : Int) < 8) = true := inR_nat (n := 8) hi
  have e1 : IntKind.wrap .u64 ((c : Int) + IntKind.wrap .u64 ((f i : Int) + (g i : Int))) = ((c + f i + g i : Nat) : Int) := by
    rw [wrap_u _ (by rw [wrap_u _ (by omega) (by omega)]; omega) (by rw [wrap_u _ (by omega) (by omega)]; omega), wrap_u _ (by omega) (by omega)]; omega
  rw [h1, h2]
  simp only [cond_true, Int.toNat_natCast, getD_vec hi]
  rw [e1, and_mask32 _ (by omega), fdiv_nat, setD_vec hi, wrap_i _ (by omega) (by omega)]
  rfl
def mixed (w A B c i j : Nat) : Nat := if j < i then (A + B + c) / 2 ^ (w * j) % 2 ^ w else A / 2 ^ (w * j) % 2 ^ w
theorem mixed_zero (w n A B c : Nat) : vec n (mixed w A B c 0) = words w n A := vec_none _ _ _
theorem mixed_all (w n A B c : Nat) : vec n (mixed w A B c n) = words w n (A + B + c) := vec_all _ _ _
theorem mixed_step (w n A B c i : Nat) : vec n (fun j => if j = i then (A + B + c) / 2 ^ (w * i) % 2 ^ w else mixed w A B c i j) = vec n (mixed w A B c (i + 1)) := vec_step n i (fun j => (A + B + c) / 2 ^ (w * j) % 2 ^ w) _
theorem mixed_self (w A B c i : Nat) : mixed w A B c i i = A / 2 ^ (w * i) % 2 ^ w := by simp [mixed]
theorem f32.step (K A B i : Nat) (hi : i < 8) (rec : _ → _) (z : List Int) :
    f32.s0 K rec (carry 32 A B 0 i, i, z, vec 8 (mixed 32 A B 0 i), halves B) = rec (carry 32 A B 0 (i + 1), ((i + 1 : Nat) : Int), z, vec 8 (mixed 32 A B 0 (i + 1)), halves B) := by
  obtain ⟨c1, c2⟩ := carry_succ 32 A B 0 i
  have h := f32.round K i hi rec (mixed 32 A B 0 i) (fun j => B / 2 ^ (32 * j) % 2 ^ 32) (carry 32 A B 0 i) (by rw [mixed_self]; exact Nat.mod_lt _ (by decide)) (Nat.mod_lt _ (by decide)) (carry_le (by decide)) z
  rw [mixed_self] at h
  rw [show (4294967296 : Nat) = 2 ^ 32 from rfl, c1, c2, mixed_step] at h
  exact h
theorem f32.spec (K A B : Nat) (hK : 8 < K) : f32.F K (num A, num B) = some (num (A + B), (carry 32 A B 0 8 : Int)) := by
  simp only [f32.F, f32.T, f92.spec, Option.bind_some]
  have key := iter_for (stp := f32.s0 K) (N := 8) (fun i => ((carry 32 A B 0 i : Int), (i : Int), ([0, 0, 0, 0] : List Int), vec 8 (mixed 32 A B 0 i), halves B))
      (y := some ((carry 32 A B 0 8 : Int), ([0, 0, 0, 0] : List Int), halves (A + B))) (fun i hi rec => f32.step K A B i hi rec _) (fun rec => by
        simp only [f32.s0, f32.s0t, mixed_all]
        rfl) hK
  simp only [carry_zero, mixed_zero] at key
  have key' : iter (f32.s0 K) K (0, 0, [0, 0, 0, 0], halves A, halves B) = some ((carry 32 A B 0 8 : Int), ([0, 0, 0, 0] : List Int), halves (A + B)) := key
  rw [key']
  simp only [Option.bind_some, f93.spec]
end Go.Proofs

namespace Go.Proofs
open Go.VM
theorem comp_word {w n B j : Nat} (hB : B < 2 ^ (w * n)) (hj : j < n) : (2 ^ (w * n) - 1 - B) / 2 ^ (w * j) % 2 ^ w = 2 ^ w - 1 - B / 2 ^ (w * j) % 2 ^ w := by
  have e1 : 2 ^ (w * n) = 2 ^ (w * j) * (2 ^ w * 2 ^ (w * (n - j - 1))) := by
    rw [← Nat.pow_add, ← Nat.pow_add]; congr 1
    rw [← Nat.add_assoc, ← Nat.mul_succ, ← Nat.mul_add]; congr 1; omega
  have hq : 0 < 2 ^ w := Nat.two_pow_pos w
  have hp : 0 < 2 ^ (w * j) := Nat.two_pow_pos _
  generalize 2 ^ (w * j) = p at *
  generalize 2 ^ (w * (n - j - 1)) = m at *
  generalize 2 ^ w = q at *
  rw [e1] at hB ⊢
  rw [show p * (q * m) - 1 - B = p * (q * m) - (B + 1) by omega, Nat.mul_sub_div _ _ _ hB]
  have hy : B / p < q * m := Nat.div_lt_of_lt_mul hB
  generalize B / p = y at *
  have h1 := Nat.div_add_mod y q
  have h2 : y / q < m := Nat.div_lt_of_lt_mul hy
  have h3 := Nat.mod_lt y hq
  have h4 : q * m = q * (m - 1 - y / q) + q * (y / q) + q := by
    rw [← Nat.mul_add, ← Nat.mul_succ]; congr 1; omega
  rw [show q * m - (y + 1) = (q - 1 - y % q) + q * (m - 1 - y / q) by omega, Nat.add_mul_mod_self_left]
  exact Nat.mod_eq_of_lt (by omega)
theorem f34.round (K i : Nat) (hi : i < 8) (rec : _ → _) (f g : Nat → Nat) (c : Nat) (hf : f i < 4294967296) (hg : g i < 4294967296) (hc : c ≤ 1) (z : List Int) :
    f34.s0 K rec (c, i, z, vec 8 f, vec 8 g) = rec ((((c + f i + (4294967295 - g i)) / 4294967296 : Nat) : Int), ((i + 1 : Nat) : Int), z, vec 8 (fun j => if j = i then (c + f i + (4294967295 - g i)) % 4294967296 else f j), vec 8 g) := by
  simp only [f34.s0, f34.s0t]
  have h1 : decide ((i : Int) < 8) = true := decide_eq_true (by omega)
  have h2 : decide ((0 : Int) ≤ (i : Int) ∧ (i : Int) < 8) = true := inR_nat (n := 8) hi
  have e0 : IntKind.wrap .u64 (4294967295 - (g i : Int)) = ((4294967295 - g i : Nat) : Int) := by
    rw [wrap_u _ (by omega) (by omega)]; omega
  have e1 : IntKind.wrap .u64 ((c : Int) + IntKind.wrap .u64 ((f i : Int) + IntKind.wrap .u64 (4294967295 - (g i : Int)))) = ((c + f i + (4294967295 - g i) : Nat) : Int) := by
    rw [e0, wrap_u _ (by rw [wrap_u _ (by omega) (by omega)]; omega) (by rw [wrap_u _ (by omega) (by omega)]; omega), wrap_u _ (by omega) (by omega)]; omega
  rw [h1, h2]
  simp only [cond_true, Int.toNat_natCast, getD_vec hi]
  rw [e1, and_mask32 _ (by omega), fdiv_nat, setD_vec hi, wrap_i _ (by omega) (by omega)]
  rfl
theorem f34.step (K A B i : Nat) (hB : B < 2 ^ 256) (hi : i < 8) (rec : _ → _) (z : List Int) :
    f34.s0 K rec (carry 32 A (2 ^ 256 - 1 - B) 1 i, i, z, vec 8 (mixed 32 A (2 ^ 256 - 1 - B) 1 i), halves B) = rec (carry 32 A (2 ^ 256 - 1 - B) 1 (i + 1), ((i + 1 : Nat) : Int), z, vec 8 (mixed 32 A (2 ^ 256 - 1 - B) 1 (i + 1)), halves B) := by
  obtain ⟨c1, c2⟩ := carry_succ 32 A (2 ^ 256 - 1 - B) 1 i
  have h := f34.round K i hi rec (mixed 32 A (2 ^ 256 - 1 - B) 1 i) (fun j => B / 2 ^ (32 * j) % 2 ^ 32) (carry 32 A (2 ^ 256 - 1 - B) 1 i) (by rw [mixed_self]; exact Nat.mod_lt _ (by decide)) (Nat.mod_lt _ (by decide)) (carry_le (by decide)) z
  rw [mixed_self] at h
  have hw := comp_word (w := 32) (n := 8) (B := B) (j := i) hB hi
  rw [show (32 * 8 : Nat) = 256 from rfl] at hw
  rw [show (4294967295 : Nat) = 2 ^ 32 - 1 from rfl, ← hw, show (4294967296 : Nat) = 2 ^ 32 from rfl, c1, c2, mixed_step] at h
  exact h
theorem carry_all {A B : Nat} (hA : A < 2 ^ 256) (hB : B < 2 ^ 256) (c : Nat) : carry 32 A B c 8 = (A + B + c) / 2 ^ 256 := by
  unfold carry
  rw [show (32 * 8 : Nat) = 256 from rfl, Nat.mod_eq_of_lt hA, Nat.mod_eq_of_lt hB]
theorem f34.spec (K A B : Nat) (hA : A < 2 ^ 256) (hB : B < 2 ^ 256) (hK : 8 < K) : f34.F K (num A, num B) = some (num (A + 2 ^ 256 - B), ((if A < B then 1 else 0 : Nat) : Int)) := by
  simp only [f34.F, f34.T, f92.spec, Option.bind_some]
  have key := iter_for (stp := f34.s0 K) (N := 8) (fun i => ((carry 32 A (2 ^ 256 - 1 - B) 1 i : Int), (i : Int), ([0, 0, 0, 0] : List Int), vec 8 (mixed 32 A (2 ^ 256 - 1 - B) 1 i), halves B))
      (y := some ((carry 32 A (2 ^ 256 - 1 - B) 1 8 : Int), ([0, 0, 0, 0] : List Int), halves (A + (2 ^ 256 - 1 - B) + 1))) (fun i hi rec => f34.step K A B i hB hi rec _) (fun rec => by
        simp only [f34.s0, f34.s0t, mixed_all]
        rfl) hK
  simp only [carry_zero, mixed_zero] at key
  have key' : iter (f34.s0 K) K (1, 0, [0, 0, 0, 0], halves A, halves B) = some ((carry 32 A (2 ^ 256 - 1 - B) 1 8 : Int), ([0, 0, 0, 0] : List Int), halves (A + (2 ^ 256 - 1 - B) + 1)) := key
  rw [key']
  simp only [Option.bind_some, f93.spec]
  rw [show A + (2 ^ 256 - 1 - B) + 1 = A + 2 ^ 256 - B by omega, carry_all hA (by omega)]
  have e : IntKind.wrap .u64 (1 - ((((A + (2 ^ 256 - 1 - B) + 1) / 2 ^ 256 : Nat)) : Int)) = ((if A < B then 1 else 0 : Nat) : Int) := by
    split
    · rw [show (A + (2 ^ 256 - 1 - B) + 1) / 2 ^ 256 = 0 by omega]; rfl
    · rw [show (A + (2 ^ 256 - 1 - B) + 1) / 2 ^ 256 = 1 by omega]; rfl
  rw [e]
theorem shr_nat (x k : Nat) (h : k ≤ 64) : shiftI .shr .u64 (x : Int) (k : Int) = ((x / 2 ^ k : Nat) : Int) := by
  show Int.fdiv (x : Int) (2 ^ (min (Int.toNat (k : Int)) 64)) = _
  rw [Int.toNat_natCast, Nat.min_eq_left h, fdiv_nat]
theorem half_bit (A i : Nat) : A / 2 ^ (32 * (i / 32)) % 2 ^ 32 / 2 ^ (i % 32) % 2 = A / 2 ^ i % 2 := by
  have h : (2 : Nat) ^ 32 = 2 ^ (i % 32) * (2 * 2 ^ (31 - i % 32)) := by
    rw [← Nat.pow_succ', ← Nat.pow_add]; congr 1; omega
  rw [h, Nat.mod_mul_right_div_self, Nat.mod_mul_right_mod, Nat.div_div_eq_div_mul, ← Nat.pow_add]
  congr 3; omega
theorem f40.spec (K A i : Nat) (hi : i < 9223372036854775808) (hA : A < 2 ^ 256) : f40.F K (num A, (i : Int)) = some ((A / 2 ^ i % 2 : Nat) : Int) := by
  simp only [f40.F, f40.T]
  by_cases h : i < 256
  · have h1 : decide (IntKind.wrap .u64 (i : Int) ≥ 256) = false := decide_eq_false (by rw [wrap_u _ (by omega) (by omega)]; omega)
    have h2 : IntKind.wrap .i64 (Int.tdiv (i : Int) 32) = ((i / 32 : Nat) : Int) := by
      rw [show (32 : Int) = ((32 : Nat) : Int) from rfl, tdiv_nat, wrap_i _ (by omega) (by omega)]
    have h3 : Int.tmod (i : Int) 32 = ((i % 32 : Nat) : Int) := tmod_nat i 32
    have h4 : decide ((0 : Int) ≤ ((i / 32 : Nat) : Int) ∧ ((i / 32 : Nat) : Int) < 8) = true := inR_nat (n := 8) (by omega)
    have h5 : decide ((0 : Int) ≤ ((i % 32 : Nat) : Int)) = true := decide_eq_true (by omega)
    rw [h1]
    simp only [cond_false, f92.spec, Option.bind_some]
    rw [h2, h3, h4, h5]
    simp only [cond_true, Int.toNat_natCast]
    rw [getD_words (show i / 32 < 8 by omega), shr_nat _ _ (by omega), show (1 : Int) = ((1 : Nat) : Int) from rfl, bits_and_u64_nat _ _ (by
      have : A / 2 ^ (32 * (i / 32)) % 2 ^ 32 < 2 ^ 32 := Nat.mod_lt _ (by decide)
      have h6 := Nat.div_le_self (A / 2 ^ (32 * (i / 32)) % 2 ^ 32) (2 ^ (i % 32))
      omega) (by decide), Nat.and_one_is_mod, half_bit]
  · have h1 : decide (IntKind.wrap .u64 (i : Int) ≥ 256) = true := decide_eq_true (by rw [wrap_u _ (by omega) (by omega)]; omega)
    rw [h1]
    simp only [cond_true]
    rw [Nat.div_eq_of_lt (Nat.lt_of_lt_of_le hA (Nat.pow_le_pow_right (by decide) (by omega)))]
    rfl
end Go.Proofs

namespace Go.VM
theorem iter_inv {X Y : Type} {stp : (X → Option Y) → X → Option Y} (I : Nat → X → Prop) (Q : Y → Prop) (h : ∀ m x, I m x → (∃ y, Q y ∧ ∀ rec, stp rec x = some y) ∨ (∃ x' m', m' < m ∧ I m' x' ∧ ∀ rec, stp rec x = rec x')) :
    ∀ m x, I m x → ∀ K, m < K → ∃ y, Q y ∧ iter stp K x = some y := by
  intro m
  induction m using Nat.strongRecOn with
  | _ m ih =>
    intro x hx K hK
    obtain ⟨k, rfl⟩ : ∃ k, K = k + 1 := ⟨K - 1, by omega⟩
    rcases h m x hx with ⟨y, hy, hs⟩ | ⟨x', m', hm, hi, hs⟩
    · exact ⟨y, hy, hs _⟩
    · obtain ⟨y, h1, h2⟩ := ih m' hm x' hi k (by omega)
      exact ⟨y, h1, by rw [iter, hs]; exact h2⟩
def blen (n : Nat) : Nat := if n = 0 then 0 else Nat.log2 n + 1
theorem blen_pos {n k : Nat} : k < blen n ↔ n / 2 ^ k ≠ 0 := by
  unfold blen
  split
  · rename_i h; subst h; simp
  · rename_i h
    rw [Nat.lt_succ_iff, Nat.le_log2 h]
    constructor
    · intro h1 h2
      have := (Nat.div_eq_zero_iff).1 h2
      rcases this with h3 | h3
      · have := Nat.two_pow_pos k; omega
      · omega
    · intro h1
      rcases Nat.lt_or_ge n (2 ^ k) with h2 | h2
      · exact absurd (Nat.div_eq_of_lt h2) h1
      · exact h2
theorem blen_unique {n b : Nat} (h : ∀ k, k < b ↔ n / 2 ^ k ≠ 0) : blen n = b := by
  rcases Nat.lt_trichotomy (blen n) b with h1 | h1 | h1
  · have := (h _).1 h1
    exact absurd (blen_pos.2 this) (Nat.lt_irrefl _)
  · exact h1
  · have := blen_pos.1 h1
    exact absurd ((h _).2 this) (Nat.lt_irrefl _)
theorem blen_le {n k : Nat} (h : n < 2 ^ k) : blen n ≤ k := by
  rcases Nat.lt_or_ge k (blen n) with h1 | h1
  · exact absurd (Nat.div_eq_of_lt h) (blen_pos.1 h1)
  · exact h1
theorem blen_word (L h p : Nat) (hL : L < 2 ^ p) (hh : h ≠ 0) : blen (L + h * 2 ^ p) = p + blen h := by
  refine blen_unique fun k => ?_
  rcases Nat.lt_or_ge k p with hk | hk
  · constructor
    · intro _ h0
      rcases (Nat.div_eq_zero_iff).1 h0 with h1 | h1
      · have := Nat.two_pow_pos k; omega
      · have h2 : 2 ^ k ≤ 2 ^ p := Nat.pow_le_pow_right (by decide) (by omega)
        have h3 : 2 ^ p ≤ h * 2 ^ p := Nat.le_mul_of_pos_left _ (by omega)
        omega
    · intro _; omega
  · have e : (L + h * 2 ^ p) / 2 ^ k = h / 2 ^ (k - p) := by
      rw [show k = p + (k - p) by omega, Nat.pow_add, ← Nat.div_div_eq_div_mul, Nat.add_mul_div_right _ _ (Nat.two_pow_pos p), Nat.div_eq_of_lt hL, Nat.zero_add, show p + (k - p) - p = k - p by omega]
    rw [e, ← blen_pos]
    omega
end Go.VM
namespace Go.Proofs
open Go.VM
def cmp (A B : Nat) : Int := if A = B then 0 else if A < B then -1 else 1
theorem top_words {A B p q : Nat} (h : A / (p * q) = B / (p * q)) (h2 : A / p % q = B / p % q) : A / p = B / p := by
  rw [← Nat.div_div_eq_div_mul, ← Nat.div_div_eq_div_mul] at h
  have e1 := Nat.div_add_mod (A / p) q
  have e2 := Nat.div_add_mod (B / p) q
  rw [← e1, ← e2, h, h2]
theorem top_less {A B p q : Nat} (h : A / (p * q) = B / (p * q)) (h2 : A / p % q < B / p % q) : A < B := by
  rw [← Nat.div_div_eq_div_mul, ← Nat.div_div_eq_div_mul] at h
  have e1 := Nat.div_add_mod (A / p) q
  have e2 := Nat.div_add_mod (B / p) q
  rw [h] at e1
  have : A / p < B / p := by omega
  rcases Nat.lt_or_ge A B with h | h
  · exact h
  · have := Nat.div_le_div_right (c := p) h; omega
theorem f44.spec (K A B : Nat) (hA : A < 2 ^ 256) (hB : B < 2 ^ 256) (hK : 8 < K) : f44.F K (num A, num B) = some (cmp A B) := by
  simp only [f44.F, f44.T, f92.spec, Option.bind_some]
  have he : eqL 8 (halves A) (halves B) = decide (A = B) := eqL_words (w := 32) (n := 8) hA hB
  rw [he, Bool.and_true]
  by_cases hAB : A = B
  · simp [hAB, cmp]
  · simp only [hAB, decide_false, cond_false]
    have key := iter_inv (stp := f44.s0 K) (fun m x => m < 9 ∧ A / 2 ^ (32 * m) = B / 2 ^ (32 * m) ∧ x = ((m : Int) - 1, halves A, halves B))
      (fun y => ∃ t : Nat, t < 8 ∧ A / 2 ^ (32 * (t + 1)) = B / 2 ^ (32 * (t + 1)) ∧ A / 2 ^ (32 * t) % 2 ^ 32 ≠ B / 2 ^ (32 * t) % 2 ^ 32 ∧ y = ((t : Int), halves A, halves B)) (by
      rintro m x ⟨hm, hd, rfl⟩
      cases m with
      | zero => simp at hd; exact absurd hd hAB
      | succ t =>
        have h2 : decide ((0 : Int) ≤ (t : Int) ∧ (t : Int) < 8) = true := inR_nat (n := 8) (by omega)
        by_cases hw : A / 2 ^ (32 * t) % 2 ^ 32 = B / 2 ^ (32 * t) % 2 ^ 32
        · refine .inr ⟨_, t, by omega, ⟨by omega, ?_, rfl⟩, fun rec => ?_⟩
          · rw [show 32 * (t + 1) = 32 * t + 32 from Nat.mul_succ _ _, Nat.pow_add] at hd
            exact top_words hd hw
          · simp only [f44.s0, f44.s0t]
            rw [show (((t + 1 : Nat) : Int) - 1) = (t : Int) by omega, h2]
            simp only [cond_true, Int.toNat_natCast]
            rw [getD_words (show t < 8 by omega), getD_words (show t < 8 by omega), hw]
            simp only [beq_self_eq_true, cond_true]
            rw [wrap_i _ (by omega) (by omega)]
        · refine .inl ⟨_, ⟨t, by omega, hd, hw, rfl⟩, fun rec => ?_⟩
          simp only [f44.s0, f44.s0t]
          rw [show (((t + 1 : Nat) : Int) - 1) = (t : Int) by omega, h2]
          simp only [cond_true, Int.toNat_natCast]
          rw [getD_words (show t < 8 by omega), getD_words (show t < 8 by omega)]
          have : (((A / 2 ^ (32 * t) % 2 ^ 32 : Nat) : Int) == ((B / 2 ^ (32 * t) % 2 ^ 32 : Nat) : Int)) = false := by
            rw [beq_eq_false_iff_ne]; intro h; exact hw (by exact_mod_cast h)
          rw [this]; rfl) 8 (7, halves A, halves B) ⟨by omega, by rw [show (32 * 8 : Nat) = 256 from rfl, Nat.div_eq_of_lt hA, Nat.div_eq_of_lt hB], rfl⟩ K hK
    obtain ⟨y, ⟨t, ht, hd, hw, rfl⟩, h1⟩ := key
    rw [h1]
    have h2 : decide ((0 : Int) ≤ (t : Int) ∧ (t : Int) < 8) = true := inR_nat (n := 8) ht
    simp only [Option.bind_some]
    rw [h2]
    simp only [cond_true, Int.toNat_natCast]
    rw [show 32 * (t + 1) = 32 * t + 32 from Nat.mul_succ _ _, Nat.pow_add] at hd
    rcases Nat.lt_or_gt_of_ne hw with h | h
    · have : A < B := top_less hd h
      have h3 : decide ((halves A).getD t 0 < (halves B).getD t 0) = true := decide_eq_true (by rw [getD_words ht, getD_words ht]; exact_mod_cast h)
      rw [h3]
      simp [cmp, hAB, this]
    · have : B < A := top_less hd.symm h
      have h3 : decide ((halves A).getD t 0 < (halves B).getD t 0) = false := decide_eq_false (by
        rw [getD_words ht, getD_words ht]; intro h'
        have : A / 2 ^ (32 * t) % 2 ^ 32 < B / 2 ^ (32 * t) % 2 ^ 32 := by exact_mod_cast h'
        omega)
      rw [h3]
      simp [cmp, hAB, show ¬ A < B by omega]
theorem f42.inner (K i h n : Nat) (hi : i < 8) (hh : h < 2 ^ 32) (hK : 32 < K) (z : List Int) : iter (f42.s2 K) K (n, i, h, 0, z, i) = some (((if h = 0 then n else 32 * i + blen h : Nat) : Int), z, (i : Int)) := by
  have hb : blen h ≤ 32 := blen_le hh
  have key := iter_for (stp := f42.s2 K) (N := blen h) (fun k => (((if k = 0 then n else 32 * i + k : Nat) : Int), (i : Int), (h : Int), (k : Int), z, (i : Int)))
    (y := some (((if h = 0 then n else 32 * i + blen h : Nat) : Int), z, (i : Int))) (fun k hk rec => by
      simp only [f42.s2, f42.s2t]
      have h1 : decide ((0 : Int) ≤ (k : Int)) = true := decide_eq_true (by omega)
      rw [h1, shr_nat _ _ (by omega)]
      have h2 : decide (((h / 2 ^ k : Nat) : Int) > 0) = true := decide_eq_true (Int.natCast_pos.2 (Nat.pos_of_ne_zero (blen_pos.1 hk)))
      rw [h2]
      simp only [cond_true]
      have w1 : IntKind.wrap .i64 (32 * (i : Int)) = 32 * (i : Int) := wrap_i _ (by omega) (by omega)
      have w2 : IntKind.wrap .i64 (32 * (i : Int) + (k : Int)) = 32 * (i : Int) + (k : Int) := wrap_i _ (by omega) (by omega)
      rw [w1, w2, wrap_i _ (by omega) (by omega), wrap_i _ (by omega) (by omega)]
      congr 3) (fun rec => by
      simp only [f42.s2, f42.s2t]
      have h1 : decide ((0 : Int) ≤ (blen h : Int)) = true := decide_eq_true (by omega)
      rw [h1, shr_nat _ _ (by omega)]
      have h0 : h / 2 ^ blen h = 0 := by
        rcases Nat.eq_zero_or_pos (h / 2 ^ blen h) with h | h'
        · exact h
        · exact absurd (blen_pos.2 (Nat.ne_of_gt h')) (Nat.lt_irrefl _)
      have h2 : decide (((h / 2 ^ blen h : Nat) : Int) > 0) = false := decide_eq_false (by rw [h0]; decide)
      rw [h2]
      simp only [cond_true, cond_false, Option.some.injEq, Prod.mk.injEq, and_true]
      congr 1
      by_cases hz : h = 0
      · subst hz; simp [blen]
      · rw [if_neg hz, if_neg (by unfold blen; rw [if_neg hz]; omega)]) (show blen h < K by omega)
  simpa using key
theorem f42.spec (K A : Nat) (hA : A < 2 ^ 256) (hK : 32 < K) : f42.F K (num A) = some ((blen A : Nat) : Int) := by
  simp only [f42.F, f42.T, f92.spec, Option.bind_some]
  have key := iter_for (stp := f42.s0 K) (N := 8) (fun i => (((blen (A % 2 ^ (32 * i)) : Nat) : Int), halves A, (i : Int))) (y := some ((blen A : Nat) : Int)) (fun i hi rec => by
      simp only [f42.s0, f42.s0t]
      have h1 : decide ((i : Int) < 8) = true := decide_eq_true (by omega)
      have h2 : decide ((0 : Int) ≤ (i : Int) ∧ (i : Int) < 8) = true := inR_nat (n := 8) hi
      rw [h1, h2]
      simp only [cond_true, Int.toNat_natCast]
      rw [getD_words hi, f42.inner K i _ _ hi (Nat.mod_lt _ (by decide)) hK]
      simp only [Option.bind_some]
      rw [wrap_i _ (by omega) (by omega)]
      have e : blen (A % 2 ^ (32 * (i + 1))) = if A / 2 ^ (32 * i) % 2 ^ 32 = 0 then blen (A % 2 ^ (32 * i)) else 32 * i + blen (A / 2 ^ (32 * i) % 2 ^ 32) := by
        rw [show 32 * (i + 1) = 32 * i + 32 from Nat.mul_succ _ _, Nat.pow_add, Nat.mod_mul]
        by_cases hz : A / 2 ^ (32 * i) % 2 ^ 32 = 0
        · rw [if_pos hz, hz, Nat.mul_zero, Nat.add_zero]
        · rw [if_neg hz, Nat.mul_comm (2 ^ (32 * i)), blen_word _ _ _ (Nat.mod_lt _ (Nat.two_pow_pos _)) hz]
      rw [e]
      rfl) (fun rec => by
      simp only [f42.s0, f42.s0t]
      rw [show (32 * 8 : Nat) = 256 from rfl, Nat.mod_eq_of_lt hA]
      rfl) (show 8 < K by omega)
  have k0 : blen (A % 2 ^ (32 * 0)) = 0 := by simp [Nat.mod_one, blen]
  rw [k0] at key
  have key' : iter (f42.s0 K) K (0, halves A, 0) = some ((blen A : Nat) : Int) := key
  rw [key']
  rfl
end Go.Proofs

namespace Go.VM
theorem word_of_mod (X w j i : Nat) (h : j < i) : X % 2 ^ (w * i) / 2 ^ (w * j) % 2 ^ w = X / 2 ^ (w * j) % 2 ^ w := by
  have e : 2 ^ (w * i) = 2 ^ (w * j) * (2 ^ w * 2 ^ (w * (i - j - 1))) := by
    rw [← Nat.pow_add, ← Nat.pow_add]; congr 1
    rw [← Nat.add_assoc, ← Nat.mul_succ, ← Nat.mul_add]; congr 1; omega
  rw [e, Nat.mod_mul_right_div_self, Nat.mod_mul_right_mod]
theorem put_word {w L v H i : Nat} (hL : L < 2 ^ (w * i)) (hv : v < 2 ^ w) (j : Nat) :
    (L + 2 ^ (w * i) * (v + 2 ^ w * H)) / 2 ^ (w * j) % 2 ^ w = if j = i then v else if j < i then L / 2 ^ (w * j) % 2 ^ w else H / 2 ^ (w * (j - i - 1)) % 2 ^ w := by
  have hp : 0 < 2 ^ (w * i) := Nat.two_pow_pos _
  rcases Nat.lt_trichotomy j i with h | h | h
  · rw [if_neg (by omega), if_pos h, ← word_of_mod _ w j i h, Nat.add_mul_mod_self_left, Nat.mod_eq_of_lt hL]
  · subst h
    rw [if_pos rfl, Nat.add_mul_div_left _ _ hp, Nat.div_eq_of_lt hL, Nat.zero_add, Nat.add_mul_mod_self_left, Nat.mod_eq_of_lt hv]
  · rw [if_neg (by omega), if_neg (by omega), show w * j = w * i + (w + w * (j - i - 1)) by
      rw [Nat.add_comm w, ← Nat.mul_succ, ← Nat.mul_add]; congr 1; omega, Nat.pow_add, ← Nat.div_div_eq_div_mul, Nat.add_mul_div_left _ _ hp, Nat.div_eq_of_lt hL, Nat.zero_add, Nat.pow_add, ← Nat.div_div_eq_div_mul,
      Nat.add_mul_div_left _ _ (Nat.two_pow_pos w), Nat.div_eq_of_lt hv, Nat.zero_add]
theorem split_word (w X i : Nat) : X = X % 2 ^ (w * i) + 2 ^ (w * i) * (X / 2 ^ (w * i) % 2 ^ w + 2 ^ w * (X / 2 ^ (w * (i + 1)))) := by
  have h1 := Nat.mod_add_div X (2 ^ (w * i))
  have h2 := Nat.mod_add_div (X / 2 ^ (w * i)) (2 ^ w)
  rw [Nat.mul_succ, Nat.pow_add, ← Nat.div_div_eq_div_mul, h2, h1]
theorem set_words (w n X i v : Nat) (hv : v < 2 ^ w) : vec n (fun j => if j = i then v else X / 2 ^ (w * j) % 2 ^ w) = words w n (X % 2 ^ (w * i) + 2 ^ (w * i) * (v + 2 ^ w * (X / 2 ^ (w * (i + 1))))) := by
  refine vec_congr fun j _ => ?_
  have hL := Nat.mod_lt X (Nat.two_pow_pos (w * i))
  rw [put_word hL hv]
  by_cases h : j = i
  · rw [if_pos h, if_pos h]
  · rw [if_neg h, if_neg h]
    conv => lhs; rw [split_word w X i]
    rw [put_word hL (Nat.mod_lt _ (Nat.two_pow_pos w)), if_neg h]
theorem take_drop_words (w n X i m : Nat) (h : i + m ≤ n) : List.take m (List.drop i (words w n X)) = words w m (X / 2 ^ (w * i)) := by
  refine ext_getD (by simp [words, vec]; omega) fun j hj => ?_
  have hj' : j < m := by simp [words, vec] at hj; omega
  rw [getD_words hj', Nat.div_div_eq_div_mul, ← Nat.pow_add, ← Nat.mul_add]
  have := getD_words (w := w) (A := X) (show i + j < n by omega)
  rw [← this]
  simp [List.getD, List.getElem?_drop, hj']
end Go.VM
namespace Go.Proofs
open Go.VM
theorem pow_double (a b c : Nat) (h : a + b = c) : 2 ^ a * 2 ^ b = 2 ^ c := by rw [← Nat.pow_add, h]
theorem f94.round (K at' n X : Nat) (ha : at' < 16) (hn : n ≤ 18446744065119617025) (h0 : 0 < n) (rec : _ → _) :
    f94.s0 K rec (at', n, words 32 16 X) = rec (((at' + 1 : Nat) : Int), (((n + X / 2 ^ (32 * at') % 2 ^ 32) / 2 ^ 32 : Nat) : Int),
      words 32 16 (X % 2 ^ (32 * at') + 2 ^ (32 * at') * ((n + X / 2 ^ (32 * at') % 2 ^ 32) % 2 ^ 32 + 2 ^ 32 * (X / 2 ^ (32 * (at' + 1)))))) := by
  simp only [f94.s0, f94.s0t]
  have h1 : decide ((n : Int) > 0) = true := decide_eq_true (by omega)
  have e1 : IntKind.wrap .i64 (Int.tdiv (at' : Int) 8) = ((at' / 8 : Nat) : Int) := by
    rw [show (8 : Int) = ((8 : Nat) : Int) from rfl, tdiv_nat, wrap_i _ (by omega) (by omega)]
  have e2 : Int.tmod (at' : Int) 8 = ((at' % 8 : Nat) : Int) := tmod_nat at' 8
  have h2 : decide ((0 : Int) ≤ ((at' / 8 : Nat) : Int) ∧ ((at' / 8 : Nat) : Int) < 2) = true := inR_nat (n := 2) (by omega)
  have h3 : decide ((0 : Int) ≤ ((at' % 8 : Nat) : Int) ∧ ((at' % 8 : Nat) : Int) < 8) = true := inR_nat (n := 8) (by omega)
  have hm : X / 2 ^ (32 * at') % 2 ^ 32 < 2 ^ 32 := Nat.mod_lt _ (by decide)
  rw [h1, e1, e2, h2, h3]
  simp only [cond_true, Int.toNat_natCast]
  rw [show at' / 8 * 8 + at' % 8 = at' by omega, getD_words ha]
  have e3 : IntKind.wrap .u64 ((n : Int) + ((X / 2 ^ (32 * at') % 2 ^ 32 : Nat) : Int)) = ((n + X / 2 ^ (32 * at') % 2 ^ 32 : Nat) : Int) := by
    rw [wrap_u _ (by omega) (by omega)]; omega
  rw [e3, and_mask32 _ (by omega), fdiv_nat, wrap_i _ (by omega) (by omega), show words 32 16 X = vec 16 (fun j => X / 2 ^ (32 * j) % 2 ^ 32) from rfl, setD_vec ha]
  have hs := set_words 32 16 X at' ((n + X / 2 ^ (32 * at') % 2 ^ 32) % 2 ^ 32) (Nat.mod_lt _ (by decide))
  exact congrArg (fun z => rec (((at' + 1 : Nat) : Int), (((n + X / 2 ^ (32 * at') % 2 ^ 32) / 2 ^ 32 : Nat) : Int), z)) hs
theorem f94.spec (K at' n X N : Nat) (hN : N = 16) (hn : n ≤ 18446744065119617025) (hX : X + n * 2 ^ (32 * at') < 2 ^ (32 * N)) (hK : 17 < K) : f94.F K (at', n, words 32 16 X) = some (words 32 16 (X + n * 2 ^ (32 * at'))) := by
  simp only [f94.F, f94.T]
  have key := iter_inv (stp := f94.s0 K) (fun m x => ∃ at2 n2 X2 : Nat, m + at2 = 17 + at' ∧ n2 ≤ 18446744065119617025 ∧ X2 + n2 * 2 ^ (32 * at2) = X + n * 2 ^ (32 * at') ∧ x = ((at2 : Int), (n2 : Int), words 32 16 X2) ∧ (n2 = 0 ∨ at2 < 16))
    (fun y => y = words 32 16 (X + n * 2 ^ (32 * at'))) (by
      rintro m x ⟨at2, n2, X2, hm, hn2, he, rfl, hor⟩
      by_cases h0 : n2 = 0
      · subst h0
        refine .inl ⟨_, rfl, fun rec => ?_⟩
        simp only [f94.s0, f94.s0t]
        rw [← he]; simp
      · have ha : at2 < 16 := by omega
        refine .inr ⟨_, m - 1, by omega, ⟨at2 + 1, (n2 + X2 / 2 ^ (32 * at2) % 2 ^ 32) / 2 ^ 32, _, by omega, ?_, ?_, rfl, ?_⟩, fun rec => f94.round K at2 n2 X2 ha hn2 (by omega) rec⟩
        · have hm : X2 / 2 ^ (32 * at2) % 2 ^ 32 < 2 ^ 32 := Nat.mod_lt _ (by decide)
          omega
        · rw [← he]
          conv => rhs; rw [split_word 32 X2 at2]
          rw [show 32 * (at2 + 1) = 32 * at2 + 32 from Nat.mul_succ _ _, Nat.pow_add]
          generalize X2 / (2 ^ (32 * at2) * 2 ^ 32) = H
          generalize X2 / 2 ^ (32 * at2) % 2 ^ 32 = d
          generalize X2 % 2 ^ (32 * at2) = L
          generalize 2 ^ (32 * at2) = p
          have h1 := Nat.mod_add_div (n2 + d) (2 ^ 32)
          generalize (n2 + d) / 2 ^ 32 = o at *
          generalize (n2 + d) % 2 ^ 32 = r at *
          have h2 : p * (r + 2 ^ 32 * o) = p * (n2 + d) := by rw [h1]
          simp only [Nat.mul_add] at h2 ⊢
          rw [show o * (p * 2 ^ 32) = p * (2 ^ 32 * o) by rw [Nat.mul_comm o, Nat.mul_assoc], Nat.mul_comm n2 p]
          omega
        · rcases Nat.lt_or_ge (at2 + 1) 16 with h | h
          · exact .inr h
          · refine .inl ?_
            have h15 : N = at2 + 1 := by clear hX; omega
            have h3 : X2 + n2 * 2 ^ (32 * at2) < 2 ^ (32 * at2) * 2 ^ 32 := by
              rw [he]
              refine Nat.lt_of_lt_of_eq hX ?_
              rw [h15, Nat.mul_succ, Nat.pow_add]
            have h4 : (X2 + n2 * 2 ^ (32 * at2)) / 2 ^ (32 * at2) < 2 ^ 32 := Nat.div_lt_of_lt_mul h3
            rw [Nat.add_mul_div_right _ _ (Nat.two_pow_pos _)] at h4
            generalize X2 / 2 ^ (32 * at2) = q at h4 ⊢
            have h5 := Nat.mod_le q (2 ^ 32)
            exact Nat.div_eq_of_lt (Nat.lt_of_le_of_lt (Nat.add_le_add_left h5 n2) (by rw [Nat.add_comm]; exact h4))) (17 + at' - at') (at', n, words 32 16 X) ⟨at', n, X, by omega, hn, rfl, rfl, by
              rcases Nat.eq_zero_or_pos n with h | h
              · exact .inl h
              · refine .inr ?_
                rcases Nat.lt_or_ge at' 16 with h2 | h2
                · exact h2
                · have h3 : 2 ^ (32 * N) ≤ 2 ^ (32 * at') := Nat.pow_le_pow_right (by decide) (Nat.mul_le_mul_left _ (by rw [hN]; exact h2))
                  have h4 : 2 ^ (32 * at') ≤ n * 2 ^ (32 * at') := Nat.le_mul_of_pos_left _ h
                  exact absurd (Nat.lt_of_le_of_lt (Nat.le_trans h3 (Nat.le_trans h4 (Nat.le_add_left _ X))) hX) (Nat.lt_irrefl _)⟩ K (by clear hX; omega)
  obtain ⟨y, rfl, h⟩ := key
  rw [h]; rfl
def mulSoFar (A B i k : Nat) : Nat := A % 2 ^ (32 * i) * B + 2 ^ (32 * i) * (A / 2 ^ (32 * i) % 2 ^ 32) * (B % 2 ^ (32 * k))
theorem mulSoFar_k (A B i k : Nat) : mulSoFar A B i k + A / 2 ^ (32 * i) % 2 ^ 32 * (B / 2 ^ (32 * k) % 2 ^ 32) * 2 ^ (32 * (i + k)) = mulSoFar A B i (k + 1) := by
  unfold mulSoFar
  have e : B % 2 ^ (32 * (k + 1)) = B % 2 ^ (32 * k) + 2 ^ (32 * k) * (B / 2 ^ (32 * k) % 2 ^ 32) := by
    rw [show 32 * (k + 1) = 32 * k + 32 from Nat.mul_succ _ _, Nat.pow_add _ _ 32, Nat.mod_mul]
  rw [e, Nat.mul_add 32 i k, Nat.pow_add 2 (32 * i) (32 * k)]
  generalize B / 2 ^ (32 * k) % 2 ^ 32 = d
  generalize A / 2 ^ (32 * i) % 2 ^ 32 = c
  generalize B % 2 ^ (32 * k) = r
  simp only [Nat.mul_add, Nat.mul_comm, Nat.mul_left_comm, Nat.mul_assoc, Nat.add_assoc]
theorem mulSoFar_i (A B i : Nat) (hB : B < 2 ^ 256) : mulSoFar A B i 8 = mulSoFar A B (i + 1) 0 := by
  unfold mulSoFar
  have e : A % 2 ^ (32 * (i + 1)) = A % 2 ^ (32 * i) + 2 ^ (32 * i) * (A / 2 ^ (32 * i) % 2 ^ 32) := by
    rw [show 32 * (i + 1) = 32 * i + 32 from Nat.mul_succ _ _, Nat.pow_add _ _ 32, Nat.mod_mul]
  have e0 : B % 2 ^ (32 * 0) = 0 := Nat.mod_one B
  rw [show (32 * 8 : Nat) = 256 from rfl, Nat.mod_eq_of_lt hB, e0, e, Nat.mul_zero, Nat.add_zero, Nat.add_mul]
theorem mulSoFar_le (A B i k : Nat) : mulSoFar A B i k ≤ A * B := by
  unfold mulSoFar
  have h1 : 2 ^ (32 * i) * (A / 2 ^ (32 * i) % 2 ^ 32) * (B % 2 ^ (32 * k)) ≤ 2 ^ (32 * i) * (A / 2 ^ (32 * i)) * B :=
    Nat.mul_le_mul (Nat.mul_le_mul_left _ (Nat.mod_le _ _)) (Nat.mod_le _ _)
  have h2 := Nat.mod_add_div A (2 ^ (32 * i))
  calc _ ≤ A % 2 ^ (32 * i) * B + 2 ^ (32 * i) * (A / 2 ^ (32 * i)) * B := Nat.add_le_add_left h1 _
    _ = A * B := by rw [← Nat.add_mul, h2]
theorem f36.inner (K A B i : Nat) (hA : A < 2 ^ 256) (hB : B < 2 ^ 256) (hi : i < 8) (hK : 17 < K) (z z' : List Int) :
    iter (f36.s2 K) K (i, i, 0, z, z', halves A, halves B, words 32 16 (mulSoFar A B i 0)) = some ((i : Int), z, z', halves A, halves B, words 32 16 (mulSoFar A B i 8)) := by
  obtain ⟨N, hN⟩ : ∃ N : Nat, N = 16 := ⟨16, rfl⟩
  have key := iter_for (stp := f36.s2 K) (N := 8) (fun k => ((i : Int), (i : Int), (k : Int), z, z', halves A, halves B, words 32 16 (mulSoFar A B i k)))
    (y := some ((i : Int), z, z', halves A, halves B, words 32 16 (mulSoFar A B i 8))) (fun k hk rec => by
      simp only [f36.s2, f36.s2t]
      have h1 : decide ((k : Int) < 8) = true := decide_eq_true (by omega)
      have h2 : decide ((0 : Int) ≤ (i : Int) ∧ (i : Int) < 8) = true := inR_nat (n := 8) hi
      have h3 : decide ((0 : Int) ≤ (k : Int) ∧ (k : Int) < 8) = true := inR_nat (n := 8) hk
      rw [h1, h2, h3]
      simp only [cond_true, Int.toNat_natCast]
      rw [getD_words hi, getD_words hk, wrap_i _ (by omega) (by omega), wrap_i ((k : Int) + 1) (by omega) (by omega)]
      have ha : A / 2 ^ (32 * i) % 2 ^ 32 ≤ 4294967295 := Nat.le_of_lt_succ (Nat.mod_lt _ (by decide))
      have hb : B / 2 ^ (32 * k) % 2 ^ 32 ≤ 4294967295 := Nat.le_of_lt_succ (Nat.mod_lt _ (by decide))
      have hab := Nat.mul_le_mul ha hb
      have e1 : IntKind.wrap .u64 (((A / 2 ^ (32 * i) % 2 ^ 32 : Nat) : Int) * ((B / 2 ^ (32 * k) % 2 ^ 32 : Nat) : Int)) = ((A / 2 ^ (32 * i) % 2 ^ 32 * (B / 2 ^ (32 * k) % 2 ^ 32) : Nat) : Int) := by
        rw [← Int.natCast_mul, wrap_u _ (by omega) (by omega)]
      rw [e1, show (i : Int) + (k : Int) = ((i + k : Nat) : Int) from rfl, f94.spec K (i + k) _ _ N hN (by omega) (by
        rw [mulSoFar_k]
        have h4 : A * B < 2 ^ 256 * 2 ^ 256 := Nat.mul_lt_mul'' hA hB
        exact Nat.lt_of_lt_of_eq (Nat.lt_of_le_of_lt (mulSoFar_le A B i (k + 1)) h4) (pow_double 256 256 (32 * N) (by omega))) hK, mulSoFar_k]
      rfl) (fun rec => rfl) (show 8 < K by omega)
  exact key
theorem f36.spec (K A B : Nat) (hA : A < 2 ^ 256) (hB : B < 2 ^ 256) (hK : 17 < K) : f36.F K (num A, num B) = some (num (A * B), num (A * B / 2 ^ 256)) := by
  simp only [f36.F, f36.T, f92.spec, Option.bind_some]
  have key := iter_for (stp := f36.s0 K) (N := 8) (fun i => ((i : Int), ([0, 0, 0, 0] : List Int), ([0, 0, 0, 0] : List Int), halves A, halves B, words 32 16 (mulSoFar A B i 0)))
    (y := some (([0, 0, 0, 0] : List Int), ([0, 0, 0, 0] : List Int), words 32 16 (A * B))) (fun i hi rec => by
      simp only [f36.s0, f36.s0t]
      have h1 : decide ((i : Int) < 8) = true := decide_eq_true (by omega)
      rw [h1]
      simp only [cond_true]
      rw [f36.inner K A B i hA hB hi hK]
      simp only [Option.bind_some]
      rw [mulSoFar_i A B i hB, wrap_i _ (by omega) (by omega)]
      rfl) (fun rec => by
      simp only [f36.s0, f36.s0t]
      have e : mulSoFar A B 8 0 = A * B := by
        unfold mulSoFar
        rw [show (32 * 8 : Nat) = 256 from rfl, Nat.mod_eq_of_lt hA, Nat.mul_zero, Nat.pow_zero, Nat.mod_one, Nat.mul_zero, Nat.add_zero]
      rw [e]
      rfl) (show 8 < K by omega)
  have e0 : mulSoFar A B 0 0 = 0 := by simp [mulSoFar, Nat.mod_one]
  simp only [e0] at key
  have key' : iter (f36.s0 K) K (0, [0, 0, 0, 0], [0, 0, 0, 0], halves A, halves B, [0, 0, 0, 0, 0, 0, 0, 0, 0, 0, 0, 0, 0, 0, 0, 0]) = some (([0, 0, 0, 0] : List Int), ([0, 0, 0, 0] : List Int), words 32 16 (A * B)) := by
    have ez : words 32 16 0 = [0, 0, 0, 0, 0, 0, 0, 0, 0, 0, 0, 0, 0, 0, 0, 0] := by kernel_rfl
    rw [ez] at key
    exact key
  rw [key']
  simp only [Option.bind_some]
  have t0 := take_drop_words 32 16 (A * B) 0 8 (by decide)
  have t8 := take_drop_words 32 16 (A * B) 8 8 (by decide)
  rw [show (32 * 0 : Nat) = 0 from rfl, Nat.pow_zero, Nat.div_one] at t0
  rw [show (32 * 8 : Nat) = 256 from rfl] at t8
  rw [t0, t8, f93.spec, f93.spec, bind_s, bind_s]
end Go.Proofs

namespace Go.Proofs
open Go.VM
theorem no_carry {x a c : Nat} (ha : a < 32) (hX : x < 2 ^ a) (hv : c * 2 ^ a < 2 ^ 32) : x + c * 2 ^ a < 2 ^ 32 ∧ x ||| (c * 2 ^ a) = x + c * 2 ^ a := by
  constructor
  · have e : 2 ^ 32 = 2 ^ (32 - a) * 2 ^ a := by rw [← Nat.pow_add]; congr 1; omega
    rw [e] at hv ⊢
    have : c < 2 ^ (32 - a) := Nat.lt_of_mul_lt_mul_right hv
    have h2 : (c + 1) * 2 ^ a ≤ 2 ^ (32 - a) * 2 ^ a := Nat.mul_le_mul_right _ this
    rw [Nat.add_mul] at h2
    omega
  · rw [Nat.or_comm, ← Nat.shiftLeft_eq, ← Nat.shiftLeft_add_eq_or_of_lt hX, Nat.add_comm]
theorem put_in (X t a c : Nat) (ha : a < 32) (hX : X / 2 ^ (32 * t) < 2 ^ a) (hv : c * 2 ^ a < 2 ^ 32) (h1 : 8 ≤ t) (h2 : t < 16) :
    vec 8 (fun j => if j = t - 8 then (X / 2 ^ 256 / 2 ^ (32 * (t - 8)) % 2 ^ 32) ||| (c * 2 ^ a) else X / 2 ^ 256 / 2 ^ (32 * j) % 2 ^ 32) = halves ((X + c * 2 ^ a * 2 ^ (32 * t)) / 2 ^ 256) := by
  obtain ⟨g1, g2⟩ := no_carry ha hX hv
  have e1 : X / 2 ^ 256 / 2 ^ (32 * (t - 8)) = X / 2 ^ (32 * t) := by
    rw [Nat.div_div_eq_div_mul, ← Nat.pow_add]; congr 2; omega
  have e2 : X / 2 ^ (32 * t) % 2 ^ 32 = X / 2 ^ (32 * t) := Nat.mod_eq_of_lt (Nat.lt_of_le_of_lt (Nat.le_add_right _ _) g1)
  rw [e1, e2, g2, set_words 32 8 (X / 2 ^ 256) (t - 8) _ g1]
  congr 1
  have e3 : (X + c * 2 ^ a * 2 ^ (32 * t)) / 2 ^ 256 = X / 2 ^ 256 + c * 2 ^ a * 2 ^ (32 * (t - 8)) := by
    rw [show 32 * t = 32 * (t - 8) + 256 by omega, Nat.pow_add _ _ 256, ← Nat.mul_assoc, Nat.add_mul_div_right _ _ (Nat.two_pow_pos 256)]
  rw [e3]
  conv => rhs; rw [split_word 32 (X / 2 ^ 256) (t - 8)]
  rw [e1, e2]
  generalize X / 2 ^ (32 * t) = x
  generalize c * 2 ^ a = v
  generalize X / 2 ^ 256 / 2 ^ (32 * (t - 8 + 1)) = H
  generalize X / 2 ^ 256 % 2 ^ (32 * (t - 8)) = l
  rw [Nat.mul_comm v]
  simp only [Nat.mul_add]
  omega
theorem put_low (X t a c : Nat) (ha : a < 32) (hX : X / 2 ^ (32 * t) < 2 ^ a) (hv : c * 2 ^ a < 2 ^ 32) (h1 : t < 8) : halves (X / 2 ^ 256) = halves ((X + c * 2 ^ a * 2 ^ (32 * t)) / 2 ^ 256) := by
  obtain ⟨g1, _⟩ := no_carry ha hX hv
  have h2 : (X + c * 2 ^ a * 2 ^ (32 * t)) / 2 ^ (32 * t) < 2 ^ 32 := by rw [Nat.add_mul_div_right _ _ (Nat.two_pow_pos _)]; exact g1
  have h3 : X + c * 2 ^ a * 2 ^ (32 * t) < 2 ^ 32 * 2 ^ (32 * t) := (Nat.div_lt_iff_lt_mul (Nat.two_pow_pos _)).1 h2
  have h4 : 2 ^ 32 * 2 ^ (32 * t) ≤ 2 ^ 256 := by rw [← Nat.pow_add]; exact Nat.pow_le_pow_right (by decide) (by omega)
  rw [Nat.div_eq_of_lt (by omega), Nat.div_eq_of_lt (by omega)]
theorem put_high (X t v : Nat) (h1 : 16 ≤ t) : halves (X / 2 ^ 256) = halves ((X + v * 2 ^ (32 * t)) / 2 ^ 256) := by
  have e : (X + v * 2 ^ (32 * t)) / 2 ^ 256 = X / 2 ^ 256 + v * 2 ^ (32 * (t - 16)) * 2 ^ 256 := by
    rw [show 32 * t = 32 * (t - 16) + 256 + 256 by omega, Nat.pow_add _ _ 256, Nat.pow_add _ _ 256, ← Nat.mul_assoc, ← Nat.mul_assoc, Nat.add_mul_div_right _ _ (Nat.two_pow_pos 256)]
  have h := words_mod 32 8 (X / 2 ^ 256)
  have h' := words_mod 32 8 (X / 2 ^ 256 + v * 2 ^ (32 * (t - 16)) * 2 ^ 256)
  rw [show (32 * 8 : Nat) = 256 from rfl, Nat.add_mul_mod_self_right] at h'
  rw [show (32 * 8 : Nat) = 256 from rfl] at h
  rw [e, halves, halves, ← h, h']
theorem f38.put (K F X t a c k i t0 : Nat) (hk : k < 2) (ht : t = t0 + k) (ht' : t0 < 40) (ha : a < 32) (hX : X / 2 ^ (32 * t) < 2 ^ a) (hv : c * 2 ^ a < 2 ^ 32) (ps : List Int) (hp : ps.getD k 0 = ((c * 2 ^ a : Nat) : Int)) (x z : List Int) (rec : _ → _) :
    f38.s2 K rec (F, (t0 : Int) - 8, x, i, ps, k, z, halves (X / 2 ^ 256)) = rec ((F : Int), (t0 : Int) - 8, x, (i : Int), ps, ((k + 1 : Nat) : Int), z, halves ((X + c * 2 ^ a * 2 ^ (32 * t)) / 2 ^ 256)) := by
  simp only [f38.s2, f38.s2t]
  have h1 : decide ((k : Int) < 2) = true := decide_eq_true (by omega)
  have h2 : decide ((0 : Int) ≤ (k : Int) ∧ (k : Int) < 2) = true := inR_nat (n := 2) hk
  have h3 : IntKind.wrap .i64 ((t0 : Int) - 8 + (k : Int)) = (t : Int) - 8 := by rw [wrap_i _ (by omega) (by omega)]; omega
  have h4 : IntKind.wrap .i64 ((k : Int) + 1) = ((k + 1 : Nat) : Int) := by rw [wrap_i _ (by omega) (by omega)]; omega
  rw [h1, h2, h3, h4]
  simp only [cond_true]
  by_cases hl : t < 8
  · rw [decide_eq_false (by omega : ¬ ((t : Int) - 8 ≥ 0))]
    simp only [cond_false]
    rw [put_low X t a c ha hX hv hl]
  · rw [decide_eq_true (by omega : ((t : Int) - 8 ≥ 0))]
    simp only [cond_true]
    by_cases hh : t < 16
    · have h5 : (t : Int) - 8 = ((t - 8 : Nat) : Int) := by omega
      rw [decide_eq_true (by omega : ((t : Int) - 8 < 8)), h5]
      have h6 : decide ((0 : Int) ≤ ((t - 8 : Nat) : Int) ∧ ((t - 8 : Nat) : Int) < 8) = true := inR_nat (n := 8) (by omega)
      rw [h6]
      simp only [cond_true, Int.toNat_natCast]
      rw [getD_words (show t - 8 < 8 by omega), hp, bits_or_u64_nat _ _ (Nat.lt_trans (Nat.mod_lt _ (by decide)) (by decide)) (by omega)]
      have h7 : halves (X / 2 ^ 256) = vec 8 (fun j => X / 2 ^ 256 / 2 ^ (32 * j) % 2 ^ 32) := rfl
      rw [h7, setD_vec (show t - 8 < 8 by omega), put_in X t a c ha hX hv (by omega) hh]
    · rw [decide_eq_false (by omega : ¬ ((t : Int) - 8 < 8))]
      simp only [cond_false]
      rw [put_high X t (c * 2 ^ a) (by omega)]
theorem split_shift (h u : Nat) (hu : u < 32) : h * 2 ^ u % 2 ^ 32 = h % 2 ^ (32 - u) * 2 ^ u := by
  have e : 2 ^ 32 = 2 ^ (32 - u) * 2 ^ u := by rw [← Nat.pow_add]; congr 1; omega
  rw [e, Nat.mul_mod_mul_right]
theorem parts_sum (M T q v : Nat) : M + v % q * T + v / q * 1 * (T * q) = M + v * T := by
  have h := Nat.mod_add_div v q
  have h2 : v % q * T + v / q * (T * q) = v * T := by
    conv => rhs; rw [← h]
    rw [Nat.add_mul, Nat.mul_comm q, Nat.mul_assoc, Nat.mul_comm q]
  rw [Nat.mul_one, Nat.add_assoc, h2]
theorem parts_mul (L a d u s : Nat) : (L + a * d) * (u * s) = L * (u * s) + d * u * (a * s) := by
  rw [Nat.add_mul]
  simp only [Nat.mul_comm, Nat.mul_left_comm]
theorem f38.round (K A F i : Nat) (hF : F < 512) (hi : i < 8) (hK : 2 < K) (rec : _ → _) (z : List Int) :
    f38.s0 K rec (F, halves A, i, z, halves (A % 2 ^ (32 * i) * 2 ^ F / 2 ^ 256)) = rec ((F : Int), halves A, ((i + 1 : Nat) : Int), z, halves (A % 2 ^ (32 * (i + 1)) * 2 ^ F / 2 ^ 256)) := by
  simp only [f38.s0, f38.s0t]
  have h1 : decide ((i : Int) < 8) = true := decide_eq_true (by omega)
  have h2 : decide ((0 : Int) ≤ (i : Int) ∧ (i : Int) < 8) = true := inR_nat (n := 8) hi
  have e1 : IntKind.wrap .i64 (IntKind.wrap .i64 ((i : Int) * 32) + (F : Int)) = ((32 * i + F : Nat) : Int) := by
    rw [wrap_i ((i : Int) * 32) (by omega) (by omega), wrap_i _ (by omega) (by omega)]; omega
  have e2 : Int.tmod ((32 * i + F : Nat) : Int) 32 = ((F % 32 : Nat) : Int) := by
    rw [show (32 : Int) = ((32 : Nat) : Int) from rfl, tmod_nat]; congr 1; omega
  have e3 : IntKind.wrap .i64 (IntKind.wrap .i64 (Int.tdiv ((32 * i + F : Nat) : Int) 32) - 8) = ((i + F / 32 : Nat) : Int) - 8 := by
    rw [show (32 : Int) = ((32 : Nat) : Int) from rfl, tdiv_nat, wrap_i ((_ : Nat) : Int) (by omega) (by omega), wrap_i _ (by omega) (by omega)]
    omega
  have h3 : decide ((0 : Int) ≤ ((F % 32 : Nat) : Int)) = true := decide_eq_true (by omega)
  rw [h1, h2, e1, e2, e3, h3]
  simp only [cond_true, Int.toNat_natCast]
  rw [getD_words hi]
  have hd : A / 2 ^ (32 * i) % 2 ^ 32 < 2 ^ 32 := Nat.mod_lt _ (by decide)
  have hu : F % 32 < 32 := Nat.mod_lt _ (by decide)
  have hmod : A % 2 ^ (32 * (i + 1)) = A % 2 ^ (32 * i) + 2 ^ (32 * i) * (A / 2 ^ (32 * i) % 2 ^ 32) := by
    rw [show 32 * (i + 1) = 32 * i + 32 from Nat.mul_succ _ _, Nat.pow_add _ _ 32, Nat.mod_mul]
  have hlow : A % 2 ^ (32 * i) < 2 ^ (32 * i) := Nat.mod_lt _ (Nat.two_pow_pos _)
  rw [hmod]
  generalize A % 2 ^ (32 * i) = L at *
  generalize A / 2 ^ (32 * i) % 2 ^ 32 = d at *
  have hF2 : 2 ^ F = 2 ^ (F % 32) * 2 ^ (32 * (F / 32)) := by rw [← Nat.pow_add]; congr 1; omega
  have ht : 2 ^ (32 * (i + F / 32)) = 2 ^ (32 * i) * 2 ^ (32 * (F / 32)) := by rw [Nat.mul_add, Nat.pow_add]
  have hp1 : 2 ^ (F % 32) ≤ 2 ^ 31 := Nat.pow_le_pow_right (by decide) (by omega)
  have hdu : d * 2 ^ (F % 32) < 2 ^ 63 := by
    calc d * 2 ^ (F % 32) ≤ d * 2 ^ 31 := Nat.mul_le_mul_left _ hp1
      _ < 2 ^ 32 * 2 ^ 31 := Nat.mul_lt_mul_of_pos_right hd (by decide)
      _ = 2 ^ 63 := by decide
  have e4 : shiftI .shl .u64 (d : Int) ((F % 32 : Nat) : Int) = ((d * 2 ^ (F % 32) : Nat) : Int) := by
    show IntKind.wrap .u64 ((d : Int) * 2 ^ (min (Int.toNat ((F % 32 : Nat) : Int)) 64)) = _
    rw [Int.toNat_natCast, Nat.min_eq_left (by omega), show (d : Int) * 2 ^ (F % 32) = ((d * 2 ^ (F % 32) : Nat) : Int) by simp, wrap_nat, Nat.mod_eq_of_lt (by omega)]
  rw [e4, and_mask32 _ (by omega), fdiv_nat]
  have hinv : L * 2 ^ F / 2 ^ (32 * (i + F / 32)) < 2 ^ (F % 32) := by
    rw [hF2, ht, ← Nat.mul_assoc, Nat.mul_div_mul_right _ _ (Nat.two_pow_pos _)]
    refine Nat.div_lt_of_lt_mul ?_
    exact Nat.mul_lt_mul_of_pos_right hlow (Nat.two_pow_pos _)
  have hlo := split_shift d (F % 32) hu
  obtain ⟨k, rfl⟩ : ∃ k, K = k + 3 := ⟨K - 3, by omega⟩
  have r0 := f38.put (k + 3) F (L * 2 ^ F) (i + F / 32) (F % 32) (d % 2 ^ (32 - F % 32)) 0 i (i + F / 32) (by decide) rfl (by omega) hu hinv (by rw [← hlo]; exact Nat.mod_lt _ (by decide))
    [((d * 2 ^ (F % 32) % 4294967296 : Nat) : Int), ((d * 2 ^ (F % 32) / 2 ^ 32 : Nat) : Int)] (by rw [← hlo]; rfl) (halves A) z (iter (f38.s2 (k + 3)) (k + 2))
  rw [← hlo] at r0
  have hX1 : (L * 2 ^ F + d * 2 ^ (F % 32) % 2 ^ 32 * 2 ^ (32 * (i + F / 32))) / 2 ^ (32 * (i + F / 32 + 1)) < 2 ^ 0 := by
    rw [Nat.pow_zero, Nat.lt_one_iff]
    refine Nat.div_eq_of_lt ?_
    obtain ⟨g1, _⟩ := no_carry hu hinv (show d % 2 ^ (32 - F % 32) * 2 ^ (F % 32) < 2 ^ 32 by rw [← hlo]; exact Nat.mod_lt _ (by decide))
    rw [← hlo] at g1
    rw [show 32 * (i + F / 32 + 1) = 32 * (i + F / 32) + 32 from Nat.mul_succ _ _, Nat.pow_add, Nat.mul_comm (2 ^ (32 * (i + F / 32))) (2 ^ 32)]
    refine (Nat.div_lt_iff_lt_mul (Nat.two_pow_pos _)).1 ?_
    rw [Nat.add_mul_div_right _ _ (Nat.two_pow_pos _)]
    exact g1
  have r1 := f38.put (k + 3) F _ (i + F / 32 + 1) 0 (d * 2 ^ (F % 32) / 2 ^ 32) 1 i (i + F / 32) (by decide) rfl (by omega) (by decide) hX1 (by rw [Nat.pow_zero, Nat.mul_one]; omega)
    [((d * 2 ^ (F % 32) % 4294967296 : Nat) : Int), ((d * 2 ^ (F % 32) / 2 ^ 32 : Nat) : Int)] (by rw [Nat.pow_zero, Nat.mul_one]; rfl) (halves A) z (iter (f38.s2 (k + 3)) (k + 1))
  have hsum : L * 2 ^ F + d * 2 ^ (F % 32) % 2 ^ 32 * 2 ^ (32 * (i + F / 32)) + d * 2 ^ (F % 32) / 2 ^ 32 * 2 ^ 0 * 2 ^ (32 * (i + F / 32 + 1)) = (L + 2 ^ (32 * i) * d) * 2 ^ F := by
    have e : 2 ^ (32 * (i + F / 32 + 1)) = 2 ^ (32 * (i + F / 32)) * 2 ^ 32 := by rw [show 32 * (i + F / 32 + 1) = 32 * (i + F / 32) + 32 from Nat.mul_succ _ _, Nat.pow_add 2 (32 * (i + F / 32)) 32]
    rw [e, Nat.pow_zero, parts_sum, ht, hF2]
    exact (parts_mul _ _ _ _ _).symm
  rw [hsum] at r1
  have fin : iter (f38.s2 (k + 3)) (k + 3) ((F : Int), ((i + F / 32 : Nat) : Int) - 8, halves A, (i : Int), [((d * 2 ^ (F % 32) % 4294967296 : Nat) : Int), ((d * 2 ^ (F % 32) / 2 ^ 32 : Nat) : Int)], 0, z, halves (L * 2 ^ F / 2 ^ 256)) =
      some ((F : Int), halves A, (i : Int), z, halves ((L + 2 ^ (32 * i) * d) * 2 ^ F / 2 ^ 256)) := by
    rw [iter]
    refine Eq.trans r0 ?_
    rw [iter]
    refine Eq.trans r1 ?_
    rw [iter]
    rfl
  rw [fin]
  simp only [Option.bind_some]
  rw [wrap_i _ (by omega) (by omega)]
  rfl
theorem f38.mid (K A F : Nat) (hA : A < 2 ^ 256) (h0 : 0 < F) (hF : F < 512) (hK : 8 < K) : f38.F K (num A, (F : Int) - 256) = some (num (A * 2 ^ F / 2 ^ 256)) := by
  simp only [f38.F, f38.T, f92.spec, Option.bind_some]
  rw [decide_eq_false (by omega : ¬ ((F : Int) - 256 ≤ -256)), decide_eq_false (by omega : ¬ ((F : Int) - 256 ≥ 256)), wrap_i _ (by omega) (by omega), show (F : Int) - 256 + 256 = (F : Int) by omega]
  simp only [cond_false]
  have key := iter_for (stp := f38.s0 K) (N := 8) (fun i => ((F : Int), halves A, (i : Int), ([0, 0, 0, 0] : List Int), halves (A % 2 ^ (32 * i) * 2 ^ F / 2 ^ 256)))
    (y := some (([0, 0, 0, 0] : List Int), halves (A * 2 ^ F / 2 ^ 256))) (fun i hi rec => f38.round K A F i hF hi (by omega) rec _) (fun rec => by
      simp only [f38.s0, f38.s0t]
      rw [show (32 * 8 : Nat) = 256 from rfl, Nat.mod_eq_of_lt hA]
      rfl) hK
  have e0 : A % 2 ^ (32 * 0) * 2 ^ F / 2 ^ 256 = 0 := by simp [Nat.mod_one]
  rw [e0] at key
  have key' : iter (f38.s0 K) K ((F : Int), halves A, 0, [0, 0, 0, 0], [0, 0, 0, 0, 0, 0, 0, 0]) = some (([0, 0, 0, 0] : List Int), halves (A * 2 ^ F / 2 ^ 256)) := key
  rw [key']
  simp only [Option.bind_some, f93.spec]
theorem f38.far (K A : Nat) (n : Int) (h : n ≤ -256 ∨ 256 ≤ n) : f38.F K (num A, n) = some (num 0) := by
  simp only [f38.F, f38.T, f92.spec, Option.bind_some]
  have e : f93.F K [0, 0, 0, 0, 0, 0, 0, 0] = some (num 0) := f93.spec K 0
  rw [e]
  by_cases h1 : n ≤ -256
  · rw [decide_eq_true h1]; rfl
  · rw [decide_eq_false h1, decide_eq_true (show n ≥ 256 by omega)]; rfl
theorem f38.up (K A n : Nat) (hA : A < 2 ^ 256) (hK : 8 < K) : f38.F K (num A, (n : Int)) = some (num (A * 2 ^ n)) := by
  rcases Nat.lt_or_ge n 256 with h | h
  · have := f38.mid K A (n + 256) hA (by omega) (by omega) hK
    rw [show ((n + 256 : Nat) : Int) - 256 = (n : Int) by omega, Nat.pow_add, ← Nat.mul_assoc, Nat.mul_div_cancel _ (Nat.two_pow_pos 256)] at this
    exact this
  · rw [f38.far K A n (.inr (by omega))]
    have := words_mod 64 4 (A * 2 ^ n)
    rw [show (64 * 4 : Nat) = 256 from rfl, show n = (n - 256) + 256 by omega, Nat.pow_add, ← Nat.mul_assoc, Nat.mul_mod_left] at this
    rw [num, this, show n = (n - 256) + 256 by omega, Nat.pow_add, ← Nat.mul_assoc]
    simp
theorem f38.down (K A n : Nat) (hA : A < 2 ^ 256) (hK : 8 < K) : f38.F K (num A, -(n : Int)) = some (num (A / 2 ^ n)) := by
  rcases Nat.lt_or_ge n 256 with h | h
  · have := f38.mid K A (256 - n) hA (by omega) (by omega) hK
    have e : A * 2 ^ (256 - n) / 2 ^ 256 = A / 2 ^ n := by
      have : (2 : Nat) ^ 256 = 2 ^ n * 2 ^ (256 - n) := by rw [← Nat.pow_add]; congr 1; omega
      rw [this, Nat.mul_div_mul_right _ _ (Nat.two_pow_pos _)]
    rw [show ((256 - n : Nat) : Int) - 256 = -(n : Int) by omega, e] at this
    exact this
  · rw [f38.far K A _ (.inl (by omega)), Nat.div_eq_of_lt (Nat.lt_of_lt_of_le hA (Nat.pow_le_pow_right (by decide) h))]
end Go.Proofs

namespace Go.Proofs
open Go.VM
theorem num_mod (A : Nat) : num (A % 2 ^ 256) = num A := words_mod 64 4 A
theorem eqL_num (A B : Nat) : eqL 4 (num A) (num B) = decide (A % 2 ^ 256 = B % 2 ^ 256) := by
  rw [← num_mod A, ← num_mod B]
  exact eqL_words (w := 64) (n := 4) (Nat.mod_lt _ (Nat.two_pow_pos 256)) (Nat.mod_lt _ (Nat.two_pow_pos 256))
theorem f32.all (A B : Nat) : f32.F 100000 (num A, num B) = some (num (A + B), (((A % 2 ^ 256 + B % 2 ^ 256) / 2 ^ 256 : Nat) : Int)) := by
  rw [f32.spec 100000 A B (by decide)]
  simp only [carry, Nat.add_zero]
theorem f34.all (A B : Nat) : f34.F 100000 (num A, num B) = some (num (A % 2 ^ 256 + 2 ^ 256 - B % 2 ^ 256), ((if A % 2 ^ 256 < B % 2 ^ 256 then 1 else 0 : Nat) : Int)) := by
  rw [← num_mod A, ← num_mod B, f34.spec 100000 _ _ (Nat.mod_lt _ (Nat.two_pow_pos 256)) (Nat.mod_lt _ (Nat.two_pow_pos 256)) (by decide)]
theorem f36.all (A B : Nat) : f36.F 100000 (num A, num B) = some (num (A % 2 ^ 256 * (B % 2 ^ 256)), num (A % 2 ^ 256 * (B % 2 ^ 256) / 2 ^ 256)) := by
  rw [← num_mod A, ← num_mod B, f36.spec 100000 _ _ (Nat.mod_lt _ (Nat.two_pow_pos 256)) (Nat.mod_lt _ (Nat.two_pow_pos 256)) (by decide)]
theorem f44.all (A B : Nat) : f44.F 100000 (num A, num B) = some (cmp (A % 2 ^ 256) (B % 2 ^ 256)) := by
  rw [← num_mod A, ← num_mod B, f44.spec 100000 _ _ (Nat.mod_lt _ (Nat.two_pow_pos 256)) (Nat.mod_lt _ (Nat.two_pow_pos 256)) (by decide)]
theorem f46.one (K : Nat) : f46.F K 1 = some (num 1) := f46.spec K 1 (by decide)
theorem mod_self_of {A : Nat} (hA : A < 2 ^ 256) : A % 2 ^ 256 = A := Nat.mod_eq_of_lt hA
end Go.Proofs

namespace Go.Proofs
open Go.VM
end Go.Proofs

namespace Go.Proofs
open Go.VM
theorem f38.upA (A n : Nat) : f38.F 100000 (num A, (n : Int)) = some (num (A % 2 ^ 256 * 2 ^ n)) := by
  rw [← num_mod A, f38.up 100000 _ n (Nat.mod_lt _ (Nat.two_pow_pos 256)) (by decide)]
theorem f38.downA (A n : Nat) : f38.F 100000 (num A, -(n : Int)) = some (num (A % 2 ^ 256 / 2 ^ n)) := by
  rw [← num_mod A, f38.down 100000 _ n (Nat.mod_lt _ (Nat.two_pow_pos 256)) (by decide)]
theorem f40.all (A i : Nat) (hi : i < 9223372036854775808) : f40.F 100000 (num A, (i : Int)) = some ((A % 2 ^ 256 / 2 ^ i % 2 : Nat) : Int) := by
  rw [← num_mod A, f40.spec 100000 _ i hi (Nat.mod_lt _ (Nat.two_pow_pos 256))]
theorem f42.all (A : Nat) : f42.F 100000 (num A) = some ((blen (A % 2 ^ 256) : Nat) : Int) := by
  rw [← num_mod A, f42.spec 100000 _ (Nat.mod_lt _ (Nat.two_pow_pos 256)) (by decide)]
theorem wf_u8 {z : Int} (h : (Lit.int .u8 z).wf = true) : ∃ n : Nat, n < 256 ∧ z = (n : Int) := by
  simp [Lit.wf, IntKind.min, IntKind.max, IntKind.signed, IntKind.bits] at h
  exact ⟨z.toNat, by omega, by omega⟩
end Go.Proofs

namespace Go.Proofs
open Go.VM
theorem f46.nat (K n : Nat) (h : n < 18446744073709551616) : f46.F K (n : Int) = some (num n) := f46.spec K n h
end Go.Proofs

namespace Go.Proofs
open Go.VM
end Go.Proofs

namespace Go.Proofs
open Go.VM
end Go.Proofs

namespace Go.Proofs
open Go.VM
end Go.Proofs

namespace Go.Proofs
open Go.VM
end Go.Proofs

namespace Go.Proofs
open Go.VM
end Go.Proofs

namespace Go.Proofs
open Go.VM
end Go.Proofs

namespace Go.Proofs
open Go.VM
end Go.Proofs

namespace Go.Proofs
open Go.VM
end Go.Proofs

namespace Go.Proofs
open Go.VM
theorem blen_lt (x : Nat) : x < 2 ^ blen x := by
  unfold blen
  by_cases h : x = 0
  · simp [h]
  · rw [if_neg h]; exact Nat.lt_log2_self
theorem blen_ge {x : Nat} (h : x ≠ 0) : 2 ^ (blen x - 1) ≤ x ∧ 0 < blen x := by
  unfold blen
  rw [if_neg h]
  exact ⟨Nat.log2_self_le h, by omega⟩
theorem blen_mono {a b : Nat} (h : a ≤ b) : blen a ≤ blen b := blen_le (Nat.lt_of_le_of_lt h (blen_lt b))
theorem blen_zero : blen 0 = 0 := rfl
theorem blen_256 {x : Nat} (h : x < 2 ^ 256) : blen x ≤ 256 := blen_le h
end Go.Proofs
