/- Plain laws: lemmas that hold with no condition but those that each states. -/
import Derived.Test.YtjkelipglcnpmaaPlM
namespace Go.VM

/-- A loop with an invariant. -/
theorem iter_inv {X Y : Type} {stp : (X → Option Y) → X → Option Y} (I : Nat → X → Prop) (Q : Y → Prop) (h : ∀ m x, I m x → (∃ y, Q y ∧ ∀ rec, stp rec x = some y) ∨ (∃ x' m', m' < m ∧ I m' x' ∧ ∀ rec, stp rec x = rec x')) :
    ∀ m x, I m x → ∀ K, m < K → ∃ y, Q y ∧ iter stp K x = some y := by
  intro m
  induction m using Nat.strongRecOn with
  | _ m ih =>
    intro x hx K hK
    obtain ⟨k, rfl⟩ : ∃ k, K = k + 1 := ⟨K - 1, by omega⟩
    rcases h m x hx with ⟨y, hy, hs⟩ | ⟨x', m', hm, hi, hs⟩
    · exact ⟨y, hy, hs _⟩
    · obtain ⟨y, h1, h2⟩ := ih m' hm x' hi k (by omega)
      exact ⟨y, h1, by rw [iter, hs]; exact h2⟩

/-- How many bits a number needs. -/
def blen (n : Nat) : Nat := if n = 0 then 0 else Nat.log2 n + 1

theorem blen_pos {n k : Nat} : k < blen n ↔ n / 2 ^ k ≠ 0 := by
  unfold blen
  split
  · rename_i h; subst h; simp
  · rename_i h
    rw [Nat.lt_succ_iff, Nat.le_log2 h]
    constructor
    · intro h1 h2
      have := (Nat.div_eq_zero_iff).1 h2
      rcases this with h3 | h3
      · have := Nat.two_pow_pos k; omega
      · omega
    · intro h1
      rcases Nat.lt_or_ge n (2 ^ k) with h2 | h2
      · exact absurd (Nat.div_eq_of_lt h2) h1
      · exact h2

theorem blen_unique {n b : Nat} (h : ∀ k, k < b ↔ n / 2 ^ k ≠ 0) : blen n = b := by
  rcases Nat.lt_trichotomy (blen n) b with h1 | h1 | h1
  · have := (h _).1 h1
    exact absurd (blen_pos.2 this) (Nat.lt_irrefl _)
  · exact h1
  · have := blen_pos.1 h1
    exact absurd ((h _).2 this) (Nat.lt_irrefl _)

theorem blen_le {n k : Nat} (h : n < 2 ^ k) : blen n ≤ k := by
  rcases Nat.lt_or_ge k (blen n) with h1 | h1
  · exact absurd (Nat.div_eq_of_lt h) (blen_pos.1 h1)
  · exact h1

/-- A number of one more word. -/
theorem blen_word (L h p : Nat) (hL : L < 2 ^ p) (hh : h ≠ 0) : blen (L + h * 2 ^ p) = p + blen h := by
  refine blen_unique fun k => ?_
  rcases Nat.lt_or_ge k p with hk | hk
  · constructor
    · intro _ h0
      rcases (Nat.div_eq_zero_iff).1 h0 with h1 | h1
      · have := Nat.two_pow_pos k; omega
      · have h2 : 2 ^ k ≤ 2 ^ p := Nat.pow_le_pow_right (by decide) (by omega)
        have h3 : 2 ^ p ≤ h * 2 ^ p := Nat.le_mul_of_pos_left _ (by omega)
        omega
    · intro _; omega
  · have e : (L + h * 2 ^ p) / 2 ^ k = h / 2 ^ (k - p) := by
      rw [show k = p + (k - p) by omega, Nat.pow_add, ← Nat.div_div_eq_div_mul, Nat.add_mul_div_right _ _ (Nat.two_pow_pos p), Nat.div_eq_of_lt hL, Nat.zero_add, show p + (k - p) - p = k - p by omega]
    rw [e, ← blen_pos]
    omega

end Go.VM
namespace Go.Proofs
open Go.VM

/-! ### Cmp -/

def cmp (A B : Nat) : Int := if A = B then 0 else if A < B then -1 else 1

theorem top_words {A B p q : Nat} (h : A / (p * q) = B / (p * q)) (h2 : A / p % q = B / p % q) : A / p = B / p := by
  rw [← Nat.div_div_eq_div_mul, ← Nat.div_div_eq_div_mul] at h
  have e1 := Nat.div_add_mod (A / p) q
  have e2 := Nat.div_add_mod (B / p) q
  rw [← e1, ← e2, h, h2]

theorem top_less {A B p q : Nat} (h : A / (p * q) = B / (p * q)) (h2 : A / p % q < B / p % q) : A < B := by
  rw [← Nat.div_div_eq_div_mul, ← Nat.div_div_eq_div_mul] at h
  have e1 := Nat.div_add_mod (A / p) q
  have e2 := Nat.div_add_mod (B / p) q
  rw [h] at e1
  have : A / p < B / p := by omega
  rcases Nat.lt_or_ge A B with h | h
  · exact h
  · have := Nat.div_le_div_right (c := p) h; omega

theorem f44.spec (K A B : Nat) (hA : A < 2 ^ 256) (hB : B < 2 ^ 256) (hK : 8 < K) : f44.F K (num A, num B) = some (cmp A B) := by
  simp only [f44.F, f44.T, f92.spec, Option.bind_some]
  have he : eqL 8 (halves A) (halves B) = decide (A = B) := eqL_words (w := 32) (n := 8) hA hB
  rw [he, Bool.and_true]
  by_cases hAB : A = B
  · simp [hAB, cmp]
  · simp only [hAB, decide_false, cond_false]
    have key := iter_inv (stp := f44.s0 K) (fun m x => m < 9 ∧ A / 2 ^ (32 * m) = B / 2 ^ (32 * m) ∧ x = ((m : Int) - 1, halves A, halves B))
      (fun y => ∃ t : Nat, t < 8 ∧ A / 2 ^ (32 * (t + 1)) = B / 2 ^ (32 * (t + 1)) ∧ A / 2 ^ (32 * t) % 2 ^ 32 ≠ B / 2 ^ (32 * t) % 2 ^ 32 ∧ y = ((t : Int), halves A, halves B)) (by
      rintro m x ⟨hm, hd, rfl⟩
      cases m with
      | zero => simp at hd; exact absurd hd hAB
      | succ t =>
        have h2 : decide ((0 : Int) ≤ (t : Int) ∧ (t : Int) < 8) = true := inR_nat (n := 8) (by omega)
        by_cases hw : A / 2 ^ (32 * t) % 2 ^ 32 = B / 2 ^ (32 * t) % 2 ^ 32
        · refine .inr ⟨_, t, by omega, ⟨by omega, ?_, rfl⟩, fun rec => ?_⟩
          · rw [show 32 * (t + 1) = 32 * t + 32 from Nat.mul_succ _ _, Nat.pow_add] at hd
            exact top_words hd hw
          · simp only [f44.s0, f44.s0t]
            rw [show (((t + 1 : Nat) : Int) - 1) = (t : Int) by omega, h2]
            simp only [cond_true, Int.toNat_natCast]
            rw [getD_words (show t < 8 by omega), getD_words (show t < 8 by omega), hw]
            simp only [beq_self_eq_true, cond_true]
            rw [wrap_i _ (by omega) (by omega)]
        · refine .inl ⟨_, ⟨t, by omega, hd, hw, rfl⟩, fun rec => ?_⟩
          simp only [f44.s0, f44.s0t]
          rw [show (((t + 1 : Nat) : Int) - 1) = (t : Int) by omega, h2]
          simp only [cond_true, Int.toNat_natCast]
          rw [getD_words (show t < 8 by omega), getD_words (show t < 8 by omega)]
          have : (((A / 2 ^ (32 * t) % 2 ^ 32 : Nat) : Int) == ((B / 2 ^ (32 * t) % 2 ^ 32 : Nat) : Int)) = false := by
            rw [beq_eq_false_iff_ne]; intro h; exact hw (by exact_mod_cast h)
          rw [this]; rfl) 8 (7, halves A, halves B) ⟨by omega, by rw [show (32 * 8 : Nat) = 256 from rfl, Nat.div_eq_of_lt hA, Nat.div_eq_of_lt hB], rfl⟩ K hK
    obtain ⟨y, ⟨t, ht, hd, hw, rfl⟩, h1⟩ := key
    rw [h1]
    have h2 : decide ((0 : Int) ≤ (t : Int) ∧ (t : Int) < 8) = true := inR_nat (n := 8) ht
    simp only [Option.bind_some]
    rw [h2]
    simp only [cond_true, Int.toNat_natCast]
    rw [show 32 * (t + 1) = 32 * t + 32 from Nat.mul_succ _ _, Nat.pow_add] at hd
    rcases Nat.lt_or_gt_of_ne hw with h | h
    · have : A < B := top_less hd h
      have h3 : decide ((halves A).getD t 0 < (halves B).getD t 0) = true := decide_eq_true (by rw [getD_words ht, getD_words ht]; exact_mod_cast h)
      rw [h3]
      simp [cmp, hAB, this]
    · have : B < A := top_less hd.symm h
      have h3 : decide ((halves A).getD t 0 < (halves B).getD t 0) = false := decide_eq_false (by
        rw [getD_words ht, getD_words ht]; intro h'
        have : A / 2 ^ (32 * t) % 2 ^ 32 < B / 2 ^ (32 * t) % 2 ^ 32 := by exact_mod_cast h'
        omega)
      rw [h3]
      simp [cmp, hAB, show ¬ A < B by omega]

/-! ### Bits -/

theorem f42.inner (K i h n : Nat) (hi : i < 8) (hh : h < 2 ^ 32) (hK : 32 < K) (z : List Int) : iter (f42.s2 K) K (n, i, h, 0, z, i) = some (((if h = 0 then n else 32 * i + blen h : Nat) : Int), z, (i : Int)) := by
  have hb : blen h ≤ 32 := blen_le hh
  have key := iter_for (stp := f42.s2 K) (N := blen h) (fun k => (((if k = 0 then n else 32 * i + k : Nat) : Int), (i : Int), (h : Int), (k : Int), z, (i : Int)))
    (y := some (((if h = 0 then n else 32 * i + blen h : Nat) : Int), z, (i : Int))) (fun k hk rec => by
      simp only [f42.s2, f42.s2t]
      have h1 : decide ((0 : Int) ≤ (k : Int)) = true := decide_eq_true (by omega)
      rw [h1, shr_nat _ _ (by omega)]
      have h2 : decide (((h / 2 ^ k : Nat) : Int) > 0) = true := decide_eq_true (Int.natCast_pos.2 (Nat.pos_of_ne_zero (blen_pos.1 hk)))
      rw [h2]
      simp only [cond_true]
      have w1 : IntKind.wrap .i64 (32 * (i : Int)) = 32 * (i : Int) := wrap_i _ (by omega) (by omega)
      have w2 : IntKind.wrap .i64 (32 * (i : Int) + (k : Int)) = 32 * (i : Int) + (k : Int) := wrap_i _ (by omega) (by omega)
      rw [w1, w2, wrap_i _ (by omega) (by omega), wrap_i _ (by omega) (by omega)]
      congr 3) (fun rec => by
      simp only [f42.s2, f42.s2t]
      have h1 : decide ((0 : Int) ≤ (blen h : Int)) = true := decide_eq_true (by omega)
      rw [h1, shr_nat _ _ (by omega)]
      have h0 : h / 2 ^ blen h = 0 := by
        rcases Nat.eq_zero_or_pos (h / 2 ^ blen h) with h | h'
        · exact h
        · exact absurd (blen_pos.2 (Nat.ne_of_gt h')) (Nat.lt_irrefl _)
      have h2 : decide (((h / 2 ^ blen h : Nat) : Int) > 0) = false := decide_eq_false (by rw [h0]; decide)
      rw [h2]
      simp only [cond_true, cond_false, Option.some.injEq, Prod.mk.injEq, and_true]
      congr 1
      by_cases hz : h = 0
      · subst hz; simp [blen]
      · rw [if_neg hz, if_neg (by unfold blen; rw [if_neg hz]; omega)]) (show blen h < K by omega)
  simpa using key

theorem f42.spec (K A : Nat) (hA : A < 2 ^ 256) (hK : 32 < K) : f42.F K (num A) = some ((blen A : Nat) : Int) := by
  simp only [f42.F, f42.T, f92.spec, Option.bind_some]
  have key := iter_for (stp := f42.s0 K) (N := 8) (fun i => (((blen (A % 2 ^ (32 * i)) : Nat) : Int), halves A, (i : Int))) (y := some ((blen A : Nat) : Int)) (fun i hi rec => by
      simp only [f42.s0, f42.s0t]
      have h1 : decide ((i : Int) < 8) = true := decide_eq_true (by omega)
      have h2 : decide ((0 : Int) ≤ (i : Int) ∧ (i : Int) < 8) = true := inR_nat (n := 8) hi
      rw [h1, h2]
      simp only [cond_true, Int.toNat_natCast]
      rw [getD_words hi, f42.inner K i _ _ hi (Nat.mod_lt _ (by decide)) hK]
      simp only [Option.bind_some]
      rw [wrap_i _ (by omega) (by omega)]
      have e : blen (A % 2 ^ (32 * (i + 1))) = if A / 2 ^ (32 * i) % 2 ^ 32 = 0 then blen (A % 2 ^ (32 * i)) else 32 * i + blen (A / 2 ^ (32 * i) % 2 ^ 32) := by
        rw [show 32 * (i + 1) = 32 * i + 32 from Nat.mul_succ _ _, Nat.pow_add, Nat.mod_mul]
        by_cases hz : A / 2 ^ (32 * i) % 2 ^ 32 = 0
        · rw [if_pos hz, hz, Nat.mul_zero, Nat.add_zero]
        · rw [if_neg hz, Nat.mul_comm (2 ^ (32 * i)), blen_word _ _ _ (Nat.mod_lt _ (Nat.two_pow_pos _)) hz]
      rw [e]
      rfl) (fun rec => by
      simp only [f42.s0, f42.s0t]
      rw [show (32 * 8 : Nat) = 256 from rfl, Nat.mod_eq_of_lt hA]
      rfl) (show 8 < K by omega)
  have k0 : blen (A % 2 ^ (32 * 0)) = 0 := by simp [Nat.mod_one, blen]
  rw [k0] at key
  have key' : iter (f42.s0 K) K (0, halves A, 0) = some ((blen A : Nat) : Int) := key
  rw [key']
  rfl

end Go.Proofs
