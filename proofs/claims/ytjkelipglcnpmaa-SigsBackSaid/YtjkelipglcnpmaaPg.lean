/- Plain laws: lemmas that hold with no condition but those that each states. -/
import Derived.Test.YtjkelipglcnpmaaPm
import Derived.Test.YtjkelipglcnpmaaFg
namespace Go.Proofs
open Go.VM
def gin (P A : Nat) : Bool := decide (1 < P) && (decide (A ≠ 0) && decide (A < P))
theorem gin_iff {P A : Nat} : gin P A = true ↔ 1 < P ∧ A ≠ 0 ∧ A < P := by simp [gin]
theorem gin_may {P A : Nat} (h : gin P A = true) : may1 A P = true := by
  obtain ⟨h1, _, h2⟩ := gin_iff.1 h; exact may1_iff.2 ⟨h1, h2⟩
theorem f116.spec (K : Nat) : f116.F K () = some (num 1) := by
  simp only [f116.F, f116.T, f46.one, bind_s]
theorem f46.zero (K : Nat) : f46.F K 0 = some (num 0) := f46.nat K 0 (by decide)
theorem f127.spec (P A : Nat) (q g : List Int) (hP : P < 2 ^ 256) (hA : A < 2 ^ 256) : f127.F 100000 (num P, q, g, num A) = some (gin P A) := by
  simp only [f127.F, f127.T, f116.spec, f44.all, f46.zero, bind_s, cmp_gt, cmp_lt, mod_self_of hP, mod_self_of hA, show (1 : Nat) % 2 ^ 256 = 1 from rfl, eqN A 0 hA (by decide), Bool.and_true]
  unfold gin
  by_cases h1 : 1 < P
  · rw [decide_eq_true h1, cond_t, Bool.true_and]
    by_cases h2 : A = 0
    · rw [decide_eq_true h2, Bool.not_true, cond_f, decide_eq_false (by omega), Bool.false_and]
    · rw [decide_eq_false h2, Bool.not_false, cond_t, decide_eq_true h2, Bool.true_and]
  · rw [decide_eq_false h1, cond_f, Bool.false_and]
theorem rd0 (A : Nat) : List.take 4 (List.drop (Int.toNat (0 : Int) * 4) (num A)) = num A := rfl
theorem rd20 (A B : Nat) : List.take 4 (List.drop (Int.toNat (0 : Int) * 4) (num A ++ num B)) = num A := rfl
theorem rd21 (A B : Nat) : List.take 4 (List.drop (Int.toNat (1 : Int) * 4) (num A ++ num B)) = num B := rfl
theorem w01 : IntKind.wrap .i64 ((0 : Int) + 1) = 1 := by decide
theorem w12 : IntKind.wrap .i64 ((1 : Int) + 1) = 2 := by decide
theorem sp2 (A B : Nat) : spl (spl [] 0 4 (num A)) 4 4 (num B) = num A ++ num B := rfl
theorem f111.spec (P A N : Nat) (q g : List Int) (hP : P < 2 ^ 256) (hA : A < 2 ^ 256) (hN : N < 2 ^ 256) :
    f111.F 100000 (num P, q, g, num P, q, g, num A, num N, num A) = some (if gin P A = true then (num (A ^ N % P), 0, num A) else (num 0, 1, num A)) := by
  simp only [f111.F, f111.T]
  rw [show (100000 : Nat) = 99998 + 1 + 1 from rfl, iter]
  simp only [f111.s0, f111.s0t]
  rw [decide_eq_true (show (0 : Int) < 1 by decide), cond_t, decide_eq_true (show (0 : Int) ≤ 0 ∧ (0 : Int) < 1 by decide), cond_t, rd0, f127.spec P A q g hP hA, bind_s, w01]
  by_cases h : gin P A = true
  · rw [h, Bool.not_true, cond_f, iter]
    simp only [f111.s0, f111.s0t]
    rw [decide_eq_false (show ¬ (1 : Int) < 1 by decide), cond_f, bind_s, alt_r]
    simp only [f113.F, f113.T, f64.spec A N P hA hN hP, gin_may h, if_true, bind_s]
  · rw [Bool.not_eq_true] at h
    rw [h, Bool.not_false, cond_t, bind_s, alt_l]
    simp only [num_zero]
    rfl
theorem f111v1.spec (P A B : Nat) (q g : List Int) (hP : P < 2 ^ 256) (hA : A < 2 ^ 256) (hB : B < 2 ^ 256) :
    f111v1.F 100000 (num P, q, g, num P, q, g, num A, num B, num A ++ num B) = some (if (gin P A && gin P B) = true then (num (A * B % P), 0, num A ++ num B) else (num 0, 1, num A ++ num B)) := by
  simp only [f111v1.F, f111v1.T]
  rw [show (100000 : Nat) = 99997 + 1 + 1 + 1 from rfl, iter]
  simp only [f111v1.s0, f111v1.s0t]
  rw [decide_eq_true (show (0 : Int) < 2 by decide), cond_t, decide_eq_true (show (0 : Int) ≤ 0 ∧ (0 : Int) < 2 by decide), cond_t, rd20, f127.spec P A q g hP hA, bind_s, w01]
  by_cases h : gin P A = true
  · rw [h, Bool.not_true, cond_f, iter]
    simp only [f111v1.s0, f111v1.s0t]
    rw [decide_eq_true (show (1 : Int) < 2 by decide), cond_t, decide_eq_true (show (0 : Int) ≤ 1 ∧ (1 : Int) < 2 by decide), cond_t, rd21, f127.spec P B q g hP hB, bind_s, w12]
    by_cases h2 : gin P B = true
    · rw [h2, Bool.not_true, cond_f, iter]
      simp only [f111v1.s0, f111v1.s0t]
      rw [decide_eq_false (show ¬ (2 : Int) < 2 by decide), cond_f, bind_s, alt_r]
      obtain ⟨p1, _, p2⟩ := gin_iff.1 h
      obtain ⟨_, _, p3⟩ := gin_iff.1 h2
      simp only [f112.F, f112.T, f63.good p1 p2 p3 hP, bind_s, Bool.and_self, if_true]
    · rw [Bool.not_eq_true] at h2
      rw [h2, Bool.not_false, cond_t, bind_s, alt_l]
      simp only [num_zero]
      rfl
  · rw [Bool.not_eq_true] at h
    rw [h, Bool.not_false, cond_t, bind_s, alt_l]
    simp only [num_zero, Bool.false_and]
    rfl
theorem f80.spec (P A N : Nat) (q g : List Int) (hP : P < 2 ^ 256) (hA : A < 2 ^ 256) (hN : N < 2 ^ 256) :
    f80.F 100000 (num P, q, g, num A, num N) = some (if gin P A = true then (num (A ^ N % P), 0) else (num 0, 1)) := by
  simp only [f80.F, f80.T, f111.spec P A N q g hP hA hN, bind_s]
  by_cases h : gin P A = true
  · rw [if_pos h, if_pos h]
  · rw [if_neg h, if_neg h]
theorem f79.spec (P A B : Nat) (q g : List Int) (hP : P < 2 ^ 256) (hA : A < 2 ^ 256) (hB : B < 2 ^ 256) :
    f79.F 100000 (num P, q, g, num A, num B) = some (if (gin P A && gin P B) = true then (num (A * B % P), 0) else (num 0, 1)) := by
  simp only [f79.F, f79.T, sp2, f111v1.spec P A B q g hP hA hB, bind_s]
  by_cases h : (gin P A && gin P B) = true
  · rw [if_pos h, if_pos h]
  · rw [if_neg h, if_neg h]
def gmem (P Q A : Nat) : Bool := gin P A && decide (A ^ Q % P = 1)
theorem gmem_iff {P Q A : Nat} : gmem P Q A = true ↔ gin P A = true ∧ A ^ Q % P = 1 := by simp [gmem]
theorem f87.spec (P Q A : Nat) (g : List Int) (hP : P < 2 ^ 256) (hQ : Q < 2 ^ 256) (hA : A < 2 ^ 256) : f87.F 100000 (num P, num Q, g, num A) = some (gmem P Q A) := by
  simp only [f87.F, f87.T, f80.spec P A Q _ g hP hA hQ, f116.spec, bind_s]
  unfold gmem
  by_cases h : gin P A = true
  · obtain ⟨p1, _, p2⟩ := gin_iff.1 h
    have : A ^ Q % P < 2 ^ 256 := Nat.lt_trans (Nat.mod_lt _ (by omega)) hP
    rw [if_pos h, h]
    simp only [beq_self_eq_true, cond_t, eqN _ 1 this (by decide), Bool.and_true, Bool.true_and]
  · rw [if_neg h]
    rw [Bool.not_eq_true] at h
    rw [h]; rfl
def gfine (P Q G : Nat) : Bool := decide (1 < Q) && (decide (G ≠ 1) && gmem P Q G)
theorem f85.spec (P Q G : Nat) (hP : P < 2 ^ 256) (hQ : Q < 2 ^ 256) (hG : G < 2 ^ 256) : f85.F 100000 (num P, num Q, num G) = some (gfine P Q G) := by
  simp only [f85.F, f85.T, f116.spec, f44.all, bind_s, cmp_gt, mod_self_of hQ, show (1 : Nat) % 2 ^ 256 = 1 from rfl, eqN G 1 hG (by decide), Bool.and_true, f87.spec P Q G _ hP hQ hG]
  unfold gfine
  by_cases h1 : 1 < Q
  · rw [decide_eq_true h1, cond_t, Bool.true_and]
    by_cases h2 : G = 1
    · rw [decide_eq_true h2, Bool.not_true, cond_f, decide_eq_false (by omega), Bool.false_and]
    · rw [decide_eq_false h2, Bool.not_false, cond_t, decide_eq_true h2, Bool.true_and]
  · rw [decide_eq_false h1, cond_f, Bool.false_and]
theorem f126.spec (N Q : Nat) (hN : N < 2 ^ 256) (hQ : Q < 2 ^ 256) : f126.F 100000 (num N, num Q) = some (decide (N < Q), num N, num Q) := by
  simp only [f126.F, f126.T]
  rw [show (100000 : Nat) = 99998 + 1 + 1 from rfl, iter]
  simp only [f126.s0, f126.s0t]
  rw [decide_eq_true (show (0 : Int) < 1 by decide), cond_t, decide_eq_true (show (0 : Int) ≤ 0 ∧ (0 : Int) < 1 by decide), cond_t, rd0, f44.all, bind_s, mod_self_of hN, mod_self_of hQ, cmp_ge, w01]
  by_cases h : Q ≤ N
  · rw [decide_eq_true h, cond_t, bind_s, alt_l, decide_eq_false (by omega)]
  · rw [decide_eq_false h, cond_f, iter]
    simp only [f126.s0, f126.s0t]
    rw [decide_eq_false (show ¬ (1 : Int) < 1 by decide), cond_f, bind_s, alt_r, decide_eq_true (by omega)]
def gsec (P Q G N : Nat) : Bool := gfine P Q G && (decide (N ≠ 0) && decide (N < Q))
theorem f77.spec (P Q G N : Nat) (hP : P < 2 ^ 256) (hQ : Q < 2 ^ 256) (hG : G < 2 ^ 256) (hN : N < 2 ^ 256) :
    f77.F 100000 (num P, num Q, num G, num N) = some (if gsec P Q G N = true then (num (G ^ N % P), 0) else (num 0, 1)) := by
  simp only [f77.F, f77.T, f85.spec P Q G hP hQ hG, f46.zero, bind_s, eqN N 0 hN (by decide), Bool.and_true, f110.F, f110.T, f126.spec N Q hN hQ, num_zero, f80.spec P G N _ _ hP hG hN]
  unfold gsec
  by_cases h : gfine P Q G = true
  · rw [h, Bool.not_true, cond_f, Bool.true_and]
    have hg : gin P G = true := by
      unfold gfine at h
      simp only [Bool.and_eq_true] at h
      exact (gmem_iff.1 h.2.2).1
    by_cases h0 : N = 0
    · rw [decide_eq_true h0, cond_t, decide_eq_false (by omega), Bool.false_and]; rfl
    · rw [decide_eq_false h0, cond_f, decide_eq_true h0, Bool.true_and]
      by_cases hq : N < Q
      · rw [decide_eq_true hq, Bool.not_true, cond_f, if_pos rfl, if_pos hg]
      · rw [decide_eq_false hq]; rfl
  · rw [Bool.not_eq_true] at h
    rw [h]; rfl
set_option maxRecDepth 100000 in
theorem f78.spec : f78.F 100000 () = some true := by kernel_rfl
end Go.Proofs

namespace Go.Proofs
open Go.VM
theorem zero_of (X : Nat) (hX : X < 2 ^ 256) : (eqL 4 (num X) [0, 0, 0, 0] && true) = decide (X = 0) := by
  rw [num_zero, eqN X 0 hX (by decide), Bool.and_true]
theorem gmem_mk {P Q A : Nat} (h1 : 1 < P) (hQ : 0 < Q) (hA : A < P) (h : A ^ Q % P = 1) : gmem P Q A = true := by
  refine gmem_iff.2 ⟨gin_iff.2 ⟨h1, ?_, hA⟩, h⟩
  intro h0
  subst h0
  rw [Nat.zero_pow hQ, Nat.zero_mod] at h
  cases h
theorem pow_mem {P Q A : Nat} (N : Nat) (h1 : 1 < P) (hA : A ^ Q % P = 1) : (A ^ N % P) ^ Q % P = 1 := by
  rw [← Nat.pow_mod, ← Nat.pow_mul, Nat.mul_comm, Nat.pow_mul, Nat.pow_mod, hA, Nat.one_pow, Nat.mod_eq_of_lt h1]
end Go.Proofs
