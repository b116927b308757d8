/- Plain laws: lemmas that hold with no condition but those that each states. -/
import Derived.Test.YtjkelipglcnpmaaPm
import Derived.Test.YtjkelipglcnpmaaFg
namespace Go.Proofs
open Go.VM

/-! ### groups -/

/-- Numbers that a group reckons with. -/
def gin (P A : Nat) : Bool := decide (1 < P) && (decide (A ≠ 0) && decide (A < P))
theorem gin_iff {P A : Nat} : gin P A = true ↔ 1 < P ∧ A ≠ 0 ∧ A < P := by simp [gin]
theorem gin_may {P A : Nat} (h : gin P A = true) : may1 A P = true := by
  obtain ⟨h1, _, h2⟩ := gin_iff.1 h; exact may1_iff.2 ⟨h1, h2⟩

theorem f116.spec (K : Nat) : f116.F K () = some (num 1) := by
  simp only [f116.F, f116.T, f46.one, bind_s]

theorem f46.zero (K : Nat) : f46.F K 0 = some (num 0) := f46.nat K 0 (by decide)

theorem f127.spec (P A : Nat) (q g : List Int) (hP : P < 2 ^ 256) (hA : A < 2 ^ 256) : f127.F 100000 (num P, q, g, num A) = some (gin P A) := by
  simp only [f127.F, f127.T, f116.spec, f44.all, f46.zero, bind_s, cmp_gt, cmp_lt, mod_self_of hP, mod_self_of hA, show (1 : Nat) % 2 ^ 256 = 1 from rfl, eqN A 0 hA (by decide), Bool.and_true]
  unfold gin
  by_cases h1 : 1 < P
  · rw [decide_eq_true h1, cond_t, Bool.true_and]
    by_cases h2 : A = 0
    · rw [decide_eq_true h2, Bool.not_true, cond_f, decide_eq_false (by omega), Bool.false_and]
    · rw [decide_eq_false h2, Bool.not_false, cond_t, decide_eq_true h2, Bool.true_and]
  · rw [decide_eq_false h1, cond_f, Bool.false_and]

theorem rd0 (A : Nat) : List.take 4 (List.drop (Int.toNat (0 : Int) * 4) (num A)) = num A := rfl
theorem rd20 (A B : Nat) : List.take 4 (List.drop (Int.toNat (0 : Int) * 4) (num A ++ num B)) = num A := rfl
theorem rd21 (A B : Nat) : List.take 4 (List.drop (Int.toNat (1 : Int) * 4) (num A ++ num B)) = num B := rfl
theorem w01 : IntKind.wrap .i64 ((0 : Int) + 1) = 1 := by decide
theorem w12 : IntKind.wrap .i64 ((1 : Int) + 1) = 2 := by decide
theorem sp2 (A B : Nat) : spl (spl [] 0 4 (num A)) 4 4 (num B) = num A ++ num B := rfl

theorem f111.spec (P A N : Nat) (q g : List Int) (hP : P < 2 ^ 256) (hA : A < 2 ^ 256) (hN : N < 2 ^ 256) :
    f111.F 100000 (num P, q, g, num P, q, g, num A, num N, num A) = some (if gin P A = true then (num (A ^ N % P), 0, num A) else (num 0, 1, num A)) := by
  simp only [f111.F, f111.T]
  rw [show (100000 : Nat) = 99998 + 1 + 1 from rfl, iter]
  simp only [f111.s0, f111.s0t]
  rw [decide_eq_true (show (0 : Int) < 1 by decide), cond_t, decide_eq_true (show (0 : Int) ≤ 0 ∧ (0 : Int) < 1 by decide), cond_t, rd0, f127.spec P A q g hP hA, bind_s, w01]
  by_cases h : gin P A = true
  · rw [h, Bool.not_true, cond_f, iter]
    simp only [f111.s0, f111.s0t]
    rw [decide_eq_false (show ¬ (1 : Int) < 1 by decide), cond_f, bind_s, alt_r]
    simp only [f113.F, f113.T, f64.spec A N P hA hN hP, gin_may h, if_true, bind_s]
  · rw [Bool.not_eq_true] at h
    rw [h, Bool.not_false, cond_t, bind_s, alt_l]
    simp only [num_zero]
    rfl

theorem f111v1.spec (P A B : Nat) (q g : List Int) (hP : P < 2 ^ 256) (hA : A < 2 ^ 256) (hB : B < 2 ^ 256) :
    f111v1.F 100000 (num P, q, g, num P, q, g, num A, num B, num A ++ num B) = some (if (gin P A && gin P B) = true then (num (A * B % P), 0, num A ++ num B) else (num 0, 1, num A ++ num B)) := by
  simp only [f111v1.F, f111v1.T]
  rw [show (100000 : Nat) = 99997 + 1 + 1 + 1 from rfl, iter]
  simp only [f111v1.s0, f111v1.s0t]
  rw [decide_eq_true (show (0 : Int) < 2 by decide), cond_t, decide_eq_true (show (0 : Int) ≤ 0 ∧ (0 : Int) < 2 by decide), cond_t, rd20, f127.spec P A q g hP hA, bind_s, w01]
  by_cases h : gin P A = true
  · rw [h, Bool.not_true, cond_f, iter]
    simp only [f111v1.s0, f111v1.s0t]
    rw [decide_eq_true (show (1 : Int) < 2 by decide), cond_t, decide_eq_true (show (0 : Int) ≤ 1 ∧ (1 : Int) < 2 by decide), cond_t, rd21, f127.spec P B q g hP hB, bind_s, w12]
    by_cases h2 : gin P B = true
    · rw [h2, Bool.not_true, cond_f, iter]
      simp only [f111v1.s0, f111v1.s0t]
      rw [decide_eq_false (show ¬ (2 : Int) < 2 by decide), cond_f, bind_s, alt_r]
      obtain ⟨p1, _, p2⟩ := gin_iff.1 h
      obtain ⟨_, _, p3⟩ := gin_iff.1 h2
      simp only [f112.F, f112.T, f63.good p1 p2 p3 hP, bind_s, Bool.and_self, if_true]
    · rw [Bool.not_eq_true] at h2
      rw [h2, Bool.not_false, cond_t, bind_s, alt_l]
      simp only [num_zero]
      rfl
  · rw [Bool.not_eq_true] at h
    rw [h, Bool.not_false, cond_t, bind_s, alt_l]
    simp only [num_zero, Bool.false_and]
    rfl

theorem f111v2.spec (P A : Nat) (q g n : List Int) (hP : P < 2 ^ 256) (hA : A < 2 ^ 256) :
    f111v2.F 100000 (num P, q, g, num P, q, g, num A, n, num A) = if gin P A = true then (f65.F 100000 (num A, num P)).bind fun y => some (y.1, y.2, num A) else some (num 0, 1, num A) := by
  simp only [f111v2.F, f111v2.T]
  rw [show iter (f111v2.s0 100000) 100000 = iter (f111v2.s0 100000) (99998 + 1 + 1) from rfl, iter]
  simp only [f111v2.s0, f111v2.s0t]
  rw [decide_eq_true (show (0 : Int) < 1 by decide), cond_t, decide_eq_true (show (0 : Int) ≤ 0 ∧ (0 : Int) < 1 by decide), cond_t, rd0, f127.spec P A q g hP hA, bind_s, w01]
  by_cases h : gin P A = true
  · rw [h, Bool.not_true, cond_f, iter]
    simp only [f111v2.s0, f111v2.s0t]
    rw [decide_eq_false (show ¬ (1 : Int) < 1 by decide), cond_f, bind_s, alt_r]
    simp only [f115.F, f115.T, if_true]
    obtain ⟨p, hp, hf⟩ := f65.spec A P hA hP
    rw [hf]; rfl
  · rw [Bool.not_eq_true] at h
    rw [h, Bool.not_false, cond_t, bind_s, alt_l]
    simp only [num_zero]
    rfl

/-- Exp, Mul, Inv. -/
theorem f80.spec (P A N : Nat) (q g : List Int) (hP : P < 2 ^ 256) (hA : A < 2 ^ 256) (hN : N < 2 ^ 256) :
    f80.F 100000 (num P, q, g, num A, num N) = some (if gin P A = true then (num (A ^ N % P), 0) else (num 0, 1)) := by
  simp only [f80.F, f80.T, f111.spec P A N q g hP hA hN, bind_s]
  by_cases h : gin P A = true
  · rw [if_pos h, if_pos h]
  · rw [if_neg h, if_neg h]

theorem f79.spec (P A B : Nat) (q g : List Int) (hP : P < 2 ^ 256) (hA : A < 2 ^ 256) (hB : B < 2 ^ 256) :
    f79.F 100000 (num P, q, g, num A, num B) = some (if (gin P A && gin P B) = true then (num (A * B % P), 0) else (num 0, 1)) := by
  simp only [f79.F, f79.T, sp2, f111v1.spec P A B q g hP hA hB, bind_s]
  by_cases h : (gin P A && gin P B) = true
  · rw [if_pos h, if_pos h]
  · rw [if_neg h, if_neg h]

theorem f82.spec (P A : Nat) (q g : List Int) (hP : P < 2 ^ 256) (hA : A < 2 ^ 256) :
    f82.F 100000 (num P, q, g, num A) = if gin P A = true then f65.F 100000 (num A, num P) else some (num 0, 1) := by
  simp only [f82.F, f82.T, f111v2.spec P A q g _ hP hA]
  by_cases h : gin P A = true
  · rw [if_pos h, if_pos h]
    obtain ⟨p, hp, hf⟩ := f65.spec A P hA hP
    rw [hf]; rfl
  · rw [if_neg h, if_neg h]; rfl

/-- Numbers of the group. -/
def gmem (P Q A : Nat) : Bool := gin P A && decide (A ^ Q % P = 1)
theorem gmem_iff {P Q A : Nat} : gmem P Q A = true ↔ gin P A = true ∧ A ^ Q % P = 1 := by simp [gmem]

theorem f87.spec (P Q A : Nat) (g : List Int) (hP : P < 2 ^ 256) (hQ : Q < 2 ^ 256) (hA : A < 2 ^ 256) : f87.F 100000 (num P, num Q, g, num A) = some (gmem P Q A) := by
  simp only [f87.F, f87.T, f80.spec P A Q _ g hP hA hQ, f116.spec, bind_s]
  unfold gmem
  by_cases h : gin P A = true
  · obtain ⟨p1, _, p2⟩ := gin_iff.1 h
    have : A ^ Q % P < 2 ^ 256 := Nat.lt_trans (Nat.mod_lt _ (by omega)) hP
    rw [if_pos h, h]
    simp only [beq_self_eq_true, cond_t, eqN _ 1 this (by decide), Bool.and_true, Bool.true_and]
  · rw [if_neg h]
    rw [Bool.not_eq_true] at h
    rw [h]; rfl

def gfine (P Q G : Nat) : Bool := decide (1 < Q) && (decide (G ≠ 1) && gmem P Q G)

theorem f85.spec (P Q G : Nat) (hP : P < 2 ^ 256) (hQ : Q < 2 ^ 256) (hG : G < 2 ^ 256) : f85.F 100000 (num P, num Q, num G) = some (gfine P Q G) := by
  simp only [f85.F, f85.T, f116.spec, f44.all, bind_s, cmp_gt, mod_self_of hQ, show (1 : Nat) % 2 ^ 256 = 1 from rfl, eqN G 1 hG (by decide), Bool.and_true, f87.spec P Q G _ hP hQ hG]
  unfold gfine
  by_cases h1 : 1 < Q
  · rw [decide_eq_true h1, cond_t, Bool.true_and]
    by_cases h2 : G = 1
    · rw [decide_eq_true h2, Bool.not_true, cond_f, decide_eq_false (by omega), Bool.false_and]
    · rw [decide_eq_false h2, Bool.not_false, cond_t, decide_eq_true h2, Bool.true_and]
  · rw [decide_eq_false h1, cond_f, Bool.false_and]

theorem f126.spec (N Q : Nat) (hN : N < 2 ^ 256) (hQ : Q < 2 ^ 256) : f126.F 100000 (num N, num Q) = some (decide (N < Q), num N, num Q) := by
  simp only [f126.F, f126.T]
  rw [show (100000 : Nat) = 99998 + 1 + 1 from rfl, iter]
  simp only [f126.s0, f126.s0t]
  rw [decide_eq_true (show (0 : Int) < 1 by decide), cond_t, decide_eq_true (show (0 : Int) ≤ 0 ∧ (0 : Int) < 1 by decide), cond_t, rd0, f44.all, bind_s, mod_self_of hN, mod_self_of hQ, cmp_ge, w01]
  by_cases h : Q ≤ N
  · rw [decide_eq_true h, cond_t, bind_s, alt_l, decide_eq_false (by omega)]
  · rw [decide_eq_false h, cond_f, iter]
    simp only [f126.s0, f126.s0t]
    rw [decide_eq_false (show ¬ (1 : Int) < 1 by decide), cond_f, bind_s, alt_r, decide_eq_true (by omega)]

/-- Secrets that have a key. -/
def gsec (P Q G N : Nat) : Bool := gfine P Q G && (decide (N ≠ 0) && decide (N < Q))

theorem f77.spec (P Q G N : Nat) (hP : P < 2 ^ 256) (hQ : Q < 2 ^ 256) (hG : G < 2 ^ 256) (hN : N < 2 ^ 256) :
    f77.F 100000 (num P, num Q, num G, num N) = some (if gsec P Q G N = true then (num (G ^ N % P), 0) else (num 0, 1)) := by
  simp only [f77.F, f77.T, f85.spec P Q G hP hQ hG, f46.zero, bind_s, eqN N 0 hN (by decide), Bool.and_true, f110.F, f110.T, f126.spec N Q hN hQ, num_zero, f80.spec P G N _ _ hP hG hN]
  unfold gsec
  by_cases h : gfine P Q G = true
  · rw [h, Bool.not_true, cond_f, Bool.true_and]
    have hg : gin P G = true := by
      unfold gfine at h
      simp only [Bool.and_eq_true] at h
      exact (gmem_iff.1 h.2.2).1
    by_cases h0 : N = 0
    · rw [decide_eq_true h0, cond_t, decide_eq_false (by omega), Bool.false_and]; rfl
    · rw [decide_eq_false h0, cond_f, decide_eq_true h0, Bool.true_and]
      by_cases hq : N < Q
      · rw [decide_eq_true hq, Bool.not_true, cond_f, if_pos rfl, if_pos hg]
      · rw [decide_eq_false hq]; rfl
  · rw [Bool.not_eq_true] at h
    rw [h]; rfl

set_option maxRecDepth 100000 in
theorem f89.spec : f89.F 100000 () = some true := by kernel_rfl

set_option maxRecDepth 100000 in
theorem f78.spec : f78.F 100000 () = some true := by kernel_rfl

end Go.Proofs

namespace Go.Proofs
open Go.VM

theorem zero_of (X : Nat) (hX : X < 2 ^ 256) : (eqL 4 (num X) [0, 0, 0, 0] && true) = decide (X = 0) := by
  rw [num_zero, eqN X 0 hX (by decide), Bool.and_true]

theorem carry_ne (S : Nat) (h : S < 2 ^ 257) : (((S / 2 ^ 256 : Nat) : Int) != 0) = decide (2 ^ 256 ≤ S) := by
  by_cases h1 : 2 ^ 256 ≤ S
  · rw [decide_eq_true h1, show S / 2 ^ 256 = 1 by omega]; rfl
  · rw [decide_eq_false h1, show S / 2 ^ 256 = 0 by omega]; rfl

/-- What is of the group. -/
theorem gmem_mk {P Q A : Nat} (h1 : 1 < P) (hQ : 0 < Q) (hA : A < P) (h : A ^ Q % P = 1) : gmem P Q A = true := by
  refine gmem_iff.2 ⟨gin_iff.2 ⟨h1, ?_, hA⟩, h⟩
  intro h0
  subst h0
  rw [Nat.zero_pow hQ, Nat.zero_mod] at h
  cases h

theorem mul_mem {P Q A B : Nat} (h1 : 1 < P) (hA : A ^ Q % P = 1) (hB : B ^ Q % P = 1) : (A * B % P) ^ Q % P = 1 := by
  rw [← Nat.pow_mod, Nat.mul_pow, Nat.mul_mod, hA, hB, Nat.one_mul, Nat.mod_eq_of_lt h1]

theorem pow_mem {P Q A : Nat} (N : Nat) (h1 : 1 < P) (hA : A ^ Q % P = 1) : (A ^ N % P) ^ Q % P = 1 := by
  rw [← Nat.pow_mod, ← Nat.pow_mul, Nat.mul_comm, Nat.pow_mul, Nat.pow_mod, hA, Nat.one_pow, Nat.mod_eq_of_lt h1]

theorem inv_mem {P Q A : Nat} (_h1 : 1 < P) (hQ : 0 < Q) (hA : A ^ Q % P = 1) : A * (A ^ (Q - 1) % P) % P = 1 := by
  rw [Nat.mul_mod_mod, ← Nat.pow_succ', show (Q - 1).succ = Q by omega, hA]

/-- GroupsClosed. -/
theorem f25.holds (P Q G A B N : Nat) (hP : P < 2 ^ 256) (hQ : Q < 2 ^ 256) (_hG : G < 2 ^ 256) (hA : A < 2 ^ 256) (hB : B < 2 ^ 256) (hN : N < 2 ^ 256) :
    f25.F 100000 (num P, num Q, num G, num A, num B, num N) = some true := by
  simp only [f25.F, f25.T, zero_of Q hQ, f89.spec, bind_s, f87.spec P Q A _ hP hQ hA, f87.spec P Q B _ hP hQ hB]
  by_cases h0 : Q = 0
  · rw [decide_eq_true h0]; rfl
  · rw [decide_eq_false h0, cond_f]
    by_cases ha : gmem P Q A = true
    · by_cases hb : gmem P Q B = true
      · rw [ha, hb]
        obtain ⟨ga, ea⟩ := gmem_iff.1 ha
        obtain ⟨gb, eb⟩ := gmem_iff.1 hb
        obtain ⟨h1, a0, la⟩ := gin_iff.1 ga
        obtain ⟨_, b0, lb⟩ := gin_iff.1 gb
        have hp : 0 < P := by omega
        have q0 : 0 < Q := by omega
        have l1 : A * B % P < 2 ^ 256 := Nat.lt_trans (Nat.mod_lt _ hp) hP
        have li := Nat.mod_lt (A ^ (Q - 1)) hp
        have l2 : A ^ (Q - 1) % P < 2 ^ 256 := Nat.lt_trans li hP
        have l3 : A ^ N % P < 2 ^ 256 := Nat.lt_trans (Nat.mod_lt _ hp) hP
        have m1 := gmem_mk h1 q0 (Nat.mod_lt _ hp) (mul_mem h1 ea eb)
        have m2 := gmem_mk h1 q0 (Nat.mod_lt _ hp) (pow_mem (Q - 1) h1 ea)
        have m3 := gmem_mk h1 q0 (Nat.mod_lt _ hp) (pow_mem N h1 ea)
        have hi := inv_mem h1 q0 ea
        simp only [Bool.not_true, cond_f, f79.spec P A B _ _ hP hA hB, ga, gb, Bool.and_self, if_true, f82.spec P A _ _ hP hA, f65.known A P _ la h1 hP li hi, f80.spec P A N _ _ hP hA hN, bind_s, f79.spec P A _ _ _ hP hA l2, (gmem_iff.1 m2).1, hi,
          f87.spec P Q _ _ hP hQ l1, f87.spec P Q _ _ hP hQ l2, f87.spec P Q _ _ hP hQ l3, m1, m2, m3, beq_self_eq_true, cond_t, f46.one, eqL_num, decide_true]
      · rw [Bool.not_eq_true] at hb
        rw [ha, hb]; rfl
    · rw [Bool.not_eq_true] at ha
      rw [ha]; rfl

/-- GroupsRound. -/
theorem f26.holds (P Q G A M N : Nat) (hP : P < 2 ^ 256) (hQ : Q < 2 ^ 256) (_hG : G < 2 ^ 256) (hA : A < 2 ^ 256) (hM : M < 2 ^ 256) (hN : N < 2 ^ 256) :
    f26.F 100000 (num P, num Q, num G, num A, num M, num N) = some true := by
  simp only [f26.F, f26.T, f32.all, mod_self_of hM, mod_self_of hN, mod_self_of hQ, zero_of Q hQ, f89.spec, bind_s, f87.spec P Q A _ hP hQ hA, carry_ne (M + N) (by omega), carry_ne (M + Q) (by omega)]
  by_cases h0 : Q = 0
  · rw [decide_eq_true h0]; rfl
  · rw [decide_eq_false h0, cond_f]
    by_cases ha : gmem P Q A = true
    · rw [ha, Bool.not_true, cond_f]
      obtain ⟨ga, ea⟩ := gmem_iff.1 ha
      obtain ⟨h1, a0, la⟩ := gin_iff.1 ga
      have hp : 0 < P := by omega
      have q0 : 0 < Q := by omega
      by_cases hc : 2 ^ 256 ≤ M + N
      · rw [decide_eq_true hc]; rfl
      · have hMN : M + N < 2 ^ 256 := by omega
        have m1 := gmem_mk h1 q0 (Nat.mod_lt _ hp) (pow_mem M h1 ea)
        have m2 := gmem_mk h1 q0 (Nat.mod_lt _ hp) (pow_mem N h1 ea)
        have l1 : A ^ M % P < 2 ^ 256 := Nat.lt_trans (Nat.mod_lt _ hp) hP
        have l2 : A ^ N % P < 2 ^ 256 := Nat.lt_trans (Nat.mod_lt _ hp) hP
        have e1 : A ^ M % P * (A ^ N % P) % P = A ^ (M + N) % P := by rw [← Nat.mul_mod, ← Nat.pow_add]
        rw [decide_eq_false hc, cond_f]
        simp only [f80.spec P A M _ _ hP hA hM, f80.spec P A N _ _ hP hA hN, f80.spec P A _ _ _ hP hA hMN, ga, if_true, bind_s, f79.spec P _ _ _ _ hP l1 l2, (gmem_iff.1 m1).1, (gmem_iff.1 m2).1, Bool.and_self, e1, ne00, cond_f, eqL_num, decide_true, Bool.and_true, Bool.not_true]
        by_cases hq : 2 ^ 256 ≤ M + Q
        · rw [decide_eq_true hq]; rfl
        · have hMQ : M + Q < 2 ^ 256 := by omega
          have e2 : A ^ (M + Q) % P = A ^ M % P := by rw [Nat.pow_add, Nat.mul_mod, ea, Nat.mul_one, Nat.mod_mod]
          rw [decide_eq_false hq, cond_f]
          simp only [f80.spec P A _ _ _ hP hA hMQ, ga, if_true, bind_s, e2, beq_self_eq_true, cond_t, eqL_num, decide_true]
    · rw [Bool.not_eq_true] at ha
      rw [ha]; rfl

/-- GroupsShare. -/
theorem f27.holds (P Q G A M N : Nat) (hP : P < 2 ^ 256) (_hQ : Q < 2 ^ 256) (_hG : G < 2 ^ 256) (hA : A < 2 ^ 256) (hM : M < 2 ^ 256) (hN : N < 2 ^ 256) :
    f27.F 100000 (num P, num Q, num G, num A, num M, num N) = some true := by
  simp only [f27.F, f27.T, f80.spec P A M _ _ hP hA hM, f80.spec P A N _ _ hP hA hN, f89.spec, bind_s]
  by_cases ga : gin P A = true
  · obtain ⟨h1, a0, la⟩ := gin_iff.1 ga
    have hp : 0 < P := by omega
    have k1 := Nat.mod_lt (A ^ M) hp
    have k2 := Nat.mod_lt (A ^ N) hp
    have l1 : A ^ M % P < 2 ^ 256 := Nat.lt_trans k1 hP
    have l2 : A ^ N % P < 2 ^ 256 := Nat.lt_trans k2 hP
    rw [if_pos ga, if_pos ga]
    simp only [ne00, cond_f, zero_of _ l1, zero_of _ l2]
    by_cases z1 : A ^ M % P = 0
    · rw [decide_eq_true z1]; rfl
    · rw [decide_eq_false z1, cond_f]
      by_cases z2 : A ^ N % P = 0
      · rw [decide_eq_true z2]; rfl
      · rw [decide_eq_false z2, cond_f]
        have g1 : gin P (A ^ M % P) = true := gin_iff.2 ⟨h1, z1, k1⟩
        have g2 : gin P (A ^ N % P) = true := gin_iff.2 ⟨h1, z2, k2⟩
        have e : (A ^ M % P) ^ N % P = (A ^ N % P) ^ M % P := by
          rw [← Nat.pow_mod, ← Nat.pow_mod, ← Nat.pow_mul, ← Nat.pow_mul, Nat.mul_comm]
        simp only [f80.spec P _ N _ _ hP l1 hN, f80.spec P _ M _ _ hP l2 hM, g1, g2, if_true, bind_s, e, beq_self_eq_true, cond_t, eqL_num, decide_true, Bool.and_true]
  · rw [if_neg ga, if_neg ga]; rfl

/-- GroupsWhole. -/
theorem f28.holds (P Q G A B : Nat) (hP : P < 2 ^ 256) (_hQ : Q < 2 ^ 256) (_hG : G < 2 ^ 256) (hA : A < 2 ^ 256) (hB : B < 2 ^ 256) :
    f28.F 100000 (num P, num Q, num G, num A, num B) = some true := by
  simp only [f28.F, f28.T, f79.spec P A B _ _ hP hA hB, f89.spec, bind_s]
  by_cases hg : (gin P A && gin P B) = true
  · obtain ⟨ga, gb⟩ := Bool.and_eq_true_iff.1 hg
    obtain ⟨h1, a0, la⟩ := gin_iff.1 ga
    obtain ⟨_, b0, lb⟩ := gin_iff.1 gb
    have e0 : A ^ 0 % P = 1 := by rw [Nat.pow_zero, Nat.mod_eq_of_lt h1]
    have e1 : A ^ 1 % P = A := by rw [Nat.pow_one, Nat.mod_eq_of_lt la]
    rw [if_pos hg]
    simp only [ne00, cond_f, f63.good h1 la lb hP, f63.good h1 lb la hP, num_zero, f80.spec P A 0 _ _ hP hA (by decide), f80.spec P A 1 _ _ hP hA (by decide), ga, if_true, f46.one, bind_s, e0, e1, Nat.mul_comm B A, beq_self_eq_true, cond_t, eqL_num, decide_true, Bool.and_true]
  · rw [if_neg hg]
    simp only [ne10, cond_t, beq_self_eq_true, num_zero, eqL_num, decide_true, Bool.and_true]

/-- SigsKeys. -/
theorem f23.holds (P Q G M N : Nat) (hP : P < 2 ^ 256) (hQ : Q < 2 ^ 256) (hG : G < 2 ^ 256) (hM : M < 2 ^ 256) (hN : N < 2 ^ 256) :
    f23.F 100000 (num P, num Q, num G, num M, num N) = some true := by
  simp only [f23.F, f23.T, f77.spec P Q G M hP hQ hG hM, f77.spec P Q G N hP hQ hG hN, f78.spec, bind_s]
  by_cases sm : gsec P Q G M = true
  · rw [if_pos sm]
    by_cases sn : gsec P Q G N = true
    · rw [if_pos sn]
      have hf : gfine P Q G = true := (Bool.and_eq_true_iff.1 sm).1
      have hf' := hf
      unfold gfine at hf'
      simp only [Bool.and_eq_true, decide_eq_true_eq] at hf'
      obtain ⟨q1, g1, hm⟩ := hf'
      obtain ⟨gg, eg⟩ := gmem_iff.1 hm
      obtain ⟨h1, _, lg⟩ := gin_iff.1 gg
      have hp : 0 < P := by omega
      have m1 := gmem_mk h1 (by omega) (Nat.mod_lt _ hp) (pow_mem M h1 eg)
      have m2 := gmem_mk h1 (by omega) (Nat.mod_lt _ hp) (pow_mem N h1 eg)
      have l1 : G ^ M % P < 2 ^ 256 := Nat.lt_trans (Nat.mod_lt _ hp) hP
      have l2 : G ^ N % P < 2 ^ 256 := Nat.lt_trans (Nat.mod_lt _ hp) hP
      have e1 : G ^ M % P * (G ^ N % P) % P = G ^ (M + N) % P := by rw [← Nat.mul_mod, ← Nat.pow_add]
      simp only [ne00, cond_f, f32.all, mod_self_of hM, mod_self_of hN, bind_s, carry_ne (M + N) (by omega)]
      by_cases hc : 2 ^ 256 ≤ M + N
      · rw [decide_eq_true hc]; rfl
      · have hMN : M + N < 2 ^ 256 := by omega
        rw [decide_eq_false hc, cond_f]
        simp only [f44.all, bind_s, cmp_gt]
        cases decide (Q % 2 ^ 256 < (M + N) % 2 ^ 256)
        · simp only [cond_f, f79.spec P _ _ _ _ hP l1 l2, (gmem_iff.1 m1).1, (gmem_iff.1 m2).1, Bool.and_self, if_true, bind_s, e1, f80.spec P G _ _ _ hP hG hMN, gg, beq_self_eq_true, cond_t, eqL_num, decide_true, Bool.and_true]
        · rfl
    · rw [if_neg sn]; rfl
  · rw [if_neg sm]; rfl

end Go.Proofs
