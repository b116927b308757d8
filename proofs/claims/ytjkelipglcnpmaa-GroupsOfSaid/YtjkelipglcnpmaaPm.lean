/- Plain laws: lemmas that hold with no condition but those that each states. -/
import Derived.Test.YtjkelipglcnpmaaPe
import Derived.Test.YtjkelipglcnpmaaFm
namespace Go.Proofs
open Go.VM

/-! ### mods: the ring -/

theorem f105.spec (K : Nat) : f105.F K () = some (num 1) := by
  simp only [f105.F, f105.T, f46.one, bind_s]

/-- Numbers below one that is above 1. -/
def may1 (A M : Nat) : Bool := decide (1 < M) && decide (A < M)
def may2 (A B M : Nat) : Bool := decide (1 < M) && decide (A < M) && decide (B < M)

theorem may1_iff {A M : Nat} : may1 A M = true ↔ 1 < M ∧ A < M := by simp [may1]
theorem may2_iff {A B M : Nat} : may2 A B M = true ↔ 1 < M ∧ A < M ∧ B < M := by simp [may2, and_assoc]

theorem cmp_gt (A B : Nat) : decide (cmp A B > 0) = decide (B < A) := by
  unfold cmp
  by_cases h : A = B
  · subst h; simp
  · rw [if_neg h]
    by_cases h2 : A < B
    · rw [if_pos h2, decide_eq_false (by omega), decide_eq_false (by omega)]
    · rw [if_neg h2, decide_eq_true (by omega), decide_eq_true (by omega)]

theorem cmp_le (A B : Nat) : decide (cmp A B ≤ 0) = decide (A ≤ B) := by
  unfold cmp
  by_cases h : A = B
  · subst h; simp
  · rw [if_neg h]
    by_cases h2 : A < B
    · rw [if_pos h2, decide_eq_true (by omega), decide_eq_true (by omega)]
    · rw [if_neg h2, decide_eq_false (by omega), decide_eq_false (by omega)]

theorem f124.spec (M : Nat) (hM : M < 2 ^ 256) : f124.F 100000 (num M) = some (if blen M ≤ 64 then .inl (num M) else .inr (num M)) := by
  simp only [f124.F, f124.T, f42.all, mod_self_of hM, bind_s]
  by_cases h : blen M ≤ 64
  · rw [decide_eq_true (show ((blen M : Nat) : Int) ≤ 64 by omega), cond_t, if_pos h]
  · rw [decide_eq_false (show ¬ ((blen M : Nat) : Int) ≤ 64 by omega), cond_f, if_neg h]

theorem f104.ok2 (A B M : Nat) (hA : A < 2 ^ 256) (hB : B < 2 ^ 256) (hM : M < 2 ^ 256) (b : Bool) :
    iter (f104.s0 100000) 100000 (b, 2, 0, num A ++ num B, num M) = some (b && decide (A < M) && decide (B < M), num A ++ num B, num M) := by
  have mA := mod_self_of hA
  have mB := mod_self_of hB
  have mM := mod_self_of hM
  have r0 : List.take 4 (List.drop (Int.toNat (0 : Int) * 4) (num A ++ num B)) = num A := rfl
  have r1 : List.take 4 (List.drop (Int.toNat (1 : Int) * 4) (num A ++ num B)) = num B := rfl
  rw [show (100000 : Nat) = 99997 + 1 + 1 + 1 from rfl, iter]
  have w0 : IntKind.wrap .i64 ((0 : Int) + 1) = 1 := by decide
  have w1 : IntKind.wrap .i64 ((1 : Int) + 1) = 2 := by decide
  simp only [f104.s0, f104.s0t]
  rw [decide_eq_true (show (0 : Int) < 2 by decide), cond_t, decide_eq_true (show (0 : Int) ≤ 0 ∧ (0 : Int) < 2 by decide), cond_t, r0, w0]
  have second : ∀ b' : Bool, iter (f104.s0 100000) (99997 + 1 + 1) (b', 2, 1, num A ++ num B, num M) = some (b' && decide (B < M), num A ++ num B, num M) := by
    intro b'
    rw [iter]
    simp only [f104.s0, f104.s0t]
    rw [decide_eq_true (show (1 : Int) < 2 by decide), cond_t, decide_eq_true (show (0 : Int) ≤ 1 ∧ (1 : Int) < 2 by decide), cond_t, r1, w1]
    have third : ∀ b'' : Bool, iter (f104.s0 100000) (99997 + 1) (b'', 2, 2, num A ++ num B, num M) = some (b'', num A ++ num B, num M) := by
      intro b''
      rw [iter]
      simp only [f104.s0, f104.s0t]
      rw [decide_eq_false (show ¬ (2 : Int) < 2 by decide), cond_f]
    cases b' with
    | false => rw [cond_f]; exact third false
    | true =>
      have e : f44.F 100000 (num B, num M) = some (cmp B M) := by rw [f44.all, mB, mM]
      rw [cond_t, e, bind_s, cmp_lt]; exact third _
  cases b with
  | false => rw [cond_f]; exact second false
  | true =>
    have e : f44.F 100000 (num A, num M) = some (cmp A M) := by rw [f44.all, mA, mM]
    rw [cond_t, e, bind_s, cmp_lt]; exact second _

/-- goes, of two numbers. -/
theorem f104.spec (A B M : Nat) (hA : A < 2 ^ 256) (hB : B < 2 ^ 256) (hM : M < 2 ^ 256) :
    f104.F 100000 (num M, num A ++ num B) = some (if may2 A B M = true then (if blen M ≤ 64 then .inr (.inl (0, num A ++ num B, num M)) else .inr (.inr (0, num A ++ num B, num M))) else .inl (1, num A ++ num B)) := by
  simp only [f104.F, f104.T, f105.spec, bind_s, f44.all, mod_self_of hM, show (1 : Nat) % 2 ^ 256 = 1 from rfl, cmp_gt, f104.ok2 A B M hA hB hM, f124.spec M hM]
  rw [show (decide (1 < M) && decide (A < M) && decide (B < M)) = may2 A B M from rfl]
  cases may2 A B M with
  | false => rfl
  | true =>
    simp only [Bool.not_true, cond_f, if_true]
    by_cases h : blen M ≤ 64
    · rw [if_pos h, if_pos h]; rfl
    · rw [if_neg h, if_neg h]; rfl

theorem f104v1.ok1 (A M : Nat) (hA : A < 2 ^ 256) (hM : M < 2 ^ 256) (b : Bool) :
    iter (f104v1.s0 100000) 100000 (b, 1, 0, num A, num M) = some (b && decide (A < M), num A, num M) := by
  have mA := mod_self_of hA
  have mM := mod_self_of hM
  have r0 : List.take 4 (List.drop (Int.toNat (0 : Int) * 4) (num A)) = num A := rfl
  have w0 : IntKind.wrap .i64 ((0 : Int) + 1) = 1 := by decide
  rw [show (100000 : Nat) = 99998 + 1 + 1 from rfl, iter]
  simp only [f104v1.s0, f104v1.s0t]
  rw [decide_eq_true (show (0 : Int) < 1 by decide), cond_t, decide_eq_true (show (0 : Int) ≤ 0 ∧ (0 : Int) < 1 by decide), cond_t, r0, w0]
  have second : ∀ b' : Bool, iter (f104v1.s0 100000) (99998 + 1) (b', 1, 1, num A, num M) = some (b', num A, num M) := by
    intro b'
    rw [iter]
    simp only [f104v1.s0, f104v1.s0t]
    rw [decide_eq_false (show ¬ (1 : Int) < 1 by decide), cond_f]
  cases b with
  | false => rw [cond_f]; exact second false
  | true =>
    have e : f44.F 100000 (num A, num M) = some (cmp A M) := by rw [f44.all, mA, mM]
    rw [cond_t, e, bind_s, cmp_lt]; exact second _

/-- goes, of one number. -/
theorem f104v1.spec (A M : Nat) (hA : A < 2 ^ 256) (hM : M < 2 ^ 256) :
    f104v1.F 100000 (num M, num A) = some (if may1 A M = true then (if blen M ≤ 64 then .inr (.inl (0, num A, num M)) else .inr (.inr (0, num A, num M))) else .inl (1, num A)) := by
  simp only [f104v1.F, f104v1.T, f105.spec, bind_s, f44.all, mod_self_of hM, show (1 : Nat) % 2 ^ 256 = 1 from rfl, cmp_gt, f104v1.ok1 A M hA hM, f124.spec M hM]
  rw [show (decide (1 < M) && decide (A < M)) = may1 A M from rfl]
  cases may1 A M with
  | false => rfl
  | true =>
    simp only [Bool.not_true, cond_f, if_true]
    by_cases h : blen M ≤ 64
    · rw [if_pos h, if_pos h]; rfl
    · rw [if_neg h, if_neg h]; rfl

/-- plus. -/
theorem f132.spec (A B M : Nat) (hA : A < M) (hB : B < M) (hM : M < 2 ^ 256) : f132.F 100000 (num A, num B, num M) = some (num ((A + B) % M), num M) := by
  have mA := mod_self_of (Nat.lt_trans hA hM)
  have mB := mod_self_of (Nat.lt_trans hB hM)
  have mM := mod_self_of hM
  have hm := mod_once (S := A + B) (M := M) (by omega)
  have hx : num (M + 2 ^ 256 - B) = num (M - B) := by rw [show M + 2 ^ 256 - B = M - B + 2 ^ 256 by omega, num_add_mod]
  have mx : (M - B) % 2 ^ 256 = M - B := Nat.mod_eq_of_lt (by omega)
  simp only [f132.F, f132.T, f34.all, f44.all, f32.all, bind_s, mA, mB, mM, hx, mx, cmp_ge]
  by_cases h : M - B ≤ A
  · rw [decide_eq_true h, cond_t, hm, if_pos (by omega), show A + 2 ^ 256 - (M - B) = A + B - M + 2 ^ 256 by omega, num_add_mod]
  · rw [decide_eq_false h, cond_f, hm, if_neg (by omega)]

/-- less. -/
theorem f131.spec (A B M : Nat) (hA : A < M) (hB : B < M) (hM : M < 2 ^ 256) : f131.F 100000 (num A, num B, num M) = some (num ((A + M - B) % M), num M) := by
  have mA := mod_self_of (Nat.lt_trans hA hM)
  have mB := mod_self_of (Nat.lt_trans hB hM)
  have mM := mod_self_of hM
  have hm := mod_once (S := A + M - B) (M := M) (by omega)
  simp only [f131.F, f131.T, f34.all, f32.all, bind_s, mA, mB, mM]
  by_cases h : A < B
  · rw [if_pos h, show decide (((1 : Nat) : Int) > 0) = true from rfl, cond_t, show A + 2 ^ 256 - B + M = A + M - B + 2 ^ 256 by omega, num_add_mod, hm, if_neg (by omega)]
  · rw [if_neg h, show decide (((0 : Nat) : Int) > 0) = false from rfl, cond_f, show A + 2 ^ 256 - B = A - B + 2 ^ 256 by omega, num_add_mod, hm, if_pos (by omega), show A + M - B - M = A - B by omega]

/-- times, of any numbers. -/
theorem f133.spec (A B M : Nat) (hA : A < 2 ^ 256) (hB : B < 2 ^ 256) (h0 : 0 < M) (hM : M < 2 ^ 256) : f133.F 100000 (num A, num B, num M) = some (num (A * B % M), num M) := by
  have mA := mod_self_of hA
  have mB := mod_self_of hB
  have hP : A * B < 2 ^ 256 * 2 ^ 256 := Nat.mul_lt_mul'' hA hB
  have hh : A * B / 2 ^ 256 < 2 ^ 256 := Nat.div_lt_of_lt_mul hP
  have hl : A * B % 2 ^ 256 < 2 ^ 256 := Nat.mod_lt _ (Nat.two_pow_pos 256)
  have e : A * B / 2 ^ 256 * 2 ^ 256 + A * B % 2 ^ 256 = A * B := by have := Nat.mod_add_div (A * B) (2 ^ 256); rw [Nat.mul_comm (2 ^ 256)] at this; omega
  simp only [f133.F, f133.T, f36.all, mA, mB, bind_s]
  rw [← num_mod (A * B), f54.spec _ _ M hl hh hM h0, bind_s, e]

theorem f135.spec (K hi lo y : Nat) (hy : y < 18446744073709551616) (h0 : 0 < y) (hlo : lo < 18446744073709551616) (hK : 1 < K) : f135.F K ((hi : Int), (lo : Int), (y : Int)) = some (((hi * 18446744073709551616 + lo) % y : Nat) : Int) := by
  simp only [f135.F, f135.T]
  rw [decide_eq_true (show (y : Int) ≠ 0 by omega), cond_t, tmod_nat, f100.spec K _ lo y hy (Nat.mod_lt _ h0) hlo hK, bind_s]
  simp only []
  rw [mod_step]

/-- times, of words. -/
theorem f134.spec (A B M : Nat) (hA : A < 2 ^ 64) (hB : B < 2 ^ 64) (h0 : 0 < M) (hM : M < 2 ^ 64) : f134.F 100000 (num A, num B, num M) = some (num (A * B % M), num M) := by
  have e : A * B / 2 ^ 64 * 18446744073709551616 + A * B % 2 ^ 64 = A * B := by have := Nat.mod_add_div (A * B) (2 ^ 64); omega
  have hr := Nat.mod_lt (A * B) h0
  simp only [f134.F, f134.T, word0 A hA, word0 B hB, word0 M hM]
  rw [f125.spec 100000 A B hA hB, bind_s]
  simp only []
  rw [f135.spec 100000 _ _ M hM h0 (Nat.mod_lt _ (by decide)) (by decide), bind_s, e, f46.nat _ _ (by omega), bind_s]

end Go.Proofs

namespace Go.Proofs
open Go.VM

/-! ### mods.Add, Sub, Mul, Exp -/

theorem alt_l {A B C : Type} (f : A → C) (g : B → C) (a : A) : alt f g (.inl a) = f a := Eq.trans (show alt f g (.inl a) = f a from by unfold alt; rfl) (Eq.symm (Eq.symm rfl))
theorem alt_r {A B C : Type} (f : A → C) (g : B → C) (b : B) : alt f g (.inr b) = g b := Eq.trans (show alt f g (.inr b) = g b from by unfold alt; rfl) (Eq.symm (Eq.symm rfl))

theorem ne00 : ((0 : Int) != 0) = false := rfl
theorem ne10 : ((1 : Int) != 0) = true := rfl
theorem num_zero : ([0, 0, 0, 0] : List Int) = num 0 := rfl

theorem f61.spec (A B M : Nat) (hA : A < 2 ^ 256) (hB : B < 2 ^ 256) (hM : M < 2 ^ 256) :
    f61.F 100000 (num A, num B, num M) = some (if may2 A B M = true then (num ((A + B) % M), 0) else (num 0, 1)) := by
  simp only [f61.F, f61.T, two_rows, f104.spec A B M hA hB hM, bind_s]
  by_cases h : may2 A B M = true
  · obtain ⟨h1, h2, h3⟩ := may2_iff.1 h
    rw [if_pos h, if_pos h]
    by_cases hb : blen M ≤ 64
    · rw [if_pos hb]
      simp only [alt_l, alt_r, ne00, cond_f, f132.spec A B M h2 h3 hM, bind_s]
    · rw [if_neg hb]
      simp only [alt_r, ne00, cond_f, f132.spec A B M h2 h3 hM, bind_s]
  · rw [if_neg h, if_neg h]
    simp only [alt_l, ne10, cond_t, num_zero]

theorem f62.spec (A B M : Nat) (hA : A < 2 ^ 256) (hB : B < 2 ^ 256) (hM : M < 2 ^ 256) :
    f62.F 100000 (num A, num B, num M) = some (if may2 A B M = true then (num ((A + M - B) % M), 0) else (num 0, 1)) := by
  simp only [f62.F, f62.T, two_rows, f104.spec A B M hA hB hM, bind_s]
  by_cases h : may2 A B M = true
  · obtain ⟨h1, h2, h3⟩ := may2_iff.1 h
    rw [if_pos h, if_pos h]
    by_cases hb : blen M ≤ 64
    · rw [if_pos hb]
      simp only [alt_l, alt_r, ne00, cond_f, f131.spec A B M h2 h3 hM, bind_s]
    · rw [if_neg hb]
      simp only [alt_r, ne00, cond_f, f131.spec A B M h2 h3 hM, bind_s]
  · rw [if_neg h, if_neg h]
    simp only [alt_l, ne10, cond_t, num_zero]

theorem lt_64 {M : Nat} (h : blen M ≤ 64) : M < 2 ^ 64 := Nat.lt_of_lt_of_le (blen_lt M) (Nat.pow_le_pow_right (by decide) h)

theorem f63.spec (A B M : Nat) (hA : A < 2 ^ 256) (hB : B < 2 ^ 256) (hM : M < 2 ^ 256) :
    f63.F 100000 (num A, num B, num M) = some (if may2 A B M = true then (num (A * B % M), 0) else (num 0, 1)) := by
  simp only [f63.F, f63.T, two_rows, f104.spec A B M hA hB hM, bind_s]
  by_cases h : may2 A B M = true
  · obtain ⟨h1, h2, h3⟩ := may2_iff.1 h
    rw [if_pos h, if_pos h]
    by_cases hb : blen M ≤ 64
    · have hM64 := lt_64 hb
      rw [if_pos hb]
      simp only [alt_l, alt_r, ne00, cond_f, f134.spec A B M (by omega) (by omega) (by omega) hM64, bind_s]
    · rw [if_neg hb]
      simp only [alt_r, ne00, cond_f, f133.spec A B M hA hB (by omega) hM, bind_s]
  · rw [if_neg h, if_neg h]
    simp only [alt_l, ne10, cond_t, num_zero]

/-- Powers, bit by bit. -/
theorem pow_sq (A M i : Nat) : A ^ 2 ^ i % M * (A ^ 2 ^ i % M) % M = A ^ 2 ^ (i + 1) % M := by
  rw [← Nat.mul_mod, ← Nat.pow_add, ← Nat.two_mul, ← Nat.pow_succ']

theorem pow_bit (A M N i : Nat) (h : N / 2 ^ i % 2 = 1) : A ^ (N % 2 ^ i) % M * (A ^ 2 ^ i % M) % M = A ^ (N % 2 ^ (i + 1)) % M := by
  rw [← Nat.mul_mod, ← Nat.pow_add, Nat.pow_succ 2 i, Nat.mod_mul, h, Nat.mul_one]

theorem pow_nobit (A N i : Nat) (h : N / 2 ^ i % 2 = 0) : A ^ (N % 2 ^ (i + 1)) = A ^ (N % 2 ^ i) := by
  rw [Nat.pow_succ 2 i, Nat.mod_mul, h, Nat.mul_zero, Nat.add_zero]

theorem f64.small (A N M : Nat) (hN : N < 2 ^ 256) (h1 : 1 < M) (hM : M < 2 ^ 64) (hA : A < M) (z : List Int) :
    iter (f64.s0b 100000) 100000 (((blen N : Nat) : Int), 0, num A, num N, z, num 1, num M) = some (z, num (A ^ N % M)) := by
  have hb := blen_256 hN
  have key := iter_for (stp := f64.s0b 100000) (N := blen N) (fun i => (((blen N : Nat) : Int), (i : Int), num (A ^ 2 ^ i % M), num N, z, num (A ^ (N % 2 ^ i) % M), num M))
    (y := some (z, num (A ^ N % M))) (fun i hi rec => by
      simp only [f64.s0b, f64.s0bt]
      have w2 : IntKind.wrap .i64 ((i : Int) + 1) = ((i + 1 : Nat) : Int) := by rw [wrap_i _ (by omega) (by omega)]; rfl
      have l1 : A ^ 2 ^ i % M < 2 ^ 64 := Nat.lt_trans (Nat.mod_lt _ (by omega)) hM
      have l2 : A ^ (N % 2 ^ i) % M < 2 ^ 64 := Nat.lt_trans (Nat.mod_lt _ (by omega)) hM
      rw [decide_eq_true (show (i : Int) < ((blen N : Nat) : Int) by omega), cond_t, f40.all N i (by omega), mod_self_of hN, bind_s, w2]
      rcases Nat.mod_two_eq_zero_or_one (N / 2 ^ i) with h | h
      · rw [h, show (((0 : Nat) : Int) == 1) = false from rfl, cond_f, f134.spec _ _ M l1 l1 (by omega) hM, bind_s, pow_sq, pow_nobit A N i h]
      · rw [h, show (((1 : Nat) : Int) == 1) = true from rfl, cond_t, f134.spec _ _ M l2 l1 (by omega) hM, bind_s]
        simp only []
        rw [f134.spec _ _ M l1 l1 (by omega) hM, bind_s, pow_sq, pow_bit A M N i h]) (fun rec => by
      simp only [f64.s0b, f64.s0bt]
      rw [decide_eq_false (Int.lt_irrefl _), cond_f, Nat.mod_eq_of_lt (blen_lt N)]) (show blen N < 100000 by omega)
  simp only [Nat.pow_zero, Nat.mod_one, Nat.pow_one, Nat.mod_eq_of_lt hA, Nat.mod_eq_of_lt h1] at key
  exact key

theorem f64.great (A N M : Nat) (hN : N < 2 ^ 256) (h1 : 1 < M) (hM : M < 2 ^ 256) (hA : A < M) (z : List Int) :
    iter (f64.s0c 100000) 100000 (((blen N : Nat) : Int), 0, num A, num N, z, num 1, num M) = some (z, num (A ^ N % M)) := by
  have hb := blen_256 hN
  have key := iter_for (stp := f64.s0c 100000) (N := blen N) (fun i => (((blen N : Nat) : Int), (i : Int), num (A ^ 2 ^ i % M), num N, z, num (A ^ (N % 2 ^ i) % M), num M))
    (y := some (z, num (A ^ N % M))) (fun i hi rec => by
      simp only [f64.s0c, f64.s0ct]
      have w2 : IntKind.wrap .i64 ((i : Int) + 1) = ((i + 1 : Nat) : Int) := by rw [wrap_i _ (by omega) (by omega)]; rfl
      have l1 : A ^ 2 ^ i % M < 2 ^ 256 := Nat.lt_trans (Nat.mod_lt _ (by omega)) hM
      have l2 : A ^ (N % 2 ^ i) % M < 2 ^ 256 := Nat.lt_trans (Nat.mod_lt _ (by omega)) hM
      rw [decide_eq_true (show (i : Int) < ((blen N : Nat) : Int) by omega), cond_t, f40.all N i (by omega), mod_self_of hN, bind_s, w2]
      rcases Nat.mod_two_eq_zero_or_one (N / 2 ^ i) with h | h
      · rw [h, show (((0 : Nat) : Int) == 1) = false from rfl, cond_f, f133.spec _ _ M l1 l1 (by omega) hM, bind_s, pow_sq, pow_nobit A N i h]
      · rw [h, show (((1 : Nat) : Int) == 1) = true from rfl, cond_t, f133.spec _ _ M l2 l1 (by omega) hM, bind_s]
        simp only []
        rw [f133.spec _ _ M l1 l1 (by omega) hM, bind_s, pow_sq, pow_bit A M N i h]) (fun rec => by
      simp only [f64.s0c, f64.s0ct]
      rw [decide_eq_false (Int.lt_irrefl _), cond_f, Nat.mod_eq_of_lt (blen_lt N)]) (show blen N < 100000 by omega)
  simp only [Nat.pow_zero, Nat.mod_one, Nat.pow_one, Nat.mod_eq_of_lt hA, Nat.mod_eq_of_lt h1] at key
  exact key

/-- Exp. -/
theorem f64.spec (A N M : Nat) (hA : A < 2 ^ 256) (hN : N < 2 ^ 256) (hM : M < 2 ^ 256) :
    f64.F 100000 (num A, num N, num M) = some (if may1 A M = true then (num (A ^ N % M), 0) else (num 0, 1)) := by
  simp only [f64.F, f64.T, f104v1.spec A M hA hM, bind_s, f105.spec, f42.all, mod_self_of hN]
  by_cases h : may1 A M = true
  · obtain ⟨h1, h2⟩ := may1_iff.1 h
    rw [if_pos h, if_pos h]
    by_cases hb : blen M ≤ 64
    · rw [if_pos hb]
      simp only [alt_l, alt_r, ne00, cond_f, f64.small A N M hN h1 (lt_64 hb) h2, bind_s]
    · rw [if_neg hb]
      simp only [alt_r, ne00, cond_f, f64.great A N M hN h1 hM h2, bind_s]
  · rw [if_neg h, if_neg h]
    simp only [alt_l, ne10, cond_t, num_zero]

/-! ### mods.Inv -/

/-- Of what two lines tell: their numbers, what a is multiplied with. -/
structure Lines (A M a p b q : Nat) : Prop where
  hle : b ≤ a
  ham : a ≤ M
  hgcd : Nat.gcd a b = Nat.gcd A M
  hp : p < M
  hq : q < M
  hap : A * p % M = a % M
  hbq : A * q % M = b % M

/-- What is taken away, by a modulus. -/
theorem sub_mod (x y M : Nat) (hy : y < M) : (x % M + M - y) % M = (x + (M - y)) % M := by
  have : x % M + M - y = x % M + (M - y) := by omega
  rw [this, Nat.add_mod, Nat.mod_mod, ← Nat.add_mod]

theorem Lines.step {A M a p b q : Nat} (h : Lines A M a p b q) (hb : 0 < b) : Lines A M b q (a % b) ((p + M - a / b * q % M) % M) := by
  have hM : 0 < M := by have := h.hp; omega
  have hm := Nat.mod_lt (a / b * q) hM
  refine ⟨Nat.le_of_lt (Nat.mod_lt _ hb), Nat.le_trans h.hle h.ham, ?_, h.hq, Nat.mod_lt _ hM, h.hbq, ?_⟩
  · rw [← h.hgcd, Nat.gcd_comm b, ← Nat.gcd_rec, Nat.gcd_comm]
  · -- A * (p - k q) = a - k b, by M
    have e0 : (A * ((p + M - a / b * q % M) % M) + a / b * (A * q)) % M = A * p % M := by
      have e1 : (p + M - a / b * q % M + a / b * q) % M = p % M := by
        have h2 := Nat.mod_add_div (a / b * q) M
        have : p + M - a / b * q % M + a / b * q = p + M * (1 + a / b * q / M) := by rw [Nat.mul_add, Nat.mul_one]; omega
        rw [this, Nat.add_mul_mod_self_left]
      have e2 : a / b * (A * q) = A * (a / b * q) := by rw [← Nat.mul_assoc, Nat.mul_comm (a / b) A, Nat.mul_assoc]
      rw [e2, ← Nat.mul_add, Nat.mul_mod, Nat.mod_add_mod, e1, ← Nat.mul_mod]
    have e3 : (a % b + a / b * b) % M = a % M := by have := Nat.mod_add_div a b; rw [Nat.mul_comm b] at this; rw [this]
    have e4 : (A * ((p + M - a / b * q % M) % M) + a / b * b) % M = (a % b + a / b * b) % M := by
      rw [e3, ← h.hap, ← e0, Nat.add_mod _ (a / b * b), Nat.add_mod _ (a / b * (A * q)), Nat.mul_mod (a / b) b, Nat.mul_mod (a / b) (A * q), h.hbq]
    -- both sides less the same
    have cancel : ∀ x y c : Nat, (x + c) % M = (y + c) % M → x % M = y % M := by
      intro x y c hxy
      have h1 : (x + c + (M - c % M)) % M = (y + c + (M - c % M)) % M := by rw [Nat.add_mod, hxy, ← Nat.add_mod]
      have h2 : ∀ z, z + c + (M - c % M) = z + M * (1 + c / M) := by
        intro z
        have h3 := Nat.mod_add_div c M
        have h4 := Nat.mod_lt c hM
        rw [Nat.mul_add, Nat.mul_one]
        omega
      rw [h2, h2, Nat.add_mul_mod_self_left, Nat.add_mul_mod_self_left] at h1
      exact h1
    exact cancel _ _ _ e4

theorem blen_rem {a b : Nat} (hb : 0 < b) (h : b ≤ a) : blen (a % b) < blen a := by
  have h1 : 1 ≤ a / b := (Nat.le_div_iff_mul_le hb).2 (by omega)
  have h2 := Nat.mod_add_div a b
  have h3 : b * 1 ≤ b * (a / b) := Nat.mul_le_mul_left b h1
  have h4 := Nat.mod_lt a hb
  have h5 : a % b ≤ a / 2 := by omega
  have h6 := blen_mono h5
  by_cases h0 : a / 2 = 0
  · rw [h0, blen_zero] at h6
    have := (blen_ge (x := a) (by omega)).2
    omega
  · have := blen_shift a 1 (by simpa using h0)
    rw [Nat.pow_one] at this
    omega

end Go.Proofs

namespace Go.Proofs
open Go.VM

theorem cmp_eq0 (A B : Nat) : (cmp A B == 0) = decide (A = B) := by
  unfold cmp
  by_cases h : A = B
  · subst h; simp
  · rw [if_neg h]
    by_cases h2 : A < B
    · rw [if_pos h2, decide_eq_false h]; rfl
    · rw [if_neg h2, decide_eq_false h]; rfl

/-- The loop of Inv. -/
theorem Lines.loop {A M : Nat} {stp : (List Int × List Int × List Int × List Int × List Int × List Int × List Int → Option (List Int × List Int × List Int)) → List Int × List Int × List Int × List Int × List Int × List Int × List Int → Option (List Int × List Int × List Int)} (hA : A < M) (h1 : 1 < M) (hM : M < 2 ^ 256) (z : List Int)
    (h0 : ∀ a p, ∀ rec, stp rec (num M, z, num a, num p, num 0, num 1, num M) = some (z, num a, num p))
    (h0' : ∀ a p q, ∀ rec, stp rec (num M, z, num a, num p, num 0, num q, num M) = some (z, num a, num p))
    (hs : ∀ a p b q, 0 < b → b ≤ a → a ≤ M → p < M → q < M → ∀ rec, stp rec (num M, z, num a, num p, num b, num q, num M) = rec (num M, z, num b, num q, num (a % b), num ((p + M - a / b * q % M) % M), num M)) :
    ∃ p, p < M ∧ A * p % M = Nat.gcd A M % M ∧ iter stp 100000 (num M, z, num M, num 0, num A, num 1, num M) = some (z, num (Nat.gcd A M), num p) := by
  obtain ⟨y, ⟨p, hp, hq, rfl⟩, h⟩ := iter_inv (stp := stp) (fun m x => ∃ a p b q, x = (num M, z, num a, num p, num b, num q, num M) ∧ Lines A M a p b q ∧ blen a + blen b ≤ m)
    (fun y => ∃ p, p < M ∧ A * p % M = Nat.gcd A M % M ∧ y = (z, num (Nat.gcd A M), num p)) (by
      intro m x ⟨a, p, b, q, hx, hl, hm⟩
      subst hx
      by_cases hb : b = 0
      · subst hb
        have hg : a = Nat.gcd A M := by have := hl.hgcd; rw [Nat.gcd_zero_right] at this; exact this
        exact .inl ⟨_, ⟨p, hl.hp, by rw [← hg]; exact hl.hap, by rw [← hg]⟩, h0' a p q⟩
      · have hb0 : 0 < b := by omega
        have hr := blen_rem hb0 hl.hle
        exact .inr ⟨_, blen b + blen (a % b), by omega, ⟨_, _, _, _, rfl, hl.step hb0, Nat.le_refl _⟩, hs a p b q hb0 hl.hle hl.ham hl.hp hl.hq⟩)
    512 _ ⟨M, 0, A, 1, rfl, ⟨Nat.le_of_lt hA, Nat.le_refl _, Nat.gcd_comm _ _, by omega, h1, by rw [Nat.mul_zero, Nat.zero_mod, Nat.mod_self], by rw [Nat.mul_one]⟩, by
      have := blen_256 hM; have := blen_256 (Nat.lt_trans hA hM); omega⟩ 100000 (by decide)
  exact ⟨p, hp, hq, h⟩

theorem times_whole (q k M : Nat) (h : k = M) : 0 * q % M = k * q % M := by
  subst h; rw [Nat.zero_mul, Nat.zero_mod, Nat.mul_mod_right]

theorem f65.small (A M : Nat) (hA : A < M) (h1 : 1 < M) (hM64 : M < 2 ^ 64) (z : List Int) :
    ∃ p, p < M ∧ A * p % M = Nat.gcd A M % M ∧ iter (f65.s0b 100000) 100000 (num M, z, num M, num 0, num A, num 1, num M) = some (z, num (Nat.gcd A M), num p) := by
  have hM : M < 2 ^ 256 := Nat.lt_trans hM64 (by decide)
  have p0 : (0 : Nat) < 2 ^ 256 := by decide
  have z0 : ∀ a p q, ∀ rec, (f65.s0b 100000) rec (num M, z, num a, num p, num 0, num q, num M) = some (z, num a, num p) := by
    intro a p q rec
    simp only [f65.s0b, f65.s0bt, num_zero, eqL_num, decide_true, Bool.and_true, Bool.not_true, cond_f]
  refine Lines.loop hA h1 hM z (fun a p rec => z0 a p 1 rec) z0 ?_
  intro a p b q hb hba haM hp hq rec
  have ha : a < 2 ^ 256 := by omega
  have hb' : b < 2 ^ 256 := by omega
  have hk : a / b ≤ M := Nat.le_trans (Nat.div_le_self a b) haM
  have mk : a / b % 2 ^ 256 = a / b := Nat.mod_eq_of_lt (by omega)
  have hmul := Nat.mod_lt (a / b * q) (show 0 < M by omega)
  simp only [f65.s0b, f65.s0bt, num_zero, eqN b 0 hb' p0, Bool.and_true]
  rw [decide_eq_false (show ¬ b = 0 by omega), Bool.not_false, cond_t, f52.spec a b ha hb' hb, bind_s, f44.all, bind_s, mk, mod_self_of hM, cmp_eq0]
  by_cases h : a / b = M
  · rw [decide_eq_true h, cond_t, f134.spec 0 q M (by decide) (by omega) (by omega) hM64, bind_s, times_whole q _ _ h]
    simp only []
    rw [f131.spec p _ M hp hmul hM, bind_s]
  · rw [decide_eq_false h, cond_f, f134.spec (a / b) q M (by omega) (by omega) (by omega) hM64, bind_s]
    simp only []
    rw [f131.spec p _ M hp hmul hM, bind_s]

theorem f65.great (A M : Nat) (hA : A < M) (h1 : 1 < M) (hM : M < 2 ^ 256) (z : List Int) :
    ∃ p, p < M ∧ A * p % M = Nat.gcd A M % M ∧ iter (f65.s0c 100000) 100000 (num M, z, num M, num 0, num A, num 1, num M) = some (z, num (Nat.gcd A M), num p) := by
  have p0 : (0 : Nat) < 2 ^ 256 := by decide
  have z0 : ∀ a p q, ∀ rec, (f65.s0c 100000) rec (num M, z, num a, num p, num 0, num q, num M) = some (z, num a, num p) := by
    intro a p q rec
    simp only [f65.s0c, f65.s0ct, num_zero, eqL_num, decide_true, Bool.and_true, Bool.not_true, cond_f]
  refine Lines.loop hA h1 hM z (fun a p rec => z0 a p 1 rec) z0 ?_
  intro a p b q hb hba haM hp hq rec
  have ha : a < 2 ^ 256 := by omega
  have hb' : b < 2 ^ 256 := by omega
  have hk : a / b ≤ M := Nat.le_trans (Nat.div_le_self a b) haM
  have mk : a / b % 2 ^ 256 = a / b := Nat.mod_eq_of_lt (by omega)
  have hmul := Nat.mod_lt (a / b * q) (show 0 < M by omega)
  simp only [f65.s0c, f65.s0ct, num_zero, eqN b 0 hb' p0, Bool.and_true]
  rw [decide_eq_false (show ¬ b = 0 by omega), Bool.not_false, cond_t, f52.spec a b ha hb' hb, bind_s, f44.all, bind_s, mk, mod_self_of hM, cmp_eq0]
  by_cases h : a / b = M
  · rw [decide_eq_true h, cond_t, f133.spec 0 q M p0 (by omega) (by omega) hM, bind_s, times_whole q _ _ h]
    simp only []
    rw [f131.spec p _ M hp hmul hM, bind_s]
  · rw [decide_eq_false h, cond_f, f133.spec (a / b) q M (by omega) (by omega) (by omega) hM, bind_s]
    simp only []
    rw [f131.spec p _ M hp hmul hM, bind_s]

/-- Inv. -/
theorem f65.spec (A M : Nat) (hA : A < 2 ^ 256) (hM : M < 2 ^ 256) :
    ∃ p, (may1 A M = true → p < M ∧ A * p % M = Nat.gcd A M % M) ∧
    f65.F 100000 (num A, num M) = some (if may1 A M = true then (if Nat.gcd A M = 1 then (num p, 0) else (num 0, 7)) else (num 0, 1)) := by
  simp only [f65.F, f65.T, f104v1.spec A M hA hM, bind_s, f105.spec]
  by_cases h : may1 A M = true
  · obtain ⟨h1, h2⟩ := may1_iff.1 h
    have hg : Nat.gcd A M < 2 ^ 256 := gcd_lt hA hM
    rw [if_pos h]
    by_cases hb : blen M ≤ 64
    · obtain ⟨p, hp, hq, hi⟩ := f65.small A M h2 h1 (lt_64 hb) [0, 0, 0, 0]
      refine ⟨p, fun _ => ⟨hp, hq⟩, ?_⟩
      rw [if_pos hb, if_pos h]
      simp only [alt_l, alt_r, ne00, cond_f]
      rw [← num_zero] at hi
      rw [hi, bind_s]
      simp only [eqN _ 1 hg (by decide), Bool.and_true, num_zero]
      by_cases hgo : Nat.gcd A M = 1
      · rw [decide_eq_true hgo, if_pos hgo]; rfl
      · rw [decide_eq_false hgo, if_neg hgo]; rfl
    · obtain ⟨p, hp, hq, hi⟩ := f65.great A M h2 h1 hM [0, 0, 0, 0]
      refine ⟨p, fun _ => ⟨hp, hq⟩, ?_⟩
      rw [if_neg hb, if_pos h]
      simp only [alt_r, ne00, cond_f]
      rw [← num_zero] at hi
      rw [hi, bind_s]
      simp only [eqN _ 1 hg (by decide), Bool.and_true, num_zero]
      by_cases hgo : Nat.gcd A M = 1
      · rw [decide_eq_true hgo, if_pos hgo]; rfl
      · rw [decide_eq_false hgo, if_neg hgo]; rfl
  · refine ⟨0, fun h' => absurd h' h, ?_⟩
    rw [if_neg h, if_neg h]
    simp only [alt_l, ne10, cond_t, num_zero]

theorem inv_unique {A M p q : Nat} (hp : p < M) (hq : q < M) (h1 : A * p % M = 1) (h2 : A * q % M = 1) : p = q := by
  have e1 : p * (A * q) % M = p := by
    rw [Nat.mul_mod, h2, Nat.mul_one, Nat.mod_mod, Nat.mod_eq_of_lt hp]
  have e2 : p * (A * q) % M = q := by
    rw [show p * (A * q) = A * p * q by rw [Nat.mul_comm A p, Nat.mul_assoc], Nat.mul_mod, h1, Nat.one_mul, Nat.mod_mod, Nat.mod_eq_of_lt hq]
  exact e1.symm.trans e2

theorem gcd_of_inv {A M p : Nat} (h : A * p % M = 1) : Nat.gcd A M = 1 := by
  have h1 : Nat.gcd A M ∣ A * p % M := (Nat.dvd_mod_iff (Nat.gcd_dvd_right A M)).2 (Nat.dvd_trans (Nat.gcd_dvd_left A M) (Nat.dvd_mul_right A p))
  rw [h] at h1
  exact Nat.dvd_one.1 h1

/-- The inverse that is known. -/
theorem f65.known (A M p : Nat) (hA : A < M) (h1 : 1 < M) (hM : M < 2 ^ 256) (hp : p < M) (h : A * p % M = 1) : f65.F 100000 (num A, num M) = some (num p, 0) := by
  have hg := gcd_of_inv h
  obtain ⟨q, hq, hf⟩ := f65.spec A M (by omega) hM
  obtain ⟨hq1, hq2⟩ := hq (may1_iff.2 ⟨h1, hA⟩)
  rw [hg, Nat.mod_eq_of_lt h1] at hq2
  rw [hf, if_pos (may1_iff.2 ⟨h1, hA⟩), if_pos hg, inv_unique hp hq1 h hq2]

theorem f65.without (A M : Nat) (hA : A < M) (h1 : 1 < M) (hM : M < 2 ^ 256) (h : Nat.gcd A M ≠ 1) : f65.F 100000 (num A, num M) = some (num 0, 7) := by
  obtain ⟨q, hq, hf⟩ := f65.spec A M (by omega) hM
  rw [hf, if_pos (may1_iff.2 ⟨h1, hA⟩), if_neg h]

theorem f65.gets (A M : Nat) (hA : A < M) (h1 : 1 < M) (hM : M < 2 ^ 256) (h : Nat.gcd A M = 1) : ∃ p, p < M ∧ A * p % M = 1 ∧ f65.F 100000 (num A, num M) = some (num p, 0) := by
  obtain ⟨q, hq, hf⟩ := f65.spec A M (by omega) hM
  obtain ⟨hq1, hq2⟩ := hq (may1_iff.2 ⟨h1, hA⟩)
  rw [h, Nat.mod_eq_of_lt h1] at hq2
  exact ⟨q, hq1, hq2, by rw [hf, if_pos (may1_iff.2 ⟨h1, hA⟩), if_pos h]⟩

/-! ### What the law's own functions say -/

theorem f75.nat (K n : Nat) (h : n < 18446744073709551616) : f75.F K (n : Int) = some (num n) := by
  simp only [f75.F, f75.T, f46.nat K n h, bind_s]
theorem f75.one (K : Nat) : f75.F K 1 = some (num 1) := f75.nat K 1 (by decide)
theorem f75.two (K : Nat) : f75.F K 2 = some (num 2) := f75.nat K 2 (by decide)
theorem f74.spec (K : Nat) : f74.F K () = some (num 0) := rfl
theorem f73.spec (A M : Nat) (hA : A < 2 ^ 256) (hM : M < 2 ^ 256) (h0 : 0 < M) : f73.F 100000 (num A, num M) = some (num (A % M)) := by
  simp only [f73.F, f73.T, f52.spec A M hA hM h0, bind_s]
theorem f71.spec (M : Nat) (hM : M < 2 ^ 256) : f71.F 100000 (num M) = some (decide (M ≤ 1)) := by
  simp only [f71.F, f71.T, f75.one, f44.all, bind_s, cmp_le, mod_self_of hM, show (1 : Nat) % 2 ^ 256 = 1 from rfl]

theorem f61.good {A B M : Nat} (h1 : 1 < M) (hA : A < M) (hB : B < M) (hM : M < 2 ^ 256) : f61.F 100000 (num A, num B, num M) = some (num ((A + B) % M), 0) := by
  rw [f61.spec A B M (by omega) (by omega) hM, if_pos (may2_iff.2 ⟨h1, hA, hB⟩)]
theorem f62.good {A B M : Nat} (h1 : 1 < M) (hA : A < M) (hB : B < M) (hM : M < 2 ^ 256) : f62.F 100000 (num A, num B, num M) = some (num ((A + M - B) % M), 0) := by
  rw [f62.spec A B M (by omega) (by omega) hM, if_pos (may2_iff.2 ⟨h1, hA, hB⟩)]
theorem f63.good {A B M : Nat} (h1 : 1 < M) (hA : A < M) (hB : B < M) (hM : M < 2 ^ 256) : f63.F 100000 (num A, num B, num M) = some (num (A * B % M), 0) := by
  rw [f63.spec A B M (by omega) (by omega) hM, if_pos (may2_iff.2 ⟨h1, hA, hB⟩)]
theorem f64.good {A N M : Nat} (h1 : 1 < M) (hA : A < M) (hN : N < 2 ^ 256) (hM : M < 2 ^ 256) : f64.F 100000 (num A, num N, num M) = some (num (A ^ N % M), 0) := by
  rw [f64.spec A N M (by omega) hN hM, if_pos (may1_iff.2 ⟨h1, hA⟩)]

set_option maxRecDepth 100000 in
theorem f72.spec : f72.F 100000 () = some true := by kernel_rfl

end Go.Proofs

namespace Go.Proofs
open Go.VM

theorem less_one (M : Nat) (hM : M < 2 ^ 256) (h0 : 0 < M) : f34.F 100000 (num M, num 1) = some (num (M - 1), 0) := by
  rw [f34.all, mod_self_of hM, show (1 : Nat) % 2 ^ 256 = 1 from rfl, show M + 2 ^ 256 - 1 = M - 1 + 2 ^ 256 by omega, num_add_mod, if_neg (by omega)]; rfl

/-- ModsRound. -/
theorem f18.holds (N M : Nat) (hN : N < 2 ^ 256) (hM : M < 2 ^ 256) : f18.F 100000 (num N, num M) = some true := by
  simp only [f18.F, f18.T, f71.spec M hM, bind_s, f72.spec]
  by_cases h : M ≤ 1
  · rw [decide_eq_true h]; rfl
  · have h1 : 1 < M := by omega
    have h0 : 0 < M := by omega
    have ha := Nat.mod_lt N h0
    have hz : (0 + M - N % M) % M < M := Nat.mod_lt _ h0
    have h2 : 2 % M < M := Nat.mod_lt _ h0
    have e1 : (N % M + (0 + M - N % M) % M) % M = 0 := by
      rw [Nat.add_mod_mod, show N % M + (0 + M - N % M) = M by omega, Nat.mod_self]
    have e2 : N % M + (M - 1) = N % M + M - 1 := by omega
    have e3 : N % M * (2 % M) % M = (N % M + N % M) % M := by rw [Nat.mul_mod_mod, Nat.mul_two]
    rw [decide_eq_false h, cond_f]
    simp only [f73.spec N M hN hM h0, f73.spec 2 M (by decide) hM h0, f74.spec, f75.one, f75.two, less_one M hM h0, bind_s, f62.good h1 h0 ha hM, f61.good h1 ha hz hM, f61.good h1 ha (show M - 1 < M by omega) hM, f62.good h1 ha h1 hM, f61.good h1 ha ha hM, f63.good h1 ha h2 hM,
      cond_t, beq_self_eq_true, e1, e2, e3, eqL_num, decide_true, Bool.and_true]

theorem last_sq (M : Nat) (h1 : 1 < M) : (M - 1) * (M - 1) % M = 1 := by
  obtain ⟨k, rfl⟩ : ∃ k, M = k + 2 := ⟨M - 2, by omega⟩
  have : (k + 2 - 1) * (k + 2 - 1) = 1 + (k + 2) * k := by
    rw [show k + 2 - 1 = k + 1 from rfl, Nat.add_mul, Nat.mul_add, Nat.add_mul]; omega
  rw [this, Nat.add_mul_mod_self_left]
  exact Nat.mod_eq_of_lt (by omega)

theorem last_mul (a M : Nat) (ha : a < M) (_h1 : 1 < M) : a * (M - 1) % M = (0 + M - a) % M := by
  rcases Nat.eq_zero_or_pos a with h | h
  · subst h; rw [Nat.zero_mul]; simp
  · obtain ⟨b, rfl⟩ : ∃ b, a = b + 1 := ⟨a - 1, by omega⟩
    obtain ⟨m, rfl⟩ : ∃ m, M = m + 1 := ⟨M - 1, by omega⟩
    have e2 : (b + 1) * (m + 1 - 1) = m - b + (m + 1) * b := by
      rw [show m + 1 - 1 = m from rfl, Nat.add_mul, Nat.add_mul, Nat.one_mul, Nat.one_mul, Nat.mul_comm b m]; omega
    rw [e2, Nat.add_mul_mod_self_left, show 0 + (m + 1) - (b + 1) = m - b by omega]

/-- ModsLast. -/
theorem f19.holds (N M : Nat) (hN : N < 2 ^ 256) (hM : M < 2 ^ 256) : f19.F 100000 (num N, num M) = some true := by
  simp only [f19.F, f19.T, f71.spec M hM, bind_s, f72.spec]
  by_cases h : M ≤ 1
  · rw [decide_eq_true h]; rfl
  · have h1 : 1 < M := by omega
    have h0 : 0 < M := by omega
    have ha := Nat.mod_lt N h0
    have hl : M - 1 < M := by omega
    rw [decide_eq_false h, cond_f]
    simp only [f73.spec N M hN hM h0, f74.spec, f75.one, less_one M hM h0, bind_s, f63.good h1 hl hl hM, f62.good h1 h0 ha hM, f63.good h1 ha hl hM, f65.known (M - 1) M (M - 1) hl h1 hM hl (last_sq M h1), last_sq M h1, last_mul _ M ha h1,
      cond_t, beq_self_eq_true, eqL_num, decide_true, Bool.and_true]

/-- ModsSteps. -/
theorem f20.holds (A B M : Nat) (hA : A < 2 ^ 256) (hB : B < 2 ^ 256) (hM : M < 2 ^ 256) : f20.F 100000 (num A, num B, num M) = some true := by
  simp only [f20.F, f20.T, f71.spec M hM, bind_s, f72.spec]
  by_cases h : M ≤ 1
  · rw [decide_eq_true h]; rfl
  · have h1 : 1 < M := by omega
    have h0 : 0 < M := by omega
    have ha := Nat.mod_lt A h0
    have hb : B / 2 < 2 ^ 255 := by omega
    have hb' : B / 2 < 2 ^ 256 := by omega
    have hb1 : B / 2 + 1 < 2 ^ 256 := by omega
    have hb2 : B / 2 * 2 < 2 ^ 256 := by omega
    have m1 : (1 : Nat) % 2 ^ 256 = 1 := rfl
    have mb := mod_self_of hb'
    have d1 : f38.F 100000 (num B, -1) = some (num (B / 2)) := by have := f38.downA B 1; rw [mod_self_of hB, Nat.pow_one] at this; exact this
    have u1 : f38.F 100000 (num (B / 2), 1) = some (num (B / 2 * 2)) := by have := f38.upA (B / 2) 1; rw [Nat.pow_one, mod_self_of hb'] at this; exact this
    have hx := Nat.mod_lt ((A % M) ^ (B / 2)) h0
    have e1 : (A % M) ^ (B / 2) % M * (A % M) % M = (A % M) ^ (B / 2 + 1) % M := by rw [Nat.mod_mul_mod, ← Nat.pow_succ]
    have e2 : (A % M) ^ (B / 2) % M * ((A % M) ^ (B / 2) % M) % M = (A % M) ^ (B / 2 * 2) % M := by rw [← Nat.mul_mod, ← Nat.pow_add, Nat.mul_two]
    have e3 : 1 ^ B % M = 1 := by rw [Nat.one_pow, Nat.mod_eq_of_lt h1]
    have e4 : 0 ^ (B / 2 + 1) % M = 0 := by rw [Nat.zero_pow (by omega), Nat.zero_mod]
    rw [decide_eq_false h, cond_f]
    simp only [f73.spec A M hA hM h0, f74.spec, f75.one, bind_s, d1, u1, f32.all, mb, m1, f64.good h1 ha hb' hM, f64.good h1 ha hb1 hM, f64.good h1 ha hb2 hM, f63.good h1 hx ha hM, f63.good h1 hx hx hM, f64.good h1 h1 hB hM, f64.good h1 h0 hb1 hM,
      e1, e2, e3, e4, cond_t, beq_self_eq_true, eqL_num, decide_true, Bool.and_true]

/-- What is said no to. -/
theorem r_one (c : Bool) (x : List Int) : ((if c = true then (x, (0 : Int)) else (num 0, 1)).2 == 1) = !c := by cases c <;> rfl
theorem r_null (c : Bool) (x : List Int) : ((if c = true then (x, (0 : Int)) else (num 0, 1)).2 == 0) = c := by cases c <;> rfl

theorem f65.says (A M : Nat) (hA : A < 2 ^ 256) (hM : M < 2 ^ 256) : ∃ r, f65.F 100000 (num A, num M) = some r ∧ (r.2 == 1) = !(may1 A M) := by
  obtain ⟨p, _, hf⟩ := f65.spec A M hA hM
  refine ⟨_, hf, ?_⟩
  by_cases h : may1 A M = true
  · rw [if_pos h, h]
    by_cases hg : Nat.gcd A M = 1
    · rw [if_pos hg]; rfl
    · rw [if_neg hg]; rfl
  · rw [if_neg h]
    cases hb : may1 A M
    · rfl
    · exact absurd hb h

/-- ModsBeyond. -/
theorem f22.holds (A B M : Nat) (hA : A < 2 ^ 256) (hB : B < 2 ^ 256) (hM : M < 2 ^ 256) : f22.F 100000 (num A, num B, num M) = some true := by
  obtain ⟨r, hr, hs⟩ := f65.says A M hA hM
  have mA := mod_self_of hA
  have mB := mod_self_of hB
  have mM := mod_self_of hM
  simp only [f22.F, f22.T, f71.spec M hM, bind_s, f72.spec, f61.spec A B M hA hB hM, f62.spec B A M hB hA hM, f63.spec B A M hB hA hM, f64.spec A B M hA hB hM, hr, hs, r_one, r_null, cond_t, f44.all, cmp_ge, mA, mB, mM]
  by_cases h : M ≤ 1
  · have m1 : may1 A M = false := by unfold may1; rw [decide_eq_false (by omega)]; rfl
    have m2 : may2 A B M = false := by unfold may2; rw [decide_eq_false (by omega)]; rfl
    have m3 : may2 B A M = false := by unfold may2; rw [decide_eq_false (by omega)]; rfl
    rw [decide_eq_true h, m1, m2, m3]; rfl
  · rw [decide_eq_false h, cond_f]
    by_cases hAM : M ≤ A
    · have m1 : may1 A M = false := by unfold may1; rw [decide_eq_false (show ¬ A < M by omega), Bool.and_false]
      have m2 : may2 A B M = false := by unfold may2; rw [decide_eq_false (show ¬ A < M by omega), Bool.and_false]; rfl
      have m3 : may2 B A M = false := by unfold may2; rw [decide_eq_false (show ¬ A < M by omega), Bool.and_false]
      rw [decide_eq_true hAM, m1, m2, m3]; rfl
    · have m1 : may1 A M = true := may1_iff.2 ⟨by omega, by omega⟩
      rw [decide_eq_false hAM, m1]
      by_cases hBM : M ≤ B
      · have m2 : may2 A B M = false := by unfold may2; rw [decide_eq_false (show ¬ B < M by omega), Bool.and_false]
        have m3 : may2 B A M = false := by unfold may2; rw [decide_eq_false (show ¬ B < M by omega), Bool.and_false]; rfl
        rw [decide_eq_true hBM, m2, m3]; rfl
      · have m2 : may2 A B M = true := may2_iff.2 ⟨by omega, by omega, by omega⟩
        have m3 : may2 B A M = true := may2_iff.2 ⟨by omega, by omega, by omega⟩
        rw [decide_eq_false hBM, m2, m3]; rfl

end Go.Proofs
