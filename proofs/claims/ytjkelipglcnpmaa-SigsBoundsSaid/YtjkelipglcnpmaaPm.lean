/- Plain laws: lemmas that hold with no condition but those that each states. -/
import Derived.Test.YtjkelipglcnpmaaPe
import Derived.Test.YtjkelipglcnpmaaFm
namespace Go.Proofs
open Go.VM
theorem f105.spec (K : Nat) : f105.F K () = some (num 1) := by
  simp only [f105.F, f105.T, f46.one, bind_s]
def may1 (A M : Nat) : Bool := decide (1 < M) && decide (A < M)
def may2 (A B M : Nat) : Bool := decide (1 < M) && decide (A < M) && decide (B < M)
theorem may1_iff {A M : Nat} : may1 A M = true ↔ 1 < M ∧ A < M := by simp [may1]
theorem may2_iff {A B M : Nat} : may2 A B M = true ↔ 1 < M ∧ A < M ∧ B < M := by simp [may2, and_assoc]
theorem cmp_gt (A B : Nat) : decide (cmp A B > 0) = decide (B < A) := by
  unfold cmp
  by_cases h : A = B
  · subst h; simp
  · rw [if_neg h]
    by_cases h2 : A < B
    · rw [if_pos h2, decide_eq_false (by omega), decide_eq_false (by omega)]
    · rw [if_neg h2, decide_eq_true (by omega), decide_eq_true (by omega)]
theorem f124.spec (M : Nat) (hM : M < 2 ^ 256) : f124.F 100000 (num M) = some (if blen M ≤ 64 then .inl (num M) else .inr (num M)) := by
  simp only [f124.F, f124.T, f42.all, mod_self_of hM, bind_s]
  by_cases h : blen M ≤ 64
  · rw [decide_eq_true (show ((blen M : Nat) : Int) ≤ 64 by omega), cond_t, if_pos h]
  · rw [decide_eq_false (show ¬ ((blen M : Nat) : Int) ≤ 64 by omega), cond_f, if_neg h]
theorem f104.ok2 (A B M : Nat) (hA : A < 2 ^ 256) (hB : B < 2 ^ 256) (hM : M < 2 ^ 256) (b : Bool) :
    iter (f104.s0 100000) 100000 (b, 2, 0, num A ++ num B, num M) = some (b && decide (A < M) && decide (B < M), num A ++ num B, num M) := by
  have mA := mod_self_of hA
  have mB := mod_self_of hB
  have mM := mod_self_of hM
  have r0 : List.take 4 (List.drop (Int.toNat (0 : Int) * 4) (num A ++ num B)) = num A := rfl
  have r1 : List.take 4 (List.drop (Int.toNat (1 : Int) * 4) (num A ++ num B)) = num B := rfl
  rw [show (100000 : Nat) = 99997 + 1 + 1 + 1 from rfl, iter]
  have w0 : IntKind.wrap .i64 ((0 : Int) + 1) = 1 := by decide
  have w1 : IntKind.wrap .i64 ((1 : Int) + 1) = 2 := by decide
  simp only [f104.s0, f104.s0t]
  rw [decide_eq_true (show (0 : Int) < 2 by decide), cond_t, decide_eq_true (show (0 : Int) ≤ 0 ∧ (0 : Int) < 2 by decide), cond_t, r0, w0]
  have second : ∀ b' : Bool, iter (f104.s0 100000) (99997 + 1 + 1) (b', 2, 1, num A ++ num B, num M) = some (b' && decide (B < M), num A ++ num B, num M) := by
    intro b'
    rw [iter]
    simp only [f104.s0, f104.s0t]
    rw [decide_eq_true (show (1 : Int) < 2 by decide), cond_t, decide_eq_true (show (0 : Int) ≤ 1 ∧ (1 : Int) < 2 by decide), cond_t, r1, w1]
    have third : ∀ b'' : Bool, iter (f104.s0 100000) (99997 + 1) (b'', 2, 2, num A ++ num B, num M) = some (b'', num A ++ num B, num M) := by
      intro b''
      rw [iter]
      simp only [f104.s0, f104.s0t]
      rw [decide_eq_false (show ¬ (2 : Int) < 2 by decide), cond_f]
    cases b' with
    | false => rw [cond_f]; exact third false
    | true =>
      have e : f44.F 100000 (num B, num M) = some (cmp B M) := by rw [f44.all, mB, mM]
      rw [cond_t, e, bind_s, cmp_lt]; exact third _
  cases b with
  | false => rw [cond_f]; exact second false
  | true =>
    have e : f44.F 100000 (num A, num M) = some (cmp A M) := by rw [f44.all, mA, mM]
    rw [cond_t, e, bind_s, cmp_lt]; exact second _
theorem f104.spec (A B M : Nat) (hA : A < 2 ^ 256) (hB : B < 2 ^ 256) (hM : M < 2 ^ 256) :
    f104.F 100000 (num M, num A ++ num B) = some (if may2 A B M = true then (if blen M ≤ 64 then .inr (.inl (0, num A ++ num B, num M)) else .inr (.inr (0, num A ++ num B, num M))) else .inl (1, num A ++ num B)) := by
  simp only [f104.F, f104.T, f105.spec, bind_s, f44.all, mod_self_of hM, show (1 : Nat) % 2 ^ 256 = 1 from rfl, cmp_gt, f104.ok2 A B M hA hB hM, f124.spec M hM]
  rw [show (decide (1 < M) && decide (A < M) && decide (B < M)) = may2 A B M from rfl]
  cases may2 A B M with
  | false => rfl
  | true =>
    simp only [Bool.not_true, cond_f, if_true]
    by_cases h : blen M ≤ 64
    · rw [if_pos h, if_pos h]; rfl
    · rw [if_neg h, if_neg h]; rfl
theorem f104v1.ok1 (A M : Nat) (hA : A < 2 ^ 256) (hM : M < 2 ^ 256) (b : Bool) :
    iter (f104v1.s0 100000) 100000 (b, 1, 0, num A, num M) = some (b && decide (A < M), num A, num M) := by
  have mA := mod_self_of hA
  have mM := mod_self_of hM
  have r0 : List.take 4 (List.drop (Int.toNat (0 : Int) * 4) (num A)) = num A := rfl
  have w0 : IntKind.wrap .i64 ((0 : Int) + 1) = 1 := by decide
  rw [show (100000 : Nat) = 99998 + 1 + 1 from rfl, iter]
  simp only [f104v1.s0, f104v1.s0t]
  rw [decide_eq_true (show (0 : Int) < 1 by decide), cond_t, decide_eq_true (show (0 : Int) ≤ 0 ∧ (0 : Int) < 1 by decide), cond_t, r0, w0]
  have second : ∀ b' : Bool, iter (f104v1.s0 100000) (99998 + 1) (b', 1, 1, num A, num M) = some (b', num A, num M) := by
    intro b'
    rw [iter]
    simp only [f104v1.s0, f104v1.s0t]
    rw [decide_eq_false (show ¬ (1 : Int) < 1 by decide), cond_f]
  cases b with
  | false => rw [cond_f]; exact second false
  | true =>
    have e : f44.F 100000 (num A, num M) = some (cmp A M) := by rw [f44.all, mA, mM]
    rw [cond_t, e, bind_s, cmp_lt]; exact second _
theorem f104v1.spec (A M : Nat) (hA : A < 2 ^ 256) (hM : M < 2 ^ 256) :
    f104v1.F 100000 (num M, num A) = some (if may1 A M = true then (if blen M ≤ 64 then .inr (.inl (0, num A, num M)) else .inr (.inr (0, num A, num M))) else .inl (1, num A)) := by
  simp only [f104v1.F, f104v1.T, f105.spec, bind_s, f44.all, mod_self_of hM, show (1 : Nat) % 2 ^ 256 = 1 from rfl, cmp_gt, f104v1.ok1 A M hA hM, f124.spec M hM]
  rw [show (decide (1 < M) && decide (A < M)) = may1 A M from rfl]
  cases may1 A M with
  | false => rfl
  | true =>
    simp only [Bool.not_true, cond_f, if_true]
    by_cases h : blen M ≤ 64
    · rw [if_pos h, if_pos h]; rfl
    · rw [if_neg h, if_neg h]; rfl
theorem f132.spec (A B M : Nat) (hA : A < M) (hB : B < M) (hM : M < 2 ^ 256) : f132.F 100000 (num A, num B, num M) = some (num ((A + B) % M), num M) := by
  have mA := mod_self_of (Nat.lt_trans hA hM)
  have mB := mod_self_of (Nat.lt_trans hB hM)
  have mM := mod_self_of hM
  have hm := mod_once (S := A + B) (M := M) (by omega)
  have hx : num (M + 2 ^ 256 - B) = num (M - B) := by rw [show M + 2 ^ 256 - B = M - B + 2 ^ 256 by omega, num_add_mod]
  have mx : (M - B) % 2 ^ 256 = M - B := Nat.mod_eq_of_lt (by omega)
  simp only [f132.F, f132.T, f34.all, f44.all, f32.all, bind_s, mA, mB, mM, hx, mx, cmp_ge]
  by_cases h : M - B ≤ A
  · rw [decide_eq_true h, cond_t, hm, if_pos (by omega), show A + 2 ^ 256 - (M - B) = A + B - M + 2 ^ 256 by omega, num_add_mod]
  · rw [decide_eq_false h, cond_f, hm, if_neg (by omega)]
theorem f133.spec (A B M : Nat) (hA : A < 2 ^ 256) (hB : B < 2 ^ 256) (h0 : 0 < M) (hM : M < 2 ^ 256) : f133.F 100000 (num A, num B, num M) = some (num (A * B % M), num M) := by
  have mA := mod_self_of hA
  have mB := mod_self_of hB
  have hP : A * B < 2 ^ 256 * 2 ^ 256 := Nat.mul_lt_mul'' hA hB
  have hh : A * B / 2 ^ 256 < 2 ^ 256 := Nat.div_lt_of_lt_mul hP
  have hl : A * B % 2 ^ 256 < 2 ^ 256 := Nat.mod_lt _ (Nat.two_pow_pos 256)
  have e : A * B / 2 ^ 256 * 2 ^ 256 + A * B % 2 ^ 256 = A * B := by have := Nat.mod_add_div (A * B) (2 ^ 256); rw [Nat.mul_comm (2 ^ 256)] at this; omega
  simp only [f133.F, f133.T, f36.all, mA, mB, bind_s]
  rw [← num_mod (A * B), f54.spec _ _ M hl hh hM h0, bind_s, e]
theorem f135.spec (K hi lo y : Nat) (hy : y < 18446744073709551616) (h0 : 0 < y) (hlo : lo < 18446744073709551616) (hK : 1 < K) : f135.F K ((hi : Int), (lo : Int), (y : Int)) = some (((hi * 18446744073709551616 + lo) % y : Nat) : Int) := by
  simp only [f135.F, f135.T]
  rw [decide_eq_true (show (y : Int) ≠ 0 by omega), cond_t, tmod_nat, f100.spec K _ lo y hy (Nat.mod_lt _ h0) hlo hK, bind_s]
  simp only []
  rw [mod_step]
theorem f134.spec (A B M : Nat) (hA : A < 2 ^ 64) (hB : B < 2 ^ 64) (h0 : 0 < M) (hM : M < 2 ^ 64) : f134.F 100000 (num A, num B, num M) = some (num (A * B % M), num M) := by
  have e : A * B / 2 ^ 64 * 18446744073709551616 + A * B % 2 ^ 64 = A * B := by have := Nat.mod_add_div (A * B) (2 ^ 64); omega
  have hr := Nat.mod_lt (A * B) h0
  simp only [f134.F, f134.T, word0 A hA, word0 B hB, word0 M hM]
  rw [f125.spec 100000 A B hA hB, bind_s]
  simp only []
  rw [f135.spec 100000 _ _ M hM h0 (Nat.mod_lt _ (by decide)) (by decide), bind_s, e, f46.nat _ _ (by omega), bind_s]
end Go.Proofs

namespace Go.Proofs
open Go.VM
theorem alt_l {A B C : Type} (f : A → C) (g : B → C) (a : A) : alt f g (.inl a) = f a := Eq.trans (show alt f g (.inl a) = f a from by unfold alt; rfl) (Eq.symm (Eq.symm rfl))
theorem alt_r {A B C : Type} (f : A → C) (g : B → C) (b : B) : alt f g (.inr b) = g b := Eq.trans (show alt f g (.inr b) = g b from by unfold alt; rfl) (Eq.symm (Eq.symm rfl))
theorem ne00 : ((0 : Int) != 0) = false := rfl
theorem ne10 : ((1 : Int) != 0) = true := rfl
theorem num_zero : ([0, 0, 0, 0] : List Int) = num 0 := rfl
theorem f61.spec (A B M : Nat) (hA : A < 2 ^ 256) (hB : B < 2 ^ 256) (hM : M < 2 ^ 256) :
    f61.F 100000 (num A, num B, num M) = some (if may2 A B M = true then (num ((A + B) % M), 0) else (num 0, 1)) := by
  simp only [f61.F, f61.T, two_rows, f104.spec A B M hA hB hM, bind_s]
  by_cases h : may2 A B M = true
  · obtain ⟨h1, h2, h3⟩ := may2_iff.1 h
    rw [if_pos h, if_pos h]
    by_cases hb : blen M ≤ 64
    · rw [if_pos hb]
      simp only [alt_l, alt_r, ne00, cond_f, f132.spec A B M h2 h3 hM, bind_s]
    · rw [if_neg hb]
      simp only [alt_r, ne00, cond_f, f132.spec A B M h2 h3 hM, bind_s]
  · rw [if_neg h, if_neg h]
    simp only [alt_l, ne10, cond_t, num_zero]
theorem lt_64 {M : Nat} (h : blen M ≤ 64) : M < 2 ^ 64 := Nat.lt_of_lt_of_le (blen_lt M) (Nat.pow_le_pow_right (by decide) h)
theorem f63.spec (A B M : Nat) (hA : A < 2 ^ 256) (hB : B < 2 ^ 256) (hM : M < 2 ^ 256) :
    f63.F 100000 (num A, num B, num M) = some (if may2 A B M = true then (num (A * B % M), 0) else (num 0, 1)) := by
  simp only [f63.F, f63.T, two_rows, f104.spec A B M hA hB hM, bind_s]
  by_cases h : may2 A B M = true
  · obtain ⟨h1, h2, h3⟩ := may2_iff.1 h
    rw [if_pos h, if_pos h]
    by_cases hb : blen M ≤ 64
    · have hM64 := lt_64 hb
      rw [if_pos hb]
      simp only [alt_l, alt_r, ne00, cond_f, f134.spec A B M (by omega) (by omega) (by omega) hM64, bind_s]
    · rw [if_neg hb]
      simp only [alt_r, ne00, cond_f, f133.spec A B M hA hB (by omega) hM, bind_s]
  · rw [if_neg h, if_neg h]
    simp only [alt_l, ne10, cond_t, num_zero]
theorem pow_sq (A M i : Nat) : A ^ 2 ^ i % M * (A ^ 2 ^ i % M) % M = A ^ 2 ^ (i + 1) % M := by
  rw [← Nat.mul_mod, ← Nat.pow_add, ← Nat.two_mul, ← Nat.pow_succ']
theorem pow_bit (A M N i : Nat) (h : N / 2 ^ i % 2 = 1) : A ^ (N % 2 ^ i) % M * (A ^ 2 ^ i % M) % M = A ^ (N % 2 ^ (i + 1)) % M := by
  rw [← Nat.mul_mod, ← Nat.pow_add, Nat.pow_succ 2 i, Nat.mod_mul, h, Nat.mul_one]
theorem pow_nobit (A N i : Nat) (h : N / 2 ^ i % 2 = 0) : A ^ (N % 2 ^ (i + 1)) = A ^ (N % 2 ^ i) := by
  rw [Nat.pow_succ 2 i, Nat.mod_mul, h, Nat.mul_zero, Nat.add_zero]
theorem f64.small (A N M : Nat) (hN : N < 2 ^ 256) (h1 : 1 < M) (hM : M < 2 ^ 64) (hA : A < M) (z : List Int) :
    iter (f64.s0b 100000) 100000 (((blen N : Nat) : Int), 0, num A, num N, z, num 1, num M) = some (z, num (A ^ N % M)) := by
  have hb := blen_256 hN
  have key := iter_for (stp := f64.s0b 100000) (N := blen N) (fun i => (((blen N : Nat) : Int), (i : Int), num (A ^ 2 ^ i % M), num N, z, num (A ^ (N % 2 ^ i) % M), num M))
    (y := some (z, num (A ^ N % M))) (fun i hi rec => by
      simp only [f64.s0b, f64.s0bt]
      have w2 : IntKind.wrap .i64 ((i : Int) + 1) = ((i + 1 : Nat) : Int) := by rw [wrap_i _ (by omega) (by omega)]; rfl
      have l1 : A ^ 2 ^ i % M < 2 ^ 64 := Nat.lt_trans (Nat.mod_lt _ (by omega)) hM
      have l2 : A ^ (N % 2 ^ i) % M < 2 ^ 64 := Nat.lt_trans (Nat.mod_lt _ (by omega)) hM
      rw [decide_eq_true (show (i : Int) < ((blen N : Nat) : Int) by omega), cond_t, f40.all N i (by omega), mod_self_of hN, bind_s, w2]
      rcases Nat.mod_two_eq_zero_or_one (N / 2 ^ i) with h | h
      · rw [h, show (((0 : Nat) : Int) == 1) = false from rfl, cond_f, f134.spec _ _ M l1 l1 (by omega) hM, bind_s, pow_sq, pow_nobit A N i h]
      · rw [h, show (((1 : Nat) : Int) == 1) = true from rfl, cond_t, f134.spec _ _ M l2 l1 (by omega) hM, bind_s]
        simp only []
        rw [f134.spec _ _ M l1 l1 (by omega) hM, bind_s, pow_sq, pow_bit A M N i h]) (fun rec => by
      simp only [f64.s0b, f64.s0bt]
      rw [decide_eq_false (Int.lt_irrefl _), cond_f, Nat.mod_eq_of_lt (blen_lt N)]) (show blen N < 100000 by omega)
  simp only [Nat.pow_zero, Nat.mod_one, Nat.pow_one, Nat.mod_eq_of_lt hA, Nat.mod_eq_of_lt h1] at key
  exact key
theorem f64.great (A N M : Nat) (hN : N < 2 ^ 256) (h1 : 1 < M) (hM : M < 2 ^ 256) (hA : A < M) (z : List Int) :
    iter (f64.s0c 100000) 100000 (((blen N : Nat) : Int), 0, num A, num N, z, num 1, num M) = some (z, num (A ^ N % M)) := by
  have hb := blen_256 hN
  have key := iter_for (stp := f64.s0c 100000) (N := blen N) (fun i => (((blen N : Nat) : Int), (i : Int), num (A ^ 2 ^ i % M), num N, z, num (A ^ (N % 2 ^ i) % M), num M))
    (y := some (z, num (A ^ N % M))) (fun i hi rec => by
      simp only [f64.s0c, f64.s0ct]
      have w2 : IntKind.wrap .i64 ((i : Int) + 1) = ((i + 1 : Nat) : Int) := by rw [wrap_i _ (by omega) (by omega)]; rfl
      have l1 : A ^ 2 ^ i % M < 2 ^ 256 := Nat.lt_trans (Nat.mod_lt _ (by omega)) hM
      have l2 : A ^ (N % 2 ^ i) % M < 2 ^ 256 := Nat.lt_trans (Nat.mod_lt _ (by omega)) hM
      rw [decide_eq_true (show (i : Int) < ((blen N : Nat) : Int) by omega), cond_t, f40.all N i (by omega), mod_self_of hN, bind_s, w2]
      rcases Nat.mod_two_eq_zero_or_one (N / 2 ^ i) with h | h
      · rw [h, show (((0 : Nat) : Int) == 1) = false from rfl, cond_f, f133.spec _ _ M l1 l1 (by omega) hM, bind_s, pow_sq, pow_nobit A N i h]
      · rw [h, show (((1 : Nat) : Int) == 1) = true from rfl, cond_t, f133.spec _ _ M l2 l1 (by omega) hM, bind_s]
        simp only []
        rw [f133.spec _ _ M l1 l1 (by omega) hM, bind_s, pow_sq, pow_bit A M N i h]) (fun rec => by
      simp only [f64.s0c, f64.s0ct]
      rw [decide_eq_false (Int.lt_irrefl _), cond_f, Nat.mod_eq_of_lt (blen_lt N)]) (show blen N < 100000 by omega)
  simp only [Nat.pow_zero, Nat.mod_one, Nat.pow_one, Nat.mod_eq_of_lt hA, Nat.mod_eq_of_lt h1] at key
  exact key
theorem f64.spec (A N M : Nat) (hA : A < 2 ^ 256) (hN : N < 2 ^ 256) (hM : M < 2 ^ 256) :
    f64.F 100000 (num A, num N, num M) = some (if may1 A M = true then (num (A ^ N % M), 0) else (num 0, 1)) := by
  simp only [f64.F, f64.T, f104v1.spec A M hA hM, bind_s, f105.spec, f42.all, mod_self_of hN]
  by_cases h : may1 A M = true
  · obtain ⟨h1, h2⟩ := may1_iff.1 h
    rw [if_pos h, if_pos h]
    by_cases hb : blen M ≤ 64
    · rw [if_pos hb]
      simp only [alt_l, alt_r, ne00, cond_f, f64.small A N M hN h1 (lt_64 hb) h2, bind_s]
    · rw [if_neg hb]
      simp only [alt_r, ne00, cond_f, f64.great A N M hN h1 hM h2, bind_s]
  · rw [if_neg h, if_neg h]
    simp only [alt_l, ne10, cond_t, num_zero]
structure Lines (A M a p b q : Nat) : Prop where
  hle : b ≤ a
  ham : a ≤ M
  hgcd : Nat.gcd a b = Nat.gcd A M
  hp : p < M
  hq : q < M
  hap : A * p % M = a % M
  hbq : A * q % M = b % M
theorem Lines.step {A M a p b q : Nat} (h : Lines A M a p b q) (hb : 0 < b) : Lines A M b q (a % b) ((p + M - a / b * q % M) % M) := by
  have hM : 0 < M := by have := h.hp; omega
  have hm := Nat.mod_lt (a / b * q) hM
  refine ⟨Nat.le_of_lt (Nat.mod_lt _ hb), Nat.le_trans h.hle h.ham, ?_, h.hq, Nat.mod_lt _ hM, h.hbq, ?_⟩
  · rw [← h.hgcd, Nat.gcd_comm b, ← Nat.gcd_rec, Nat.gcd_comm]
  ·
    have e0 : (A * ((p + M - a / b * q % M) % M) + a / b * (A * q)) % M = A * p % M := by
      have e1 : (p + M - a / b * q % M + a / b * q) % M = p % M := by
        have h2 := Nat.mod_add_div (a / b * q) M
        have : p + M - a / b * q % M + a / b * q = p + M * (1 + a / b * q / M) := by rw [Nat.mul_add, Nat.mul_one]; omega
        rw [this, Nat.add_mul_mod_self_left]
      have e2 : a / b * (A * q) = A * (a / b * q) := by rw [← Nat.mul_assoc, Nat.mul_comm (a / b) A, Nat.mul_assoc]
      rw [e2, ← Nat.mul_add, Nat.mul_mod, Nat.mod_add_mod, e1, ← Nat.mul_mod]
    have e3 : (a % b + a / b * b) % M = a % M := by have := Nat.mod_add_div a b; rw [Nat.mul_comm b] at this; rw [this]
    have e4 : (A * ((p + M - a / b * q % M) % M) + a / b * b) % M = (a % b + a / b * b) % M := by
      rw [e3, ← h.hap, ← e0, Nat.add_mod _ (a / b * b), Nat.add_mod _ (a / b * (A * q)), Nat.mul_mod (a / b) b, Nat.mul_mod (a / b) (A * q), h.hbq]

    have cancel : ∀ x y c : Nat, (x + c) % M = (y + c) % M → x % M = y % M := by
      intro x y c hxy
      have h1 : (x + c + (M - c % M)) % M = (y + c + (M - c % M)) % M := by rw [Nat.add_mod, hxy, ← Nat.add_mod]
      have h2 : ∀ z, z + c + (M - c % M) = z + M * (1 + c / M) := by
        intro z
        have h3 := Nat.mod_add_div c M
        have h4 := Nat.mod_lt c hM
        rw [Nat.mul_add, Nat.mul_one]
        omega
      rw [h2, h2, Nat.add_mul_mod_self_left, Nat.add_mul_mod_self_left] at h1
      exact h1
    exact cancel _ _ _ e4
theorem blen_rem {a b : Nat} (hb : 0 < b) (h : b ≤ a) : blen (a % b) < blen a := by
  have h1 : 1 ≤ a / b := (Nat.le_div_iff_mul_le hb).2 (by omega)
  have h2 := Nat.mod_add_div a b
  have h3 : b * 1 ≤ b * (a / b) := Nat.mul_le_mul_left b h1
  have h4 := Nat.mod_lt a hb
  have h5 : a % b ≤ a / 2 := by omega
  have h6 := blen_mono h5
  by_cases h0 : a / 2 = 0
  · rw [h0, blen_zero] at h6
    have := (blen_ge (x := a) (by omega)).2
    omega
  · have := blen_shift a 1 (by simpa using h0)
    rw [Nat.pow_one] at this
    omega
end Go.Proofs

namespace Go.Proofs
open Go.VM
theorem Lines.loop {A M : Nat} {stp : (List Int × List Int × List Int × List Int × List Int × List Int × List Int → Option (List Int × List Int × List Int)) → List Int × List Int × List Int × List Int × List Int × List Int × List Int → Option (List Int × List Int × List Int)} (hA : A < M) (h1 : 1 < M) (hM : M < 2 ^ 256) (z : List Int)
    (h0 : ∀ a p, ∀ rec, stp rec (num M, z, num a, num p, num 0, num 1, num M) = some (z, num a, num p))
    (h0' : ∀ a p q, ∀ rec, stp rec (num M, z, num a, num p, num 0, num q, num M) = some (z, num a, num p))
    (hs : ∀ a p b q, 0 < b → b ≤ a → a ≤ M → p < M → q < M → ∀ rec, stp rec (num M, z, num a, num p, num b, num q, num M) = rec (num M, z, num b, num q, num (a % b), num ((p + M - a / b * q % M) % M), num M)) :
    ∃ p, p < M ∧ A * p % M = Nat.gcd A M % M ∧ iter stp 100000 (num M, z, num M, num 0, num A, num 1, num M) = some (z, num (Nat.gcd A M), num p) := by
  obtain ⟨y, ⟨p, hp, hq, rfl⟩, h⟩ := iter_inv (stp := stp) (fun m x => ∃ a p b q, x = (num M, z, num a, num p, num b, num q, num M) ∧ Lines A M a p b q ∧ blen a + blen b ≤ m)
    (fun y => ∃ p, p < M ∧ A * p % M = Nat.gcd A M % M ∧ y = (z, num (Nat.gcd A M), num p)) (by
      intro m x ⟨a, p, b, q, hx, hl, hm⟩
      subst hx
      by_cases hb : b = 0
      · subst hb
        have hg : a = Nat.gcd A M := by have := hl.hgcd; rw [Nat.gcd_zero_right] at this; exact this
        exact .inl ⟨_, ⟨p, hl.hp, by rw [← hg]; exact hl.hap, by rw [← hg]⟩, h0' a p q⟩
      · have hb0 : 0 < b := by omega
        have hr := blen_rem hb0 hl.hle
        exact .inr ⟨_, blen b + blen (a % b), by omega, ⟨_, _, _, _, rfl, hl.step hb0, Nat.le_refl _⟩, hs a p b q hb0 hl.hle hl.ham hl.hp hl.hq⟩)
    512 _ ⟨M, 0, A, 1, rfl, ⟨Nat.le_of_lt hA, Nat.le_refl _, Nat.gcd_comm _ _, by omega, h1, by rw [Nat.mul_zero, Nat.zero_mod, Nat.mod_self], by rw [Nat.mul_one]⟩, by
      have := blen_256 hM; have := blen_256 (Nat.lt_trans hA hM); omega⟩ 100000 (by decide)
  exact ⟨p, hp, hq, h⟩
theorem f61.good {A B M : Nat} (h1 : 1 < M) (hA : A < M) (hB : B < M) (hM : M < 2 ^ 256) : f61.F 100000 (num A, num B, num M) = some (num ((A + B) % M), 0) := by
  rw [f61.spec A B M (by omega) (by omega) hM, if_pos (may2_iff.2 ⟨h1, hA, hB⟩)]
theorem f63.good {A B M : Nat} (h1 : 1 < M) (hA : A < M) (hB : B < M) (hM : M < 2 ^ 256) : f63.F 100000 (num A, num B, num M) = some (num (A * B % M), 0) := by
  rw [f63.spec A B M (by omega) (by omega) hM, if_pos (may2_iff.2 ⟨h1, hA, hB⟩)]
end Go.Proofs

namespace Go.Proofs
open Go.VM
end Go.Proofs
