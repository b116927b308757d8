/- Plain laws: lemmas that hold with no condition but those that each states. -/
import Derived.Test.YtjkelipglcnpmaaPd
import Derived.Test.YtjkelipglcnpmaaFd
import Derived.Test.YtjkelipglcnpmaaFe
import Derived.Laws.MathBits
namespace Go.Proofs
open Go.VM
theorem wrap_emod (z : Int) : IntKind.wrap .u64 z = z % 18446744073709551616 := by
  simp only [IntKind.wrap, IntKind.bits, IntKind.signed, Bool.false_and, Bool.false_eq_true, if_false]
  omega
theorem wrap_u8 (n : Nat) (h : n < 256) : IntKind.wrap .u8 (n : Int) = (n : Int) := by
  simp only [IntKind.wrap, IntKind.bits, IntKind.signed, Bool.false_and, Bool.false_eq_true, if_false]
  omega
theorem len8 : ∀ i : Fin 256, strAt f130.k0 i.val = ((blen i.val : Nat) : Int) := by decide +kernel
theorem blen_shift (x p : Nat) (h : x / 2 ^ p ≠ 0) : blen x = p + blen (x / 2 ^ p) := by
  have h1 := blen_word (x % 2 ^ p) (x / 2 ^ p) p (Nat.mod_lt _ (Nat.two_pow_pos p)) h
  have h2 := Nat.mod_add_div x (2 ^ p)
  rw [Nat.mul_comm] at h2
  rw [h2] at h1
  exact h1
theorem f130.end (x p : Nat) (h : x < 256) (hp : p ≤ 56) :
    (bif decide (0 ≤ IntKind.wrap .u8 ((x : Nat) : Int) ∧ IntKind.wrap .u8 ((x : Nat) : Int) < ((ByteArray.size f130.k0 : Nat) : Int)) then some (IntKind.wrap .i64 ((p : Int) + IntKind.wrap .i64 (strAt f130.k0 (Int.toNat (IntKind.wrap .u8 ((x : Nat) : Int)))))) else none) = some (((p + blen x : Nat) : Int)) := by
  have h1 := len8 ⟨x, h⟩
  have h2 : blen x ≤ 8 := blen_le (k := 8) h
  have h3 : ((ByteArray.size f130.k0 : Nat) : Int) = 256 := by decide +kernel
  rw [wrap_u8 x h, h3, decide_eq_true ⟨by omega, by omega⟩, cond_t, Int.toNat_natCast]
  rw [show strAt f130.k0 x = ((blen x : Nat) : Int) from h1, wrap_i (((blen x : Nat) : Int)) (by omega) (by omega), wrap_i _ (by omega) (by omega)]
  rfl
theorem f130.spec (K x : Nat) (hx : x < 18446744073709551616) : f130.F K (x : Int) = some ((blen x : Nat) : Int) := by
  simp only [f130.F, f130.T, fdiv_nat]
  have fin : ∀ (y p q : Nat), y / 2 ^ q < 256 → y / 2 ^ q ≠ 0 → p + q ≤ 56 → blen x = p + blen y → ∀ P : Int, P = ((p + q : Nat) : Int) →
      (bif decide (0 ≤ IntKind.wrap .u8 ((y / 2 ^ q : Nat) : Int) ∧ IntKind.wrap .u8 ((y / 2 ^ q : Nat) : Int) < ((ByteArray.size f130.k0 : Nat) : Int)) then some (IntKind.wrap .i64 (P + IntKind.wrap .i64 (strAt f130.k0 (Int.toNat (IntKind.wrap .u8 ((y / 2 ^ q : Nat) : Int)))))) else none) = some ((blen x : Nat) : Int) := by
    rintro y p q h1 h2 h3 h4 P rfl
    rw [f130.end _ _ h1 h3, h4, blen_shift y q h2, Nat.add_assoc]
  have fin0 : ∀ (y p : Nat), y < 256 → p ≤ 56 → blen x = p + blen y → ∀ P : Int, P = (p : Int) →
      (bif decide (0 ≤ IntKind.wrap .u8 ((y : Nat) : Int) ∧ IntKind.wrap .u8 ((y : Nat) : Int) < ((ByteArray.size f130.k0 : Nat) : Int)) then some (IntKind.wrap .i64 (P + IntKind.wrap .i64 (strAt f130.k0 (Int.toNat (IntKind.wrap .u8 ((y : Nat) : Int)))))) else none) = some ((blen x : Nat) : Int) := by
    rintro y p h1 h3 h4 P rfl
    rw [f130.end _ _ h1 h3, h4]
  by_cases h1 : 4294967296 ≤ x
  · rw [decide_eq_true (show (x : Int) ≥ 4294967296 by omega), cond_t]
    have b1 : blen x = 32 + blen (x / 2 ^ 32) := blen_shift x 32 (by omega)
    have l1 : x / 2 ^ 32 < 4294967296 := by omega
    generalize x / 2 ^ 32 = x1 at *
    by_cases h2 : 65536 ≤ x1
    · rw [decide_eq_true (show (x1 : Int) ≥ 65536 by omega), cond_t]
      have b2 : blen x1 = 16 + blen (x1 / 2 ^ 16) := blen_shift x1 16 (by omega)
      have l2 : x1 / 2 ^ 16 < 65536 := by omega
      generalize x1 / 2 ^ 16 = x2 at *
      by_cases h3 : 256 ≤ x2
      · rw [decide_eq_true (show (x2 : Int) ≥ 256 by omega), cond_t]
        exact fin x2 48 8 (by omega) (by omega) (by omega) (by omega) _ rfl
      · rw [decide_eq_false (show ¬ (x2 : Int) ≥ 256 by omega), cond_f]
        exact fin0 x2 48 (by omega) (by omega) (by omega) _ rfl
    · rw [decide_eq_false (show ¬ (x1 : Int) ≥ 65536 by omega), cond_f]
      by_cases h3 : 256 ≤ x1
      · rw [decide_eq_true (show (x1 : Int) ≥ 256 by omega), cond_t]
        exact fin x1 32 8 (by omega) (by omega) (by omega) (by omega) _ rfl
      · rw [decide_eq_false (show ¬ (x1 : Int) ≥ 256 by omega), cond_f]
        exact fin0 x1 32 (by omega) (by omega) (by omega) _ rfl
  · rw [decide_eq_false (show ¬ (x : Int) ≥ 4294967296 by omega), cond_f]
    by_cases h2 : 65536 ≤ x
    · rw [decide_eq_true (show (x : Int) ≥ 65536 by omega), cond_t]
      have b2 : blen x = 16 + blen (x / 2 ^ 16) := blen_shift x 16 (by omega)
      have l2 : x / 2 ^ 16 < 65536 := by omega
      generalize x / 2 ^ 16 = x2 at *
      by_cases h3 : 256 ≤ x2
      · rw [decide_eq_true (show (x2 : Int) ≥ 256 by omega), cond_t]
        exact fin x2 16 8 (by omega) (by omega) (by omega) (by omega) _ rfl
      · rw [decide_eq_false (show ¬ (x2 : Int) ≥ 256 by omega), cond_f]
        exact fin0 x2 16 (by omega) (by omega) (by omega) _ rfl
    · rw [decide_eq_false (show ¬ (x : Int) ≥ 65536 by omega), cond_f]
      by_cases h3 : 256 ≤ x
      · rw [decide_eq_true (show (x : Int) ≥ 256 by omega), cond_t]
        exact fin x 0 8 (by omega) (by omega) (by omega) (by omega) _ rfl
      · rw [decide_eq_false (show ¬ (x : Int) ≥ 256 by omega), cond_f]
        exact fin0 x 0 (by omega) (by omega) (by omega) _ rfl
theorem f125.spec (K a b : Nat) (ha : a < 18446744073709551616) (hb : b < 18446744073709551616) : f125.F K ((a : Int), (b : Int)) = some (((a * b / 2 ^ 64 : Nat) : Int), ((a * b % 2 ^ 64 : Nat) : Int)) := by
  have h := mul64_arith (a : Int) (b : Int) (by omega) (by omega) (by omega) (by omega)
  have fd : ∀ z : Int, 0 ≤ z → Int.fdiv z (2 ^ 32) = z / 4294967296 := fun z _ => by
    rw [Int.fdiv_eq_ediv_of_nonneg _ (by decide)]; rfl
  have m1 : ∀ z : Int, 0 ≤ z % 18446744073709551616 := fun z => Int.emod_nonneg _ (by decide)
  simp only [f125.F, f125.T]
  rw [and_low32 _ (by omega) (by omega), and_low32 _ (by omega) (by omega)]
  simp only [wrap_emod]
  rw [and_low32 _ (m1 _) (Int.emod_lt_of_pos _ (by decide)), fd (a : Int) (by omega), fd (b : Int) (by omega), fd _ (m1 _), fd _ (m1 _), fd _ (m1 _), h]
  congr 1
end Go.Proofs

namespace Go.Proofs
open Go.VM
theorem guess_high {u u1 y1 y0 q r : Nat} (hY : 0 < y1) (hu : u = q * y1 + r) : (r * 4294967296 + u1 < q * y0) ↔ (u * 4294967296 + u1) / (y1 * 4294967296 + y0) < q := by
  rw [Nat.div_lt_iff_lt_mul (by omega), hu, Nat.mul_add q (y1 * 4294967296) y0, Nat.add_mul (q * y1) r 4294967296, ← Nat.mul_assoc q y1 4294967296]
  omega
theorem guess_over {u u1 y1 y0 q r : Nat} (hY : 0 < y1) (hu : u = q * y1 + r) (hr : 4294967296 ≤ r) (hq : q ≤ 4294967296) (hy0 : y0 < 4294967296) : q ≤ (u * 4294967296 + u1) / (y1 * 4294967296 + y0) := by
  have h := not_congr (guess_high (u1 := u1) (y0 := y0) hY hu)
  have h2 : q * y0 ≤ 4294967296 * 4294967295 := Nat.mul_le_mul hq (by omega)
  exact Nat.le_of_not_lt (h.1 (by omega))
theorem guess_lt {u u1 y1 y0 : Nat} (_hY : 0 < y1) (hu : u < y1 * 4294967296 + y0) (h1 : u1 < 4294967296) : (u * 4294967296 + u1) / (y1 * 4294967296 + y0) < 4294967296 := by
  rw [Nat.div_lt_iff_lt_mul (by omega), Nat.mul_comm 4294967296]
  have : (u + 1) * 4294967296 ≤ (y1 * 4294967296 + y0) * 4294967296 := Nat.mul_le_mul_right _ hu
  omega
theorem guess_first {u u1 y1 y0 : Nat} (hY : 2147483648 ≤ y1) (hu : u < y1 * 4294967296 + y0) (h1 : u1 < 4294967296) (hy0 : y0 < 4294967296) : (u * 4294967296 + u1) / (y1 * 4294967296 + y0) ≤ u / y1 ∧ u / y1 ≤ 4294967297 := by
  constructor
  · rw [Nat.le_div_iff_mul_le (by omega)]
    generalize hQ : (u * 4294967296 + u1) / (y1 * 4294967296 + y0) = Q
    have h2 : Q * (y1 * 4294967296 + y0) ≤ u * 4294967296 + u1 := by rw [← hQ]; exact Nat.div_mul_le_self _ _
    rw [Nat.mul_add Q (y1 * 4294967296) y0, ← Nat.mul_assoc Q y1 4294967296] at h2
    omega
  · have : u < 4294967298 * y1 := by omega
    have := (Nat.div_lt_iff_lt_mul (show 0 < y1 by omega)).2 this
    omega
theorem guess_round {u u1 y1 y0 q r : Nat} (hY : 2147483648 ≤ y1) (hy1 : y1 < 4294967296) (hY0 : y0 < 4294967296) (_hu : u < y1 * 4294967296 + y0) (_h1 : u1 < 4294967296)
    (he : u = q * y1 + r) (_hr : r < 4294967296) (hq : (u * 4294967296 + u1) / (y1 * 4294967296 + y0) ≤ q) (hq2 : q ≤ 4294967297) (hgt : (u * 4294967296 + u1) / (y1 * 4294967296 + y0) < q) :
    u = (q - 1) * y1 + (r + y1) ∧ (u * 4294967296 + u1) / (y1 * 4294967296 + y0) ≤ q - 1 ∧ q - 1 ≤ 4294967296 ∧ (4294967296 ≤ r + y1 → q - 1 = (u * 4294967296 + u1) / (y1 * 4294967296 + y0)) := by
  have hq0 : 0 < q := Nat.lt_of_le_of_lt (Nat.zero_le _) hgt
  obtain ⟨k, rfl⟩ : ∃ k, q = k + 1 := ⟨q - 1, by omega⟩
  have e : u = k * y1 + (r + y1) := by rw [he, Nat.succ_mul k y1]; omega
  simp only [Nat.add_sub_cancel]
  refine ⟨e, Nat.le_of_lt_succ hgt, by omega, fun h => ?_⟩
  exact Nat.le_antisymm (guess_over (u1 := u1) (y0 := y0) (by omega) e h (by omega) hY0) (Nat.le_of_lt_succ hgt)
theorem f100.loop0 (K' K Y y1 y0 u u1 : Nat) (s t : Int) (hYe : Y = y1 * 4294967296 + y0) (hY : 2147483648 ≤ y1) (hy1 : y1 < 4294967296) (hY0 : y0 < 4294967296) (hu : u < Y) (h1 : u1 < 4294967296) (hK : 1 < K) :
    iter (f100.s0 K') K ((Y : Int), s, (y1 : Int), (y0 : Int), (u : Int), (u1 : Int), t, ((u / y1 : Nat) : Int), ((u % y1 : Nat) : Int)) = some ((Y : Int), s, (y1 : Int), (y0 : Int), (u : Int), (u1 : Int), t, (((u * 4294967296 + u1) / Y : Nat) : Int)) := by
  have hu' : u < y1 * 4294967296 + y0 := by omega
  have hfirst := guess_first (u1 := u1) hY hu' h1 hY0
  have hlt := guess_lt (y1 := y1) (y0 := y0) (u := u) (by omega) hu' h1
  have hi := fun q r he => guess_high (u := u) (u1 := u1) (y1 := y1) (y0 := y0) (q := q) (r := r) (by omega) he
  have hround := fun q r he hr hq hq2 hgt => guess_round (q := q) (r := r) hY hy1 hY0 hu' h1 he hr hq hq2 hgt
  rw [show (u * 4294967296 + u1) / Y = (u * 4294967296 + u1) / (y1 * 4294967296 + y0) by rw [hYe]]
  generalize (u * 4294967296 + u1) / (y1 * 4294967296 + y0) = Q at *
  obtain ⟨y, hy, hz⟩ := iter_inv (stp := f100.s0 K')
    (fun m x => ∃ q r : Nat, x = ((Y : Int), s, (y1 : Int), (y0 : Int), (u : Int), (u1 : Int), t, (q : Int), (r : Int)) ∧ u = q * y1 + r ∧ r < 4294967296 ∧ Q ≤ q ∧ q ≤ 4294967297 ∧ (r < 2147483648 → 1 ≤ m))
    (fun y => y = ((Y : Int), s, (y1 : Int), (y0 : Int), (u : Int), (u1 : Int), t, (Q : Int)))
    (fun m x ⟨q, r, hx, he, hr, hq, hq2, hm⟩ => by
      subst hx
      have hw2 : IntKind.wrap .u64 ((r : Int) + (y1 : Int)) = ((r + y1 : Nat) : Int) := by rw [wrap_u _ (by omega) (by omega)]; rfl
      have down : Q < q →
          (∃ y, y = ((Y : Int), s, (y1 : Int), (y0 : Int), (u : Int), (u1 : Int), t, (Q : Int)) ∧ ∀ rec : Int × Int × Int × Int × Int × Int × Int × Int × Int → Option (Int × Int × Int × Int × Int × Int × Int × Int), (bif decide (((r + y1 : Nat) : Int) ≥ 4294967296) then some ((Y : Int), s, (y1 : Int), (y0 : Int), (u : Int), (u1 : Int), t, IntKind.wrap .u64 ((q : Int) - 1)) else rec ((Y : Int), s, (y1 : Int), (y0 : Int), (u : Int), (u1 : Int), t, IntKind.wrap .u64 ((q : Int) - 1), ((r + y1 : Nat) : Int))) = some y) ∨
          (∃ x' m', m' < m ∧ (∃ q' r' : Nat, x' = ((Y : Int), s, (y1 : Int), (y0 : Int), (u : Int), (u1 : Int), t, (q' : Int), (r' : Int)) ∧ u = q' * y1 + r' ∧ r' < 4294967296 ∧ Q ≤ q' ∧ q' ≤ 4294967297 ∧ (r' < 2147483648 → 1 ≤ m')) ∧
            ∀ rec : Int × Int × Int × Int × Int × Int × Int × Int × Int → Option (Int × Int × Int × Int × Int × Int × Int × Int), (bif decide (((r + y1 : Nat) : Int) ≥ 4294967296) then some ((Y : Int), s, (y1 : Int), (y0 : Int), (u : Int), (u1 : Int), t, IntKind.wrap .u64 ((q : Int) - 1)) else rec ((Y : Int), s, (y1 : Int), (y0 : Int), (u : Int), (u1 : Int), t, IntKind.wrap .u64 ((q : Int) - 1), ((r + y1 : Nat) : Int))) = rec x') := by
        intro hgt
        obtain ⟨g1, g2, g3, g4⟩ := hround q r he hr hq hq2 hgt
        have hw1 : IntKind.wrap .u64 ((q : Int) - 1) = ((q - 1 : Nat) : Int) := by rw [wrap_u _ (by omega) (by omega)]; omega
        rw [hw1]
        by_cases h : 4294967296 ≤ r + y1
        · refine .inl ⟨_, rfl, fun rec => ?_⟩
          rw [decide_eq_true (show ((r + y1 : Nat) : Int) ≥ 4294967296 by omega), cond_t, g4 h]
        · refine .inr ⟨_, 0, ?_, ⟨q - 1, r + y1, rfl, g1, by omega, g2, by omega, by omega⟩, fun rec => ?_⟩
          · have := hm (by omega); omega
          · rw [decide_eq_false (show ¬ ((r + y1 : Nat) : Int) ≥ 4294967296 by omega), cond_f]
      simp only [f100.s0, f100.s0t, hw2]
      by_cases hb : 4294967296 ≤ q
      · rw [decide_eq_true (show (q : Int) ≥ 4294967296 by omega)]
        simp only [cond_t]
        exact down (by omega)
      · rw [decide_eq_false (show ¬ (q : Int) ≥ 4294967296 by omega)]
        simp only [cond_f]
        have hp : q * y0 ≤ 4294967295 * 4294967295 := Nat.mul_le_mul (by omega) (by omega)
        have w1 : IntKind.wrap .u64 ((q : Int) * (y0 : Int)) = ((q * y0 : Nat) : Int) := by
          rw [show (q : Int) * (y0 : Int) = ((q * y0 : Nat) : Int) by simp, wrap_u _ (by omega) (by omega)]
        have w2 : IntKind.wrap .u64 (IntKind.wrap .u64 (4294967296 * (r : Int)) + (u1 : Int)) = ((r * 4294967296 + u1 : Nat) : Int) := by
          rw [wrap_u (4294967296 * (r : Int)) (by omega) (by omega), wrap_u _ (by omega) (by omega)]; omega
        rw [w1, w2]
        have hc' := hi q r he
        by_cases hc : r * 4294967296 + u1 < q * y0
        · rw [decide_eq_true (show ((q * y0 : Nat) : Int) > ((r * 4294967296 + u1 : Nat) : Int) by omega)]
          simp only [cond_t]
          exact down (hc'.1 hc)
        · rw [decide_eq_false (show ¬ ((q * y0 : Nat) : Int) > ((r * 4294967296 + u1 : Nat) : Int) by omega)]
          simp only [cond_f]
          have : q = Q := Nat.le_antisymm (Nat.le_of_not_lt ((not_congr hc').1 hc)) hq
          exact .inl ⟨_, rfl, fun rec => by rw [this]⟩)
    1 _ ⟨u / y1, u % y1, rfl, by have := Nat.div_add_mod u y1; rw [Nat.mul_comm] at this; exact this.symm, by have := Nat.mod_lt u (show 0 < y1 by omega); omega, hfirst.1, hfirst.2, fun _ => Nat.le_refl _⟩ K hK
  rw [hz, hy]
theorem f100.loop2 (K' K Y y1 y0 u u1 : Nat) (s t : Int) (hYe : Y = y1 * 4294967296 + y0) (hY : 2147483648 ≤ y1) (hy1 : y1 < 4294967296) (hY0 : y0 < 4294967296) (hu : u < Y) (h1 : u1 < 4294967296) (hK : 1 < K) :
    iter (f100.s2 K') K ((Y : Int), s, (y1 : Int), (y0 : Int), (u1 : Int), t, ((u % y1 : Nat) : Int), (u : Int), ((u / y1 : Nat) : Int)) = some ((Y : Int), s, (u1 : Int), t, (u : Int), (((u * 4294967296 + u1) / Y : Nat) : Int)) := by
  have hu' : u < y1 * 4294967296 + y0 := by omega
  have hfirst := guess_first (u1 := u1) hY hu' h1 hY0
  have hlt := guess_lt (y1 := y1) (y0 := y0) (u := u) (by omega) hu' h1
  have hi := fun q r he => guess_high (u := u) (u1 := u1) (y1 := y1) (y0 := y0) (q := q) (r := r) (by omega) he
  have hround := fun q r he hr hq hq2 hgt => guess_round (q := q) (r := r) hY hy1 hY0 hu' h1 he hr hq hq2 hgt
  rw [show (u * 4294967296 + u1) / Y = (u * 4294967296 + u1) / (y1 * 4294967296 + y0) by rw [hYe]]
  generalize (u * 4294967296 + u1) / (y1 * 4294967296 + y0) = Q at *
  obtain ⟨y, hy, hz⟩ := iter_inv (stp := f100.s2 K')
    (fun m x => ∃ q r : Nat, x = ((Y : Int), s, (y1 : Int), (y0 : Int), (u1 : Int), t, (r : Int), (u : Int), (q : Int)) ∧ u = q * y1 + r ∧ r < 4294967296 ∧ Q ≤ q ∧ q ≤ 4294967297 ∧ (r < 2147483648 → 1 ≤ m))
    (fun y => y = ((Y : Int), s, (u1 : Int), t, (u : Int), (Q : Int)))
    (fun m x ⟨q, r, hx, he, hr, hq, hq2, hm⟩ => by
      subst hx
      have hw2 : IntKind.wrap .u64 ((r : Int) + (y1 : Int)) = ((r + y1 : Nat) : Int) := by rw [wrap_u _ (by omega) (by omega)]; rfl
      have down : Q < q →
          (∃ y, y = ((Y : Int), s, (u1 : Int), t, (u : Int), (Q : Int)) ∧ ∀ rec : Int × Int × Int × Int × Int × Int × Int × Int × Int → Option (Int × Int × Int × Int × Int × Int), (bif decide (((r + y1 : Nat) : Int) ≥ 4294967296) then some ((Y : Int), s, (u1 : Int), t, (u : Int), IntKind.wrap .u64 ((q : Int) - 1)) else rec ((Y : Int), s, (y1 : Int), (y0 : Int), (u1 : Int), t, ((r + y1 : Nat) : Int), (u : Int), IntKind.wrap .u64 ((q : Int) - 1))) = some y) ∨
          (∃ x' m', m' < m ∧ (∃ q' r' : Nat, x' = ((Y : Int), s, (y1 : Int), (y0 : Int), (u1 : Int), t, (r' : Int), (u : Int), (q' : Int)) ∧ u = q' * y1 + r' ∧ r' < 4294967296 ∧ Q ≤ q' ∧ q' ≤ 4294967297 ∧ (r' < 2147483648 → 1 ≤ m')) ∧
            ∀ rec : Int × Int × Int × Int × Int × Int × Int × Int × Int → Option (Int × Int × Int × Int × Int × Int), (bif decide (((r + y1 : Nat) : Int) ≥ 4294967296) then some ((Y : Int), s, (u1 : Int), t, (u : Int), IntKind.wrap .u64 ((q : Int) - 1)) else rec ((Y : Int), s, (y1 : Int), (y0 : Int), (u1 : Int), t, ((r + y1 : Nat) : Int), (u : Int), IntKind.wrap .u64 ((q : Int) - 1))) = rec x') := by
        intro hgt
        obtain ⟨g1, g2, g3, g4⟩ := hround q r he hr hq hq2 hgt
        have hw1 : IntKind.wrap .u64 ((q : Int) - 1) = ((q - 1 : Nat) : Int) := by rw [wrap_u _ (by omega) (by omega)]; omega
        rw [hw1]
        by_cases h : 4294967296 ≤ r + y1
        · refine .inl ⟨_, rfl, fun rec => ?_⟩
          rw [decide_eq_true (show ((r + y1 : Nat) : Int) ≥ 4294967296 by omega), cond_t, g4 h]
        · refine .inr ⟨_, 0, ?_, ⟨q - 1, r + y1, rfl, g1, by omega, g2, by omega, by omega⟩, fun rec => ?_⟩
          · have := hm (by omega); omega
          · rw [decide_eq_false (show ¬ ((r + y1 : Nat) : Int) ≥ 4294967296 by omega), cond_f]
      simp only [f100.s2, f100.s2t, hw2]
      by_cases hb : 4294967296 ≤ q
      · rw [decide_eq_true (show (q : Int) ≥ 4294967296 by omega)]
        simp only [cond_t]
        exact down (by omega)
      · rw [decide_eq_false (show ¬ (q : Int) ≥ 4294967296 by omega)]
        simp only [cond_f]
        have hp : q * y0 ≤ 4294967295 * 4294967295 := Nat.mul_le_mul (by omega) (by omega)
        have w1 : IntKind.wrap .u64 ((q : Int) * (y0 : Int)) = ((q * y0 : Nat) : Int) := by
          rw [show (q : Int) * (y0 : Int) = ((q * y0 : Nat) : Int) by simp, wrap_u _ (by omega) (by omega)]
        have w2 : IntKind.wrap .u64 (IntKind.wrap .u64 (4294967296 * (r : Int)) + (u1 : Int)) = ((r * 4294967296 + u1 : Nat) : Int) := by
          rw [wrap_u (4294967296 * (r : Int)) (by omega) (by omega), wrap_u _ (by omega) (by omega)]; omega
        rw [w1, w2]
        have hc' := hi q r he
        by_cases hc : r * 4294967296 + u1 < q * y0
        · rw [decide_eq_true (show ((q * y0 : Nat) : Int) > ((r * 4294967296 + u1 : Nat) : Int) by omega)]
          simp only [cond_t]
          exact down (hc'.1 hc)
        · rw [decide_eq_false (show ¬ ((q * y0 : Nat) : Int) > ((r * 4294967296 + u1 : Nat) : Int) by omega)]
          simp only [cond_f]
          have : q = Q := Nat.le_antisymm (Nat.le_of_not_lt ((not_congr hc').1 hc)) hq
          exact .inl ⟨_, rfl, fun rec => by rw [this]⟩)
    1 _ ⟨u / y1, u % y1, rfl, by have := Nat.div_add_mod u y1; rw [Nat.mul_comm] at this; exact this.symm, by have := Nat.mod_lt u (show 0 < y1 by omega); omega, hfirst.1, hfirst.2, fun _ => Nat.le_refl _⟩ K hK
  rw [hz, hy]
end Go.Proofs

namespace Go.Proofs
open Go.VM
theorem shl_nat (x k : Nat) (h : k ≤ 64) : shiftI .shl .u64 (x : Int) (k : Int) = ((x * 2 ^ k % 2 ^ 64 : Nat) : Int) := by
  show IntKind.wrap .u64 ((x : Int) * 2 ^ (min (Int.toNat (k : Int)) 64)) = _
  rw [Int.toNat_natCast, Nat.min_eq_left h, show (x : Int) * 2 ^ k = ((x * 2 ^ k : Nat) : Int) by simp, wrap_nat]
theorem f122.spec (K x : Nat) (hx : x < 18446744073709551616) : f122.F K (x : Int) = some ((64 - blen x : Nat) : Int) := by
  have h : blen x ≤ 64 := blen_le (k := 64) hx
  simp only [f122.F, f122.T, f130.spec K x hx, bind_s]
  rw [wrap_i _ (by omega) (by omega)]
  congr 1; omega
theorem wrap_left (u u1 q Y : Nat) (hq : q * Y ≤ u * 4294967296 + u1) (hr : u * 4294967296 + u1 - q * Y < 18446744073709551616) :
    IntKind.wrap .u64 (IntKind.wrap .u64 (IntKind.wrap .u64 ((u : Int) * 4294967296) + (u1 : Int)) - IntKind.wrap .u64 ((q : Int) * (Y : Int))) = ((u * 4294967296 + u1 - q * Y : Nat) : Int) := by
  have e : (q : Int) * (Y : Int) = ((q * Y : Nat) : Int) := by simp
  rw [e]
  simp only [wrap_emod]
  omega
theorem low_mask (x : Nat) (h : x < 18446744073709551616) : bits .and .u64 (x : Int) 4294967295 = ((x % 4294967296 : Nat) : Int) := and_mask32 x h
theorem fdiv32 (x : Nat) : Int.fdiv (x : Int) (2 ^ 32) = ((x / 4294967296 : Nat) : Int) := fdiv_nat x 32
theorem mod_eq_sub (u v : Nat) : u - u / v * v = u % v := by
  have := Nat.mod_add_div u v
  rw [Nat.mul_comm] at this
  omega
theorem f100.spec (K hi lo y : Nat) (hy : y < 18446744073709551616) (hhi : hi < y) (hlo : lo < 18446744073709551616) (hK : 1 < K) :
    f100.F K ((hi : Int), (lo : Int), (y : Int)) = some ((((hi * 18446744073709551616 + lo) / y : Nat) : Int), (((hi * 18446744073709551616 + lo) % y : Nat) : Int)) := by
  have hy0 : 0 < y := by omega
  simp only [f100.F, f100.T]
  have c1 : ((y : Int) == 0) = false := by simp; omega
  have c3 : decide ((y : Int) ≠ 0) = true := decide_eq_true (by omega)
  rw [c1, decide_eq_false (show ¬ (y : Int) ≤ (hi : Int) by omega), c3]
  simp only [cond_t, cond_f]
  by_cases h0 : hi = 0
  · subst h0
    rw [show (((0 : Nat) : Int) == 0) = true from rfl, cond_t, tdiv_nat, tmod_nat, wrap_nat, Nat.zero_mul, Nat.zero_add, Nat.mod_eq_of_lt (Nat.lt_of_le_of_lt (Nat.div_le_self _ _) hlo)]
  · have c4 : ((hi : Int) == 0) = false := by simp; omega
    rw [c4, cond_f, f122.spec K y hy, bind_s]
    obtain ⟨gy, py⟩ := blen_ge (x := y) (by omega)
    have hb : blen y ≤ 64 := blen_le (k := 64) hy
    have ly := blen_lt y
    obtain ⟨s, hs⟩ : ∃ s, s = 64 - blen y := ⟨_, rfl⟩
    rw [← hs]
    have hs63 : s ≤ 63 := by omega
    have w5 : IntKind.wrap .u64 (s : Int) = (s : Int) := wrap_u _ (by omega) (by omega)
    have w10 : IntKind.wrap .u64 (64 - (s : Int)) = ((64 - s : Nat) : Int) := by rw [wrap_u _ (by omega) (by omega)]; omega
    have d1 : decide (0 ≤ (s : Int)) = true := decide_eq_true (by omega)
    have d2 : decide (0 ≤ ((64 - s : Nat) : Int)) = true := decide_eq_true (by omega)
    have p2 := Nat.two_pow_pos s
    have e64 : 18446744073709551616 = 2 ^ (64 - s) * 2 ^ s := by rw [← Nat.pow_add, show 64 - s + s = 64 by omega]

    have hYlt : y * 2 ^ s < 18446744073709551616 := by
      have h1 : y * 2 ^ s < 2 ^ blen y * 2 ^ s := Nat.mul_lt_mul_of_pos_right ly p2
      rw [← Nat.pow_add, show blen y + s = 64 by omega] at h1
      exact h1
    have hYge : 9223372036854775808 ≤ y * 2 ^ s := by
      have h1 : 2 ^ (blen y - 1) * 2 ^ s ≤ y * 2 ^ s := Nat.mul_le_mul_right _ gy
      rw [← Nat.pow_add, show blen y - 1 + s = 63 by omega] at h1
      exact h1

    have hl1 : lo / 2 ^ (64 - s) < 2 ^ s := by rw [Nat.div_lt_iff_lt_mul (Nat.two_pow_pos _), Nat.mul_comm, ← e64]; exact hlo
    have hu : hi * 2 ^ s + lo / 2 ^ (64 - s) < y * 2 ^ s := by
      have : (hi + 1) * 2 ^ s ≤ y * 2 ^ s := Nat.mul_le_mul_right _ hhi
      rw [Nat.succ_mul] at this
      omega
    have hh1 : hi * 2 ^ s < 18446744073709551616 := Nat.lt_of_le_of_lt (Nat.le_add_right _ _) (Nat.lt_trans hu hYlt)
    have hh2 : lo / 2 ^ (64 - s) < 18446744073709551616 := Nat.lt_of_le_of_lt (Nat.le_add_left _ _) (Nat.lt_trans hu hYlt)
    have hor : bits .or .u64 (shiftI .shl .u64 (hi : Int) (s : Int)) (shiftI .shr .u64 (lo : Int) ((64 - s : Nat) : Int)) = ((hi * 2 ^ s + lo / 2 ^ (64 - s) : Nat) : Int) := by
      rw [shl_nat hi s (by omega), shr_nat lo (64 - s) (by omega), show (2 : Nat) ^ 64 = 18446744073709551616 from rfl, Nat.mod_eq_of_lt hh1, bits_or_u64_nat _ _ hh1 hh2]
      congr 1
      rw [← Nat.shiftLeft_eq, ← Nat.shiftLeft_add_eq_or_of_lt hl1]
    have hlow : lo * 2 ^ s = lo / 2 ^ (64 - s) * 18446744073709551616 + lo * 2 ^ s % 18446744073709551616 := by
      have h1 : lo * 2 ^ s / 18446744073709551616 = lo / 2 ^ (64 - s) := by rw [e64, Nat.mul_div_mul_right _ _ p2]
      have h2 := Nat.mod_add_div (lo * 2 ^ s) 18446744073709551616
      rw [h1, Nat.mul_comm 18446744073709551616] at h2
      omega
    rw [w5, w10, d1, d2, hor, shl_nat y s (by omega), shl_nat lo s (by omega), show (2 : Nat) ^ 64 = 18446744073709551616 from rfl, Nat.mod_eq_of_lt hYlt]
    simp only [cond_t]
    have hw : lo * 2 ^ s % 18446744073709551616 < 18446744073709551616 := Nat.mod_lt _ (by decide)
    rw [low_mask _ hYlt, low_mask _ hw, fdiv32, fdiv32]

    have hN : (hi * 18446744073709551616 + lo) * 2 ^ s = (hi * 2 ^ s + lo / 2 ^ (64 - s)) * 18446744073709551616 + lo * 2 ^ s % 18446744073709551616 := by
      rw [Nat.add_mul, hlow, Nat.add_mul, Nat.mul_assoc, Nat.mul_comm 18446744073709551616, ← Nat.mul_assoc]
      omega
    have hfin : (hi * 18446744073709551616 + lo) / y = (hi * 18446744073709551616 + lo) * 2 ^ s / (y * 2 ^ s) ∧ (hi * 18446744073709551616 + lo) % y * 2 ^ s = (hi * 18446744073709551616 + lo) * 2 ^ s % (y * 2 ^ s) :=
      ⟨(Nat.mul_div_mul_right _ _ p2).symm, (Nat.mul_mod_mul_right _ _ _).symm⟩
    obtain ⟨N, hNN⟩ : ∃ N, N = hi * 18446744073709551616 + lo := ⟨_, rfl⟩
    obtain ⟨u, huu⟩ : ∃ u, u = hi * 2 ^ s + lo / 2 ^ (64 - s) := ⟨_, rfl⟩
    obtain ⟨l, hll⟩ : ∃ l, l = lo * 2 ^ s % 18446744073709551616 := ⟨_, rfl⟩
    obtain ⟨Y, hYY⟩ : ∃ Y, Y = y * 2 ^ s := ⟨_, rfl⟩
    rw [← hNN, ← huu, ← hll] at hN
    rw [← hNN, ← hYY] at hfin
    rw [← huu, ← hYY] at hu
    rw [← hYY] at hYlt hYge
    rw [← hll] at hw
    rw [← hNN, ← huu, ← hll, ← hYY]
    clear hNN huu hll hYY hlow hl1 hor hh1 hh2
    obtain ⟨y1, hy1⟩ : ∃ y1, y1 = Y / 4294967296 := ⟨_, rfl⟩
    obtain ⟨y0', hy0'⟩ : ∃ y0, y0 = Y % 4294967296 := ⟨_, rfl⟩
    obtain ⟨u1, hu1⟩ : ∃ u1, u1 = l / 4294967296 := ⟨_, rfl⟩
    obtain ⟨u0, hu0⟩ : ∃ u0, u0 = l % 4294967296 := ⟨_, rfl⟩
    rw [← hy1, ← hy0', ← hu1, ← hu0]
    have b1 : 2147483648 ≤ y1 := by omega
    have b2 : y1 < 4294967296 := by omega
    have b3 : y0' < 4294967296 := by omega
    have b4 : Y = y1 * 4294967296 + y0' := by omega
    have b5 : u1 < 4294967296 := by omega
    have b6 : u0 < 4294967296 := by omega
    have step : ∀ v : Nat, v < Y → IntKind.wrap .u64 (Int.tdiv (v : Int) (y1 : Int)) = ((v / y1 : Nat) : Int) ∧ IntKind.wrap .u64 ((v : Int) - IntKind.wrap .u64 (((v / y1 : Nat) : Int) * (y1 : Int))) = ((v % y1 : Nat) : Int) := by
      intro v hv
      have h1 : v / y1 ≤ v := Nat.div_le_self _ _
      have h2 : v / y1 * y1 ≤ v := Nat.div_mul_le_self _ _
      have h3 := mod_eq_sub v y1
      refine ⟨by rw [tdiv_nat, wrap_nat, Nat.mod_eq_of_lt (by omega)], ?_⟩
      rw [show ((v / y1 : Nat) : Int) * (y1 : Int) = ((v / y1 * y1 : Nat) : Int) by simp, wrap_nat, Nat.mod_eq_of_lt (by omega), wrap_u _ (by omega) (by omega)]
      omega
    have dy : decide ((y1 : Int) ≠ 0) = true := decide_eq_true (by omega)
    rw [dy]
    simp only [cond_t]
    rw [(step u hu).1, (step u hu).2, f100.loop0 K K Y y1 y0' u u1 (s : Int) (u0 : Int) b4 b1 b2 b3 hu b5 hK, bind_s]
    have hY0 : 0 < Y := by omega
    have m1 := Nat.mod_lt (u * 4294967296 + u1) hY0
    have q1 : (u * 4294967296 + u1) / Y * Y ≤ u * 4294967296 + u1 := Nat.div_mul_le_self _ _
    have r1 := mod_eq_sub (u * 4294967296 + u1) Y
    have hq1 : (u * 4294967296 + u1) / Y < 4294967296 := by have := guess_lt (y1 := y1) (y0 := y0') (u := u) (u1 := u1) (by omega) (by omega) b5; rwa [← b4] at this
    have d1' := Nat.mod_add_div (u * 4294967296 + u1) Y
    generalize (u * 4294967296 + u1) / Y = Q1 at *
    have wl := wrap_left u u1 Q1 Y q1 (by omega)
    simp only [dy, cond_t]
    rw [wl, r1]
    generalize (u * 4294967296 + u1) % Y = R1 at *
    rw [(step R1 m1).1, (step R1 m1).2, f100.loop2 K K Y y1 y0' R1 u0 (s : Int) (Q1 : Int) b4 b1 b2 b3 m1 b6 hK, bind_s]
    have m2 := Nat.mod_lt (R1 * 4294967296 + u0) hY0
    have q2 : (R1 * 4294967296 + u0) / Y * Y ≤ R1 * 4294967296 + u0 := Nat.div_mul_le_self _ _
    have r2 := mod_eq_sub (R1 * 4294967296 + u0) Y
    have hq2 : (R1 * 4294967296 + u0) / Y < 4294967296 := by have := guess_lt (y1 := y1) (y0 := y0') (u := R1) (u1 := u0) (by omega) (by omega) b6; rwa [← b4] at this
    have d2' := Nat.mod_add_div (R1 * 4294967296 + u0) Y
    generalize (R1 * 4294967296 + u0) / Y = Q0 at *
    have wl2 := wrap_left R1 u0 Q0 Y q2 (by omega)
    simp only [d1, cond_t]
    rw [wl2, r2]
    generalize (R1 * 4294967296 + u0) % Y = R0 at *

    have hdiv : N * 2 ^ s = R0 + Y * (Q1 * 4294967296 + Q0) := by
      rw [hN, Nat.mul_add, ← Nat.mul_assoc]
      omega
    obtain ⟨g1, g2⟩ := div_mod_of hdiv m2
    rw [hfin.1, g1, shr_nat R0 s (by omega)]
    have hrem : N % y = R0 / 2 ^ s := by
      have := hfin.2
      rw [g2] at this
      rw [← this, Nat.mul_div_cancel _ p2]
    rw [hrem, wrap_u ((Q1 : Int) * 4294967296) (by omega) (by omega), wrap_u _ (by omega) (by omega)]
    rfl
end Go.Proofs

namespace Go.Proofs
open Go.VM
theorem mod_step (a t w M : Nat) : (a % M * t + w) % M = (a * t + w) % M := by
  rw [Nat.add_mod, Nat.mul_mod, Nat.mod_mod, ← Nat.mul_mod, ← Nat.add_mod]
theorem two_rows (H L : Nat) : spl (spl [] 0 4 (num H)) 4 4 (num L) = num H ++ num L := rfl
theorem f54.words (X M l : Nat) (hX : X < 2 ^ 256) (hM : 0 < M) (hM64 : M < 18446744073709551616) (hl : l < M) (t z b3 : _) (i : Nat) :
    iter (f54.s2 100000) 100000 ((l : Int), t, (i : Int), 0, num M, z, num X, b3) = some ((((l * 2 ^ 256 + X) % M : Nat) : Int), t, (i : Int), num M, z, b3) := by
  have key := iter_for (stp := f54.s2 100000) (N := 4) (fun j => ((((l * 2 ^ (64 * j) + X / 2 ^ (64 * (4 - j))) % M : Nat) : Int), t, (i : Int), (j : Int), num M, z, num X, b3))
    (y := some ((((l * 2 ^ 256 + X) % M : Nat) : Int), t, (i : Int), num M, z, b3)) (fun j hj rec => by
      simp only [f54.s2, f54.s2t]
      have w1 : IntKind.wrap .i64 (3 - (j : Int)) = ((3 - j : Nat) : Int) := by rw [wrap_i _ (by omega) (by omega)]; omega
      have w2 : IntKind.wrap .i64 ((j : Int) + 1) = ((j + 1 : Nat) : Int) := by rw [wrap_i _ (by omega) (by omega)]; rfl
      have h4 : decide ((0 : Int) ≤ ((3 - j : Nat) : Int) ∧ ((3 - j : Nat) : Int) < 4) = true := inR_nat (n := 4) (by omega)
      have hw : X / 2 ^ (64 * (3 - j)) % 2 ^ 64 < 18446744073709551616 := Nat.mod_lt _ (by decide)
      rw [decide_eq_true (show (j : Int) < 4 by omega), cond_t, w1, w2, h4, cond_t, Int.toNat_natCast, getD_words (show 3 - j < 4 by omega), word0 M hM64,
        f100.spec 100000 _ _ M hM64 (Nat.mod_lt _ hM) hw (by decide), bind_s, mod_step]
      have e1 : X / 2 ^ (64 * (3 - j)) = X / 2 ^ (64 * (4 - j)) * 18446744073709551616 + X / 2 ^ (64 * (3 - j)) % 2 ^ 64 := by
        have h := Nat.mod_add_div (X / 2 ^ (64 * (3 - j))) (2 ^ 64)
        rw [Nat.div_div_eq_div_mul, ← Nat.pow_add, show 64 * (3 - j) + 64 = 64 * (4 - j) by omega] at h
        omega
      have e2 : l * 2 ^ (64 * (j + 1)) = l * 2 ^ (64 * j) * 18446744073709551616 := by
        rw [show 64 * (j + 1) = 64 * j + 64 by omega, Nat.pow_add, ← Nat.mul_assoc]
      rw [show 4 - (j + 1) = 3 - j by omega, e2]
      conv => rhs; rw [e1]
      rw [Nat.add_mul, Nat.add_assoc]) (fun rec => by
      simp only [f54.s2, f54.s2t]
      rw [decide_eq_false (show ¬ ((4 : Nat) : Int) < 4 by decide), cond_f, Nat.sub_self, Nat.mul_zero, Nat.pow_zero, Nat.div_one]) (show 4 < 100000 by decide)
  simp only [Nat.mul_zero, Nat.pow_zero, Nat.mul_one, Nat.sub_zero] at key
  rw [show 64 * 4 = 256 from rfl, Nat.div_eq_of_lt hX, Nat.add_zero, Nat.mod_eq_of_lt hl] at key
  exact key
def wideSo (H L M i : Nat) : Nat := if i = 0 then 0 else if i = 1 then H % M else (H * 2 ^ 256 + L) % M
theorem wideSo0 (H L M : Nat) : wideSo H L M 0 = 0 := if_pos rfl
theorem wideSo1 (H L M : Nat) : wideSo H L M 1 = H % M := by unfold wideSo; rw [if_neg (by decide), if_pos rfl]
theorem wideSo2 (H L M : Nat) : wideSo H L M 2 = (H * 2 ^ 256 + L) % M := by unfold wideSo; rw [if_neg (by decide), if_neg (by decide)]
theorem f54.small (H L M : Nat) (hH : H < 2 ^ 256) (hL : L < 2 ^ 256) (hM : 0 < M) (hM64 : M < 18446744073709551616) (z : _) :
    iter (f54.s0 100000) 100000 (0, 2, 0, num M, z, num H ++ num L) = some ((((H * 2 ^ 256 + L) % M : Nat) : Int), z) := by
  have key := iter_for (stp := f54.s0 100000) (N := 2) (fun i => ((wideSo H L M i : Int), (2 : Int), (i : Int), num M, z, num H ++ num L))
    (y := some ((((H * 2 ^ 256 + L) % M : Nat) : Int), z)) (fun i hi rec => by
      have hi2 : i = 0 ∨ i = 1 := by omega
      have wi : IntKind.wrap .i64 ((i : Int) + 1) = ((i + 1 : Nat) : Int) := by rw [wrap_i _ (by omega) (by omega)]; rfl
      simp only [f54.s0, f54.s0t]
      rw [decide_eq_true (show (i : Int) < 2 by omega), cond_t, decide_eq_true (show 0 ≤ (i : Int) ∧ (i : Int) < 2 by omega), cond_t]
      rcases hi2 with rfl | rfl
      · have hrow : List.take 4 (List.drop (Int.toNat ((0 : Nat) : Int) * 4) (num H ++ num L)) = num H := rfl
        have e := f54.words H M 0 hH hM hM64 hM 2 z (num H ++ num L) 0
        rw [Nat.zero_mul, Nat.zero_add] at e
        rw [hrow, wideSo0, e, bind_s]
        simp only []
        rw [wi, wideSo1]
      · have hrow : List.take 4 (List.drop (Int.toNat ((1 : Nat) : Int) * 4) (num H ++ num L)) = num L := rfl
        have e := f54.words L M (H % M) hL hM hM64 (Nat.mod_lt _ hM) 2 z (num H ++ num L) 1
        rw [hrow, wideSo1, e, bind_s, mod_step]
        simp only []
        rw [wi, wideSo2]) (fun rec => by
      simp only [f54.s0, f54.s0t]
      rw [decide_eq_false (show ¬ ((2 : Nat) : Int) < 2 by decide), cond_f, wideSo2]) (show 2 < 100000 by decide)
  rw [wideSo0] at key
  exact key
theorem f54.bits (H L M : Nat) (hH : H < 2 ^ 256) (hM : 0 < M) (hM' : M < 2 ^ 256) (_hL : L < 2 ^ 256) :
    iter (f54.s4 100000) 100000 (((blen H : Nat) : Int), 0, num H, num M, num (L % M), num (2 ^ 256 % M)) = some (num ((H * 2 ^ 256 + L) % M)) := by
  have hb := blen_256 hH
  have key := iter_for (stp := f54.s4 100000) (N := blen H) (fun i => (((blen H : Nat) : Int), (i : Int), num H, num M, num ((H % 2 ^ i * 2 ^ 256 + L) % M), num (2 ^ (256 + i) % M)))
    (y := some (num ((H * 2 ^ 256 + L) % M))) (fun i hi rec => by
      simp only [f54.s4, f54.s4t]
      have w2 : IntKind.wrap .i64 ((i : Int) + 1) = ((i + 1 : Nat) : Int) := by rw [wrap_i _ (by omega) (by omega)]; rfl
      have hs : num ((2 ^ (256 + i) % M + 2 ^ (256 + i) % M) % M) = num (2 ^ (256 + (i + 1)) % M) := by
        rw [← Nat.add_mod, show 2 ^ (256 + (i + 1)) = 2 ^ (256 + i) + 2 ^ (256 + i) by rw [show 256 + (i + 1) = (256 + i) + 1 from rfl, Nat.pow_succ, Nat.mul_two]]
      have hl := Nat.mod_lt (2 ^ (256 + i)) hM
      have hr := Nat.mod_lt (H % 2 ^ i * 2 ^ 256 + L) hM
      have hbit : H % 2 ^ (i + 1) = H % 2 ^ i + 2 ^ i * (H / 2 ^ i % 2) := by rw [Nat.pow_succ, Nat.mod_mul]
      rw [decide_eq_true (show (i : Int) < ((blen H : Nat) : Int) by omega), cond_t, f40.all H i (by omega), mod_self_of hH, bind_s, w2, f101.spec _ _ M hl hl hM', bind_s, hs, hbit]
      rcases Nat.mod_two_eq_zero_or_one (H / 2 ^ i) with h | h
      · rw [h, show (((0 : Nat) : Int) == 1) = false from rfl, cond_f, Nat.mul_zero, Nat.add_zero (H % 2 ^ i)]
      · rw [h, show (((1 : Nat) : Int) == 1) = true from rfl, cond_t, f101.spec _ _ M hr hl hM', bind_s, ← Nat.add_mod, Nat.mul_one]
        have e : (H % 2 ^ i + 2 ^ i) * 2 ^ 256 + L = H % 2 ^ i * 2 ^ 256 + L + 2 ^ (256 + i) := by
          rw [Nat.add_mul (H % 2 ^ i) (2 ^ i) (2 ^ 256), Nat.pow_add 2 256 i, Nat.mul_comm (2 ^ 256) (2 ^ i)]
          omega
        rw [e, bind_s]) (fun rec => by
      simp only [f54.s4, f54.s4t]
      rw [decide_eq_false (Int.lt_irrefl _), cond_f, Nat.mod_eq_of_lt (blen_lt H)]) (show blen H < 100000 by omega)
  simp only [Nat.pow_zero, Nat.mod_one, Nat.zero_mul, Nat.zero_add, Nat.add_zero] at key
  exact key
theorem f54.spec (L H M : Nat) (hL : L < 2 ^ 256) (hH : H < 2 ^ 256) (hM : M < 2 ^ 256) (h0 : 0 < M) : f54.F 100000 (num L, num H, num M) = some (num ((H * 2 ^ 256 + L) % M), 0) := by
  have mM := mod_self_of hM
  have hz : decide (M = 0 % 2 ^ 256) = false := decide_eq_false (fun h => by rw [Nat.zero_mod] at h; omega)
  have lM := blen_lt M
  simp only [f54.F, f54.T, f95.spec, bind_s, eqL_num, mM, hz, Bool.and_true, cond_f, f42.all, two_rows]
  by_cases h : blen M ≤ 64
  · have hM64 : M < 2 ^ 64 := Nat.lt_of_lt_of_le lM (Nat.pow_le_pow_right (by decide) h)
    have hr : (H * 2 ^ 256 + L) % M < 18446744073709551616 := Nat.lt_trans (Nat.mod_lt _ h0) hM64
    rw [decide_eq_true (show ((blen M : Nat) : Int) ≤ 64 by omega), cond_t, f54.small H L M hH hL h0 hM64, bind_s, f46.nat _ _ hr, bind_s]
  · obtain ⟨gM, _⟩ := blen_ge (x := M) (by omega)
    have hM64 : 2 ^ 64 ≤ M := Nat.le_trans (Nat.pow_le_pow_right (by decide) (by omega)) gM
    have e1 : (0 : Nat) % 2 ^ 256 + 2 ^ 256 - 1 % 2 ^ 256 = 2 ^ 256 - 1 := rfl
    have hp : (2 ^ 256 - 1 : Nat) < 2 ^ 256 := by decide
    have e2 : ((2 ^ 256 - 1) % M + 1) % M = 2 ^ 256 % M := by
      have h1 : (1 : Nat) % M = 1 := Nat.mod_eq_of_lt (by omega)
      have h2 : ((2 ^ 256 - 1) % M + 1 % M) % M = 2 ^ 256 % M := by rw [← Nat.add_mod]
      rwa [h1] at h2
    rw [decide_eq_false (show ¬ ((blen M : Nat) : Int) ≤ 64 by omega), cond_f]
    simp only [f46.one, bind_s, f34.all, e1]
    rw [f52.spec L M hL hM h0, bind_s, f52.spec _ M hp hM h0, bind_s, f101.spec _ 1 M (Nat.mod_lt _ h0) (by omega) hM, bind_s, e2, mod_self_of hH, f54.bits H L M hH h0 hM hL, bind_s]
end Go.Proofs

namespace Go.Proofs
open Go.VM
end Go.Proofs

namespace Go.Proofs
open Go.VM
end Go.Proofs
