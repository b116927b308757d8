/- Plain laws: lemmas that hold with no condition but those that each states. -/
import Derived.Test.YtjkelipglcnpmaaPd
import Derived.Test.YtjkelipglcnpmaaFd
import Derived.Test.YtjkelipglcnpmaaFe
import Derived.Laws.MathBits
namespace Go.Proofs
open Go.VM

/-! ### math/bits -/

theorem wrap_emod (z : Int) : IntKind.wrap .u64 z = z % 18446744073709551616 := by
  simp only [IntKind.wrap, IntKind.bits, IntKind.signed, Bool.false_and, Bool.false_eq_true, if_false]
  omega

theorem wrap_u8 (n : Nat) (h : n < 256) : IntKind.wrap .u8 (n : Int) = (n : Int) := by
  simp only [IntKind.wrap, IntKind.bits, IntKind.signed, Bool.false_and, Bool.false_eq_true, if_false]
  omega

theorem len8 : ∀ i : Fin 256, strAt f130.k0 i.val = ((blen i.val : Nat) : Int) := by decide +kernel

theorem blen_shift (x p : Nat) (h : x / 2 ^ p ≠ 0) : blen x = p + blen (x / 2 ^ p) := by
  have h1 := blen_word (x % 2 ^ p) (x / 2 ^ p) p (Nat.mod_lt _ (Nat.two_pow_pos p)) h
  have h2 := Nat.mod_add_div x (2 ^ p)
  rw [Nat.mul_comm] at h2
  rw [h2] at h1
  exact h1

theorem f130.end (x p : Nat) (h : x < 256) (hp : p ≤ 56) :
    (bif decide (0 ≤ IntKind.wrap .u8 ((x : Nat) : Int) ∧ IntKind.wrap .u8 ((x : Nat) : Int) < ((ByteArray.size f130.k0 : Nat) : Int)) then some (IntKind.wrap .i64 ((p : Int) + IntKind.wrap .i64 (strAt f130.k0 (Int.toNat (IntKind.wrap .u8 ((x : Nat) : Int)))))) else none) = some (((p + blen x : Nat) : Int)) := by
  have h1 := len8 ⟨x, h⟩
  have h2 : blen x ≤ 8 := blen_le (k := 8) h
  have h3 : ((ByteArray.size f130.k0 : Nat) : Int) = 256 := by decide +kernel
  rw [wrap_u8 x h, h3, decide_eq_true ⟨by omega, by omega⟩, cond_t, Int.toNat_natCast]
  rw [show strAt f130.k0 x = ((blen x : Nat) : Int) from h1, wrap_i (((blen x : Nat) : Int)) (by omega) (by omega), wrap_i _ (by omega) (by omega)]
  rfl

/-- Len64. -/
theorem f130.spec (K x : Nat) (hx : x < 18446744073709551616) : f130.F K (x : Int) = some ((blen x : Nat) : Int) := by
  simp only [f130.F, f130.T, fdiv_nat]
  have fin : ∀ (y p q : Nat), y / 2 ^ q < 256 → y / 2 ^ q ≠ 0 → p + q ≤ 56 → blen x = p + blen y → ∀ P : Int, P = ((p + q : Nat) : Int) →
      (bif decide (0 ≤ IntKind.wrap .u8 ((y / 2 ^ q : Nat) : Int) ∧ IntKind.wrap .u8 ((y / 2 ^ q : Nat) : Int) < ((ByteArray.size f130.k0 : Nat) : Int)) then some (IntKind.wrap .i64 (P + IntKind.wrap .i64 (strAt f130.k0 (Int.toNat (IntKind.wrap .u8 ((y / 2 ^ q : Nat) : Int)))))) else none) = some ((blen x : Nat) : Int) := by
    rintro y p q h1 h2 h3 h4 P rfl
    rw [f130.end _ _ h1 h3, h4, blen_shift y q h2, Nat.add_assoc]
  have fin0 : ∀ (y p : Nat), y < 256 → p ≤ 56 → blen x = p + blen y → ∀ P : Int, P = (p : Int) →
      (bif decide (0 ≤ IntKind.wrap .u8 ((y : Nat) : Int) ∧ IntKind.wrap .u8 ((y : Nat) : Int) < ((ByteArray.size f130.k0 : Nat) : Int)) then some (IntKind.wrap .i64 (P + IntKind.wrap .i64 (strAt f130.k0 (Int.toNat (IntKind.wrap .u8 ((y : Nat) : Int)))))) else none) = some ((blen x : Nat) : Int) := by
    rintro y p h1 h3 h4 P rfl
    rw [f130.end _ _ h1 h3, h4]
  by_cases h1 : 4294967296 ≤ x
  · rw [decide_eq_true (show (x : Int) ≥ 4294967296 by omega), cond_t]
    have b1 : blen x = 32 + blen (x / 2 ^ 32) := blen_shift x 32 (by omega)
    have l1 : x / 2 ^ 32 < 4294967296 := by omega
    generalize x / 2 ^ 32 = x1 at *
    by_cases h2 : 65536 ≤ x1
    · rw [decide_eq_true (show (x1 : Int) ≥ 65536 by omega), cond_t]
      have b2 : blen x1 = 16 + blen (x1 / 2 ^ 16) := blen_shift x1 16 (by omega)
      have l2 : x1 / 2 ^ 16 < 65536 := by omega
      generalize x1 / 2 ^ 16 = x2 at *
      by_cases h3 : 256 ≤ x2
      · rw [decide_eq_true (show (x2 : Int) ≥ 256 by omega), cond_t]
        exact fin x2 48 8 (by omega) (by omega) (by omega) (by omega) _ rfl
      · rw [decide_eq_false (show ¬ (x2 : Int) ≥ 256 by omega), cond_f]
        exact fin0 x2 48 (by omega) (by omega) (by omega) _ rfl
    · rw [decide_eq_false (show ¬ (x1 : Int) ≥ 65536 by omega), cond_f]
      by_cases h3 : 256 ≤ x1
      · rw [decide_eq_true (show (x1 : Int) ≥ 256 by omega), cond_t]
        exact fin x1 32 8 (by omega) (by omega) (by omega) (by omega) _ rfl
      · rw [decide_eq_false (show ¬ (x1 : Int) ≥ 256 by omega), cond_f]
        exact fin0 x1 32 (by omega) (by omega) (by omega) _ rfl
  · rw [decide_eq_false (show ¬ (x : Int) ≥ 4294967296 by omega), cond_f]
    by_cases h2 : 65536 ≤ x
    · rw [decide_eq_true (show (x : Int) ≥ 65536 by omega), cond_t]
      have b2 : blen x = 16 + blen (x / 2 ^ 16) := blen_shift x 16 (by omega)
      have l2 : x / 2 ^ 16 < 65536 := by omega
      generalize x / 2 ^ 16 = x2 at *
      by_cases h3 : 256 ≤ x2
      · rw [decide_eq_true (show (x2 : Int) ≥ 256 by omega), cond_t]
        exact fin x2 16 8 (by omega) (by omega) (by omega) (by omega) _ rfl
      · rw [decide_eq_false (show ¬ (x2 : Int) ≥ 256 by omega), cond_f]
        exact fin0 x2 16 (by omega) (by omega) (by omega) _ rfl
    · rw [decide_eq_false (show ¬ (x : Int) ≥ 65536 by omega), cond_f]
      by_cases h3 : 256 ≤ x
      · rw [decide_eq_true (show (x : Int) ≥ 256 by omega), cond_t]
        exact fin x 0 8 (by omega) (by omega) (by omega) (by omega) _ rfl
      · rw [decide_eq_false (show ¬ (x : Int) ≥ 256 by omega), cond_f]
        exact fin0 x 0 (by omega) (by omega) (by omega) _ rfl

/-- Mul64. -/
theorem f125.spec (K a b : Nat) (ha : a < 18446744073709551616) (hb : b < 18446744073709551616) : f125.F K ((a : Int), (b : Int)) = some (((a * b / 2 ^ 64 : Nat) : Int), ((a * b % 2 ^ 64 : Nat) : Int)) := by
  have h := mul64_arith (a : Int) (b : Int) (by omega) (by omega) (by omega) (by omega)
  have fd : ∀ z : Int, 0 ≤ z → Int.fdiv z (2 ^ 32) = z / 4294967296 := fun z _ => by
    rw [Int.fdiv_eq_ediv_of_nonneg _ (by decide)]; rfl
  have m1 : ∀ z : Int, 0 ≤ z % 18446744073709551616 := fun z => Int.emod_nonneg _ (by decide)
  simp only [f125.F, f125.T]
  rw [and_low32 _ (by omega) (by omega), and_low32 _ (by omega) (by omega)]
  simp only [wrap_emod]
  rw [and_low32 _ (m1 _) (Int.emod_lt_of_pos _ (by decide)), fd (a : Int) (by omega), fd (b : Int) (by omega), fd _ (m1 _), fd _ (m1 _), fd _ (m1 _), h]
  congr 1

end Go.Proofs

namespace Go.Proofs
open Go.VM

/-! ### Div64 -/

/-- The digit that is guessed is too high just if it says so. -/
theorem guess_high {u u1 y1 y0 q r : Nat} (hY : 0 < y1) (hu : u = q * y1 + r) : (r * 4294967296 + u1 < q * y0) ↔ (u * 4294967296 + u1) / (y1 * 4294967296 + y0) < q := by
  rw [Nat.div_lt_iff_lt_mul (by omega), hu, Nat.mul_add q (y1 * 4294967296) y0, Nat.add_mul (q * y1) r 4294967296, ← Nat.mul_assoc q y1 4294967296]
  omega

/-- Once what is left has more than a half word, one less is right. -/
theorem guess_over {u u1 y1 y0 q r : Nat} (hY : 0 < y1) (hu : u = q * y1 + r) (hr : 4294967296 ≤ r) (hq : q ≤ 4294967296) (hy0 : y0 < 4294967296) : q ≤ (u * 4294967296 + u1) / (y1 * 4294967296 + y0) := by
  have h := not_congr (guess_high (u1 := u1) (y0 := y0) hY hu)
  have h2 : q * y0 ≤ 4294967296 * 4294967295 := Nat.mul_le_mul hq (by omega)
  exact Nat.le_of_not_lt (h.1 (by omega))

theorem guess_lt {u u1 y1 y0 : Nat} (_hY : 0 < y1) (hu : u < y1 * 4294967296 + y0) (h1 : u1 < 4294967296) : (u * 4294967296 + u1) / (y1 * 4294967296 + y0) < 4294967296 := by
  rw [Nat.div_lt_iff_lt_mul (by omega), Nat.mul_comm 4294967296]
  have : (u + 1) * 4294967296 ≤ (y1 * 4294967296 + y0) * 4294967296 := Nat.mul_le_mul_right _ hu
  omega

theorem guess_first {u u1 y1 y0 : Nat} (hY : 2147483648 ≤ y1) (hu : u < y1 * 4294967296 + y0) (h1 : u1 < 4294967296) (hy0 : y0 < 4294967296) : (u * 4294967296 + u1) / (y1 * 4294967296 + y0) ≤ u / y1 ∧ u / y1 ≤ 4294967297 := by
  constructor
  · rw [Nat.le_div_iff_mul_le (by omega)]
    generalize hQ : (u * 4294967296 + u1) / (y1 * 4294967296 + y0) = Q
    have h2 : Q * (y1 * 4294967296 + y0) ≤ u * 4294967296 + u1 := by rw [← hQ]; exact Nat.div_mul_le_self _ _
    rw [Nat.mul_add Q (y1 * 4294967296) y0, ← Nat.mul_assoc Q y1 4294967296] at h2
    omega
  · have : u < 4294967298 * y1 := by omega
    have := (Nat.div_lt_iff_lt_mul (show 0 < y1 by omega)).2 this
    omega

/-- A round's way. -/
theorem guess_round {u u1 y1 y0 q r : Nat} (hY : 2147483648 ≤ y1) (hy1 : y1 < 4294967296) (hY0 : y0 < 4294967296) (_hu : u < y1 * 4294967296 + y0) (_h1 : u1 < 4294967296)
    (he : u = q * y1 + r) (_hr : r < 4294967296) (hq : (u * 4294967296 + u1) / (y1 * 4294967296 + y0) ≤ q) (hq2 : q ≤ 4294967297) (hgt : (u * 4294967296 + u1) / (y1 * 4294967296 + y0) < q) :
    u = (q - 1) * y1 + (r + y1) ∧ (u * 4294967296 + u1) / (y1 * 4294967296 + y0) ≤ q - 1 ∧ q - 1 ≤ 4294967296 ∧ (4294967296 ≤ r + y1 → q - 1 = (u * 4294967296 + u1) / (y1 * 4294967296 + y0)) := by
  have hq0 : 0 < q := Nat.lt_of_le_of_lt (Nat.zero_le _) hgt
  obtain ⟨k, rfl⟩ : ∃ k, q = k + 1 := ⟨q - 1, by omega⟩
  have e : u = k * y1 + (r + y1) := by rw [he, Nat.succ_mul k y1]; omega
  simp only [Nat.add_sub_cancel]
  refine ⟨e, Nat.le_of_lt_succ hgt, by omega, fun h => ?_⟩
  exact Nat.le_antisymm (guess_over (u1 := u1) (y0 := y0) (by omega) e h (by omega) hY0) (Nat.le_of_lt_succ hgt)

theorem f100.loop0 (K' K Y y1 y0 u u1 : Nat) (s t : Int) (hYe : Y = y1 * 4294967296 + y0) (hY : 2147483648 ≤ y1) (hy1 : y1 < 4294967296) (hY0 : y0 < 4294967296) (hu : u < Y) (h1 : u1 < 4294967296) (hK : 1 < K) :
    iter (f100.s0 K') K ((Y : Int), s, (y1 : Int), (y0 : Int), (u : Int), (u1 : Int), t, ((u / y1 : Nat) : Int), ((u % y1 : Nat) : Int)) = some ((Y : Int), s, (y1 : Int), (y0 : Int), (u : Int), (u1 : Int), t, (((u * 4294967296 + u1) / Y : Nat) : Int)) := by
  have hu' : u < y1 * 4294967296 + y0 := by omega
  have hfirst := guess_first (u1 := u1) hY hu' h1 hY0
  have hlt := guess_lt (y1 := y1) (y0 := y0) (u := u) (by omega) hu' h1
  have hi := fun q r he => guess_high (u := u) (u1 := u1) (y1 := y1) (y0 := y0) (q := q) (r := r) (by omega) he
  have hround := fun q r he hr hq hq2 hgt => guess_round (q := q) (r := r) hY hy1 hY0 hu' h1 he hr hq hq2 hgt
  rw [show (u * 4294967296 + u1) / Y = (u * 4294967296 + u1) / (y1 * 4294967296 + y0) by rw [hYe]]
  generalize (u * 4294967296 + u1) / (y1 * 4294967296 + y0) = Q at *
  obtain ⟨y, hy, hz⟩ := iter_inv (stp := f100.s0 K')
    (fun m x => ∃ q r : Nat, x = ((Y : Int), s, (y1 : Int), (y0 : Int), (u : Int), (u1 : Int), t, (q : Int), (r : Int)) ∧ u = q * y1 + r ∧ r < 4294967296 ∧ Q ≤ q ∧ q ≤ 4294967297 ∧ (r < 2147483648 → 1 ≤ m))
    (fun y => y = ((Y : Int), s, (y1 : Int), (y0 : Int), (u : Int), (u1 : Int), t, (Q : Int)))
    (fun m x ⟨q, r, hx, he, hr, hq, hq2, hm⟩ => by
      subst hx
      have hw2 : IntKind.wrap .u64 ((r : Int) + (y1 : Int)) = ((r + y1 : Nat) : Int) := by rw [wrap_u _ (by omega) (by omega)]; rfl
      have down : Q < q →
          (∃ y, y = ((Y : Int), s, (y1 : Int), (y0 : Int), (u : Int), (u1 : Int), t, (Q : Int)) ∧ ∀ rec : Int × Int × Int × Int × Int × Int × Int × Int × Int → Option (Int × Int × Int × Int × Int × Int × Int × Int), (bif decide (((r + y1 : Nat) : Int) ≥ 4294967296) then some ((Y : Int), s, (y1 : Int), (y0 : Int), (u : Int), (u1 : Int), t, IntKind.wrap .u64 ((q : Int) - 1)) else rec ((Y : Int), s, (y1 : Int), (y0 : Int), (u : Int), (u1 : Int), t, IntKind.wrap .u64 ((q : Int) - 1), ((r + y1 : Nat) : Int))) = some y) ∨
          (∃ x' m', m' < m ∧ (∃ q' r' : Nat, x' = ((Y : Int), s, (y1 : Int), (y0 : Int), (u : Int), (u1 : Int), t, (q' : Int), (r' : Int)) ∧ u = q' * y1 + r' ∧ r' < 4294967296 ∧ Q ≤ q' ∧ q' ≤ 4294967297 ∧ (r' < 2147483648 → 1 ≤ m')) ∧
            ∀ rec : Int × Int × Int × Int × Int × Int × Int × Int × Int → Option (Int × Int × Int × Int × Int × Int × Int × Int), (bif decide (((r + y1 : Nat) : Int) ≥ 4294967296) then some ((Y : Int), s, (y1 : Int), (y0 : Int), (u : Int), (u1 : Int), t, IntKind.wrap .u64 ((q : Int) - 1)) else rec ((Y : Int), s, (y1 : Int), (y0 : Int), (u : Int), (u1 : Int), t, IntKind.wrap .u64 ((q : Int) - 1), ((r + y1 : Nat) : Int))) = rec x') := by
        intro hgt
        obtain ⟨g1, g2, g3, g4⟩ := hround q r he hr hq hq2 hgt
        have hw1 : IntKind.wrap .u64 ((q : Int) - 1) = ((q - 1 : Nat) : Int) := by rw [wrap_u _ (by omega) (by omega)]; omega
        rw [hw1]
        by_cases h : 4294967296 ≤ r + y1
        · refine .inl ⟨_, rfl, fun rec => ?_⟩
          rw [decide_eq_true (show ((r + y1 : Nat) : Int) ≥ 4294967296 by omega), cond_t, g4 h]
        · refine .inr ⟨_, 0, ?_, ⟨q - 1, r + y1, rfl, g1, by omega, g2, by omega, by omega⟩, fun rec => ?_⟩
          · have := hm (by omega); omega
          · rw [decide_eq_false (show ¬ ((r + y1 : Nat) : Int) ≥ 4294967296 by omega), cond_f]
      simp only [f100.s0, f100.s0t, hw2]
      by_cases hb : 4294967296 ≤ q
      · rw [decide_eq_true (show (q : Int) ≥ 4294967296 by omega)]
        simp only [cond_t]
        exact down (by omega)
      · rw [decide_eq_false (show ¬ (q : Int) ≥ 4294967296 by omega)]
        simp only [cond_f]
        have hp : q * y0 ≤ 4294967295 * 4294967295 := Nat.mul_le_mul (by omega) (by omega)
        have w1 : IntKind.wrap .u64 ((q : Int) * (y0 : Int)) = ((q * y0 : Nat) : Int) := by
          rw [show (q : Int) * (y0 : Int) = ((q * y0 : Nat) : Int) by simp, wrap_u _ (by omega) (by omega)]
        have w2 : IntKind.wrap .u64 (IntKind.wrap .u64 (4294967296 * (r : Int)) + (u1 : Int)) = ((r * 4294967296 + u1 : Nat) : Int) := by
          rw [wrap_u (4294967296 * (r : Int)) (by omega) (by omega), wrap_u _ (by omega) (by omega)]; omega
        rw [w1, w2]
        have hc' := hi q r he
        by_cases hc : r * 4294967296 + u1 < q * y0
        · rw [decide_eq_true (show ((q * y0 : Nat) : Int) > ((r * 4294967296 + u1 : Nat) : Int) by omega)]
          simp only [cond_t]
          exact down (hc'.1 hc)
        · rw [decide_eq_false (show ¬ ((q * y0 : Nat) : Int) > ((r * 4294967296 + u1 : Nat) : Int) by omega)]
          simp only [cond_f]
          have : q = Q := Nat.le_antisymm (Nat.le_of_not_lt ((not_congr hc').1 hc)) hq
          exact .inl ⟨_, rfl, fun rec => by rw [this]⟩)
    1 _ ⟨u / y1, u % y1, rfl, by have := Nat.div_add_mod u y1; rw [Nat.mul_comm] at this; exact this.symm, by have := Nat.mod_lt u (show 0 < y1 by omega); omega, hfirst.1, hfirst.2, fun _ => Nat.le_refl _⟩ K hK
  rw [hz, hy]

theorem f100.loop2 (K' K Y y1 y0 u u1 : Nat) (s t : Int) (hYe : Y = y1 * 4294967296 + y0) (hY : 2147483648 ≤ y1) (hy1 : y1 < 4294967296) (hY0 : y0 < 4294967296) (hu : u < Y) (h1 : u1 < 4294967296) (hK : 1 < K) :
    iter (f100.s2 K') K ((Y : Int), s, (y1 : Int), (y0 : Int), (u1 : Int), t, ((u % y1 : Nat) : Int), (u : Int), ((u / y1 : Nat) : Int)) = some ((Y : Int), s, (u1 : Int), t, (u : Int), (((u * 4294967296 + u1) / Y : Nat) : Int)) := by
  have hu' : u < y1 * 4294967296 + y0 := by omega
  have hfirst := guess_first (u1 := u1) hY hu' h1 hY0
  have hlt := guess_lt (y1 := y1) (y0 := y0) (u := u) (by omega) hu' h1
  have hi := fun q r he => guess_high (u := u) (u1 := u1) (y1 := y1) (y0 := y0) (q := q) (r := r) (by omega) he
  have hround := fun q r he hr hq hq2 hgt => guess_round (q := q) (r := r) hY hy1 hY0 hu' h1 he hr hq hq2 hgt
  rw [show (u * 4294967296 + u1) / Y = (u * 4294967296 + u1) / (y1 * 4294967296 + y0) by rw [hYe]]
  generalize (u * 4294967296 + u1) / (y1 * 4294967296 + y0) = Q at *
  obtain ⟨y, hy, hz⟩ := iter_inv (stp := f100.s2 K')
    (fun m x => ∃ q r : Nat, x = ((Y : Int), s, (y1 : Int), (y0 : Int), (u1 : Int), t, (r : Int), (u : Int), (q : Int)) ∧ u = q * y1 + r ∧ r < 4294967296 ∧ Q ≤ q ∧ q ≤ 4294967297 ∧ (r < 2147483648 → 1 ≤ m))
    (fun y => y = ((Y : Int), s, (u1 : Int), t, (u : Int), (Q : Int)))
    (fun m x ⟨q, r, hx, he, hr, hq, hq2, hm⟩ => by
      subst hx
      have hw2 : IntKind.wrap .u64 ((r : Int) + (y1 : Int)) = ((r + y1 : Nat) : Int) := by rw [wrap_u _ (by omega) (by omega)]; rfl
      have down : Q < q →
          (∃ y, y = ((Y : Int), s, (u1 : Int), t, (u : Int), (Q : Int)) ∧ ∀ rec : Int × Int × Int × Int × Int × Int × Int × Int × Int → Option (Int × Int × Int × Int × Int × Int), (bif decide (((r + y1 : Nat) : Int) ≥ 4294967296) then some ((Y : Int), s, (u1 : Int), t, (u : Int), IntKind.wrap .u64 ((q : Int) - 1)) else rec ((Y : Int), s, (y1 : Int), (y0 : Int), (u1 : Int), t, ((r + y1 : Nat) : Int), (u : Int), IntKind.wrap .u64 ((q : Int) - 1))) = some y) ∨
          (∃ x' m', m' < m ∧ (∃ q' r' : Nat, x' = ((Y : Int), s, (y1 : Int), (y0 : Int), (u1 : Int), t, (r' : Int), (u : Int), (q' : Int)) ∧ u = q' * y1 + r' ∧ r' < 4294967296 ∧ Q ≤ q' ∧ q' ≤ 4294967297 ∧ (r' < 2147483648 → 1 ≤ m')) ∧
            ∀ rec : Int × Int × Int × Int × Int × Int × Int × Int × Int → Option (Int × Int × Int × Int × Int × Int), (bif decide (((r + y1 : Nat) : Int) ≥ 4294967296) then some ((Y : Int), s, (u1 : Int), t, (u : Int), IntKind.wrap .u64 ((q : Int) - 1)) else rec ((Y : Int), s, (y1 : Int), (y0 : Int), (u1 : Int), t, ((r + y1 : Nat) : Int), (u : Int), IntKind.wrap .u64 ((q : Int) - 1))) = rec x') := by
        intro hgt
        obtain ⟨g1, g2, g3, g4⟩ := hround q r he hr hq hq2 hgt
        have hw1 : IntKind.wrap .u64 ((q : Int) - 1) = ((q - 1 : Nat) : Int) := by rw [wrap_u _ (by omega) (by omega)]; omega
        rw [hw1]
        by_cases h : 4294967296 ≤ r + y1
        · refine .inl ⟨_, rfl, fun rec => ?_⟩
          rw [decide_eq_true (show ((r + y1 : Nat) : Int) ≥ 4294967296 by omega), cond_t, g4 h]
        · refine .inr ⟨_, 0, ?_, ⟨q - 1, r + y1, rfl, g1, by omega, g2, by omega, by omega⟩, fun rec => ?_⟩
          · have := hm (by omega); omega
          · rw [decide_eq_false (show ¬ ((r + y1 : Nat) : Int) ≥ 4294967296 by omega), cond_f]
      simp only [f100.s2, f100.s2t, hw2]
      by_cases hb : 4294967296 ≤ q
      · rw [decide_eq_true (show (q : Int) ≥ 4294967296 by omega)]
        simp only [cond_t]
        exact down (by omega)
      · rw [decide_eq_false (show ¬ (q : Int) ≥ 4294967296 by omega)]
        simp only [cond_f]
        have hp : q * y0 ≤ 4294967295 * 4294967295 := Nat.mul_le_mul (by omega) (by omega)
        have w1 : IntKind.wrap .u64 ((q : Int) * (y0 : Int)) = ((q * y0 : Nat) : Int) := by
          rw [show (q : Int) * (y0 : Int) = ((q * y0 : Nat) : Int) by simp, wrap_u _ (by omega) (by omega)]
        have w2 : IntKind.wrap .u64 (IntKind.wrap .u64 (4294967296 * (r : Int)) + (u1 : Int)) = ((r * 4294967296 + u1 : Nat) : Int) := by
          rw [wrap_u (4294967296 * (r : Int)) (by omega) (by omega), wrap_u _ (by omega) (by omega)]; omega
        rw [w1, w2]
        have hc' := hi q r he
        by_cases hc : r * 4294967296 + u1 < q * y0
        · rw [decide_eq_true (show ((q * y0 : Nat) : Int) > ((r * 4294967296 + u1 : Nat) : Int) by omega)]
          simp only [cond_t]
          exact down (hc'.1 hc)
        · rw [decide_eq_false (show ¬ ((q * y0 : Nat) : Int) > ((r * 4294967296 + u1 : Nat) : Int) by omega)]
          simp only [cond_f]
          have : q = Q := Nat.le_antisymm (Nat.le_of_not_lt ((not_congr hc').1 hc)) hq
          exact .inl ⟨_, rfl, fun rec => by rw [this]⟩)
    1 _ ⟨u / y1, u % y1, rfl, by have := Nat.div_add_mod u y1; rw [Nat.mul_comm] at this; exact this.symm, by have := Nat.mod_lt u (show 0 < y1 by omega); omega, hfirst.1, hfirst.2, fun _ => Nat.le_refl _⟩ K hK
  rw [hz, hy]

end Go.Proofs

namespace Go.Proofs
open Go.VM

theorem shl_nat (x k : Nat) (h : k ≤ 64) : shiftI .shl .u64 (x : Int) (k : Int) = ((x * 2 ^ k % 2 ^ 64 : Nat) : Int) := by
  show IntKind.wrap .u64 ((x : Int) * 2 ^ (min (Int.toNat (k : Int)) 64)) = _
  rw [Int.toNat_natCast, Nat.min_eq_left h, show (x : Int) * 2 ^ k = ((x * 2 ^ k : Nat) : Int) by simp, wrap_nat]

theorem f122.spec (K x : Nat) (hx : x < 18446744073709551616) : f122.F K (x : Int) = some ((64 - blen x : Nat) : Int) := by
  have h : blen x ≤ 64 := blen_le (k := 64) hx
  simp only [f122.F, f122.T, f130.spec K x hx, bind_s]
  rw [wrap_i _ (by omega) (by omega)]
  congr 1; omega

/-- What is left, by words that go round. -/
theorem wrap_left (u u1 q Y : Nat) (hq : q * Y ≤ u * 4294967296 + u1) (hr : u * 4294967296 + u1 - q * Y < 18446744073709551616) :
    IntKind.wrap .u64 (IntKind.wrap .u64 (IntKind.wrap .u64 ((u : Int) * 4294967296) + (u1 : Int)) - IntKind.wrap .u64 ((q : Int) * (Y : Int))) = ((u * 4294967296 + u1 - q * Y : Nat) : Int) := by
  have e : (q : Int) * (Y : Int) = ((q * Y : Nat) : Int) := by simp
  rw [e]
  simp only [wrap_emod]
  omega

theorem low_mask (x : Nat) (h : x < 18446744073709551616) : bits .and .u64 (x : Int) 4294967295 = ((x % 4294967296 : Nat) : Int) := and_mask32 x h

theorem fdiv32 (x : Nat) : Int.fdiv (x : Int) (2 ^ 32) = ((x / 4294967296 : Nat) : Int) := fdiv_nat x 32

theorem mod_eq_sub (u v : Nat) : u - u / v * v = u % v := by
  have := Nat.mod_add_div u v
  rw [Nat.mul_comm] at this
  omega

/-- Div64. -/
theorem f100.spec (K hi lo y : Nat) (hy : y < 18446744073709551616) (hhi : hi < y) (hlo : lo < 18446744073709551616) (hK : 1 < K) :
    f100.F K ((hi : Int), (lo : Int), (y : Int)) = some ((((hi * 18446744073709551616 + lo) / y : Nat) : Int), (((hi * 18446744073709551616 + lo) % y : Nat) : Int)) := by
  have hy0 : 0 < y := by omega
  simp only [f100.F, f100.T]
  have c1 : ((y : Int) == 0) = false := by simp; omega
  have c3 : decide ((y : Int) ≠ 0) = true := decide_eq_true (by omega)
  rw [c1, decide_eq_false (show ¬ (y : Int) ≤ (hi : Int) by omega), c3]
  simp only [cond_t, cond_f]
  by_cases h0 : hi = 0
  · subst h0
    rw [show (((0 : Nat) : Int) == 0) = true from rfl, cond_t, tdiv_nat, tmod_nat, wrap_nat, Nat.zero_mul, Nat.zero_add, Nat.mod_eq_of_lt (Nat.lt_of_le_of_lt (Nat.div_le_self _ _) hlo)]
  · have c4 : ((hi : Int) == 0) = false := by simp; omega
    rw [c4, cond_f, f122.spec K y hy, bind_s]
    obtain ⟨gy, py⟩ := blen_ge (x := y) (by omega)
    have hb : blen y ≤ 64 := blen_le (k := 64) hy
    have ly := blen_lt y
    obtain ⟨s, hs⟩ : ∃ s, s = 64 - blen y := ⟨_, rfl⟩
    rw [← hs]
    have hs63 : s ≤ 63 := by omega
    have w5 : IntKind.wrap .u64 (s : Int) = (s : Int) := wrap_u _ (by omega) (by omega)
    have w10 : IntKind.wrap .u64 (64 - (s : Int)) = ((64 - s : Nat) : Int) := by rw [wrap_u _ (by omega) (by omega)]; omega
    have d1 : decide (0 ≤ (s : Int)) = true := decide_eq_true (by omega)
    have d2 : decide (0 ≤ ((64 - s : Nat) : Int)) = true := decide_eq_true (by omega)
    have p2 := Nat.two_pow_pos s
    have e64 : 18446744073709551616 = 2 ^ (64 - s) * 2 ^ s := by rw [← Nat.pow_add, show 64 - s + s = 64 by omega]
    -- the number that it is divided by, moved up
    have hYlt : y * 2 ^ s < 18446744073709551616 := by
      have h1 : y * 2 ^ s < 2 ^ blen y * 2 ^ s := Nat.mul_lt_mul_of_pos_right ly p2
      rw [← Nat.pow_add, show blen y + s = 64 by omega] at h1
      exact h1
    have hYge : 9223372036854775808 ≤ y * 2 ^ s := by
      have h1 : 2 ^ (blen y - 1) * 2 ^ s ≤ y * 2 ^ s := Nat.mul_le_mul_right _ gy
      rw [← Nat.pow_add, show blen y - 1 + s = 63 by omega] at h1
      exact h1
    -- the high word, moved up
    have hl1 : lo / 2 ^ (64 - s) < 2 ^ s := by rw [Nat.div_lt_iff_lt_mul (Nat.two_pow_pos _), Nat.mul_comm, ← e64]; exact hlo
    have hu : hi * 2 ^ s + lo / 2 ^ (64 - s) < y * 2 ^ s := by
      have : (hi + 1) * 2 ^ s ≤ y * 2 ^ s := Nat.mul_le_mul_right _ hhi
      rw [Nat.succ_mul] at this
      omega
    have hh1 : hi * 2 ^ s < 18446744073709551616 := Nat.lt_of_le_of_lt (Nat.le_add_right _ _) (Nat.lt_trans hu hYlt)
    have hh2 : lo / 2 ^ (64 - s) < 18446744073709551616 := Nat.lt_of_le_of_lt (Nat.le_add_left _ _) (Nat.lt_trans hu hYlt)
    have hor : bits .or .u64 (shiftI .shl .u64 (hi : Int) (s : Int)) (shiftI .shr .u64 (lo : Int) ((64 - s : Nat) : Int)) = ((hi * 2 ^ s + lo / 2 ^ (64 - s) : Nat) : Int) := by
      rw [shl_nat hi s (by omega), shr_nat lo (64 - s) (by omega), show (2 : Nat) ^ 64 = 18446744073709551616 from rfl, Nat.mod_eq_of_lt hh1, bits_or_u64_nat _ _ hh1 hh2]
      congr 1
      rw [← Nat.shiftLeft_eq, ← Nat.shiftLeft_add_eq_or_of_lt hl1]
    have hlow : lo * 2 ^ s = lo / 2 ^ (64 - s) * 18446744073709551616 + lo * 2 ^ s % 18446744073709551616 := by
      have h1 : lo * 2 ^ s / 18446744073709551616 = lo / 2 ^ (64 - s) := by rw [e64, Nat.mul_div_mul_right _ _ p2]
      have h2 := Nat.mod_add_div (lo * 2 ^ s) 18446744073709551616
      rw [h1, Nat.mul_comm 18446744073709551616] at h2
      omega
    rw [w5, w10, d1, d2, hor, shl_nat y s (by omega), shl_nat lo s (by omega), show (2 : Nat) ^ 64 = 18446744073709551616 from rfl, Nat.mod_eq_of_lt hYlt]
    simp only [cond_t]
    have hw : lo * 2 ^ s % 18446744073709551616 < 18446744073709551616 := Nat.mod_lt _ (by decide)
    rw [low_mask _ hYlt, low_mask _ hw, fdiv32, fdiv32]
    -- names
    have hN : (hi * 18446744073709551616 + lo) * 2 ^ s = (hi * 2 ^ s + lo / 2 ^ (64 - s)) * 18446744073709551616 + lo * 2 ^ s % 18446744073709551616 := by
      rw [Nat.add_mul, hlow, Nat.add_mul, Nat.mul_assoc, Nat.mul_comm 18446744073709551616, ← Nat.mul_assoc]
      omega
    have hfin : (hi * 18446744073709551616 + lo) / y = (hi * 18446744073709551616 + lo) * 2 ^ s / (y * 2 ^ s) ∧ (hi * 18446744073709551616 + lo) % y * 2 ^ s = (hi * 18446744073709551616 + lo) * 2 ^ s % (y * 2 ^ s) :=
      ⟨(Nat.mul_div_mul_right _ _ p2).symm, (Nat.mul_mod_mul_right _ _ _).symm⟩
    obtain ⟨N, hNN⟩ : ∃ N, N = hi * 18446744073709551616 + lo := ⟨_, rfl⟩
    obtain ⟨u, huu⟩ : ∃ u, u = hi * 2 ^ s + lo / 2 ^ (64 - s) := ⟨_, rfl⟩
    obtain ⟨l, hll⟩ : ∃ l, l = lo * 2 ^ s % 18446744073709551616 := ⟨_, rfl⟩
    obtain ⟨Y, hYY⟩ : ∃ Y, Y = y * 2 ^ s := ⟨_, rfl⟩
    rw [← hNN, ← huu, ← hll] at hN
    rw [← hNN, ← hYY] at hfin
    rw [← huu, ← hYY] at hu
    rw [← hYY] at hYlt hYge
    rw [← hll] at hw
    rw [← hNN, ← huu, ← hll, ← hYY]
    clear hNN huu hll hYY hlow hl1 hor hh1 hh2
    obtain ⟨y1, hy1⟩ : ∃ y1, y1 = Y / 4294967296 := ⟨_, rfl⟩
    obtain ⟨y0', hy0'⟩ : ∃ y0, y0 = Y % 4294967296 := ⟨_, rfl⟩
    obtain ⟨u1, hu1⟩ : ∃ u1, u1 = l / 4294967296 := ⟨_, rfl⟩
    obtain ⟨u0, hu0⟩ : ∃ u0, u0 = l % 4294967296 := ⟨_, rfl⟩
    rw [← hy1, ← hy0', ← hu1, ← hu0]
    have b1 : 2147483648 ≤ y1 := by omega
    have b2 : y1 < 4294967296 := by omega
    have b3 : y0' < 4294967296 := by omega
    have b4 : Y = y1 * 4294967296 + y0' := by omega
    have b5 : u1 < 4294967296 := by omega
    have b6 : u0 < 4294967296 := by omega
    have step : ∀ v : Nat, v < Y → IntKind.wrap .u64 (Int.tdiv (v : Int) (y1 : Int)) = ((v / y1 : Nat) : Int) ∧ IntKind.wrap .u64 ((v : Int) - IntKind.wrap .u64 (((v / y1 : Nat) : Int) * (y1 : Int))) = ((v % y1 : Nat) : Int) := by
      intro v hv
      have h1 : v / y1 ≤ v := Nat.div_le_self _ _
      have h2 : v / y1 * y1 ≤ v := Nat.div_mul_le_self _ _
      have h3 := mod_eq_sub v y1
      refine ⟨by rw [tdiv_nat, wrap_nat, Nat.mod_eq_of_lt (by omega)], ?_⟩
      rw [show ((v / y1 : Nat) : Int) * (y1 : Int) = ((v / y1 * y1 : Nat) : Int) by simp, wrap_nat, Nat.mod_eq_of_lt (by omega), wrap_u _ (by omega) (by omega)]
      omega
    have dy : decide ((y1 : Int) ≠ 0) = true := decide_eq_true (by omega)
    rw [dy]
    simp only [cond_t]
    rw [(step u hu).1, (step u hu).2, f100.loop0 K K Y y1 y0' u u1 (s : Int) (u0 : Int) b4 b1 b2 b3 hu b5 hK, bind_s]
    have hY0 : 0 < Y := by omega
    have m1 := Nat.mod_lt (u * 4294967296 + u1) hY0
    have q1 : (u * 4294967296 + u1) / Y * Y ≤ u * 4294967296 + u1 := Nat.div_mul_le_self _ _
    have r1 := mod_eq_sub (u * 4294967296 + u1) Y
    have hq1 : (u * 4294967296 + u1) / Y < 4294967296 := by have := guess_lt (y1 := y1) (y0 := y0') (u := u) (u1 := u1) (by omega) (by omega) b5; rwa [← b4] at this
    have d1' := Nat.mod_add_div (u * 4294967296 + u1) Y
    generalize (u * 4294967296 + u1) / Y = Q1 at *
    have wl := wrap_left u u1 Q1 Y q1 (by omega)
    simp only [dy, cond_t]
    rw [wl, r1]
    generalize (u * 4294967296 + u1) % Y = R1 at *
    rw [(step R1 m1).1, (step R1 m1).2, f100.loop2 K K Y y1 y0' R1 u0 (s : Int) (Q1 : Int) b4 b1 b2 b3 m1 b6 hK, bind_s]
    have m2 := Nat.mod_lt (R1 * 4294967296 + u0) hY0
    have q2 : (R1 * 4294967296 + u0) / Y * Y ≤ R1 * 4294967296 + u0 := Nat.div_mul_le_self _ _
    have r2 := mod_eq_sub (R1 * 4294967296 + u0) Y
    have hq2 : (R1 * 4294967296 + u0) / Y < 4294967296 := by have := guess_lt (y1 := y1) (y0 := y0') (u := R1) (u1 := u0) (by omega) (by omega) b6; rwa [← b4] at this
    have d2' := Nat.mod_add_div (R1 * 4294967296 + u0) Y
    generalize (R1 * 4294967296 + u0) / Y = Q0 at *
    have wl2 := wrap_left R1 u0 Q0 Y q2 (by omega)
    simp only [d1, cond_t]
    rw [wl2, r2]
    generalize (R1 * 4294967296 + u0) % Y = R0 at *
    -- both digits
    have hdiv : N * 2 ^ s = R0 + Y * (Q1 * 4294967296 + Q0) := by
      rw [hN, Nat.mul_add, ← Nat.mul_assoc]
      omega
    obtain ⟨g1, g2⟩ := div_mod_of hdiv m2
    rw [hfin.1, g1, shr_nat R0 s (by omega)]
    have hrem : N % y = R0 / 2 ^ s := by
      have := hfin.2
      rw [g2] at this
      rw [← this, Nat.mul_div_cancel _ p2]
    rw [hrem, wrap_u ((Q1 : Int) * 4294967296) (by omega) (by omega), wrap_u _ (by omega) (by omega)]
    rfl

end Go.Proofs

namespace Go.Proofs
open Go.VM

/-! ### divides.Wide -/

theorem mod_step (a t w M : Nat) : (a % M * t + w) % M = (a * t + w) % M := by
  rw [Nat.add_mod, Nat.mul_mod, Nat.mod_mod, ← Nat.mul_mod, ← Nat.add_mod]

theorem two_rows (H L : Nat) : spl (spl [] 0 4 (num H)) 4 4 (num L) = num H ++ num L := rfl

theorem f54.words (X M l : Nat) (hX : X < 2 ^ 256) (hM : 0 < M) (hM64 : M < 18446744073709551616) (hl : l < M) (t z b3 : _) (i : Nat) :
    iter (f54.s2 100000) 100000 ((l : Int), t, (i : Int), 0, num M, z, num X, b3) = some ((((l * 2 ^ 256 + X) % M : Nat) : Int), t, (i : Int), num M, z, b3) := by
  have key := iter_for (stp := f54.s2 100000) (N := 4) (fun j => ((((l * 2 ^ (64 * j) + X / 2 ^ (64 * (4 - j))) % M : Nat) : Int), t, (i : Int), (j : Int), num M, z, num X, b3))
    (y := some ((((l * 2 ^ 256 + X) % M : Nat) : Int), t, (i : Int), num M, z, b3)) (fun j hj rec => by
      simp only [f54.s2, f54.s2t]
      have w1 : IntKind.wrap .i64 (3 - (j : Int)) = ((3 - j : Nat) : Int) := by rw [wrap_i _ (by omega) (by omega)]; omega
      have w2 : IntKind.wrap .i64 ((j : Int) + 1) = ((j + 1 : Nat) : Int) := by rw [wrap_i _ (by omega) (by omega)]; rfl
      have h4 : decide ((0 : Int) ≤ ((3 - j : Nat) : Int) ∧ ((3 - j : Nat) : Int) < 4) = true := inR_nat (n := 4) (by omega)
      have hw : X / 2 ^ (64 * (3 - j)) % 2 ^ 64 < 18446744073709551616 := Nat.mod_lt _ (by decide)
      rw [decide_eq_true (show (j : Int) < 4 by omega), cond_t, w1, w2, h4, cond_t, Int.toNat_natCast, getD_words (show 3 - j < 4 by omega), word0 M hM64,
        f100.spec 100000 _ _ M hM64 (Nat.mod_lt _ hM) hw (by decide), bind_s, mod_step]
      have e1 : X / 2 ^ (64 * (3 - j)) = X / 2 ^ (64 * (4 - j)) * 18446744073709551616 + X / 2 ^ (64 * (3 - j)) % 2 ^ 64 := by
        have h := Nat.mod_add_div (X / 2 ^ (64 * (3 - j))) (2 ^ 64)
        rw [Nat.div_div_eq_div_mul, ← Nat.pow_add, show 64 * (3 - j) + 64 = 64 * (4 - j) by omega] at h
        omega
      have e2 : l * 2 ^ (64 * (j + 1)) = l * 2 ^ (64 * j) * 18446744073709551616 := by
        rw [show 64 * (j + 1) = 64 * j + 64 by omega, Nat.pow_add, ← Nat.mul_assoc]
      rw [show 4 - (j + 1) = 3 - j by omega, e2]
      conv => rhs; rw [e1]
      rw [Nat.add_mul, Nat.add_assoc]) (fun rec => by
      simp only [f54.s2, f54.s2t]
      rw [decide_eq_false (show ¬ ((4 : Nat) : Int) < 4 by decide), cond_f, Nat.sub_self, Nat.mul_zero, Nat.pow_zero, Nat.div_one]) (show 4 < 100000 by decide)
  simp only [Nat.mul_zero, Nat.pow_zero, Nat.mul_one, Nat.sub_zero] at key
  rw [show 64 * 4 = 256 from rfl, Nat.div_eq_of_lt hX, Nat.add_zero, Nat.mod_eq_of_lt hl] at key
  exact key

def wideSo (H L M i : Nat) : Nat := if i = 0 then 0 else if i = 1 then H % M else (H * 2 ^ 256 + L) % M
theorem wideSo0 (H L M : Nat) : wideSo H L M 0 = 0 := if_pos rfl
theorem wideSo1 (H L M : Nat) : wideSo H L M 1 = H % M := by unfold wideSo; rw [if_neg (by decide), if_pos rfl]
theorem wideSo2 (H L M : Nat) : wideSo H L M 2 = (H * 2 ^ 256 + L) % M := by unfold wideSo; rw [if_neg (by decide), if_neg (by decide)]

theorem f54.small (H L M : Nat) (hH : H < 2 ^ 256) (hL : L < 2 ^ 256) (hM : 0 < M) (hM64 : M < 18446744073709551616) (z : _) :
    iter (f54.s0 100000) 100000 (0, 2, 0, num M, z, num H ++ num L) = some ((((H * 2 ^ 256 + L) % M : Nat) : Int), z) := by
  have key := iter_for (stp := f54.s0 100000) (N := 2) (fun i => ((wideSo H L M i : Int), (2 : Int), (i : Int), num M, z, num H ++ num L))
    (y := some ((((H * 2 ^ 256 + L) % M : Nat) : Int), z)) (fun i hi rec => by
      have hi2 : i = 0 ∨ i = 1 := by omega
      have wi : IntKind.wrap .i64 ((i : Int) + 1) = ((i + 1 : Nat) : Int) := by rw [wrap_i _ (by omega) (by omega)]; rfl
      simp only [f54.s0, f54.s0t]
      rw [decide_eq_true (show (i : Int) < 2 by omega), cond_t, decide_eq_true (show 0 ≤ (i : Int) ∧ (i : Int) < 2 by omega), cond_t]
      rcases hi2 with rfl | rfl
      · have hrow : List.take 4 (List.drop (Int.toNat ((0 : Nat) : Int) * 4) (num H ++ num L)) = num H := rfl
        have e := f54.words H M 0 hH hM hM64 hM 2 z (num H ++ num L) 0
        rw [Nat.zero_mul, Nat.zero_add] at e
        rw [hrow, wideSo0, e, bind_s]
        simp only []
        rw [wi, wideSo1]
      · have hrow : List.take 4 (List.drop (Int.toNat ((1 : Nat) : Int) * 4) (num H ++ num L)) = num L := rfl
        have e := f54.words L M (H % M) hL hM hM64 (Nat.mod_lt _ hM) 2 z (num H ++ num L) 1
        rw [hrow, wideSo1, e, bind_s, mod_step]
        simp only []
        rw [wi, wideSo2]) (fun rec => by
      simp only [f54.s0, f54.s0t]
      rw [decide_eq_false (show ¬ ((2 : Nat) : Int) < 2 by decide), cond_f, wideSo2]) (show 2 < 100000 by decide)
  rw [wideSo0] at key
  exact key

theorem f54.bits (H L M : Nat) (hH : H < 2 ^ 256) (hM : 0 < M) (hM' : M < 2 ^ 256) (_hL : L < 2 ^ 256) :
    iter (f54.s4 100000) 100000 (((blen H : Nat) : Int), 0, num H, num M, num (L % M), num (2 ^ 256 % M)) = some (num ((H * 2 ^ 256 + L) % M)) := by
  have hb := blen_256 hH
  have key := iter_for (stp := f54.s4 100000) (N := blen H) (fun i => (((blen H : Nat) : Int), (i : Int), num H, num M, num ((H % 2 ^ i * 2 ^ 256 + L) % M), num (2 ^ (256 + i) % M)))
    (y := some (num ((H * 2 ^ 256 + L) % M))) (fun i hi rec => by
      simp only [f54.s4, f54.s4t]
      have w2 : IntKind.wrap .i64 ((i : Int) + 1) = ((i + 1 : Nat) : Int) := by rw [wrap_i _ (by omega) (by omega)]; rfl
      have hs : num ((2 ^ (256 + i) % M + 2 ^ (256 + i) % M) % M) = num (2 ^ (256 + (i + 1)) % M) := by
        rw [← Nat.add_mod, show 2 ^ (256 + (i + 1)) = 2 ^ (256 + i) + 2 ^ (256 + i) by rw [show 256 + (i + 1) = (256 + i) + 1 from rfl, Nat.pow_succ, Nat.mul_two]]
      have hl := Nat.mod_lt (2 ^ (256 + i)) hM
      have hr := Nat.mod_lt (H % 2 ^ i * 2 ^ 256 + L) hM
      have hbit : H % 2 ^ (i + 1) = H % 2 ^ i + 2 ^ i * (H / 2 ^ i % 2) := by rw [Nat.pow_succ, Nat.mod_mul]
      rw [decide_eq_true (show (i : Int) < ((blen H : Nat) : Int) by omega), cond_t, f40.all H i (by omega), mod_self_of hH, bind_s, w2, f101.spec _ _ M hl hl hM', bind_s, hs, hbit]
      rcases Nat.mod_two_eq_zero_or_one (H / 2 ^ i) with h | h
      · rw [h, show (((0 : Nat) : Int) == 1) = false from rfl, cond_f, Nat.mul_zero, Nat.add_zero (H % 2 ^ i)]
      · rw [h, show (((1 : Nat) : Int) == 1) = true from rfl, cond_t, f101.spec _ _ M hr hl hM', bind_s, ← Nat.add_mod, Nat.mul_one]
        have e : (H % 2 ^ i + 2 ^ i) * 2 ^ 256 + L = H % 2 ^ i * 2 ^ 256 + L + 2 ^ (256 + i) := by
          rw [Nat.add_mul (H % 2 ^ i) (2 ^ i) (2 ^ 256), Nat.pow_add 2 256 i, Nat.mul_comm (2 ^ 256) (2 ^ i)]
          omega
        rw [e, bind_s]) (fun rec => by
      simp only [f54.s4, f54.s4t]
      rw [decide_eq_false (Int.lt_irrefl _), cond_f, Nat.mod_eq_of_lt (blen_lt H)]) (show blen H < 100000 by omega)
  simp only [Nat.pow_zero, Nat.mod_one, Nat.zero_mul, Nat.zero_add, Nat.add_zero] at key
  exact key

theorem f54.zero (H L : Nat) : f54.F 100000 (num L, num H, num 0) = some (num 0, 1) := by
  simp only [f54.F, f54.T, f95.spec, bind_s, eqL_num, decide_true, Bool.and_true, cond_t]
  rfl

/-- Wide. -/
theorem f54.spec (L H M : Nat) (hL : L < 2 ^ 256) (hH : H < 2 ^ 256) (hM : M < 2 ^ 256) (h0 : 0 < M) : f54.F 100000 (num L, num H, num M) = some (num ((H * 2 ^ 256 + L) % M), 0) := by
  have mM := mod_self_of hM
  have hz : decide (M = 0 % 2 ^ 256) = false := decide_eq_false (fun h => by rw [Nat.zero_mod] at h; omega)
  have lM := blen_lt M
  simp only [f54.F, f54.T, f95.spec, bind_s, eqL_num, mM, hz, Bool.and_true, cond_f, f42.all, two_rows]
  by_cases h : blen M ≤ 64
  · have hM64 : M < 2 ^ 64 := Nat.lt_of_lt_of_le lM (Nat.pow_le_pow_right (by decide) h)
    have hr : (H * 2 ^ 256 + L) % M < 18446744073709551616 := Nat.lt_trans (Nat.mod_lt _ h0) hM64
    rw [decide_eq_true (show ((blen M : Nat) : Int) ≤ 64 by omega), cond_t, f54.small H L M hH hL h0 hM64, bind_s, f46.nat _ _ hr, bind_s]
  · obtain ⟨gM, _⟩ := blen_ge (x := M) (by omega)
    have hM64 : 2 ^ 64 ≤ M := Nat.le_trans (Nat.pow_le_pow_right (by decide) (by omega)) gM
    have e1 : (0 : Nat) % 2 ^ 256 + 2 ^ 256 - 1 % 2 ^ 256 = 2 ^ 256 - 1 := rfl
    have hp : (2 ^ 256 - 1 : Nat) < 2 ^ 256 := by decide
    have e2 : ((2 ^ 256 - 1) % M + 1) % M = 2 ^ 256 % M := by
      have h1 : (1 : Nat) % M = 1 := Nat.mod_eq_of_lt (by omega)
      have h2 : ((2 ^ 256 - 1) % M + 1 % M) % M = 2 ^ 256 % M := by rw [← Nat.add_mod]
      rwa [h1] at h2
    rw [decide_eq_false (show ¬ ((blen M : Nat) : Int) ≤ 64 by omega), cond_f]
    simp only [f46.one, bind_s, f34.all, e1]
    rw [f52.spec L M hL hM h0, bind_s, f52.spec _ M hp hM h0, bind_s, f101.spec _ 1 M (Nat.mod_lt _ h0) (by omega) hM, bind_s, e2, mod_self_of hH, f54.bits H L M hH h0 hM hL, bind_s]

end Go.Proofs

namespace Go.Proofs
open Go.VM

/-! ### divides.even, Common -/

/-- How often two goes into a number. -/
theorem twos (A : Nat) (h : 0 < A) : ∃ k, (∀ j, j < k → A / 2 ^ j % 2 = 0) ∧ A / 2 ^ k % 2 = 1 ∧ A = 2 ^ k * (A / 2 ^ k) := by
  induction A using Nat.strongRecOn with
  | _ A ih =>
    rcases Nat.mod_two_eq_zero_or_one A with h2 | h2
    · obtain ⟨k, h3, h4, h5⟩ := ih (A / 2) (by omega) (by omega)
      have e : ∀ j, A / 2 / 2 ^ j = A / 2 ^ (j + 1) := fun j => by rw [Nat.div_div_eq_div_mul, Nat.pow_succ, Nat.mul_comm]
      refine ⟨k + 1, fun j hj => ?_, by rw [← e]; exact h4, ?_⟩
      · cases j with
        | zero => rw [Nat.pow_zero, Nat.div_one]; exact h2
        | succ j => rw [← e]; exact h3 j (by omega)
      · rw [← e, Nat.pow_succ, Nat.mul_comm (2 ^ k) 2, Nat.mul_assoc, ← h5]; omega
    · exact ⟨0, fun j hj => absurd hj (Nat.not_lt_zero j), by rw [Nat.pow_zero, Nat.div_one]; exact h2, by rw [Nat.pow_zero, Nat.div_one, Nat.one_mul]⟩

theorem f103.spec (A k : Nat) (hA : A < 2 ^ 256) (h1 : ∀ j, j < k → A / 2 ^ j % 2 = 0) (h2 : A / 2 ^ k % 2 = 1) : f103.F 100000 (num A) = some ((k : Nat) : Int) ∧ k < 256 := by
  have hk : k < 256 := by
    rcases Nat.lt_or_ge k 256 with h | h
    · exact h
    · rw [Nat.div_eq_of_lt (Nat.lt_of_lt_of_le hA (Nat.pow_le_pow_right (by decide) h))] at h2; cases h2
  refine ⟨?_, hk⟩
  have key := iter_for (stp := f103.s0 100000) (N := k) (fun i => ((i : Int), num A)) (y := some ((k : Nat) : Int)) (fun i hi rec => by
      simp only [f103.s0, f103.s0t]
      rw [f40.all A i (by omega), mod_self_of hA, bind_s, h1 i hi, show (((0 : Nat) : Int) == 0) = true from rfl, cond_t, wrap_i _ (by omega) (by omega)]
      rfl) (fun rec => by
      simp only [f103.s0, f103.s0t]
      rw [f40.all A k (by omega), mod_self_of hA, bind_s, h2, show (((1 : Nat) : Int) == 0) = false from rfl, cond_f]) (show k < 100000 by omega)
  have key' : iter (f103.s0 100000) 100000 (0, num A) = some ((k : Nat) : Int) := key
  simp only [f103.F, f103.T, key', bind_s]

/-- A number's odd part: moved down by what even tells. -/
theorem odd_part (A : Nat) (hA : A < 2 ^ 256) (h0 : 0 < A) : ∃ k : Nat, f103.F 100000 (num A) = some (k : Int) ∧ k < 256 ∧ f38.F 100000 (num A, IntKind.wrap .i64 (0 - (k : Int))) = some (num (A / 2 ^ k)) ∧ A / 2 ^ k % 2 = 1 ∧ A = 2 ^ k * (A / 2 ^ k) ∧ (A % 2 = 0 → 0 < k) := by
  obtain ⟨k, h1, h2, h3⟩ := twos A h0
  obtain ⟨h4, h5⟩ := f103.spec A k hA h1 h2
  have w : IntKind.wrap .i64 (0 - (k : Int)) = -(k : Int) := by rw [wrap_i _ (by omega) (by omega)]; omega
  refine ⟨k, h4, h5, by rw [w, f38.downA, mod_self_of hA], h2, h3, fun he => ?_⟩
  rcases Nat.eq_zero_or_pos k with rfl | h
  · rw [Nat.pow_zero, Nat.div_one] at h2; omega
  · exact h

theorem odd_coprime {b : Nat} (hb : b % 2 = 1) (k : Nat) : Nat.Coprime (2 ^ k) b := by
  apply Nat.Coprime.pow_left
  rw [Nat.coprime_iff_gcd_eq_one, Nat.gcd_rec, hb]
  rfl

/-- The greater one less the other one, its odd part. -/
theorem gcd_round {a b k : Nat} (hlt : b < a) (hb : b % 2 = 1) (he : a - b = 2 ^ k * ((a - b) / 2 ^ k)) : Nat.gcd ((a - b) / 2 ^ k) b = Nat.gcd a b := by
  rw [← Nat.Coprime.gcd_mul_left_cancel ((a - b) / 2 ^ k) (odd_coprime hb k), ← he, Nat.gcd_sub_self_left (Nat.le_of_lt hlt)]

theorem blen_half {a b k : Nat} (hlt : b < a) (hk : 0 < k) (h0 : 0 < b) : blen ((a - b) / 2 ^ k) < blen a := by
  have h1 : (a - b) / 2 ^ k ≤ a / 2 := by
    have h2 : 2 ^ 1 ≤ 2 ^ k := Nat.pow_le_pow_right (by decide) hk
    calc (a - b) / 2 ^ k ≤ (a - b) / 2 := Nat.div_le_div_left h2 (by decide)
      _ ≤ a / 2 := Nat.div_le_div_right (Nat.sub_le _ _)
  have h3 := blen_mono h1
  have h4 : blen (a / 2) < blen a := by
    by_cases h5 : a / 2 = 0
    · rw [h5, blen_zero]; exact (blen_ge (by omega)).2
    · have := blen_shift a 1 (by simpa using h5)
      rw [Nat.pow_one] at this
      omega
  omega

theorem f56.loop (m n : Int) (z : List Int) (a b : Nat) (ha : a < 2 ^ 256) (hb : b < 2 ^ 256) (oa : a % 2 = 1) (ob : b % 2 = 1) :
    iter (f56.s0 100000) 100000 (m, n, num a, num b, z) = some (m, n, num (Nat.gcd a b), z) := by
  obtain ⟨y, hy, hz⟩ := iter_inv (stp := f56.s0 100000)
    (fun l x => ∃ a' b' : Nat, x = (m, n, num a', num b', z) ∧ a' < 2 ^ 256 ∧ b' < 2 ^ 256 ∧ a' % 2 = 1 ∧ b' % 2 = 1 ∧ Nat.gcd a' b' = Nat.gcd a b ∧ l = blen a' + blen b')
    (fun y => y = (m, n, num (Nat.gcd a b), z))
    (fun l x ⟨a', b', hx, ha', hb', oa', ob', hg, hl⟩ => by
      subst hx
      have ma := mod_self_of ha'
      have mb := mod_self_of hb'
      simp only [f56.s0, f56.s0t, f44.all, bind_s, ma, mb, f34.all]
      unfold cmp
      by_cases h1 : a' = b'
      · subst h1
        refine .inl ⟨_, rfl, fun rec => ?_⟩
        rw [if_pos rfl, show ((0 : Int) == 0) = true from rfl, cond_t, ← hg, Nat.gcd_self]
      · rw [if_neg h1]
        by_cases h2 : a' < b'
        · rw [if_pos h2]
          have hd : b' - a' < 2 ^ 256 := by omega
          obtain ⟨k, e1, e2, e3, e4, e5, e6⟩ := odd_part (b' - a') hd (by omega)
          have hk := e6 (by omega)
          have hs : num (b' + 2 ^ 256 - a') = num (b' - a') := by rw [show b' + 2 ^ 256 - a' = b' - a' + 2 ^ 256 by omega, num_add_mod]
          have hlt : (b' - a') / 2 ^ k < 2 ^ 256 := Nat.lt_of_le_of_lt (Nat.div_le_self _ _) hd
          have hbl := blen_half (k := k) h2 hk (by omega)
          refine .inr ⟨_, _, ?_, ⟨(b' - a') / 2 ^ k, a', rfl, hlt, ha', e4, oa', ?_, rfl⟩, fun rec => ?_⟩
          · omega
          · rw [gcd_round h2 oa' e5, Nat.gcd_comm, hg]
          · rw [show ((-1 : Int) == 0) = false from rfl, cond_f, show ((-1 : Int) == -1) = true from rfl, cond_t, hs, e1, bind_s, e3, bind_s]
        · rw [if_neg h2]
          have h3 : b' < a' := by omega
          have hd : a' - b' < 2 ^ 256 := by omega
          obtain ⟨k, e1, e2, e3, e4, e5, e6⟩ := odd_part (a' - b') hd (by omega)
          have hk := e6 (by omega)
          have hs : num (a' + 2 ^ 256 - b') = num (a' - b') := by rw [show a' + 2 ^ 256 - b' = a' - b' + 2 ^ 256 by omega, num_add_mod]
          have hlt : (a' - b') / 2 ^ k < 2 ^ 256 := Nat.lt_of_le_of_lt (Nat.div_le_self _ _) hd
          have hbl := blen_half (k := k) h3 hk (by omega)
          refine .inr ⟨_, _, ?_, ⟨(a' - b') / 2 ^ k, b', rfl, hlt, hb', e4, ob', ?_, rfl⟩, fun rec => ?_⟩
          · omega
          · rw [gcd_round h3 ob' e5, hg]
          · rw [show ((1 : Int) == 0) = false from rfl, cond_f, show ((1 : Int) == -1) = false from rfl, cond_f, hs, e1, bind_s, e3, bind_s])
    (blen a + blen b) _ ⟨a, b, rfl, ha, hb, oa, ob, rfl, rfl⟩ 100000 (by have := blen_256 ha; have := blen_256 hb; omega)
  rw [hz, hy]

theorem minE_nat (a b : Nat) : minE (a : Int) (b : Int) = ((min a b : Nat) : Int) := by
  unfold minE
  by_cases h : b < a
  · rw [decide_eq_true (by omega), cond_t]; omega
  · rw [decide_eq_false (by omega), cond_f]; omega

theorem gcd_twos (m n a b : Nat) (ha : a % 2 = 1) (hb : b % 2 = 1) : Nat.gcd (2 ^ m * a) (2 ^ n * b) = Nat.gcd a b * 2 ^ (min m n) := by
  rcases Nat.le_total m n with h | h
  · rw [Nat.min_eq_left h, show n = m + (n - m) by omega, Nat.pow_add, Nat.mul_assoc, Nat.gcd_mul_left, Nat.mul_comm, Nat.gcd_comm, Nat.Coprime.gcd_mul_left_cancel _ (odd_coprime ha _), Nat.gcd_comm]
  · rw [Nat.min_eq_right h, show m = n + (m - n) by omega, Nat.pow_add, Nat.mul_assoc, Nat.gcd_mul_left, Nat.mul_comm, Nat.Coprime.gcd_mul_left_cancel _ (odd_coprime hb _)]

/-- Common. -/
theorem f56.spec (A B : Nat) (hA : A < 2 ^ 256) (hB : B < 2 ^ 256) : f56.F 100000 (num A, num B) = some (num (Nat.gcd A B)) := by
  have mA := mod_self_of hA
  have mB := mod_self_of hB
  have p0 : (0 : Nat) < 2 ^ 256 := by decide
  simp only [f56.F, f56.T, f95.spec, bind_s, Bool.and_true, f32.all, mA, mB]
  rw [eqN A 0 hA p0, eqN B 0 hB p0]
  by_cases h1 : A = 0
  · subst h1; rw [decide_eq_true rfl, cond_t, Nat.zero_add, Nat.gcd_zero_left]
  · rw [decide_eq_false h1, cond_f]
    by_cases h2 : B = 0
    · subst h2; rw [decide_eq_true rfl, cond_t, Nat.add_zero, Nat.gcd_zero_right]
    · obtain ⟨m, e1, e2, e3, e4, e5, _⟩ := odd_part A hA (by omega)
      obtain ⟨n, g1, g2, g3, g4, g5, _⟩ := odd_part B hB (by omega)
      have hlA : A / 2 ^ m < 2 ^ 256 := Nat.lt_of_le_of_lt (Nat.div_le_self _ _) hA
      have hlB : B / 2 ^ n < 2 ^ 256 := Nat.lt_of_le_of_lt (Nat.div_le_self _ _) hB
      have hgl : Nat.gcd (A / 2 ^ m) (B / 2 ^ n) < 2 ^ 256 := Nat.lt_of_le_of_lt (Nat.gcd_le_left _ (Nat.pos_of_ne_zero fun h => by rw [h] at e4; cases e4)) hlA
      rw [decide_eq_false h2, cond_f, e1, bind_s, g1, bind_s, e3, bind_s, g3, bind_s, f56.loop _ _ _ _ _ hlA hlB e4 g4, bind_s]
      simp only []
      rw [minE_nat, f38.upA, bind_s, mod_self_of hgl]
      have := gcd_twos m n (A / 2 ^ m) (B / 2 ^ n) e4 g4
      rw [← e5, ← g5] at this
      rw [this]

end Go.Proofs

namespace Go.Proofs
open Go.VM

theorem wide_mod (H L M : Nat) : (H % M * 2 ^ 256 + L % M) % M = (H * 2 ^ 256 + L) % M := by
  rw [Nat.add_mod, Nat.mul_mod, Nat.mod_mod, Nat.mod_mod, ← Nat.mul_mod, ← Nat.add_mod]

/-- DividesWhole. -/
theorem f13.holds (L H M : Nat) (hL : L < 2 ^ 256) (hH : H < 2 ^ 256) (hM : M < 2 ^ 256) : f13.F 100000 (num L, num H, num M) = some true := by
  have p0 : (0 : Nat) < 2 ^ 256 := by decide
  by_cases h0 : M = 0
  · subst h0
    simp only [f13.F, f13.T, f54.zero, f59.spec, f60.spec, bind_s, eqL_num, decide_true, Bool.and_true, cond_t, beq_self_eq_true]
  · have hM0 : 0 < M := by omega
    have hLM := Nat.mod_lt L hM0
    have hHM := Nat.mod_lt H hM0
    have hr := Nat.mod_lt (H * 2 ^ 256 + L) hM0
    have e1 : decide (M = 0 % 2 ^ 256) = false := by rw [Nat.zero_mod]; exact decide_eq_false h0
    simp only [f13.F, f13.T, f54.spec L H M hL hH hM hM0, f52.spec L M hL hM hM0, f52.spec H M hH hM hM0, f54.spec (L % M) (H % M) M (by omega) (by omega) hM hM0, wide_mod, f59.spec, f60.spec, bind_s, eqL_num, e1, cond_f, cond_t,
      beq_self_eq_true, Bool.and_true, decide_true, f44.all, cmp_lt, mod_self_of hM, mod_self_of (Nat.lt_trans hr hM), decide_eq_true hr]

/-- DividesCuts. -/
theorem f14.holds (L H : Nat) (n : Int) (hL : L < 2 ^ 256) (hH : H < 2 ^ 256) (hn : (Lit.int .u8 n).wf = true) : f14.F 100000 (num L, num H, n) = some true := by
  obtain ⟨n, hn', rfl⟩ := wf_u8 hn
  have mL := mod_self_of hL
  have hp : 2 ^ n < 2 ^ 256 := Nat.pow_lt_pow_right (by decide) hn'
  have hp0 := Nat.two_pow_pos n
  have w1 : IntKind.wrap .i64 (n : Int) = (n : Int) := wrap_i _ (by omega) (by omega)
  have w2 : IntKind.wrap .i64 (256 - (n : Int)) = ((256 - n : Nat) : Int) := by rw [wrap_i _ (by omega) (by omega)]; omega
  have w3 : IntKind.wrap .i64 ((n : Int) - 256) = -((256 - n : Nat) : Int) := by rw [wrap_i _ (by omega) (by omega)]; omega
  have w4 : IntKind.wrap .i64 (0 - (n : Int)) = -(n : Int) := by rw [wrap_i _ (by omega) (by omega)]; omega
  have m1 : (1 : Nat) % 2 ^ 256 = 1 := rfl
  have e1 : (H * 2 ^ 256 + L) % 2 ^ n = L % 2 ^ n := by
    rw [show (2 : Nat) ^ 256 = 2 ^ n * 2 ^ (256 - n) by rw [← Nat.pow_add]; congr 1; omega, ← Nat.mul_assoc, Nat.mul_comm H, Nat.mul_assoc, Nat.mul_add_mod]
  have cut := mod_mul_shift L n (by omega)
  have s1 : f54.F 100000 (num L, num H, num 1) = some (num 0, 0) := by rw [f54.spec L H 1 hL hH (by decide) (by decide), Nat.mod_one]
  simp only [f14.F, f14.T, f58.one, bind_s, w1, w2, w3, w4, f38.upA, f38.downA, m1, Nat.one_mul, f54.spec L H (2 ^ n) hL hH hp hp0, f52.spec L (2 ^ n) hL hp hp0, e1, mL, cut, s1, f59.spec, f60.spec, cond_t, beq_self_eq_true, eqL_num, Bool.and_true, decide_true]

theorem wf_u32 {z : Int} (h : (Lit.int .u32 z).wf = true) : ∃ n : Nat, n < 4294967296 ∧ z = (n : Int) := by
  simp [Lit.wf, IntKind.min, IntKind.max, IntKind.signed, IntKind.bits] at h
  exact ⟨z.toNat, by omega, by omega⟩

theorem f58.wide (K n : Nat) (h : n < 4294967296) : f58.F K (IntKind.wrap .u64 (n : Int)) = some (num n) := by
  rw [wrap_u _ (by omega) (by omega)]; exact f58.nat K n (by omega)

/-- The end of DividesShared. -/
theorem shared_end (A B n : Nat) (_hA : A < 2 ^ 256) (_hB : B < 2 ^ 256) (_hn : 0 < n) (_hn2 : n < 4294967296) :
    decide (Nat.gcd A B % n = 0) = (decide (A % n = 0) && decide (B % n = 0)) := by
  rw [Bool.eq_iff_iff]
  simp only [decide_eq_true_eq, Bool.and_eq_true]
  rw [← Nat.dvd_iff_mod_eq_zero, ← Nat.dvd_iff_mod_eq_zero, ← Nat.dvd_iff_mod_eq_zero, Nat.dvd_gcd_iff]

theorem gcd_lt {A B : Nat} (hA : A < 2 ^ 256) (hB : B < 2 ^ 256) : Nat.gcd A B < 2 ^ 256 := by
  rcases Nat.eq_zero_or_pos A with h | h
  · subst h; rw [Nat.gcd_zero_left]; exact hB
  · exact Nat.lt_of_le_of_lt (Nat.gcd_le_left _ h) hA

/-- Of the difference. -/
theorem f15.both (A B D : Nat) (n : Nat) (hn : n < 4294967296) (hA : A < 2 ^ 256) (hB : B < 2 ^ 256) (hD : D < 2 ^ 256) (h1 : Nat.gcd D B = Nat.gcd A B) (h2 : Nat.gcd D A = Nat.gcd A B) :
    ((f56.F 100000 (num D, num B)).bind fun y4 =>
    bif (!(eqL 4 (num (Nat.gcd A B)) y4 && true)) then some false else
      (f56.F 100000 (num D, num A)).bind fun y6 =>
      bif (!(eqL 4 (num (Nat.gcd A B)) y6 && true)) then some false else
        (f56.F 100000 (num B, num A)).bind fun y8 =>
        bif (!(eqL 4 (num (Nat.gcd A B)) y8 && true)) then some false else
          (f59.F 100000 ()).bind fun y10 =>
          (f59.F 100000 ()).bind fun y12 =>
          bif (eqL 4 (num A) y12 && true) then
            (f59.F 100000 ()).bind fun y14 =>
            bif (!((eqL 4 (num (Nat.gcd A B)) y10 && true) == (eqL 4 (num B) y14 && true))) then some false else
              bif ((n : Int) == 0) then (f60.F 100000 ()).bind fun y17 => some y17 else
                (f58.F 100000 (IntKind.wrap .u64 (n : Int))).bind fun y19 =>
                (f52.F 100000 (num A, y19)).bind fun y20 =>
                (f58.F 100000 (IntKind.wrap .u64 (n : Int))).bind fun y22 =>
                (f52.F 100000 (num B, y22)).bind fun y23 =>
                (f58.F 100000 (IntKind.wrap .u64 (n : Int))).bind fun y25 =>
                (f52.F 100000 (num (Nat.gcd A B), y25)).bind fun y26 =>
                (f60.F 100000 ()).bind fun y27 =>
                bif y27 then
                  (f59.F 100000 ()).bind fun y28 =>
                  (f59.F 100000 ()).bind fun y30 =>
                  bif (eqL 4 y20.2.1 y30 && true) then
                    (f59.F 100000 ()).bind fun y32 => some ((eqL 4 y26.2.1 y28 && true) == (eqL 4 y23.2.1 y32 && true))
                  else some ((eqL 4 y26.2.1 y28 && true) == false)
                else some false
          else
            bif (!((eqL 4 (num (Nat.gcd A B)) y10 && true) == false)) then some false else
              bif ((n : Int) == 0) then (f60.F 100000 ()).bind fun y37 => some y37 else
                (f58.F 100000 (IntKind.wrap .u64 (n : Int))).bind fun y39 =>
                (f52.F 100000 (num A, y39)).bind fun y40 =>
                (f58.F 100000 (IntKind.wrap .u64 (n : Int))).bind fun y42 =>
                (f52.F 100000 (num B, y42)).bind fun y43 =>
                (f58.F 100000 (IntKind.wrap .u64 (n : Int))).bind fun y45 =>
                (f52.F 100000 (num (Nat.gcd A B), y45)).bind fun y46 =>
                (f60.F 100000 ()).bind fun y47 =>
                bif y47 then
                  (f59.F 100000 ()).bind fun y48 =>
                  (f59.F 100000 ()).bind fun y50 =>
                  bif (eqL 4 y40.2.1 y50 && true) then
                    (f59.F 100000 ()).bind fun y52 => some ((eqL 4 y46.2.1 y48 && true) == (eqL 4 y43.2.1 y52 && true))
                  else some ((eqL 4 y46.2.1 y48 && true) == false)
                else some false) = some true := by
  have p0 : (0 : Nat) < 2 ^ 256 := by decide
  have hG := gcd_lt hA hB
  rw [f56.spec D B hD hB, f56.spec D A hD hA, f56.spec B A hB hA, h1, h2, Nat.gcd_comm B A]
  simp only [bind_s, f59.spec, f60.spec, Bool.and_true, eqN _ 0 hA p0, eqN _ 0 hB p0, eqN _ 0 hG p0, eqL_num, decide_true, Bool.not_true, cond_f, cond_t, f58.wide _ _ hn]
  have tail : n ≠ 0 → ∀ T : Option Bool, T = (bif decide (A % n = 0) then some (decide (Nat.gcd A B % n = 0) == decide (B % n = 0)) else some (decide (Nat.gcd A B % n = 0) == false)) → T = some true := by
    rintro hn0 T rfl
    rw [shared_end A B n hA hB (by omega) hn]
    cases decide (A % n = 0) <;> cases decide (B % n = 0) <;> rfl
  have fin : (bif ((n : Int) == 0) then some true else
      (f52.F 100000 (num A, num n)).bind fun y20 => (f52.F 100000 (num B, num n)).bind fun y23 => (f52.F 100000 (num (Nat.gcd A B), num n)).bind fun y26 =>
        bif eqL 4 y20.2.1 (num 0) then some (eqL 4 y26.2.1 (num 0) == eqL 4 y23.2.1 (num 0)) else some (eqL 4 y26.2.1 (num 0) == false)) = some true := by
    by_cases hn0 : n = 0
    · subst hn0; rfl
    · have c : ((n : Int) == 0) = false := by simp; omega
      have hn1 : 0 < n := by omega
      have hn2 : n < 2 ^ 256 := Nat.lt_trans hn (by decide)
      have b1 := Nat.mod_lt A hn1
      have b2 := Nat.mod_lt B hn1
      have b3 := Nat.mod_lt (Nat.gcd A B) hn1
      rw [c, cond_f, f52.spec A n hA hn2 hn1, f52.spec B n hB hn2 hn1, f52.spec _ n hG hn2 hn1]
      simp only [bind_s]
      rw [eqN _ 0 (by omega) p0, eqN _ 0 (by omega) p0, eqN _ 0 (by omega) p0]
      exact tail hn0 _ rfl
  by_cases hA0 : A = 0
  · subst hA0
    simp only [decide_true, cond_t, Nat.gcd_zero_left, beq_self_eq_true, Bool.not_true, cond_f]
    rw [Nat.gcd_zero_left] at fin
    exact fin
  · have hg0 : Nat.gcd A B ≠ 0 := fun h => hA0 (Nat.eq_zero_of_gcd_eq_zero_left h)
    simp only [decide_eq_false hA0, decide_eq_false hg0, cond_f, beq_self_eq_true, Bool.not_true]
    exact fin

/-- DividesShared. -/
theorem f15.holds (A B : Nat) (n : Int) (hA : A < 2 ^ 256) (hB : B < 2 ^ 256) (hn : (Lit.int .u32 n).wf = true) : f15.F 100000 (num A, num B, n) = some true := by
  obtain ⟨n, hn', rfl⟩ := wf_u32 hn
  have mA := mod_self_of hA
  have mB := mod_self_of hB
  simp only [f15.F, f15.T]
  rw [f56.spec A B hA hB, bind_s, f34.all, bind_s, mA, mB]
  simp only []
  by_cases h : A < B
  · rw [if_pos h, show (((1 : Nat) : Int) == 1) = true from rfl, cond_t, f34.all, bind_s, mA, mB]
    simp only []
    have hs : num (B + 2 ^ 256 - A) = num (B - A) := by rw [show B + 2 ^ 256 - A = B - A + 2 ^ 256 by omega, num_add_mod]
    rw [hs]
    refine f15.both A B (B - A) n hn' hA hB (by omega) ?_ ?_
    · rw [Nat.gcd_comm, Nat.gcd_self_sub_right (Nat.le_of_lt h), Nat.gcd_comm]
    · rw [Nat.gcd_sub_self_left (Nat.le_of_lt h), Nat.gcd_comm]
  · rw [if_neg h, show (((0 : Nat) : Int) == 1) = false from rfl, cond_f]
    have hs : num (A + 2 ^ 256 - B) = num (A - B) := by rw [show A + 2 ^ 256 - B = A - B + 2 ^ 256 by omega, num_add_mod]
    rw [hs]
    refine f15.both A B (A - B) n hn' hA hB (by omega) ?_ ?_
    · rw [Nat.gcd_sub_self_left (by omega)]
    · rw [Nat.gcd_comm, Nat.gcd_self_sub_right (by omega)]

end Go.Proofs
