/- Plain laws: lemmas that hold with no condition but those that each states. -/
import Derived.Test.YtmbbkmljmienjaaQ7
import Derived.Test.YtmbbkmljmienjaaQ2
import Derived.Test.YtmbbkmljmienjaaQ3
namespace Go.Proofs
open Go.VM
theorem shl_nat (x k : Nat) (h : k ≤ 64) : shiftI .shl .u64 (x : Int) (k : Int) = ((x * 2 ^ k % 2 ^ 64 : Nat) : Int) := by
  show IntKind.wrap .u64 ((x : Int) * 2 ^ (min (Int.toNat (k : Int)) 64)) = _
  rw [Int.toNat_natCast, Nat.min_eq_left h, show (x : Int) * 2 ^ k = ((x * 2 ^ k : Nat) : Int) by simp, wrap_nat]
theorem f98.spec (K x : Nat) (hx : x < 18446744073709551616) : f98.F K (x : Int) = some ((64 - blen x : Nat) : Int) := by
  have h : blen x ≤ 64 := blen_le (k := 64) hx
  simp only [f98.F, f98.T, f104.spec K x hx, bind_s]
  rw [wrap_i _ (by omega) (by omega)]
  congr 1; omega
theorem wrap_left (u u1 q Y : Nat) (hq : q * Y ≤ u * 4294967296 + u1) (hr : u * 4294967296 + u1 - q * Y < 18446744073709551616) :
    IntKind.wrap .u64 (IntKind.wrap .u64 (IntKind.wrap .u64 ((u : Int) * 4294967296) + (u1 : Int)) - IntKind.wrap .u64 ((q : Int) * (Y : Int))) = ((u * 4294967296 + u1 - q * Y : Nat) : Int) := by
  have e : (q : Int) * (Y : Int) = ((q * Y : Nat) : Int) := by simp
  rw [e]
  simp only [wrap_emod]
  omega
theorem low_mask (x : Nat) (h : x < 18446744073709551616) : bits .and .u64 (x : Int) 4294967295 = ((x % 4294967296 : Nat) : Int) := and_mask32 x h
theorem fdiv32 (x : Nat) : Int.fdiv (x : Int) (2 ^ 32) = ((x / 4294967296 : Nat) : Int) := fdiv_nat x 32
theorem mod_eq_sub (u v : Nat) : u - u / v * v = u % v := by
  have := Nat.mod_add_div u v
  rw [Nat.mul_comm] at this
  omega
theorem f81.spec (K hi lo y : Nat) (hy : y < 18446744073709551616) (hhi : hi < y) (hlo : lo < 18446744073709551616) (hK : 1 < K) :
    f81.F K ((hi : Int), (lo : Int), (y : Int)) = some ((((hi * 18446744073709551616 + lo) / y : Nat) : Int), (((hi * 18446744073709551616 + lo) % y : Nat) : Int)) := by
  have hy0 : 0 < y := by omega
  simp only [f81.F, f81.T]
  have c1 : ((y : Int) == 0) = false := by simp; omega
  have c3 : decide ((y : Int) ≠ 0) = true := decide_eq_true (by omega)
  rw [c1, decide_eq_false (show ¬ (y : Int) ≤ (hi : Int) by omega), c3]
  simp only [cond_t, cond_f]
  by_cases h0 : hi = 0
  · subst h0
    rw [show (((0 : Nat) : Int) == 0) = true from rfl, cond_t, tdiv_nat, tmod_nat, wrap_nat, Nat.zero_mul, Nat.zero_add, Nat.mod_eq_of_lt (Nat.lt_of_le_of_lt (Nat.div_le_self _ _) hlo)]
  · have c4 : ((hi : Int) == 0) = false := by simp; omega
    rw [c4, cond_f, f98.spec K y hy, bind_s]
    obtain ⟨gy, py⟩ := blen_ge (x := y) (by omega)
    have hb : blen y ≤ 64 := blen_le (k := 64) hy
    have ly := blen_lt y
    obtain ⟨s, hs⟩ : ∃ s, s = 64 - blen y := ⟨_, rfl⟩
    rw [← hs]
    have hs63 : s ≤ 63 := by omega
    have w5 : IntKind.wrap .u64 (s : Int) = (s : Int) := wrap_u _ (by omega) (by omega)
    have w10 : IntKind.wrap .u64 (64 - (s : Int)) = ((64 - s : Nat) : Int) := by rw [wrap_u _ (by omega) (by omega)]; omega
    have d1 : decide (0 ≤ (s : Int)) = true := decide_eq_true (by omega)
    have d2 : decide (0 ≤ ((64 - s : Nat) : Int)) = true := decide_eq_true (by omega)
    have p2 := Nat.two_pow_pos s
    have e64 : 18446744073709551616 = 2 ^ (64 - s) * 2 ^ s := by rw [← Nat.pow_add, show 64 - s + s = 64 by omega]
    have hYlt : y * 2 ^ s < 18446744073709551616 := by
      have h1 : y * 2 ^ s < 2 ^ blen y * 2 ^ s := Nat.mul_lt_mul_of_pos_right ly p2
      rw [← Nat.pow_add, show blen y + s = 64 by omega] at h1
      exact h1
    have hYge : 9223372036854775808 ≤ y * 2 ^ s := by
      have h1 : 2 ^ (blen y - 1) * 2 ^ s ≤ y * 2 ^ s := Nat.mul_le_mul_right _ gy
      rw [← Nat.pow_add, show blen y - 1 + s = 63 by omega] at h1
      exact h1
    have hl1 : lo / 2 ^ (64 - s) < 2 ^ s := by rw [Nat.div_lt_iff_lt_mul (Nat.two_pow_pos _), Nat.mul_comm, ← e64]; exact hlo
    have hu : hi * 2 ^ s + lo / 2 ^ (64 - s) < y * 2 ^ s := by
      have : (hi + 1) * 2 ^ s ≤ y * 2 ^ s := Nat.mul_le_mul_right _ hhi
      rw [Nat.succ_mul] at this
      omega
    have hh1 : hi * 2 ^ s < 18446744073709551616 := Nat.lt_of_le_of_lt (Nat.le_add_right _ _) (Nat.lt_trans hu hYlt)
    have hh2 : lo / 2 ^ (64 - s) < 18446744073709551616 := Nat.lt_of_le_of_lt (Nat.le_add_left _ _) (Nat.lt_trans hu hYlt)
    have hor : bits .or .u64 (shiftI .shl .u64 (hi : Int) (s : Int)) (shiftI .shr .u64 (lo : Int) ((64 - s : Nat) : Int)) = ((hi * 2 ^ s + lo / 2 ^ (64 - s) : Nat) : Int) := by
      rw [shl_nat hi s (by omega), shr_nat lo (64 - s) (by omega), show (2 : Nat) ^ 64 = 18446744073709551616 from rfl, Nat.mod_eq_of_lt hh1, bits_or_u64_nat _ _ hh1 hh2]
      congr 1
      rw [← Nat.shiftLeft_eq, ← Nat.shiftLeft_add_eq_or_of_lt hl1]
    have hlow : lo * 2 ^ s = lo / 2 ^ (64 - s) * 18446744073709551616 + lo * 2 ^ s % 18446744073709551616 := by
      have h1 : lo * 2 ^ s / 18446744073709551616 = lo / 2 ^ (64 - s) := by rw [e64, Nat.mul_div_mul_right _ _ p2]
      have h2 := Nat.mod_add_div (lo * 2 ^ s) 18446744073709551616
      rw [h1, Nat.mul_comm 18446744073709551616] at h2
      omega
    rw [w5, w10, d1, d2, hor, shl_nat y s (by omega), shl_nat lo s (by omega), show (2 : Nat) ^ 64 = 18446744073709551616 from rfl, Nat.mod_eq_of_lt hYlt]
    simp only [cond_t]
    have hw : lo * 2 ^ s % 18446744073709551616 < 18446744073709551616 := Nat.mod_lt _ (by decide)
    rw [low_mask _ hYlt, low_mask _ hw, fdiv32, fdiv32]
    have hN : (hi * 18446744073709551616 + lo) * 2 ^ s = (hi * 2 ^ s + lo / 2 ^ (64 - s)) * 18446744073709551616 + lo * 2 ^ s % 18446744073709551616 := by
      rw [Nat.add_mul, hlow, Nat.add_mul, Nat.mul_assoc, Nat.mul_comm 18446744073709551616, ← Nat.mul_assoc]
      omega
    have hfin : (hi * 18446744073709551616 + lo) / y = (hi * 18446744073709551616 + lo) * 2 ^ s / (y * 2 ^ s) ∧ (hi * 18446744073709551616 + lo) % y * 2 ^ s = (hi * 18446744073709551616 + lo) * 2 ^ s % (y * 2 ^ s) :=
      ⟨(Nat.mul_div_mul_right _ _ p2).symm, (Nat.mul_mod_mul_right _ _ _).symm⟩
    obtain ⟨N, hNN⟩ : ∃ N, N = hi * 18446744073709551616 + lo := ⟨_, rfl⟩
    obtain ⟨u, huu⟩ : ∃ u, u = hi * 2 ^ s + lo / 2 ^ (64 - s) := ⟨_, rfl⟩
    obtain ⟨l, hll⟩ : ∃ l, l = lo * 2 ^ s % 18446744073709551616 := ⟨_, rfl⟩
    obtain ⟨Y, hYY⟩ : ∃ Y, Y = y * 2 ^ s := ⟨_, rfl⟩
    rw [← hNN, ← huu, ← hll] at hN
    rw [← hNN, ← hYY] at hfin
    rw [← huu, ← hYY] at hu
    rw [← hYY] at hYlt hYge
    rw [← hll] at hw
    rw [← hNN, ← huu, ← hll, ← hYY]
    clear hNN huu hll hYY hlow hl1 hor hh1 hh2
    obtain ⟨y1, hy1⟩ : ∃ y1, y1 = Y / 4294967296 := ⟨_, rfl⟩
    obtain ⟨y0', hy0'⟩ : ∃ y0, y0 = Y % 4294967296 := ⟨_, rfl⟩
    obtain ⟨u1, hu1⟩ : ∃ u1, u1 = l / 4294967296 := ⟨_, rfl⟩
    obtain ⟨u0, hu0⟩ : ∃ u0, u0 = l % 4294967296 := ⟨_, rfl⟩
    rw [← hy1, ← hy0', ← hu1, ← hu0]
    have b1 : 2147483648 ≤ y1 := by omega
    have b2 : y1 < 4294967296 := by omega
    have b3 : y0' < 4294967296 := by omega
    have b4 : Y = y1 * 4294967296 + y0' := by omega
    have b5 : u1 < 4294967296 := by omega
    have b6 : u0 < 4294967296 := by omega
    have step : ∀ v : Nat, v < Y → IntKind.wrap .u64 (Int.tdiv (v : Int) (y1 : Int)) = ((v / y1 : Nat) : Int) ∧ IntKind.wrap .u64 ((v : Int) - IntKind.wrap .u64 (((v / y1 : Nat) : Int) * (y1 : Int))) = ((v % y1 : Nat) : Int) := by
      intro v hv
      have h1 : v / y1 ≤ v := Nat.div_le_self _ _
      have h2 : v / y1 * y1 ≤ v := Nat.div_mul_le_self _ _
      have h3 := mod_eq_sub v y1
      refine ⟨by rw [tdiv_nat, wrap_nat, Nat.mod_eq_of_lt (by omega)], ?_⟩
      rw [show ((v / y1 : Nat) : Int) * (y1 : Int) = ((v / y1 * y1 : Nat) : Int) by simp, wrap_nat, Nat.mod_eq_of_lt (by omega), wrap_u _ (by omega) (by omega)]
      omega
    have dy : decide ((y1 : Int) ≠ 0) = true := decide_eq_true (by omega)
    rw [dy]
    simp only [cond_t]
    rw [(step u hu).1, (step u hu).2, f81.loop0 K K Y y1 y0' u u1 (s : Int) (u0 : Int) b4 b1 b2 b3 hu b5 hK, bind_s]
    have hY0 : 0 < Y := by omega
    have m1 := Nat.mod_lt (u * 4294967296 + u1) hY0
    have q1 : (u * 4294967296 + u1) / Y * Y ≤ u * 4294967296 + u1 := Nat.div_mul_le_self _ _
    have r1 := mod_eq_sub (u * 4294967296 + u1) Y
    have hq1 : (u * 4294967296 + u1) / Y < 4294967296 := by have := guess_lt (y1 := y1) (y0 := y0') (u := u) (u1 := u1) (by omega) (by omega) b5; rwa [← b4] at this
    have d1' := Nat.mod_add_div (u * 4294967296 + u1) Y
    generalize (u * 4294967296 + u1) / Y = Q1 at *
    have wl := wrap_left u u1 Q1 Y q1 (by omega)
    simp only [dy, cond_t]
    rw [wl, r1]
    generalize (u * 4294967296 + u1) % Y = R1 at *
    rw [(step R1 m1).1, (step R1 m1).2, f81.loop2 K K Y y1 y0' R1 u0 (s : Int) (Q1 : Int) b4 b1 b2 b3 m1 b6 hK, bind_s]
    have m2 := Nat.mod_lt (R1 * 4294967296 + u0) hY0
    have q2 : (R1 * 4294967296 + u0) / Y * Y ≤ R1 * 4294967296 + u0 := Nat.div_mul_le_self _ _
    have r2 := mod_eq_sub (R1 * 4294967296 + u0) Y
    have hq2 : (R1 * 4294967296 + u0) / Y < 4294967296 := by have := guess_lt (y1 := y1) (y0 := y0') (u := R1) (u1 := u0) (by omega) (by omega) b6; rwa [← b4] at this
    have d2' := Nat.mod_add_div (R1 * 4294967296 + u0) Y
    generalize (R1 * 4294967296 + u0) / Y = Q0 at *
    have wl2 := wrap_left R1 u0 Q0 Y q2 (by omega)
    simp only [d1, cond_t]
    rw [wl2, r2]
    generalize (R1 * 4294967296 + u0) % Y = R0 at *
    have hdiv : N * 2 ^ s = R0 + Y * (Q1 * 4294967296 + Q0) := by
      rw [hN, Nat.mul_add, ← Nat.mul_assoc]
      omega
    obtain ⟨g1, g2⟩ := div_mod_of hdiv m2
    rw [hfin.1, g1, shr_nat R0 s (by omega)]
    have hrem : N % y = R0 / 2 ^ s := by
      have := hfin.2
      rw [g2] at this
      rw [← this, Nat.mul_div_cancel _ p2]
    rw [hrem, wrap_u ((Q1 : Int) * 4294967296) (by omega) (by omega), wrap_u _ (by omega) (by omega)]
    rfl
end Go.Proofs

namespace Go.Proofs
open Go.VM
abbrev f54.Ty0 := Int × Int × Int × Int × List Int × List Int × List Int × List Int
abbrev f54.Ty1 := Int × Int × List Int × List Int × List Int × List Int
abbrev f54.Ty2 := Int × Int × Int × List Int × List Int × List Int
abbrev f54.Ty3 := List Int × List Int × List Int
abbrev f54.Ty4 := Int × List Int
abbrev f54.Ty5 := List Int × Int
noncomputable def f54.c : Code := bodyOf Try.f54
def f54.s2t (K : Nat) (rec : f54.Ty0 → Option (f54.Ty2)) (t8 : Int) (t28 : Int) (t29 : Int) (t33 : Int) (b0 : List Int) (b1 : List Int) (b2 : List Int) (b3 : List Int) : Option (f54.Ty2) :=
  bif (decide (t33 < 4)) then
    let v10 := IntKind.wrap .i64 (3 - t33)
    bif decide (0 ≤ v10 ∧ v10 < 4) then
      (f81.F K (t8, (List.getD b2 (Int.toNat v10) 0), (List.getD b0 0 0))).bind fun y14 =>
      rec (y14.2, t28, t29, (IntKind.wrap .i64 (t33 + 1)), b0, b1, b2, b3)
    else
      none
  else
    some (t8, t28, t29, b0, b1, b3)
def f54.s2 (K : Nat) (rec : f54.Ty0 → Option (f54.Ty2)) (x : f54.Ty0) : Option (f54.Ty2) := f54.s2t K rec x.1 x.2.1 x.2.2.1 x.2.2.2.1 x.2.2.2.2.1 x.2.2.2.2.2.1 x.2.2.2.2.2.2.1 x.2.2.2.2.2.2.2
noncomputable def f54.s2.b : Code := (findLoop 2 f54.c).getD .skip
def f54.s2.h : Hint := { lv := [5, 6, 8, 10, 27, 28, 29, 33] }
def f54.s2.ho : Hint := { lv := [5, 6, 8, 27, 28, 29] }
def f54.s2.shp (x : f54.Ty0) : VS := ⟨[(5, .ptr 0 0), (6, .ptr 1 0), (8, .int .u64 x.1), (10, .ptr 2 0), (27, .sl 3 0 2 2), (28, .int .i64 x.2.1), (29, .int .i64 x.2.2.1), (33, .int .i64 x.2.2.2.1)], [(0, ([.ints .u64 4 x.2.2.2.2.1], 39, .norm)), (1, ([.ints .u64 4 x.2.2.2.2.2.1], 39, .norm)), (2, ([.ints .u64 4 x.2.2.2.2.2.2.1], 39, .norm)), (3, ([.ints .u64 8 x.2.2.2.2.2.2.2], 39, .norm))], 4⟩
def f54.s2.inX : VS → Option (f54.Ty0)
  | ⟨[(5, .ptr 0 0), (6, .ptr 1 0), (8, .int .u64 t8), (10, .ptr 2 0), (27, .sl 3 0 2 2), (28, .int .i64 t28), (29, .int .i64 t29), (33, .int .i64 t33)], [(0, ([.ints .u64 4 b0], 39, .norm)), (1, ([.ints .u64 4 b1], 39, .norm)), (2, ([.ints .u64 4 b2], 39, .norm)), (3, ([.ints .u64 8 b3], 39, .norm))], 4⟩ => some (t8, t28, t29, t33, b0, b1, b2, b3)
  | _ => none
def f54.s2.o0 (y : f54.Ty2) : VS := ⟨[(5, .ptr 0 0), (6, .ptr 1 0), (8, .int .u64 y.1), (27, .sl 2 0 2 2), (28, .int .i64 y.2.1), (29, .int .i64 y.2.2.1)], [(0, ([.ints .u64 4 y.2.2.2.1], 39, .norm)), (1, ([.ints .u64 4 y.2.2.2.2.1], 39, .norm)), (2, ([.ints .u64 8 y.2.2.2.2.2], 39, .norm))], 3⟩
def f54.s2.des : ∀ α : Type, (f54.Ty2) → (Ex → VS → Option α) → Option α := (des1 (.exit 2) f54.s2.o0)
def f54.s2.out : f54.Ty2 → Ex × VS := (fun y => (.exit 2, f54.s2.o0 y))
theorem f54.s2.desOK : ∀ α y (k : Ex → VS → Option α), f54.s2.des α y k = k (f54.s2.out y).1 (f54.s2.out y).2 := (fun _ _ _ => rfl)
def f54.s2.inY : Ex → VS → Option (f54.Ty2)
  | .exit 2, ⟨[(5, .ptr 0 0), (6, .ptr 1 0), (8, .int .u64 t8), (27, .sl 2 0 2 2), (28, .int .i64 t28), (29, .int .i64 t29)], [(0, ([.ints .u64 4 b0], 39, .norm)), (1, ([.ints .u64 4 b1], 39, .norm)), (2, ([.ints .u64 8 b2], 39, .norm))], 3⟩ => some (t8, t28, t29, b0, b1, b2)
  | _, _ => none
def f54.s0t (K : Nat) (rec : f54.Ty2 → Option (f54.Ty4)) (t8 : Int) (t28 : Int) (t29 : Int) (b0 : List Int) (b1 : List Int) (b2 : List Int) : Option (f54.Ty4) :=
  bif (decide (t29 < t28)) then
    bif decide (0 ≤ t29 ∧ t29 < 2) then
      (iter (f54.s2 K) K (t8, t28, t29, 0, b0, b1, (List.take 4 (List.drop ((Int.toNat t29) * 4) b2)), b2)).bind fun y16 =>
      rec (y16.1, y16.2.1, (IntKind.wrap .i64 (y16.2.2.1 + 1)), y16.2.2.2.1, y16.2.2.2.2.1, y16.2.2.2.2.2)
    else
      none
  else
    some (t8, b1)
def f54.s0 (K : Nat) (rec : f54.Ty2 → Option (f54.Ty4)) (x : f54.Ty2) : Option (f54.Ty4) := f54.s0t K rec x.1 x.2.1 x.2.2.1 x.2.2.2.1 x.2.2.2.2.1 x.2.2.2.2.2
noncomputable def f54.s0.b : Code := (findLoop 0 f54.c).getD .skip
def f54.s0.h : Hint := { lv := [5, 6, 8, 27, 28, 29] }
def f54.s0.ho : Hint := { lv := [6, 8] }
def f54.s0.shp (x : f54.Ty2) : VS := ⟨[(5, .ptr 0 0), (6, .ptr 1 0), (8, .int .u64 x.1), (27, .sl 2 0 2 2), (28, .int .i64 x.2.1), (29, .int .i64 x.2.2.1)], [(0, ([.ints .u64 4 x.2.2.2.1], 39, .norm)), (1, ([.ints .u64 4 x.2.2.2.2.1], 39, .norm)), (2, ([.ints .u64 8 x.2.2.2.2.2], 39, .norm))], 3⟩
def f54.s0.inX : VS → Option (f54.Ty2)
  | ⟨[(5, .ptr 0 0), (6, .ptr 1 0), (8, .int .u64 t8), (27, .sl 2 0 2 2), (28, .int .i64 t28), (29, .int .i64 t29)], [(0, ([.ints .u64 4 b0], 39, .norm)), (1, ([.ints .u64 4 b1], 39, .norm)), (2, ([.ints .u64 8 b2], 39, .norm))], 3⟩ => some (t8, t28, t29, b0, b1, b2)
  | _ => none
def f54.s0.o0 (y : f54.Ty4) : VS := ⟨[(6, .ptr 0 0), (8, .int .u64 y.1)], [(0, ([.ints .u64 4 y.2], 39, .norm))], 1⟩
def f54.s0.des : ∀ α : Type, (f54.Ty4) → (Ex → VS → Option α) → Option α := (des1 (.exit 0) f54.s0.o0)
def f54.s0.out : f54.Ty4 → Ex × VS := (fun y => (.exit 0, f54.s0.o0 y))
theorem f54.s0.desOK : ∀ α y (k : Ex → VS → Option α), f54.s0.des α y k = k (f54.s0.out y).1 (f54.s0.out y).2 := (fun _ _ _ => rfl)
def f54.s0.inY : Ex → VS → Option (f54.Ty4)
  | .exit 0, ⟨[(6, .ptr 0 0), (8, .int .u64 t8)], [(0, ([.ints .u64 4 b0], 39, .norm))], 1⟩ => some (t8, b0)
  | _, _ => none
def f54.s4t (K : Nat) (rec : f54.Ty1 → Option (List Int)) (t76 : Int) (t77 : Int) (b0 : List Int) (b1 : List Int) (b2 : List Int) (b3 : List Int) : Option (List Int) :=
  bif (decide (t77 < t76)) then
    (f83.F K (b0, t77)).bind fun y29 =>
    bif (y29 == 1) then
      (f82.F K (b2, b3, b1)).bind fun y30 =>
      (f82.F K (b3, b3, b1)).bind fun y31 =>
      rec (t76, (IntKind.wrap .i64 (t77 + 1)), b0, b1, y30, y31)
    else
      (f82.F K (b3, b3, b1)).bind fun y33 =>
      rec (t76, (IntKind.wrap .i64 (t77 + 1)), b0, b1, b2, y33)
  else
    some b2
def f54.s4 (K : Nat) (rec : f54.Ty1 → Option (List Int)) (x : f54.Ty1) : Option (List Int) := f54.s4t K rec x.1 x.2.1 x.2.2.1 x.2.2.2.1 x.2.2.2.2.1 x.2.2.2.2.2
noncomputable def f54.s4.b : Code := (findLoop 4 f54.c).getD .skip
def f54.s4.h : Hint := { lv := [4, 5, 6, 15, 76, 77] }
def f54.s4.ho : Hint := { lv := [6] }
def f54.s4.shp (x : f54.Ty1) : VS := ⟨[(4, .ptr 0 0), (5, .ptr 1 0), (6, .ptr 2 0), (15, .ptr 3 0), (76, .int .i64 x.1), (77, .int .i64 x.2.1)], [(0, ([.ints .u64 4 x.2.2.1], 39, .norm)), (1, ([.ints .u64 4 x.2.2.2.1], 39, .norm)), (2, ([.ints .u64 4 x.2.2.2.2.1], 39, .norm)), (3, ([.ints .u64 4 x.2.2.2.2.2], 39, .norm))], 4⟩
def f54.s4.inX : VS → Option (f54.Ty1)
  | ⟨[(4, .ptr 0 0), (5, .ptr 1 0), (6, .ptr 2 0), (15, .ptr 3 0), (76, .int .i64 t76), (77, .int .i64 t77)], [(0, ([.ints .u64 4 b0], 39, .norm)), (1, ([.ints .u64 4 b1], 39, .norm)), (2, ([.ints .u64 4 b2], 39, .norm)), (3, ([.ints .u64 4 b3], 39, .norm))], 4⟩ => some (t76, t77, b0, b1, b2, b3)
  | _ => none
def f54.s4.o0 (y : List Int) : VS := ⟨[(6, .ptr 0 0)], [(0, ([.ints .u64 4 y], 39, .norm))], 1⟩
def f54.s4.des : ∀ α : Type, (List Int) → (Ex → VS → Option α) → Option α := (des1 (.exit 4) f54.s4.o0)
def f54.s4.out : List Int → Ex × VS := (fun y => (.exit 4, f54.s4.o0 y))
theorem f54.s4.desOK : ∀ α y (k : Ex → VS → Option α), f54.s4.des α y k = k (f54.s4.out y).1 (f54.s4.out y).2 := (fun _ _ _ => rfl)
def f54.s4.inY : Ex → VS → Option (List Int)
  | .exit 4, ⟨[(6, .ptr 0 0)], [(0, ([.ints .u64 4 b0], 39, .norm))], 1⟩ => some b0
  | _, _ => none
def f54.lp (K : Nat) : Nat → Option (Hint × Summ) := tabLp [(2, f54.s2.h, summOf (iter (f54.s2 K) K) f54.s2.inX f54.s2.des), (0, f54.s0.h, summOf (iter (f54.s0 K) K) f54.s0.inX f54.s0.des), (4, f54.s4.h, summOf (iter (f54.s4 K) K) f54.s4.inX f54.s4.des)]
noncomputable def f54.tab (K : Nat) : List (Nat × Entry) := [(65, (f65.E K)), (66, (f66.E K)), (81, (f81.E K)), (33, (f33.E K)), (67, (f67.E K)), (36, (f36.E K)), (82, (f82.E K)), (83, (f83.E K))]
theorem f54.tabOK (K : Nat) : SpecOK Try.prog (tabSp (f54.tab K)) := tab_ok ((tab_cons (f65.ok K) (tab_cons (f66.ok K) (tab_cons (f81.ok K) (tab_cons (f33.ok K) (tab_cons (f67.ok K) (tab_cons (f36.ok K) (tab_cons (f82.ok K) (tab_cons (f83.ok K) tab_nil)))))))))
theorem f54.s2.eq (K : Nat) (rec : f54.Ty0 → Option (f54.Ty2)) (x : f54.Ty0) : f54.s2 K rec x = roundL (getA tys) (tabSp (f54.tab K)) 94 0 (f54.lp K) 400 f54.s2.b f54.s2.h f54.s2.ho f54.s2.shp f54.s2.inX f54.s2.inY rec x := by kernel_rfl
theorem f54.s2.lok (K : Nat) : LoopsOK Try.prog 94 0 (f54.lp K) f54.s2.b := loops_ok (by
  have h : loopsIn (f54.lp K) f54.s2.b = [] := by kernel_rfl
  rw [h]; simp)
theorem f54.s2.ok (K : Nat) : SummOK Try.prog 94 0 (summOf (iter (f54.s2 K) K) f54.s2.inX f54.s2.des) f54.s2.b :=
  loop_ok mix tys_ok (f54.tabOK K) (h := f54.s2.h) (ho := f54.s2.ho) (shp := f54.s2.shp) (inX := f54.s2.inX) (des := f54.s2.des) (out := f54.s2.out) (inY := f54.s2.inY) (fuel := 400)
    (by intro st x h; unfold f54.s2.inX at h; split at h <;> simp at h; subst h; rfl)
    (by intro e st y h; unfold f54.s2.inY at h; split at h <;> simp at h <;> subst h <;> rfl)
    f54.s2.desOK (f54.s2.lok K) (f54.s2 K) (f54.s2.eq K) K
theorem f54.s0.eq (K : Nat) (rec : f54.Ty2 → Option (f54.Ty4)) (x : f54.Ty2) : f54.s0 K rec x = roundL (getA tys) (tabSp (f54.tab K)) 94 0 (f54.lp K) 400 f54.s0.b f54.s0.h f54.s0.ho f54.s0.shp f54.s0.inX f54.s0.inY rec x := by kernel_rfl
theorem f54.s0.lok (K : Nat) : LoopsOK Try.prog 94 0 (f54.lp K) f54.s0.b := loops_ok (by
  have h : loopsIn (f54.lp K) f54.s0.b = [(2, f54.s2.b)] := by kernel_rfl
  rw [h]
  intro p hp
  simp only [List.mem_cons, List.not_mem_nil, or_false] at hp
  rcases hp with rfl
  · exact ⟨_, rfl, (f54.s2.ok K)⟩)
theorem f54.s0.ok (K : Nat) : SummOK Try.prog 94 0 (summOf (iter (f54.s0 K) K) f54.s0.inX f54.s0.des) f54.s0.b :=
  loop_ok mix tys_ok (f54.tabOK K) (h := f54.s0.h) (ho := f54.s0.ho) (shp := f54.s0.shp) (inX := f54.s0.inX) (des := f54.s0.des) (out := f54.s0.out) (inY := f54.s0.inY) (fuel := 400)
    (by intro st x h; unfold f54.s0.inX at h; split at h <;> simp at h; subst h; rfl)
    (by intro e st y h; unfold f54.s0.inY at h; split at h <;> simp at h <;> subst h <;> rfl)
    f54.s0.desOK (f54.s0.lok K) (f54.s0 K) (f54.s0.eq K) K
theorem f54.s4.eq (K : Nat) (rec : f54.Ty1 → Option (List Int)) (x : f54.Ty1) : f54.s4 K rec x = roundL (getA tys) (tabSp (f54.tab K)) 94 0 (f54.lp K) 400 f54.s4.b f54.s4.h f54.s4.ho f54.s4.shp f54.s4.inX f54.s4.inY rec x := by kernel_rfl
theorem f54.s4.lok (K : Nat) : LoopsOK Try.prog 94 0 (f54.lp K) f54.s4.b := loops_ok (by
  have h : loopsIn (f54.lp K) f54.s4.b = [] := by kernel_rfl
  rw [h]; simp)
theorem f54.s4.ok (K : Nat) : SummOK Try.prog 94 0 (summOf (iter (f54.s4 K) K) f54.s4.inX f54.s4.des) f54.s4.b :=
  loop_ok mix tys_ok (f54.tabOK K) (h := f54.s4.h) (ho := f54.s4.ho) (shp := f54.s4.shp) (inX := f54.s4.inX) (des := f54.s4.des) (out := f54.s4.out) (inY := f54.s4.inY) (fuel := 400)
    (by intro st x h; unfold f54.s4.inX at h; split at h <;> simp at h; subst h; rfl)
    (by intro e st y h; unfold f54.s4.inY at h; split at h <;> simp at h <;> subst h <;> rfl)
    f54.s4.desOK (f54.s4.lok K) (f54.s4 K) (f54.s4.eq K) K
theorem f54.loops (K : Nat) : LoopsOK Try.prog 94 0 (f54.lp K) f54.c := loops_ok (by
  have h : loopsIn (f54.lp K) f54.c = [(0, f54.s0.b), (2, f54.s2.b), (4, f54.s4.b)] := by kernel_rfl
  rw [h]
  intro p hp
  simp only [List.mem_cons, List.not_mem_nil, or_false] at hp
  rcases hp with rfl | rfl | rfl
  · exact ⟨_, rfl, (f54.s0.ok K)⟩
  · exact ⟨_, rfl, (f54.s2.ok K)⟩
  · exact ⟨_, rfl, (f54.s4.ok K)⟩)
def f54.T (K : Nat) (a0 : List Int) (a1 : List Int) (a2 : List Int) : Option (f54.Ty5) :=
  (f65.F K ()).bind fun y1 =>
  bif (eqL 4 a2 y1 && true) then
    some ([0, 0, 0, 0], 1)
  else
    (f66.F K a2).bind fun y3 =>
    bif (decide (y3 ≤ 64)) then
      (iter (f54.s0 K) K (0, 2, 0, a2, [0, 0, 0, 0], (spl (spl [] 0 4 a1) 4 4 a0))).bind fun y18 =>
      (f33.F K y18.1).bind fun y19 =>
      some (y19, 0)
    else
      (f65.F K ()).bind fun y20 =>
      (f33.F K 1).bind fun y21 =>
      (f67.F K (y20, y21)).bind fun y22 =>
      (f36.F K (a0, a2)).bind fun y23 =>
      (f36.F K (y22.1, a2)).bind fun y24 =>
      (f33.F K 1).bind fun y25 =>
      (f82.F K (y24.2.1, y25, a2)).bind fun y26 =>
      (f66.F K a1).bind fun y27 =>
      (iter (f54.s4 K) K (y27, 0, a1, a2, y23.2.1, y26)).bind fun y35 =>
      some (y35, 0)
def f54.F (K : Nat) (x : f54.Ty3) : Option (f54.Ty5) := f54.T K x.1 x.2.1 x.2.2
def f54.av (x : f54.Ty3) : List VV := [.agg [.ints .u64 4 x.1], .agg [.ints .u64 4 x.2.1], .agg [.ints .u64 4 x.2.2]]
def f54.bl (_x : f54.Ty3) : List (Nat × Blk) := []
def f54.inA : VS → Option (f54.Ty3)
  | ⟨[(0, .agg [.ints .u64 4 a0]), (1, .agg [.ints .u64 4 a1]), (2, .agg [.ints .u64 4 a2])], [], 0⟩ => some (a0, a1, a2)
  | _ => none
def f54.o0 (y : f54.Ty5) : VS := ⟨[(0, .tup [.agg [.ints .u64 4 y.1], .int .i64 y.2])], [], 0⟩
def f54.des : ∀ α : Type, (f54.Ty5) → (VS → Option α) → Option α := (dv1 f54.o0)
def f54.out : f54.Ty5 → VS := f54.o0
def f54.inR : VS → Option (f54.Ty5)
  | ⟨[(0, .tup [.agg [.ints .u64 4 y_0], .int .i64 y_1])], [], 0⟩ => some (y_0, y_1)
  | _ => none
noncomputable def f54.E (K : Nat) : Entry := genE 0 f54.inA (f54.F K) f54.des
theorem f54.eq (K : Nat) (x : f54.Ty3) : f54.F K x = xrun (getA tys) (tabSp (f54.tab K)) Try.f54.ntmps 0 (f54.lp K) 400 f54.c ⟨initL 0 (f54.av x), f54.bl x, 0⟩ (contF (getA tys) 0 Try.f54.results.toList f54.inR) := by kernel_rfl
theorem f54.ok (K : Nat) : EntryOK Try.prog 54 (f54.E K) :=
  gen_ok mix tys_ok (f54.tabOK K) Try.func54 (by kernel_rfl : Try.f54.body = some f54.c) (by kernel_rfl) (f54.loops K) (av := f54.av) (bl := f54.bl) (out := f54.out) (fuel := 400)
    (by intro s x h; unfold f54.inA at h; split at h <;> simp at h; subst h; rfl) (fun _ => Nat.le_of_ble_eq_true rfl)
    (by intro s y h; unfold f54.inR at h; split at h <;> simp at h <;> subst h <;> rfl) (fun _ _ _ => rfl) (f54.eq K)
end Go.Proofs

namespace Go.Proofs
open Go.VM
theorem mod_step (a t w M : Nat) : (a % M * t + w) % M = (a * t + w) % M := by
  rw [Nat.add_mod, Nat.mul_mod, Nat.mod_mod, ← Nat.mul_mod, ← Nat.add_mod]
theorem two_rows (H L : Nat) : spl (spl [] 0 4 (num H)) 4 4 (num L) = num H ++ num L := rfl
theorem f54.words (X M l : Nat) (hX : X < 2 ^ 256) (hM : 0 < M) (hM64 : M < 18446744073709551616) (hl : l < M) (t z b3 : _) (i : Nat) :
    iter (f54.s2 100000) 100000 ((l : Int), t, (i : Int), 0, num M, z, num X, b3) = some ((((l * 2 ^ 256 + X) % M : Nat) : Int), t, (i : Int), num M, z, b3) := by
  have key := iter_for (stp := f54.s2 100000) (N := 4) (fun j => ((((l * 2 ^ (64 * j) + X / 2 ^ (64 * (4 - j))) % M : Nat) : Int), t, (i : Int), (j : Int), num M, z, num X, b3))
    (y := some ((((l * 2 ^ 256 + X) % M : Nat) : Int), t, (i : Int), num M, z, b3)) (fun j hj rec => by
      simp only [f54.s2, f54.s2t]
      have w1 : IntKind.wrap .i64 (3 - (j : Int)) = ((3 - j : Nat) : Int) := by rw [wrap_i _ (by omega) (by omega)]; omega
      have w2 : IntKind.wrap .i64 ((j : Int) + 1) = ((j + 1 : Nat) : Int) := by rw [wrap_i _ (by omega) (by omega)]; rfl
      have h4 : decide ((0 : Int) ≤ ((3 - j : Nat) : Int) ∧ ((3 - j : Nat) : Int) < 4) = true := inR_nat (n := 4) (by omega)
      have hw : X / 2 ^ (64 * (3 - j)) % 2 ^ 64 < 18446744073709551616 := Nat.mod_lt _ (by decide)
      rw [decide_eq_true (show (j : Int) < 4 by omega), cond_t, w1, w2, h4, cond_t, Int.toNat_natCast, getD_words (show 3 - j < 4 by omega), word0 M hM64,
        f81.spec 100000 _ _ M hM64 (Nat.mod_lt _ hM) hw (by decide), bind_s, mod_step]
      have e1 : X / 2 ^ (64 * (3 - j)) = X / 2 ^ (64 * (4 - j)) * 18446744073709551616 + X / 2 ^ (64 * (3 - j)) % 2 ^ 64 := by
        have h := Nat.mod_add_div (X / 2 ^ (64 * (3 - j))) (2 ^ 64)
        rw [Nat.div_div_eq_div_mul, ← Nat.pow_add, show 64 * (3 - j) + 64 = 64 * (4 - j) by omega] at h
        omega
      have e2 : l * 2 ^ (64 * (j + 1)) = l * 2 ^ (64 * j) * 18446744073709551616 := by
        rw [show 64 * (j + 1) = 64 * j + 64 by omega, Nat.pow_add, ← Nat.mul_assoc]
      rw [show 4 - (j + 1) = 3 - j by omega, e2]
      conv => rhs; rw [e1]
      rw [Nat.add_mul, Nat.add_assoc]) (fun rec => by
      simp only [f54.s2, f54.s2t]
      rw [decide_eq_false (show ¬ ((4 : Nat) : Int) < 4 by decide), cond_f, Nat.sub_self, Nat.mul_zero, Nat.pow_zero, Nat.div_one]) (show 4 < 100000 by decide)
  simp only [Nat.mul_zero, Nat.pow_zero, Nat.mul_one, Nat.sub_zero] at key
  rw [show 64 * 4 = 256 from rfl, Nat.div_eq_of_lt hX, Nat.add_zero, Nat.mod_eq_of_lt hl] at key
  exact key
def wideSo (H L M i : Nat) : Nat := if i = 0 then 0 else if i = 1 then H % M else (H * 2 ^ 256 + L) % M
theorem wideSo0 (H L M : Nat) : wideSo H L M 0 = 0 := if_pos rfl
theorem wideSo1 (H L M : Nat) : wideSo H L M 1 = H % M := by unfold wideSo; rw [if_neg (by decide), if_pos rfl]
theorem wideSo2 (H L M : Nat) : wideSo H L M 2 = (H * 2 ^ 256 + L) % M := by unfold wideSo; rw [if_neg (by decide), if_neg (by decide)]
theorem f54.small (H L M : Nat) (hH : H < 2 ^ 256) (hL : L < 2 ^ 256) (hM : 0 < M) (hM64 : M < 18446744073709551616) (z : _) :
    iter (f54.s0 100000) 100000 (0, 2, 0, num M, z, num H ++ num L) = some ((((H * 2 ^ 256 + L) % M : Nat) : Int), z) := by
  have key := iter_for (stp := f54.s0 100000) (N := 2) (fun i => ((wideSo H L M i : Int), (2 : Int), (i : Int), num M, z, num H ++ num L))
    (y := some ((((H * 2 ^ 256 + L) % M : Nat) : Int), z)) (fun i hi rec => by
      have hi2 : i = 0 ∨ i = 1 := by omega
      have wi : IntKind.wrap .i64 ((i : Int) + 1) = ((i + 1 : Nat) : Int) := by rw [wrap_i _ (by omega) (by omega)]; rfl
      simp only [f54.s0, f54.s0t]
      rw [decide_eq_true (show (i : Int) < 2 by omega), cond_t, decide_eq_true (show 0 ≤ (i : Int) ∧ (i : Int) < 2 by omega), cond_t]
      rcases hi2 with rfl | rfl
      · have hrow : List.take 4 (List.drop (Int.toNat ((0 : Nat) : Int) * 4) (num H ++ num L)) = num H := rfl
        have e := f54.words H M 0 hH hM hM64 hM 2 z (num H ++ num L) 0
        rw [Nat.zero_mul, Nat.zero_add] at e
        rw [hrow, wideSo0, e, bind_s]
        simp only []
        rw [wi, wideSo1]
      · have hrow : List.take 4 (List.drop (Int.toNat ((1 : Nat) : Int) * 4) (num H ++ num L)) = num L := rfl
        have e := f54.words L M (H % M) hL hM hM64 (Nat.mod_lt _ hM) 2 z (num H ++ num L) 1
        rw [hrow, wideSo1, e, bind_s, mod_step]
        simp only []
        rw [wi, wideSo2]) (fun rec => by
      simp only [f54.s0, f54.s0t]
      rw [decide_eq_false (show ¬ ((2 : Nat) : Int) < 2 by decide), cond_f, wideSo2]) (show 2 < 100000 by decide)
  rw [wideSo0] at key
  exact key
theorem f54.bits (H L M : Nat) (hH : H < 2 ^ 256) (hM : 0 < M) (hM' : M < 2 ^ 256) (_hL : L < 2 ^ 256) :
    iter (f54.s4 100000) 100000 (((blen H : Nat) : Int), 0, num H, num M, num (L % M), num (2 ^ 256 % M)) = some (num ((H * 2 ^ 256 + L) % M)) := by
  have hb := blen_256 hH
  have key := iter_for (stp := f54.s4 100000) (N := blen H) (fun i => (((blen H : Nat) : Int), (i : Int), num H, num M, num ((H % 2 ^ i * 2 ^ 256 + L) % M), num (2 ^ (256 + i) % M)))
    (y := some (num ((H * 2 ^ 256 + L) % M))) (fun i hi rec => by
      simp only [f54.s4, f54.s4t]
      have w2 : IntKind.wrap .i64 ((i : Int) + 1) = ((i + 1 : Nat) : Int) := by rw [wrap_i _ (by omega) (by omega)]; rfl
      have hs : num ((2 ^ (256 + i) % M + 2 ^ (256 + i) % M) % M) = num (2 ^ (256 + (i + 1)) % M) := by
        rw [← Nat.add_mod, show 2 ^ (256 + (i + 1)) = 2 ^ (256 + i) + 2 ^ (256 + i) by rw [show 256 + (i + 1) = (256 + i) + 1 from rfl, Nat.pow_succ, Nat.mul_two]]
      have hl := Nat.mod_lt (2 ^ (256 + i)) hM
      have hr := Nat.mod_lt (H % 2 ^ i * 2 ^ 256 + L) hM
      have hbit : H % 2 ^ (i + 1) = H % 2 ^ i + 2 ^ i * (H / 2 ^ i % 2) := by rw [Nat.pow_succ, Nat.mod_mul]
      rw [decide_eq_true (show (i : Int) < ((blen H : Nat) : Int) by omega), cond_t, f83.all H i (by omega), mod_self_of hH, bind_s, w2, f82.spec _ _ M hl hl hM', bind_s, hs, hbit]
      rcases Nat.mod_two_eq_zero_or_one (H / 2 ^ i) with h | h
      · rw [h, show (((0 : Nat) : Int) == 1) = false from rfl, cond_f, Nat.mul_zero, Nat.add_zero (H % 2 ^ i)]
      · rw [h, show (((1 : Nat) : Int) == 1) = true from rfl, cond_t, f82.spec _ _ M hr hl hM', bind_s, ← Nat.add_mod, Nat.mul_one]
        have e : (H % 2 ^ i + 2 ^ i) * 2 ^ 256 + L = H % 2 ^ i * 2 ^ 256 + L + 2 ^ (256 + i) := by
          rw [Nat.add_mul (H % 2 ^ i) (2 ^ i) (2 ^ 256), Nat.pow_add 2 256 i, Nat.mul_comm (2 ^ 256) (2 ^ i)]
          omega
        rw [e, bind_s]) (fun rec => by
      simp only [f54.s4, f54.s4t]
      rw [decide_eq_false (Int.lt_irrefl _), cond_f, Nat.mod_eq_of_lt (blen_lt H)]) (show blen H < 100000 by omega)
  simp only [Nat.pow_zero, Nat.mod_one, Nat.zero_mul, Nat.zero_add, Nat.add_zero] at key
  exact key
theorem f54.spec (L H M : Nat) (hL : L < 2 ^ 256) (hH : H < 2 ^ 256) (hM : M < 2 ^ 256) (h0 : 0 < M) : f54.F 100000 (num L, num H, num M) = some (num ((H * 2 ^ 256 + L) % M), 0) := by
  have mM := mod_self_of hM
  have hz : decide (M = 0 % 2 ^ 256) = false := decide_eq_false (fun h => by rw [Nat.zero_mod] at h; omega)
  have lM := blen_lt M
  simp only [f54.F, f54.T, f65.spec, bind_s, eqL_num, mM, hz, Bool.and_true, cond_f, f66.all, two_rows]
  by_cases h : blen M ≤ 64
  · have hM64 : M < 2 ^ 64 := Nat.lt_of_lt_of_le lM (Nat.pow_le_pow_right (by decide) h)
    have hr : (H * 2 ^ 256 + L) % M < 18446744073709551616 := Nat.lt_trans (Nat.mod_lt _ h0) hM64
    rw [decide_eq_true (show ((blen M : Nat) : Int) ≤ 64 by omega), cond_t, f54.small H L M hH hL h0 hM64, bind_s, f33.nat _ _ hr, bind_s]
  · obtain ⟨gM, _⟩ := blen_ge (x := M) (by omega)
    have hM64 : 2 ^ 64 ≤ M := Nat.le_trans (Nat.pow_le_pow_right (by decide) (by omega)) gM
    have e1 : (0 : Nat) % 2 ^ 256 + 2 ^ 256 - 1 % 2 ^ 256 = 2 ^ 256 - 1 := rfl
    have hp : (2 ^ 256 - 1 : Nat) < 2 ^ 256 := by decide
    have e2 : ((2 ^ 256 - 1) % M + 1) % M = 2 ^ 256 % M := by
      have h1 : (1 : Nat) % M = 1 := Nat.mod_eq_of_lt (by omega)
      have h2 : ((2 ^ 256 - 1) % M + 1 % M) % M = 2 ^ 256 % M := by rw [← Nat.add_mod]
      rwa [h1] at h2
    rw [decide_eq_false (show ¬ ((blen M : Nat) : Int) ≤ 64 by omega), cond_f]
    simp only [f33.one, bind_s, f67.all, e1]
    rw [f36.spec L M hL hM h0, bind_s, f36.spec _ M hp hM h0, bind_s, f82.spec _ 1 M (Nat.mod_lt _ h0) (by omega) hM, bind_s, e2, mod_self_of hH, f54.bits H L M hH h0 hM hL, bind_s]
end Go.Proofs

namespace Go.Proofs
open Go.VM
def Sh.cut (name : List Int) (ps : List (List Int)) : List Int := Sh.frame name ++ be 4 ps.length ++ ps.flatMap Sh.frame
def Sh.sha (name : List Int) (ps : List (List Int)) : List Int := Sh.sum (Sh.cut name ps)
theorem Sh.rep0 : Sh.Rep [] [0, 0, 0, 0, 0, 0, 0, 0, 0, 0, 0, 0, 0, 0, 0, 0, 0, 0, 0, 0, 0, 0, 0, 0, 0, 0, 0, 0, 0, 0, 0, 0, 0, 0, 0, 0, 0, 0, 0, 0, 0, 0, 0, 0, 0, 0, 0, 0, 0, 0, 0, 0, 0, 0, 0, 0, 0, 0, 0, 0, 0, 0, 0, 0] 0 Sh.init :=
  ⟨rfl, by intro x hx; simp only [List.mem_cons, List.not_mem_nil, or_false, or_self] at hx; omega, rfl, rfl, rfl⟩
theorem sha_length (name : List Int) (ps : List (List Int)) : (Sh.sha name ps).length = 32 := digest_length _
theorem sha_octets (name : List Int) (ps : List (List Int)) : octets (Sh.sha name ps) := digest_octets _
def Sh.number (Q : Nat) (name : List Int) (ps : List (List Int)) : Nat := (tv (Sh.sha name (ps ++ [[0]])) * 2 ^ 256 + tv (Sh.sha name (ps ++ [[1]]))) % Q
end Go.Proofs

namespace Go.Proofs
open Go.VM
abbrev f49.Ty0 := List Int × Int × Int × List Int
def f49.T (_K : Nat)  : Option (f49.Ty0) :=
  some ([0, 0, 0, 0, 0, 0, 0, 0, 0, 0, 0, 0, 0, 0, 0, 0, 0, 0, 0, 0, 0, 0, 0, 0, 0, 0, 0, 0, 0, 0, 0, 0, 0, 0, 0, 0, 0, 0, 0, 0, 0, 0, 0, 0, 0, 0, 0, 0, 0, 0, 0, 0, 0, 0, 0, 0, 0, 0, 0, 0, 0, 0, 0, 0], 0, 0, [1779033703, 3144134277, 1013904242, 2773480762, 1359893119, 2600822924, 528734635, 1541459225])
def f49.F (K : Nat) (_x : Unit) : Option (f49.Ty0) := f49.T K
def f49.av (_x : Unit) : List VV := []
def f49.bl (_x : Unit) : List (Nat × Blk) := []
def f49.inA : VS → Option (Unit)
  | ⟨[], [], 0⟩ => some ()
  | _ => none
def f49.o0 (y : f49.Ty0) : VS := ⟨[(0, .ptr 0 0)], [(0, ([.ptr 1 0, .ints .u8 64 y.1, .int .i64 y.2.1, .int .u64 y.2.2.1], 117, .norm)), (1, ([.ints .u32 8 y.2.2.2], 113, .norm))], 2⟩
def f49.inR : VS → Option (f49.Ty0)
  | ⟨[(0, .ptr 0 0)], [(0, ([.ptr 1 0, .ints .u8 64 z0_0, .int .i64 z0_1, .int .u64 z0_2], 117, .norm)), (1, ([.ints .u32 8 z1], 113, .norm))], 2⟩ => some (z0_0, z0_1, z0_2, z1)
  | _ => none
noncomputable def f49.E (K : Nat) : Entry := genE 0 f49.inA (f49.F K) (dv1 f49.o0)
theorem f49.ok (K : Nat) : EntryOK Try.prog 49 (f49.E K) := gen_ok mix tys_ok (tab_ok ( tab_nil)) Try.func49 (c := bodyOf Try.f49) (by kernel_rfl) (by kernel_rfl) (loops_none (lp := lpNone) (by kernel_rfl)) (av := f49.av) (bl := f49.bl) (inR := f49.inR) (out := f49.o0) (fuel := 400)
  (by intro s x h; unfold f49.inA at h; split at h <;> simp at h; rfl) (fun _ => Nat.le_of_ble_eq_true rfl)
  (by intro s y h; unfold f49.inR at h; split at h <;> simp at h <;> subst h <;> rfl) (fun _ _ _ => rfl) (fun _ => by kernel_rfl)
end Go.Proofs

namespace Go.Proofs
open Go.VM
abbrev f30.Ty0 := List Int × Nat × List Int
abbrev f30.Ty1 := Nat × Nat × List Int
def f30.T (K : Nat) (a0 : Nat) (m0_0 : Nat) (m0_1 : List Int) : Option (f30.Ty0) :=
  (f49.F K ()).bind fun y1 =>
  bif ((Nat.ble (0 + a0) m0_0 && true) && true) then
    (f57.F K (y1.1, y1.2.1, y1.2.2.1, a0, y1.2.2.2, a0, (subI m0_1 0 a0))).bind fun y2 =>
    (f51.F K (y2.1, y2.2.1, y2.2.2.1, y2.2.2.2.2.2.2)).bind fun y3 =>
    some (y3.1, m0_0, m0_1)
  else
    none
def f30.F (K : Nat) (x : f30.Ty1) : Option (f30.Ty0) := f30.T K x.1 x.2.1 x.2.2
def f30.av (x : f30.Ty1) : List VV := [.vw true 0 0 x.1 1]
def f30.bl (x : f30.Ty1) : List (Nat × Blk) := [(0, ([.ints .u8 x.2.1 x.2.2], 0, .ro))]
def f30.inA : VS → Option (f30.Ty1)
  | ⟨[(0, .vw true 0 0 a0 1)], [(0, ([.ints .u8 m0_0 m0_1], 0, .ro))], 2⟩ => some (a0, m0_0, m0_1)
  | _ => none
def f30.o0 (y : f30.Ty0) : VS := ⟨[(0, .agg [.ints .u8 32 y.1])], [(0, ([.ints .u8 y.2.1 y.2.2], 0, .ro))], 2⟩
def f30.inR : VS → Option (f30.Ty0)
  | ⟨[(0, .agg [.ints .u8 32 y])], [(0, ([.ints .u8 z0_0 z0_1], 0, .ro))], 2⟩ => some (y, z0_0, z0_1)
  | _ => none
noncomputable def f30.E (K : Nat) : Entry := genE 2 f30.inA (f30.F K) (dv1 f30.o0)
theorem f30.ok (K : Nat) : EntryOK Try.prog 30 (f30.E K) := gen_ok mix tys_ok (sp := tabSp [(49, (f49.E K)), (57, (rowsE 1 .u8 (f57.E K))), (51, (f51.E K))]) (tab_ok ((tab_cons (f49.ok K) (tab_cons (rows_ok (f57.ok K)) (tab_cons (f51.ok K) tab_nil))))) Try.func30 (c := bodyOf Try.f30) (by kernel_rfl) (by kernel_rfl) (loops_none (lp := lpNone) (by kernel_rfl)) (av := f30.av) (bl := f30.bl) (inR := f30.inR) (out := f30.o0) (fuel := 400)
  (by intro s x h; unfold f30.inA at h; split at h <;> simp at h; subst h; rfl) (fun _ => Nat.le_of_ble_eq_true rfl)
  (by intro s y h; unfold f30.inR at h; split at h <;> simp at h <;> subst h <;> rfl) (fun _ _ _ => rfl) (fun _ => by kernel_rfl)
end Go.Proofs

namespace Go.Proofs
open Go.VM
abbrev f50.Ty0 := Int × List Int × Int × Int × Nat × List Int × List Int
abbrev f50.Ty1 := Nat × List Int × Int × Int × Nat × List Int × List Int
def f50.T (K : Nat) (a1 : Nat) (m0_0 : List Int) (m0_1 : Int) (m0_2 : Int) (m1_0 : Nat) (m1_1 : List Int) (m3 : List Int) : Option (f50.Ty0) :=
  bif ((Nat.ble (0 + a1) m1_0 && true) && true) then
    (f57.F K (m0_0, m0_1, m0_2, a1, m3, a1, (subI m1_1 0 a1))).bind fun y1 =>
    some (0, y1.1, y1.2.1, y1.2.2.1, m1_0, m1_1, y1.2.2.2.2.2.2)
  else
    none
def f50.F (K : Nat) (x : f50.Ty1) : Option (f50.Ty0) := f50.T K x.1 x.2.1 x.2.2.1 x.2.2.2.1 x.2.2.2.2.1 x.2.2.2.2.2.1 x.2.2.2.2.2.2
def f50.av (x : f50.Ty1) : List VV := [.ptr 0 0, .vw true 1 0 x.1 2]
def f50.bl (x : f50.Ty1) : List (Nat × Blk) := [(0, ([.ptr 3 0, .ints .u8 64 x.2.1, .int .i64 x.2.2.1, .int .u64 x.2.2.2.1], 117, .norm)), (1, ([.ints .u8 x.2.2.2.2.1 x.2.2.2.2.2.1], 0, .ro)), (3, ([.ints .u32 8 x.2.2.2.2.2.2], 113, .norm))]
def f50.inA : VS → Option (f50.Ty1)
  | ⟨[(0, .ptr 0 0), (1, .vw true 1 0 a1 2)], [(0, ([.ptr 3 0, .ints .u8 64 m0_0, .int .i64 m0_1, .int .u64 m0_2], 117, .norm)), (1, ([.ints .u8 m1_0 m1_1], 0, .ro)), (3, ([.ints .u32 8 m3], 113, .norm))], 4⟩ => some (a1, m0_0, m0_1, m0_2, m1_0, m1_1, m3)
  | _ => none
def f50.o0 (y : f50.Ty0) : VS := ⟨[(0, .int .i64 y.1)], [(0, ([.ptr 4 0, .ints .u8 64 y.2.1, .int .i64 y.2.2.1, .int .u64 y.2.2.2.1], 117, .norm)), (1, ([.ints .u8 y.2.2.2.2.1 y.2.2.2.2.2.1], 0, .ro)), (3, ([], 113, .dead)), (4, ([.ints .u32 8 y.2.2.2.2.2.2], 113, .norm))], 5⟩
def f50.inR : VS → Option (f50.Ty0)
  | ⟨[(0, .int .i64 y)], [(0, ([.ptr 4 0, .ints .u8 64 z0_0, .int .i64 z0_1, .int .u64 z0_2], 117, .norm)), (1, ([.ints .u8 z1_0 z1_1], 0, .ro)), (3, ([], 113, .dead)), (4, ([.ints .u32 8 z4], 113, .norm))], 5⟩ => some (y, z0_0, z0_1, z0_2, z1_0, z1_1, z4)
  | _ => none
noncomputable def f50.E (K : Nat) : Entry := genE 4 f50.inA (f50.F K) (dv1 f50.o0)
theorem f50.ok (K : Nat) : EntryOK Try.prog 50 (f50.E K) := gen_ok mix tys_ok (sp := tabSp [(57, (rowsE 1 .u8 (f57.E K)))]) (tab_ok ((tab_cons (rows_ok (f57.ok K)) tab_nil))) Try.func50 (c := bodyOf Try.f50) (by kernel_rfl) (by kernel_rfl) (loops_none (lp := lpNone) (by kernel_rfl)) (av := f50.av) (bl := f50.bl) (inR := f50.inR) (out := f50.o0) (fuel := 400)
  (by intro s x h; unfold f50.inA at h; split at h <;> simp at h; subst h; rfl) (fun _ => Nat.le_of_ble_eq_true rfl)
  (by intro s y h; unfold f50.inR at h; split at h <;> simp at h <;> subst h <;> rfl) (fun _ _ _ => rfl) (fun _ => by kernel_rfl)
end Go.Proofs

namespace Go.Proofs
open Go.VM
abbrev f48.Ty0 := Int × Int × List Int × List Int
abbrev f48.Ty1 := List Int × List Int
abbrev f48.Ty2 := Int × List Int
noncomputable def f48.c : Code := bodyOf Try.f48
def f48.s0t (_K : Nat) (rec : f48.Ty0 → Option (f48.Ty1)) (t0 : Int) (t7 : Int) (b0 : List Int) (b1 : List Int) : Option (f48.Ty1) :=
  bif (decide (t7 < 64)) then
    bif decide (0 ≤ t7 ∧ t7 < 64) then
      bif decide (0 ≤ t7 ∧ t7 < 64) then
        rec (t0, (IntKind.wrap .i64 (t7 + 1)), b0, (setD b1 (Int.toNat t7) (bits .xor .u8 (List.getD b1 (Int.toNat t7) 0) t0)))
      else
        none
    else
      none
  else
    some (b0, b1)
def f48.s0 (K : Nat) (rec : f48.Ty0 → Option (f48.Ty1)) (x : f48.Ty0) : Option (f48.Ty1) := f48.s0t K rec x.1 x.2.1 x.2.2.1 x.2.2.2
noncomputable def f48.s0.b : Code := (findLoop 0 f48.c).getD .skip
def f48.s0.h : Hint := { lv := [0, 4, 7] }
def f48.s0.ho : Hint := { lv := [4] }
def f48.s0.shp (x : f48.Ty0) : VS := ⟨[(0, .int .u8 x.1), (4, .ptr 1 0), (7, .int .i64 x.2.1)], [(0, ([.ints .u8 64 x.2.2.1], 75, .norm)), (1, ([.ints .u8 64 x.2.2.2], 75, .norm))], 2⟩
def f48.s0.inX : VS → Option (f48.Ty0)
  | ⟨[(0, .int .u8 t0), (4, .ptr 1 0), (7, .int .i64 t7)], [(0, ([.ints .u8 64 b0], 75, .norm)), (1, ([.ints .u8 64 b1], 75, .norm))], 2⟩ => some (t0, t7, b0, b1)
  | _ => none
def f48.s0.o0 (y : f48.Ty1) : VS := ⟨[(4, .ptr 1 0)], [(0, ([.ints .u8 64 y.1], 75, .norm)), (1, ([.ints .u8 64 y.2], 75, .norm))], 2⟩
def f48.s0.des : ∀ α : Type, (f48.Ty1) → (Ex → VS → Option α) → Option α := (des1 (.exit 0) f48.s0.o0)
def f48.s0.out : f48.Ty1 → Ex × VS := (fun y => (.exit 0, f48.s0.o0 y))
theorem f48.s0.desOK : ∀ α y (k : Ex → VS → Option α), f48.s0.des α y k = k (f48.s0.out y).1 (f48.s0.out y).2 := (fun _ _ _ => rfl)
def f48.s0.inY : Ex → VS → Option (f48.Ty1)
  | .exit 0, ⟨[(4, .ptr 1 0)], [(0, ([.ints .u8 64 b0], 75, .norm)), (1, ([.ints .u8 64 b1], 75, .norm))], 2⟩ => some (b0, b1)
  | _, _ => none
def f48.lp (K : Nat) : Nat → Option (Hint × Summ) := tabLp [(0, f48.s0.h, summOf (iter (f48.s0 K) K) f48.s0.inX f48.s0.des)]
noncomputable def f48.tab (_K : Nat) : List (Nat × Entry) := []
theorem f48.tabOK (K : Nat) : SpecOK Try.prog (tabSp (f48.tab K)) := tab_ok ( tab_nil)
theorem f48.s0.eq (K : Nat) (rec : f48.Ty0 → Option (f48.Ty1)) (x : f48.Ty0) : f48.s0 K rec x = roundL (getA tys) (tabSp (f48.tab K)) 18 1 (f48.lp K) 400 f48.s0.b f48.s0.h f48.s0.ho f48.s0.shp f48.s0.inX f48.s0.inY rec x := by kernel_rfl
theorem f48.s0.lok (K : Nat) : LoopsOK Try.prog 18 1 (f48.lp K) f48.s0.b := loops_ok (by
  have h : loopsIn (f48.lp K) f48.s0.b = [] := by kernel_rfl
  rw [h]; simp)
theorem f48.s0.ok (K : Nat) : SummOK Try.prog 18 1 (summOf (iter (f48.s0 K) K) f48.s0.inX f48.s0.des) f48.s0.b :=
  loop_ok mix tys_ok (f48.tabOK K) (h := f48.s0.h) (ho := f48.s0.ho) (shp := f48.s0.shp) (inX := f48.s0.inX) (des := f48.s0.des) (out := f48.s0.out) (inY := f48.s0.inY) (fuel := 400)
    (by intro st x h; unfold f48.s0.inX at h; split at h <;> simp at h; subst h; rfl)
    (by intro e st y h; unfold f48.s0.inY at h; split at h <;> simp at h <;> subst h <;> rfl)
    f48.s0.desOK (f48.s0.lok K) (f48.s0 K) (f48.s0.eq K) K
theorem f48.loops (K : Nat) : LoopsOK Try.prog 18 1 (f48.lp K) f48.c := loops_ok (by
  have h : loopsIn (f48.lp K) f48.c = [(0, f48.s0.b)] := by kernel_rfl
  rw [h]
  intro p hp
  simp only [List.mem_cons, List.not_mem_nil, or_false] at hp
  rcases hp with rfl
  · exact ⟨_, rfl, (f48.s0.ok K)⟩)
def f48.T (K : Nat) (a0 : Int) (m0 : List Int) : Option (f48.Ty1) :=
  (iter (f48.s0 K) K (a0, 0, m0, m0)).bind fun y8 =>
  some (y8.1, y8.2)
def f48.F (K : Nat) (x : f48.Ty2) : Option (f48.Ty1) := f48.T K x.1 x.2
def f48.av (x : f48.Ty2) : List VV := [.int .u8 x.1, .ptr 0 0]
def f48.bl (x : f48.Ty2) : List (Nat × Blk) := [(0, ([.ints .u8 64 x.2], 75, .norm))]
def f48.inA : VS → Option (f48.Ty2)
  | ⟨[(0, .int .u8 a0), (1, .ptr 0 0)], [(0, ([.ints .u8 64 m0], 75, .norm))], 1⟩ => some (a0, m0)
  | _ => none
def f48.o0 (y : f48.Ty1) : VS := ⟨[(0, .sl 1 0 64 64)], [(0, ([.ints .u8 64 y.1], 75, .norm)), (1, ([.ints .u8 64 y.2], 75, .norm))], 2⟩
def f48.des : ∀ α : Type, (f48.Ty1) → (VS → Option α) → Option α := (dv1 f48.o0)
def f48.out : f48.Ty1 → VS := f48.o0
def f48.inR : VS → Option (f48.Ty1)
  | ⟨[(0, .sl 1 0 64 64)], [(0, ([.ints .u8 64 z0], 75, .norm)), (1, ([.ints .u8 64 z1], 75, .norm))], 2⟩ => some (z0, z1)
  | _ => none
noncomputable def f48.E (K : Nat) : Entry := genE 1 f48.inA (f48.F K) f48.des
theorem f48.eq (K : Nat) (x : f48.Ty2) : f48.F K x = xrun (getA tys) (tabSp (f48.tab K)) Try.f48.ntmps 1 (f48.lp K) 400 f48.c ⟨initL 0 (f48.av x), f48.bl x, 1⟩ (contF (getA tys) 1 Try.f48.results.toList f48.inR) := by kernel_rfl
theorem f48.ok (K : Nat) : EntryOK Try.prog 48 (f48.E K) :=
  gen_ok mix tys_ok (f48.tabOK K) Try.func48 (by kernel_rfl : Try.f48.body = some f48.c) (by kernel_rfl) (f48.loops K) (av := f48.av) (bl := f48.bl) (out := f48.out) (fuel := 400)
    (by intro s x h; unfold f48.inA at h; split at h <;> simp at h; subst h; rfl) (fun _ => Nat.le_of_ble_eq_true rfl)
    (by intro s y h; unfold f48.inR at h; split at h <;> simp at h <;> subst h <;> rfl) (fun _ _ _ => rfl) (f48.eq K)
end Go.Proofs

namespace Go.Proofs
open Go.VM
abbrev f15.Ty0 := List Int × Nat × List Int × Nat × Nat × Nat × List Int × Nat × List Int
abbrev f15.Ty1 := Nat × Nat × List Int × Nat × Nat × Nat × List Int × Nat × List Int
def f15.T (K : Nat) (a0 : Nat) (m0_0 : Nat) (m0_1 : List Int) (m2_0 : Nat) (m2_1 : Nat) (m4_0 : Nat) (m4_1 : List Int) (m6_0 : Nat) (m6_1 : List Int) : Option (f15.Ty0) :=
  bif (decide (((a0 : Nat) : Int) > 64)) then
    bif ((Nat.ble (0 + a0) m0_0 && true) && true) then
      (f30.F K (a0, a0, (subI m0_1 0 a0))).bind fun y3 =>
      (f49.F K ()).bind fun y5 =>
      (f49.F K ()).bind fun y6 =>
      (f48.F K (54, (spl [0, 0, 0, 0, 0, 0, 0, 0, 0, 0, 0, 0, 0, 0, 0, 0, 0, 0, 0, 0, 0, 0, 0, 0, 0, 0, 0, 0, 0, 0, 0, 0, 0, 0, 0, 0, 0, 0, 0, 0, 0, 0, 0, 0, 0, 0, 0, 0, 0, 0, 0, 0, 0, 0, 0, 0, 0, 0, 0, 0, 0, 0, 0, 0] 0 32 (subI y3.1 0 32)))).bind fun y7 =>
      (f50.F K (64, y5.1, y5.2.1, y5.2.2.1, 64, (subI y7.2 0 64), y5.2.2.2)).bind fun y8 =>
      bif ((Nat.ble (0 + m2_0) m4_0 && true) && true) then
        (f50.F K (m2_0, y8.2.1, y8.2.2.1, y8.2.2.2.1, m2_0, (subI m4_1 0 m2_0), y8.2.2.2.2.2.2)).bind fun y9 =>
        bif ((Nat.ble (0 + m2_1) m6_0 && true) && true) then
          (f50.F K (m2_1, y9.2.1, y9.2.2.1, y9.2.2.2.1, m2_1, (subI m6_1 0 m2_1), y9.2.2.2.2.2.2)).bind fun y10 =>
          (f51.F K (y10.2.1, y10.2.2.1, y10.2.2.2.1, y10.2.2.2.2.2.2)).bind fun y11 =>
          (f48.F K (92, y7.1)).bind fun y12 =>
          (f50.F K (64, y6.1, y6.2.1, y6.2.2.1, 64, (subI y12.2 0 64), y6.2.2.2)).bind fun y13 =>
          (f50.F K (32, y13.2.1, y13.2.2.1, y13.2.2.2.1, 32, (subI y11.1 0 32), y13.2.2.2.2.2.2)).bind fun y14 =>
          (f51.F K (y14.2.1, y14.2.2.1, y14.2.2.2.1, y14.2.2.2.2.2.2)).bind fun y15 =>
          some (y15.1, m0_0, m0_1, m2_0, m2_1, m4_0, m4_1, m6_0, m6_1)
        else
          none
      else
        none
    else
      none
  else
    bif ((Nat.ble (0 + a0) m0_0 && true) && (Nat.beq a0 a0)) then
      (f49.F K ()).bind fun y18 =>
      (f49.F K ()).bind fun y19 =>
      (f48.F K (54, (spl [0, 0, 0, 0, 0, 0, 0, 0, 0, 0, 0, 0, 0, 0, 0, 0, 0, 0, 0, 0, 0, 0, 0, 0, 0, 0, 0, 0, 0, 0, 0, 0, 0, 0, 0, 0, 0, 0, 0, 0, 0, 0, 0, 0, 0, 0, 0, 0, 0, 0, 0, 0, 0, 0, 0, 0, 0, 0, 0, 0, 0, 0, 0, 0] 0 (Nat.min a0 64) (subI m0_1 0 a0)))).bind fun y20 =>
      (f50.F K (64, y18.1, y18.2.1, y18.2.2.1, 64, (subI y20.2 0 64), y18.2.2.2)).bind fun y21 =>
      bif ((Nat.ble (0 + m2_0) m4_0 && true) && true) then
        (f50.F K (m2_0, y21.2.1, y21.2.2.1, y21.2.2.2.1, m2_0, (subI m4_1 0 m2_0), y21.2.2.2.2.2.2)).bind fun y22 =>
        bif ((Nat.ble (0 + m2_1) m6_0 && true) && true) then
          (f50.F K (m2_1, y22.2.1, y22.2.2.1, y22.2.2.2.1, m2_1, (subI m6_1 0 m2_1), y22.2.2.2.2.2.2)).bind fun y23 =>
          (f51.F K (y23.2.1, y23.2.2.1, y23.2.2.2.1, y23.2.2.2.2.2.2)).bind fun y24 =>
          (f48.F K (92, y20.1)).bind fun y25 =>
          (f50.F K (64, y19.1, y19.2.1, y19.2.2.1, 64, (subI y25.2 0 64), y19.2.2.2)).bind fun y26 =>
          (f50.F K (32, y26.2.1, y26.2.2.1, y26.2.2.2.1, 32, (subI y24.1 0 32), y26.2.2.2.2.2.2)).bind fun y27 =>
          (f51.F K (y27.2.1, y27.2.2.1, y27.2.2.2.1, y27.2.2.2.2.2.2)).bind fun y28 =>
          some (y28.1, m0_0, m0_1, m2_0, m2_1, m4_0, m4_1, m6_0, m6_1)
        else
          none
      else
        none
    else
      none
def f15.F (K : Nat) (x : f15.Ty1) : Option (f15.Ty0) := f15.T K x.1 x.2.1 x.2.2.1 x.2.2.2.1 x.2.2.2.2.1 x.2.2.2.2.2.1 x.2.2.2.2.2.2.1 x.2.2.2.2.2.2.2.1 x.2.2.2.2.2.2.2.2
def f15.av (x : f15.Ty1) : List VV := [.vw true 0 0 x.1 1, .vw true 2 0 2 3]
def f15.bl (x : f15.Ty1) : List (Nat × Blk) := [(0, ([.ints .u8 x.2.1 x.2.2.1], 0, .ro)), (2, ([.vw true 4 0 x.2.2.2.1 5, .vw true 6 0 x.2.2.2.2.1 7], 0, .ro)), (4, ([.ints .u8 x.2.2.2.2.2.1 x.2.2.2.2.2.2.1], 0, .ro)), (6, ([.ints .u8 x.2.2.2.2.2.2.2.1 x.2.2.2.2.2.2.2.2], 0, .ro))]
def f15.inA : VS → Option (f15.Ty1)
  | ⟨[(0, .vw true 0 0 a0 1), (1, .vw true 2 0 2 3)], [(0, ([.ints .u8 m0_0 m0_1], 0, .ro)), (2, ([.vw true 4 0 m2_0 5, .vw true 6 0 m2_1 7], 0, .ro)), (4, ([.ints .u8 m4_0 m4_1], 0, .ro)), (6, ([.ints .u8 m6_0 m6_1], 0, .ro))], 8⟩ => some (a0, m0_0, m0_1, m2_0, m2_1, m4_0, m4_1, m6_0, m6_1)
  | _ => none
def f15.o0 (y : f15.Ty0) : VS := ⟨[(0, .agg [.ints .u8 32 y.1])], [(0, ([.ints .u8 y.2.1 y.2.2.1], 0, .ro)), (2, ([.vw true 4 0 y.2.2.2.1 5, .vw true 6 0 y.2.2.2.2.1 7], 0, .ro)), (4, ([.ints .u8 y.2.2.2.2.2.1 y.2.2.2.2.2.2.1], 0, .ro)), (6, ([.ints .u8 y.2.2.2.2.2.2.2.1 y.2.2.2.2.2.2.2.2], 0, .ro))], 8⟩
def f15.inR : VS → Option (f15.Ty0)
  | ⟨[(0, .agg [.ints .u8 32 y])], [(0, ([.ints .u8 z0_0 z0_1], 0, .ro)), (2, ([.vw true 4 0 z2_0 5, .vw true 6 0 z2_1 7], 0, .ro)), (4, ([.ints .u8 z4_0 z4_1], 0, .ro)), (6, ([.ints .u8 z6_0 z6_1], 0, .ro))], 8⟩ => some (y, z0_0, z0_1, z2_0, z2_1, z4_0, z4_1, z6_0, z6_1)
  | _ => none
noncomputable def f15.E (K : Nat) : Entry := genE 8 f15.inA (f15.F K) (dv1 f15.o0)
theorem f15.ok (K : Nat) : EntryOK Try.prog 15 (f15.E K) := gen_ok mix tys_ok (sp := tabSp [(30, (viewE [(0, .u8)] (f30.E K))), (49, (f49.E K)), (48, (f48.E K)), (50, (viewE [(1, .u8)] (f50.E K))), (51, (f51.E K))]) (tab_ok ((tab_cons (view_ok (f30.ok K)) (tab_cons (f49.ok K) (tab_cons (f48.ok K) (tab_cons (view_ok (f50.ok K)) (tab_cons (f51.ok K) tab_nil))))))) Try.func15 (c := bodyOf Try.f15) (by kernel_rfl) (by kernel_rfl) (loops_none (lp := lpNone) (by kernel_rfl)) (av := f15.av) (bl := f15.bl) (inR := f15.inR) (out := f15.o0) (fuel := 400)
  (by intro s x h; unfold f15.inA at h; split at h <;> simp at h; subst h; rfl) (fun _ => Nat.le_of_ble_eq_true rfl)
  (by intro s y h; unfold f15.inR at h; split at h <;> simp at h <;> subst h <;> rfl) (fun _ _ _ => rfl) (fun _ => by kernel_rfl)
end Go.Proofs

namespace Go.Proofs
open Go.VM
theorem sum_length (m : List Int) : (Sh.sum m).length = 32 := digest_length _
theorem sum_octets (m : List Int) : octets (Sh.sum m) := digest_octets _
theorem f30.spec (K n : Nat) (m : List Int) (hm : m.length = n) (ho : octets m) (hn : n ≤ 1000000000000) (hK : 300 + n < K) : f30.F K (n, n, m) = some (Sh.sum m, n, m) := by
  simp only [f30.F, f30.T]
  rw [show f49.F K () = some ([0, 0, 0, 0, 0, 0, 0, 0, 0, 0, 0, 0, 0, 0, 0, 0, 0, 0, 0, 0, 0, 0, 0, 0, 0, 0, 0, 0, 0, 0, 0, 0, 0, 0, 0, 0, 0, 0, 0, 0, 0, 0, 0, 0, 0, 0, 0, 0, 0, 0, 0, 0, 0, 0, 0, 0, 0, 0, 0, 0, 0, 0, 0, 0], 0, 0, Sh.init) from rfl, bind_s]
  simp only []
  rw [Nat.zero_add, ble_true (Nat.le_refl n), Bool.and_self, Bool.and_self, cond_t, subI_self _ hm]
  obtain ⟨b', h', s', e, R⟩ := f57.spec K [] n m hm ho hn _ _ _ Sh.rep0 (by omega)
  rw [show f57.F K ([0, 0, 0, 0, 0, 0, 0, 0, 0, 0, 0, 0, 0, 0, 0, 0, 0, 0, 0, 0, 0, 0, 0, 0, 0, 0, 0, 0, 0, 0, 0, 0, 0, 0, 0, 0, 0, 0, 0, 0, 0, 0, 0, 0, 0, 0, 0, 0, 0, 0, 0, 0, 0, 0, 0, 0, 0, 0, 0, 0, 0, 0, 0, 0], 0, 0, n, Sh.init, n, m) = _ from e, bind_s]
  simp only []
  rw [f51.spec K _ _ _ _ R (by omega), bind_s]
  rfl
theorem f50.spec (K : Nat) (m : List Int) (n : Nat) (l : List Int) (hl : l.length = n) (ho : octets l) (hn : n ≤ 1000000000000) (b s : List Int) (h : Int) (R : Sh.Rep m b h s) (hK : 64 + n < K) :
    ∃ b' h' s', f50.F K (n, b, h, ((m.length % 18446744073709551616 : Nat) : Int), n, l, s) = some (0, b', h', (((m ++ l).length % 18446744073709551616 : Nat) : Int), n, l, s') ∧ Sh.Rep (m ++ l) b' h' s' := by
  obtain ⟨b', h', s', e, R'⟩ := f57.spec K m n l hl ho hn b s h R hK
  refine ⟨b', h', s', ?_, R'⟩
  simp only [f50.F, f50.T]
  rw [Nat.zero_add, ble_true (Nat.le_refl n), Bool.and_self, Bool.and_self, cond_t, subI_self _ hl, e, bind_s]
theorem list_getD {l m : List Int} (h : l.length = m.length) (g : ∀ i, i < l.length → l.getD i 0 = m.getD i 0) : l = m := by
  apply List.ext_getElem h
  intro i h1 h2
  have := g i h1
  simpa [List.getD_eq_getElem?_getD, h1, h2] using this
def Sh.xr (by' : Int) (k : List Int) : List Int := k.map fun x => bits .xor .u8 x by'
theorem wrap8 (z : Int) : IntKind.wrap .u8 z = z % 256 := by simp [IntKind.wrap, IntKind.signed, IntKind.bits]
theorem xor_octet (x y : Int) : 0 ≤ bits .xor .u8 x y ∧ bits .xor .u8 x y < 256 := by
  show 0 ≤ IntKind.wrap .u8 _ ∧ IntKind.wrap .u8 _ < 256
  rw [wrap8]
  omega
theorem xr_length (y : Int) (k : List Int) : (Sh.xr y k).length = k.length := by simp [Sh.xr]
theorem xr_octets (y : Int) (k : List Int) : octets (Sh.xr y k) := by
  intro x hx
  obtain ⟨z, _, rfl⟩ := List.mem_map.1 hx
  exact xor_octet z y
theorem f48.spec (K : Nat) (y : Int) (k : List Int) (hk : k.length = 64) (hK : 64 < K) : f48.F K (y, k) = some (k, Sh.xr y k) := by
  have := iter_for (stp := f48.s0 K) (N := 64) (fun i => (y, (i : Int), k, Sh.xr y (k.take i) ++ k.drop i)) (y := some (k, Sh.xr y k)) ?_ ?_ hK
  · simp only [f48.F, f48.T]
    rw [show iter (f48.s0 K) K (y, 0, k, k) = _ from this, bind_s]
  · intro i hi rec
    simp only [f48.s0, f48.s0t]
    have hd : List.getD (Sh.xr y (k.take i) ++ k.drop i) i 0 = k.getD i 0 := by
      rw [List.getD_eq_getElem?_getD, List.getElem?_append_right (by rw [xr_length, List.length_take]; omega), xr_length, List.length_take, List.getElem?_drop, List.getD_eq_getElem?_getD]
      congr 2; omega
    rw [decide_eq_true (show (i : Int) < 64 by omega), cond_t, decide_eq_true (show (0 : Int) ≤ (i : Int) ∧ (i : Int) < 64 by omega), cond_t, cond_t, Int.toNat_natCast, hd, wrap_i _ (by omega) (by omega), setD_eq_set _ _ _ (by rw [List.length_append, xr_length, List.length_take, List.length_drop]; omega)]
    congr 4
    have e1 : k.drop i = k.getD i 0 :: k.drop (i + 1) := by
      rw [List.drop_eq_getElem_cons (by omega)]; simp [List.getD_eq_getElem?_getD, show i < k.length by omega]
    have e2 : k.take (i + 1) = k.take i ++ [k.getD i 0] := by
      rw [List.take_add_one, List.getElem?_eq_getElem (by omega)]; simp [List.getD_eq_getElem?_getD, show i < k.length by omega]
    rw [e2, e1, List.set_append, if_neg (by rw [xr_length, List.length_take]; omega)]
    have e3 : i - (Sh.xr y (k.take i)).length = 0 := by rw [xr_length, List.length_take]; omega
    rw [e3]
    simp [Sh.xr]
  · intro rec
    simp only [f48.s0, f48.s0t]
    rw [decide_eq_false (show ¬ (((64 : Nat) : Int)) < 64 by omega), cond_f, List.take_of_length_le (by omega), List.drop_of_length_le (by omega), List.append_nil]
def Sh.key (k : List Int) : List Int := padT (if 64 < k.length then Sh.sum k else k) 64
def Sh.mac (k m : List Int) : List Int := Sh.sum (Sh.xr 92 (Sh.key k) ++ Sh.sum (Sh.xr 54 (Sh.key k) ++ m))
theorem mac_length (k m : List Int) : (Sh.mac k m).length = 32 := sum_length _
theorem mac_octets (k m : List Int) : octets (Sh.mac k m) := sum_octets _
theorem spl_key (k : List Int) (n : Nat) (hk : k.length = n) (hn : n ≤ 64) :
    spl [0, 0, 0, 0, 0, 0, 0, 0, 0, 0, 0, 0, 0, 0, 0, 0, 0, 0, 0, 0, 0, 0, 0, 0, 0, 0, 0, 0, 0, 0, 0, 0, 0, 0, 0, 0, 0, 0, 0, 0, 0, 0, 0, 0, 0, 0, 0, 0, 0, 0, 0, 0, 0, 0, 0, 0, 0, 0, 0, 0, 0, 0, 0, 0] 0 n k = padT k 64 := by
  have hz : ([0, 0, 0, 0, 0, 0, 0, 0, 0, 0, 0, 0, 0, 0, 0, 0, 0, 0, 0, 0, 0, 0, 0, 0, 0, 0, 0, 0, 0, 0, 0, 0, 0, 0, 0, 0, 0, 0, 0, 0, 0, 0, 0, 0, 0, 0, 0, 0, 0, 0, 0, 0, 0, 0, 0, 0, 0, 0, 0, 0, 0, 0, 0, 0] : List Int) = List.replicate 64 0 := rfl
  rw [hz]
  refine list_getD (by simp [spl, padT]; omega) fun i hi => ?_
  have hi' : i < 64 := by simp [spl, padT] at hi; omega
  rw [getD_spl, getD_padT, if_pos hi']
  rw [if_neg (by omega)]
  by_cases h : i < n
  · rw [if_pos (by omega), Nat.sub_zero]
  · rw [if_neg (by omega)]
    simp only [List.getD_eq_getElem?_getD]
    rw [List.getElem?_eq_none (show k.length ≤ i by omega), List.getElem?_replicate, if_pos hi']
    rfl
theorem f15.spec (K n : Nat) (k : List Int) (p0 : Nat) (l0 : List Int) (p1 : Nat) (l1 : List Int) (hk : k.length = n) (hko : octets k) (hn : n ≤ 1000000000) (e0 : l0.length = p0) (o0 : octets l0) (z0 : p0 ≤ 1000000000) (e1 : l1.length = p1) (o1 : octets l1) (z1 : p1 ≤ 1000000000) (hK : 400 + n + p0 + p1 < K) :
    f15.F K (n, n, k, p0, p1, p0, l0, p1, l1) = some (Sh.mac k (l0 ++ l1), n, k, p0, p1, p0, l0, p1, l1) := by
  have h42 : f49.F K () = some ([0, 0, 0, 0, 0, 0, 0, 0, 0, 0, 0, 0, 0, 0, 0, 0, 0, 0, 0, 0, 0, 0, 0, 0, 0, 0, 0, 0, 0, 0, 0, 0, 0, 0, 0, 0, 0, 0, 0, 0, 0, 0, 0, 0, 0, 0, 0, 0, 0, 0, 0, 0, 0, 0, 0, 0, 0, 0, 0, 0, 0, 0, 0, 0], 0, 0, Sh.init) := rfl
  simp only [f15.F, f15.T]
  by_cases h : 64 < n
  · rw [decide_eq_true (show ((n : Nat) : Int) > 64 by omega), cond_t, Nat.zero_add, ble_true (Nat.le_refl n), Bool.and_self, Bool.and_self, cond_t, subI_self _ hk, f30.spec K n k hk hko (by omega) (by omega), bind_s, h42, bind_s, bind_s]
    simp only []
    rw [subI_self _ (sum_length k), spl_key _ 32 (sum_length k) (by omega)]
    rw [f48.spec K 54 (padT (Sh.sum k) 64) (padT_length _ _) (by omega), bind_s]
    simp only []
    rw [subI_self _ (show (Sh.xr 54 (padT (Sh.sum k) 64)).length = 64 by rw [xr_length, padT_length])]
    obtain ⟨b1, h1, s1, E1, R1⟩ := f50.spec K [] 64 (Sh.xr 54 (padT (Sh.sum k) 64)) (by rw [xr_length, padT_length]) (xr_octets _ _) (by omega) _ _ _ Sh.rep0 (by omega)
    rw [show f50.F K (64, [0, 0, 0, 0, 0, 0, 0, 0, 0, 0, 0, 0, 0, 0, 0, 0, 0, 0, 0, 0, 0, 0, 0, 0, 0, 0, 0, 0, 0, 0, 0, 0, 0, 0, 0, 0, 0, 0, 0, 0, 0, 0, 0, 0, 0, 0, 0, 0, 0, 0, 0, 0, 0, 0, 0, 0, 0, 0, 0, 0, 0, 0, 0, 0], 0, 0, 64, Sh.xr 54 (padT (Sh.sum k) 64), Sh.init) = _ from E1, bind_s]
    simp only []
    rw [Nat.zero_add, ble_true (Nat.le_refl p0), Bool.and_self, Bool.and_self, cond_t, subI_self _ e0]
    obtain ⟨c0, h2_0, s2_0, g0, S0⟩ := f50.spec K _ p0 l0 e0 o0 (by omega) _ _ _ R1 (by omega)
    rw [g0, bind_s]
    simp only []
    rw [Nat.zero_add, ble_true (Nat.le_refl p1), Bool.and_self, Bool.and_self, cond_t, subI_self _ e1]
    obtain ⟨c1, h2_1, s2_1, g1, S1⟩ := f50.spec K _ p1 l1 e1 o1 (by omega) _ _ _ S0 (by omega)
    rw [g1, bind_s]
    simp only []
    rw [f51.spec K _ _ _ _ S1 (by omega), bind_s]
    simp only []
    rw [f48.spec K 92 (padT (Sh.sum k) 64) (padT_length _ _) (by omega), bind_s]
    simp only []
    rw [subI_self _ (show (Sh.xr 92 (padT (Sh.sum k) 64)).length = 64 by rw [xr_length, padT_length])]
    obtain ⟨b3, h3, s3, E3, R3⟩ := f50.spec K [] 64 (Sh.xr 92 (padT (Sh.sum k) 64)) (by rw [xr_length, padT_length]) (xr_octets _ _) (by omega) _ _ _ Sh.rep0 (by omega)
    rw [show f50.F K (64, [0, 0, 0, 0, 0, 0, 0, 0, 0, 0, 0, 0, 0, 0, 0, 0, 0, 0, 0, 0, 0, 0, 0, 0, 0, 0, 0, 0, 0, 0, 0, 0, 0, 0, 0, 0, 0, 0, 0, 0, 0, 0, 0, 0, 0, 0, 0, 0, 0, 0, 0, 0, 0, 0, 0, 0, 0, 0, 0, 0, 0, 0, 0, 0], 0, 0, 64, Sh.xr 92 (padT (Sh.sum k) 64), Sh.init) = _ from E3, bind_s]
    simp only []
    rw [subI_self _ (sum_length _)]
    obtain ⟨b4, h4, s4, E4, R4⟩ := f50.spec K _ 32 _ (sum_length ([] ++ Sh.xr 54 (padT (Sh.sum k) 64) ++ l0 ++ l1)) (sum_octets _) (by omega) _ _ _ R3 (by omega)
    rw [E4, bind_s]
    simp only []
    rw [f51.spec K _ _ _ _ R4 (by omega), bind_s]
    simp only [Sh.mac, Sh.key, if_pos (show 64 < k.length by omega), List.nil_append, List.append_assoc]
  · rw [decide_eq_false (show ¬ ((n : Nat) : Int) > 64 by omega), cond_f, Nat.zero_add, ble_true (Nat.le_refl n), show Nat.beq n n = true from by simp, Bool.and_self, Bool.and_self, cond_t, h42, bind_s, bind_s]
    simp only []
    rw [subI_self _ hk, show Nat.min n 64 = n from Nat.min_eq_left (by omega), spl_key _ n hk (by omega)]
    rw [f48.spec K 54 (padT k 64) (padT_length _ _) (by omega), bind_s]
    simp only []
    rw [subI_self _ (show (Sh.xr 54 (padT k 64)).length = 64 by rw [xr_length, padT_length])]
    obtain ⟨b1, h1, s1, E1, R1⟩ := f50.spec K [] 64 (Sh.xr 54 (padT k 64)) (by rw [xr_length, padT_length]) (xr_octets _ _) (by omega) _ _ _ Sh.rep0 (by omega)
    rw [show f50.F K (64, [0, 0, 0, 0, 0, 0, 0, 0, 0, 0, 0, 0, 0, 0, 0, 0, 0, 0, 0, 0, 0, 0, 0, 0, 0, 0, 0, 0, 0, 0, 0, 0, 0, 0, 0, 0, 0, 0, 0, 0, 0, 0, 0, 0, 0, 0, 0, 0, 0, 0, 0, 0, 0, 0, 0, 0, 0, 0, 0, 0, 0, 0, 0, 0], 0, 0, 64, Sh.xr 54 (padT k 64), Sh.init) = _ from E1, bind_s]
    simp only []
    rw [Nat.zero_add, ble_true (Nat.le_refl p0), Bool.and_self, Bool.and_self, cond_t, subI_self _ e0]
    obtain ⟨c0, h2_0, s2_0, g0, S0⟩ := f50.spec K _ p0 l0 e0 o0 (by omega) _ _ _ R1 (by omega)
    rw [g0, bind_s]
    simp only []
    rw [Nat.zero_add, ble_true (Nat.le_refl p1), Bool.and_self, Bool.and_self, cond_t, subI_self _ e1]
    obtain ⟨c1, h2_1, s2_1, g1, S1⟩ := f50.spec K _ p1 l1 e1 o1 (by omega) _ _ _ S0 (by omega)
    rw [g1, bind_s]
    simp only []
    rw [f51.spec K _ _ _ _ S1 (by omega), bind_s]
    simp only []
    rw [f48.spec K 92 (padT k 64) (padT_length _ _) (by omega), bind_s]
    simp only []
    rw [subI_self _ (show (Sh.xr 92 (padT k 64)).length = 64 by rw [xr_length, padT_length])]
    obtain ⟨b3, h3, s3, E3, R3⟩ := f50.spec K [] 64 (Sh.xr 92 (padT k 64)) (by rw [xr_length, padT_length]) (xr_octets _ _) (by omega) _ _ _ Sh.rep0 (by omega)
    rw [show f50.F K (64, [0, 0, 0, 0, 0, 0, 0, 0, 0, 0, 0, 0, 0, 0, 0, 0, 0, 0, 0, 0, 0, 0, 0, 0, 0, 0, 0, 0, 0, 0, 0, 0, 0, 0, 0, 0, 0, 0, 0, 0, 0, 0, 0, 0, 0, 0, 0, 0, 0, 0, 0, 0, 0, 0, 0, 0, 0, 0, 0, 0, 0, 0, 0, 0], 0, 0, 64, Sh.xr 92 (padT k 64), Sh.init) = _ from E3, bind_s]
    simp only []
    rw [subI_self _ (sum_length _)]
    obtain ⟨b4, h4, s4, E4, R4⟩ := f50.spec K _ 32 _ (sum_length ([] ++ Sh.xr 54 (padT k 64) ++ l0 ++ l1)) (sum_octets _) (by omega) _ _ _ R3 (by omega)
    rw [E4, bind_s]
    simp only []
    rw [f51.spec K _ _ _ _ R4 (by omega), bind_s]
    simp only [Sh.mac, Sh.key, if_neg (show ¬ 64 < k.length by omega), List.nil_append, List.append_assoc]
end Go.Proofs

namespace Go.Proofs
open Go.VM
abbrev f38.Ty0 := Int × Int × List Int
def f38.T (_K : Nat) (a0 : List Int) : Option (f38.Ty0) :=
  some (0, 1, a0)
def f38.F (K : Nat) (x : List Int) : Option (f38.Ty0) := f38.T K x
def f38.av (x : List Int) : List VV := [.agg [.ints .u8 32 x]]
def f38.bl (_x : List Int) : List (Nat × Blk) := []
def f38.inA : VS → Option (List Int)
  | ⟨[(0, .agg [.ints .u8 32 a0])], [], 0⟩ => some a0
  | _ => none
def f38.o0 (y : f38.Ty0) : VS := ⟨[(0, .ptr 0 0)], [(0, ([.int .u64 y.1, .int .i64 y.2.1, .ints .u8 32 y.2.2], 102, .norm))], 1⟩
def f38.inR : VS → Option (f38.Ty0)
  | ⟨[(0, .ptr 0 0)], [(0, ([.int .u64 z0_0, .int .i64 z0_1, .ints .u8 32 z0_2], 102, .norm))], 1⟩ => some (z0_0, z0_1, z0_2)
  | _ => none
noncomputable def f38.E (K : Nat) : Entry := genE 0 f38.inA (f38.F K) (dv1 f38.o0)
theorem f38.ok (K : Nat) : EntryOK Try.prog 38 (f38.E K) := gen_ok mix tys_ok (tab_ok ( tab_nil)) Try.func38 (c := bodyOf Try.f38) (by kernel_rfl) (by kernel_rfl) (loops_none (lp := lpNone) (by kernel_rfl)) (av := f38.av) (bl := f38.bl) (inR := f38.inR) (out := f38.o0) (fuel := 400)
  (by intro s x h; unfold f38.inA at h; split at h <;> simp at h; subst h; rfl) (fun _ => Nat.le_of_ble_eq_true rfl)
  (by intro s y h; unfold f38.inR at h; split at h <;> simp at h <;> subst h <;> rfl) (fun _ _ _ => rfl) (fun _ => by kernel_rfl)
end Go.Proofs

namespace Go.Proofs
open Go.VM
abbrev f68.Ty0 := Bool × Int × Int × List Int
abbrev f68.Ty1 := Int × Int × List Int
def f68.T (_K : Nat) (m0_0 : Int) (m0_1 : Int) (m0_2 : List Int) : Option (f68.Ty0) :=
  some ((m0_1 == 1), m0_0, m0_1, m0_2)
def f68.F (K : Nat) (x : f68.Ty1) : Option (f68.Ty0) := f68.T K x.1 x.2.1 x.2.2
def f68.av (_x : f68.Ty1) : List VV := [.ptr 0 0]
def f68.bl (x : f68.Ty1) : List (Nat × Blk) := [(0, ([.int .u64 x.1, .int .i64 x.2.1, .ints .u8 32 x.2.2], 102, .norm))]
def f68.inA : VS → Option (f68.Ty1)
  | ⟨[(0, .ptr 0 0)], [(0, ([.int .u64 m0_0, .int .i64 m0_1, .ints .u8 32 m0_2], 102, .norm))], 1⟩ => some (m0_0, m0_1, m0_2)
  | _ => none
def f68.o0 (y : f68.Ty0) : VS := ⟨[(0, .bool y.1)], [(0, ([.int .u64 y.2.1, .int .i64 y.2.2.1, .ints .u8 32 y.2.2.2], 102, .norm))], 1⟩
def f68.inR : VS → Option (f68.Ty0)
  | ⟨[(0, .bool y)], [(0, ([.int .u64 z0_0, .int .i64 z0_1, .ints .u8 32 z0_2], 102, .norm))], 1⟩ => some (y, z0_0, z0_1, z0_2)
  | _ => none
noncomputable def f68.E (K : Nat) : Entry := genE 1 f68.inA (f68.F K) (dv1 f68.o0)
theorem f68.ok (K : Nat) : EntryOK Try.prog 68 (f68.E K) := gen_ok mix tys_ok (tab_ok ( tab_nil)) Try.func68 (c := bodyOf Try.f68) (by kernel_rfl) (by kernel_rfl) (loops_none (lp := lpNone) (by kernel_rfl)) (av := f68.av) (bl := f68.bl) (inR := f68.inR) (out := f68.o0) (fuel := 400)
  (by intro s x h; unfold f68.inA at h; split at h <;> simp at h; subst h; rfl) (fun _ => Nat.le_of_ble_eq_true rfl)
  (by intro s y h; unfold f68.inR at h; split at h <;> simp at h <;> subst h <;> rfl) (fun _ _ _ => rfl) (fun _ => by kernel_rfl)
end Go.Proofs

namespace Go.Proofs
open Go.VM
abbrev f77.Ty0 := Int × Int × Int × List Int
abbrev f77.Ty1 := Int × Int × List Int
def f77.T (_K : Nat) (m0_0 : Int) (m0_1 : Int) (m0_2 : List Int) : Option (f77.Ty0) :=
  some (m0_0, m0_0, m0_1, m0_2)
def f77.F (K : Nat) (x : f77.Ty1) : Option (f77.Ty0) := f77.T K x.1 x.2.1 x.2.2
def f77.av (_x : f77.Ty1) : List VV := [.ptr 0 0]
def f77.bl (x : f77.Ty1) : List (Nat × Blk) := [(0, ([.int .u64 x.1, .int .i64 x.2.1, .ints .u8 32 x.2.2], 102, .norm))]
def f77.inA : VS → Option (f77.Ty1)
  | ⟨[(0, .ptr 0 0)], [(0, ([.int .u64 m0_0, .int .i64 m0_1, .ints .u8 32 m0_2], 102, .norm))], 1⟩ => some (m0_0, m0_1, m0_2)
  | _ => none
def f77.o0 (y : f77.Ty0) : VS := ⟨[(0, .int .u64 y.1)], [(0, ([.int .u64 y.2.1, .int .i64 y.2.2.1, .ints .u8 32 y.2.2.2], 102, .norm))], 1⟩
def f77.inR : VS → Option (f77.Ty0)
  | ⟨[(0, .int .u64 y)], [(0, ([.int .u64 z0_0, .int .i64 z0_1, .ints .u8 32 z0_2], 102, .norm))], 1⟩ => some (y, z0_0, z0_1, z0_2)
  | _ => none
noncomputable def f77.E (K : Nat) : Entry := genE 1 f77.inA (f77.F K) (dv1 f77.o0)
theorem f77.ok (K : Nat) : EntryOK Try.prog 77 (f77.E K) := gen_ok mix tys_ok (tab_ok ( tab_nil)) Try.func77 (c := bodyOf Try.f77) (by kernel_rfl) (by kernel_rfl) (loops_none (lp := lpNone) (by kernel_rfl)) (av := f77.av) (bl := f77.bl) (inR := f77.inR) (out := f77.o0) (fuel := 400)
  (by intro s x h; unfold f77.inA at h; split at h <;> simp at h; subst h; rfl) (fun _ => Nat.le_of_ble_eq_true rfl)
  (by intro s y h; unfold f77.inR at h; split at h <;> simp at h <;> subst h <;> rfl) (fun _ _ _ => rfl) (fun _ => by kernel_rfl)
end Go.Proofs

namespace Go.Proofs
open Go.VM
abbrev f76.Ty0 := Int × Int × Int × List Int
abbrev f76.Ty1 := Int × Int × List Int
def f76.T (K : Nat) (m0_0 : Int) (m0_1 : Int) (m0_2 : List Int) : Option (f76.Ty0) :=
  (f68.F K (m0_0, m0_1, m0_2)).bind fun y1 =>
  bif !y1.1 then
    some (0, y1.2.1, y1.2.2.1, y1.2.2.2)
  else
    (f77.F K (y1.2.1, y1.2.2.1, y1.2.2.2)).bind fun y2 =>
    some (y2.1, y2.2.1, y2.2.2.1, y2.2.2.2)
def f76.F (K : Nat) (x : f76.Ty1) : Option (f76.Ty0) := f76.T K x.1 x.2.1 x.2.2
def f76.av (_x : f76.Ty1) : List VV := [.ptr 0 0, .fn 77 []]
def f76.bl (x : f76.Ty1) : List (Nat × Blk) := [(0, ([.int .u64 x.1, .int .i64 x.2.1, .ints .u8 32 x.2.2], 102, .norm))]
def f76.inA : VS → Option (f76.Ty1)
  | ⟨[(0, .ptr 0 0), (1, .fn 77 [])], [(0, ([.int .u64 m0_0, .int .i64 m0_1, .ints .u8 32 m0_2], 102, .norm))], 1⟩ => some (m0_0, m0_1, m0_2)
  | _ => none
def f76.o0 (y : f76.Ty0) : VS := ⟨[(0, .int .u64 y.1)], [(0, ([.int .u64 y.2.1, .int .i64 y.2.2.1, .ints .u8 32 y.2.2.2], 102, .norm))], 1⟩
def f76.inR : VS → Option (f76.Ty0)
  | ⟨[(0, .int .u64 y)], [(0, ([.int .u64 z0_0, .int .i64 z0_1, .ints .u8 32 z0_2], 102, .norm))], 1⟩ => some (y, z0_0, z0_1, z0_2)
  | _ => none
noncomputable def f76.E (K : Nat) : Entry := genE 1 f76.inA (f76.F K) (dv1 f76.o0)
theorem f76.ok (K : Nat) : EntryOK Try.prog 76 (f76.E K) := gen_ok mix tys_ok (tab_ok ((tab_cons (f68.ok K) (tab_cons (f77.ok K) tab_nil)))) Try.func76 (c := bodyOf Try.f76) (by kernel_rfl) (by kernel_rfl) (loops_none (lp := lpNone) (by kernel_rfl)) (av := f76.av) (bl := f76.bl) (inR := f76.inR) (out := f76.o0) (fuel := 400)
  (by intro s x h; unfold f76.inA at h; split at h <;> simp at h; subst h; rfl) (fun _ => Nat.le_of_ble_eq_true rfl)
  (by intro s y h; unfold f76.inR at h; split at h <;> simp at h <;> subst h <;> rfl) (fun _ _ _ => rfl) (fun _ => by kernel_rfl)
end Go.Proofs

namespace Go.Proofs
open Go.VM
abbrev f44.Ty0 := Int × Int × Int × List Int
abbrev f44.Ty1 := Int × Int × List Int
def f44.T (K : Nat) (m0_0 : Int) (m0_1 : Int) (m0_2 : List Int) : Option (f44.Ty0) :=
  (f76.F K (m0_0, m0_1, m0_2)).bind fun y1 =>
  some (y1.1, y1.2.1, y1.2.2.1, y1.2.2.2)
def f44.F (K : Nat) (x : f44.Ty1) : Option (f44.Ty0) := f44.T K x.1 x.2.1 x.2.2
def f44.av (_x : f44.Ty1) : List VV := [.ptr 0 0]
def f44.bl (x : f44.Ty1) : List (Nat × Blk) := [(0, ([.int .u64 x.1, .int .i64 x.2.1, .ints .u8 32 x.2.2], 102, .norm))]
def f44.inA : VS → Option (f44.Ty1)
  | ⟨[(0, .ptr 0 0)], [(0, ([.int .u64 m0_0, .int .i64 m0_1, .ints .u8 32 m0_2], 102, .norm))], 1⟩ => some (m0_0, m0_1, m0_2)
  | _ => none
def f44.o0 (y : f44.Ty0) : VS := ⟨[(0, .int .u64 y.1)], [(0, ([.int .u64 y.2.1, .int .i64 y.2.2.1, .ints .u8 32 y.2.2.2], 102, .norm))], 1⟩
def f44.inR : VS → Option (f44.Ty0)
  | ⟨[(0, .int .u64 y)], [(0, ([.int .u64 z0_0, .int .i64 z0_1, .ints .u8 32 z0_2], 102, .norm))], 1⟩ => some (y, z0_0, z0_1, z0_2)
  | _ => none
noncomputable def f44.E (K : Nat) : Entry := genE 1 f44.inA (f44.F K) (dv1 f44.o0)
theorem f44.ok (K : Nat) : EntryOK Try.prog 44 (f44.E K) := gen_ok mix tys_ok (tab_ok ((tab_cons (f76.ok K) tab_nil))) Try.func44 (c := bodyOf Try.f44) (by kernel_rfl) (by kernel_rfl) (loops_none (lp := lpNone) (by kernel_rfl)) (av := f44.av) (bl := f44.bl) (inR := f44.inR) (out := f44.o0) (fuel := 400)
  (by intro s x h; unfold f44.inA at h; split at h <;> simp at h; subst h; rfl) (fun _ => Nat.le_of_ble_eq_true rfl)
  (by intro s y h; unfold f44.inR at h; split at h <;> simp at h <;> subst h <;> rfl) (fun _ _ _ => rfl) (fun _ => by kernel_rfl)
end Go.Proofs

namespace Go.Proofs
open Go.VM
abbrev f69.Ty0 := List Int × Int × Int × List Int
abbrev f69.Ty1 := Int × Int × List Int
def f69.T (K : Nat) (m0_0 : Int) (m0_1 : Int) (m0_2 : List Int) : Option (f69.Ty0) :=
  (f59.F K (0, m0_0, 8, 0, [])).bind fun y2 =>
  bif ((Nat.ble (0 + y2.1) y2.2.2.2.2.1 && (Nat.ble y2.1 y2.2.1)) && true) then
    (f15.F K (32, 32, (subI m0_2 0 32), 4, y2.1, 4, [100, 114, 97, 119], y2.1, (subI y2.2.2.2.2.2 0 y2.1))).bind fun y3 =>
    some (y3.1, (IntKind.wrap .u64 (m0_0 + 1)), m0_1, m0_2)
  else
    none
def f69.F (K : Nat) (x : f69.Ty1) : Option (f69.Ty0) := f69.T K x.1 x.2.1 x.2.2
def f69.av (_x : f69.Ty1) : List VV := [.ptr 0 0]
def f69.bl (x : f69.Ty1) : List (Nat × Blk) := [(0, ([.int .u64 x.1, .int .i64 x.2.1, .ints .u8 32 x.2.2], 102, .norm))]
def f69.inA : VS → Option (f69.Ty1)
  | ⟨[(0, .ptr 0 0)], [(0, ([.int .u64 m0_0, .int .i64 m0_1, .ints .u8 32 m0_2], 102, .norm))], 1⟩ => some (m0_0, m0_1, m0_2)
  | _ => none
def f69.o0 (y : f69.Ty0) : VS := ⟨[(0, .agg [.ints .u8 32 y.1])], [(0, ([.int .u64 y.2.1, .int .i64 y.2.2.1, .ints .u8 32 y.2.2.2], 102, .norm))], 1⟩
def f69.inR : VS → Option (f69.Ty0)
  | ⟨[(0, .agg [.ints .u8 32 y])], [(0, ([.int .u64 z0_0, .int .i64 z0_1, .ints .u8 32 z0_2], 102, .norm))], 1⟩ => some (y, z0_0, z0_1, z0_2)
  | _ => none
noncomputable def f69.E (K : Nat) : Entry := genE 1 f69.inA (f69.F K) (dv1 f69.o0)
theorem f69.ok (K : Nat) : EntryOK Try.prog 69 (f69.E K) := gen_ok mix tys_ok (sp := tabSp [(59, (viewE [(0, .u8)] (f59.E K))), (15, (rowsE 1 .u8 (viewE [(0, .u8)] (f15.E K))))]) (tab_ok ((tab_cons (view_ok (f59.ok K)) (tab_cons (rows_ok (view_ok (f15.ok K))) tab_nil)))) Try.func69 (c := bodyOf Try.f69) (by kernel_rfl) (by kernel_rfl) (loops_none (lp := lpNone) (by kernel_rfl)) (av := f69.av) (bl := f69.bl) (inR := f69.inR) (out := f69.o0) (fuel := 400)
  (by intro s x h; unfold f69.inA at h; split at h <;> simp at h; subst h; rfl) (fun _ => Nat.le_of_ble_eq_true rfl)
  (by intro s y h; unfold f69.inR at h; split at h <;> simp at h <;> subst h <;> rfl) (fun _ _ _ => rfl) (fun _ => by kernel_rfl)
end Go.Proofs

namespace Go.Proofs
open Go.VM
abbrev f74.Ty0 := List Int × Int × Int × List Int
abbrev f74.Ty1 := Int × Int × List Int
def f74.T (K : Nat) (m0_0 : Int) (m0_1 : Int) (m0_2 : List Int) : Option (f74.Ty0) :=
  (f68.F K (m0_0, m0_1, m0_2)).bind fun y1 =>
  bif !y1.1 then
    some ([0, 0, 0, 0, 0, 0, 0, 0, 0, 0, 0, 0, 0, 0, 0, 0, 0, 0, 0, 0, 0, 0, 0, 0, 0, 0, 0, 0, 0, 0, 0, 0], y1.2.1, y1.2.2.1, y1.2.2.2)
  else
    (f69.F K (y1.2.1, y1.2.2.1, y1.2.2.2)).bind fun y2 =>
    some (y2.1, y2.2.1, y2.2.2.1, y2.2.2.2)
def f74.F (K : Nat) (x : f74.Ty1) : Option (f74.Ty0) := f74.T K x.1 x.2.1 x.2.2
def f74.av (_x : f74.Ty1) : List VV := [.ptr 0 0, .fn 69 []]
def f74.bl (x : f74.Ty1) : List (Nat × Blk) := [(0, ([.int .u64 x.1, .int .i64 x.2.1, .ints .u8 32 x.2.2], 102, .norm))]
def f74.inA : VS → Option (f74.Ty1)
  | ⟨[(0, .ptr 0 0), (1, .fn 69 [])], [(0, ([.int .u64 m0_0, .int .i64 m0_1, .ints .u8 32 m0_2], 102, .norm))], 1⟩ => some (m0_0, m0_1, m0_2)
  | _ => none
def f74.o0 (y : f74.Ty0) : VS := ⟨[(0, .agg [.ints .u8 32 y.1])], [(0, ([.int .u64 y.2.1, .int .i64 y.2.2.1, .ints .u8 32 y.2.2.2], 102, .norm))], 1⟩
def f74.inR : VS → Option (f74.Ty0)
  | ⟨[(0, .agg [.ints .u8 32 y])], [(0, ([.int .u64 z0_0, .int .i64 z0_1, .ints .u8 32 z0_2], 102, .norm))], 1⟩ => some (y, z0_0, z0_1, z0_2)
  | _ => none
noncomputable def f74.E (K : Nat) : Entry := genE 1 f74.inA (f74.F K) (dv1 f74.o0)
theorem f74.ok (K : Nat) : EntryOK Try.prog 74 (f74.E K) := gen_ok mix tys_ok (tab_ok ((tab_cons (f68.ok K) (tab_cons (f69.ok K) tab_nil)))) Try.func74 (c := bodyOf Try.f74) (by kernel_rfl) (by kernel_rfl) (loops_none (lp := lpNone) (by kernel_rfl)) (av := f74.av) (bl := f74.bl) (inR := f74.inR) (out := f74.o0) (fuel := 400)
  (by intro s x h; unfold f74.inA at h; split at h <;> simp at h; subst h; rfl) (fun _ => Nat.le_of_ble_eq_true rfl)
  (by intro s y h; unfold f74.inR at h; split at h <;> simp at h <;> subst h <;> rfl) (fun _ _ _ => rfl) (fun _ => by kernel_rfl)
end Go.Proofs

namespace Go.Proofs
open Go.VM
abbrev f42.Ty0 := List Int × Int × Int × List Int
abbrev f42.Ty1 := Int × Int × List Int
def f42.T (K : Nat) (m0_0 : Int) (m0_1 : Int) (m0_2 : List Int) : Option (f42.Ty0) :=
  (f74.F K (m0_0, m0_1, m0_2)).bind fun y1 =>
  some (y1.1, y1.2.1, y1.2.2.1, y1.2.2.2)
def f42.F (K : Nat) (x : f42.Ty1) : Option (f42.Ty0) := f42.T K x.1 x.2.1 x.2.2
def f42.av (_x : f42.Ty1) : List VV := [.ptr 0 0]
def f42.bl (x : f42.Ty1) : List (Nat × Blk) := [(0, ([.int .u64 x.1, .int .i64 x.2.1, .ints .u8 32 x.2.2], 102, .norm))]
def f42.inA : VS → Option (f42.Ty1)
  | ⟨[(0, .ptr 0 0)], [(0, ([.int .u64 m0_0, .int .i64 m0_1, .ints .u8 32 m0_2], 102, .norm))], 1⟩ => some (m0_0, m0_1, m0_2)
  | _ => none
def f42.o0 (y : f42.Ty0) : VS := ⟨[(0, .agg [.ints .u8 32 y.1])], [(0, ([.int .u64 y.2.1, .int .i64 y.2.2.1, .ints .u8 32 y.2.2.2], 102, .norm))], 1⟩
def f42.inR : VS → Option (f42.Ty0)
  | ⟨[(0, .agg [.ints .u8 32 y])], [(0, ([.int .u64 z0_0, .int .i64 z0_1, .ints .u8 32 z0_2], 102, .norm))], 1⟩ => some (y, z0_0, z0_1, z0_2)
  | _ => none
noncomputable def f42.E (K : Nat) : Entry := genE 1 f42.inA (f42.F K) (dv1 f42.o0)
theorem f42.ok (K : Nat) : EntryOK Try.prog 42 (f42.E K) := gen_ok mix tys_ok (tab_ok ((tab_cons (f74.ok K) tab_nil))) Try.func42 (c := bodyOf Try.f42) (by kernel_rfl) (by kernel_rfl) (loops_none (lp := lpNone) (by kernel_rfl)) (av := f42.av) (bl := f42.bl) (inR := f42.inR) (out := f42.o0) (fuel := 400)
  (by intro s x h; unfold f42.inA at h; split at h <;> simp at h; subst h; rfl) (fun _ => Nat.le_of_ble_eq_true rfl)
  (by intro s y h; unfold f42.inR at h; split at h <;> simp at h <;> subst h <;> rfl) (fun _ _ _ => rfl) (fun _ => by kernel_rfl)
end Go.Proofs

namespace Go.Proofs
open Go.VM
abbrev f24.Ty0 := ByteArray × Nat × Nat × Nat × List Int × Nat × List Int
abbrev f24.Ty1 := List Int × Nat × Nat × Nat × List Int × Nat × List Int
def f24.T (K : Nat) (a0 : ByteArray) (m0_0 : Nat) (m0_1 : Nat) (m2_0 : Nat) (m2_1 : List Int) (m4_0 : Nat) (m4_1 : List Int) : Option (f24.Ty1) :=
  (f49.F K ()).bind fun y1 =>
  let v2 := ByteArray.size a0
  bif ((Nat.ble (0 + v2) (ByteArray.size a0) && true) && true) then
    (f58.F K (0, v2, 0, [], v2, (subI (strL a0) 0 v2))).bind fun y4 =>
    (f59.F K (0, 2, 4, 0, [])).bind fun y5 =>
    bif ((Nat.ble (0 + y4.1) y4.2.2.2.2.2.1 && true) && ((Nat.ble (0 + y5.1) y5.2.2.2.2.1 && (Nat.ble y5.1 y5.2.1)) && true)) then
      (f57v2.F K (y1.1, y1.2.1, y1.2.2.1, y4.1, y5.1, y1.2.2.2, y4.1, (subI y4.2.2.2.2.2.2 0 y4.1), y5.1, (subI y5.2.2.2.2.2 0 y5.1))).bind fun y6 =>
      bif ((Nat.ble (0 + m0_0) m2_0 && true) && true) then
        (f58.F K (0, m0_0, 0, [], m0_0, (subI m2_1 0 m0_0))).bind fun y7 =>
        bif ((Nat.ble (0 + y7.1) y7.2.2.2.2.2.1 && true) && true) then
          (f57.F K (y6.1, y6.2.1, y6.2.2.1, y7.1, y6.2.2.2.2.2.2.2.2.2, y7.1, (subI y7.2.2.2.2.2.2 0 y7.1))).bind fun y8 =>
          bif ((Nat.ble (0 + m0_1) m4_0 && true) && true) then
            (f58.F K (0, m0_1, 0, [], m0_1, (subI m4_1 0 m0_1))).bind fun y9 =>
            bif ((Nat.ble (0 + y9.1) y9.2.2.2.2.2.1 && true) && true) then
              (f57.F K (y8.1, y8.2.1, y8.2.2.1, y9.1, y8.2.2.2.2.2.2, y9.1, (subI y9.2.2.2.2.2.2 0 y9.1))).bind fun y10 =>
              (f51.F K (y10.1, y10.2.1, y10.2.2.1, y10.2.2.2.2.2.2)).bind fun y11 =>
              some (y11.1, m0_0, m0_1, m2_0, m2_1, m4_0, m4_1)
            else
              none
          else
            none
        else
          none
      else
        none
    else
      none
  else
    none
def f24.F (K : Nat) (x : f24.Ty0) : Option (f24.Ty1) := f24.T K x.1 x.2.1 x.2.2.1 x.2.2.2.1 x.2.2.2.2.1 x.2.2.2.2.2.1 x.2.2.2.2.2.2
def f24.av (x : f24.Ty0) : List VV := [.str x.1, .vw true 0 0 2 1]
def f24.bl (x : f24.Ty0) : List (Nat × Blk) := [(0, ([.vw true 2 0 x.2.1 3, .vw true 4 0 x.2.2.1 5], 0, .ro)), (2, ([.ints .u8 x.2.2.2.1 x.2.2.2.2.1], 0, .ro)), (4, ([.ints .u8 x.2.2.2.2.2.1 x.2.2.2.2.2.2], 0, .ro))]
def f24.inA : VS → Option (f24.Ty0)
  | ⟨[(0, .str a0), (1, .vw true 0 0 2 1)], [(0, ([.vw true 2 0 m0_0 3, .vw true 4 0 m0_1 5], 0, .ro)), (2, ([.ints .u8 m2_0 m2_1], 0, .ro)), (4, ([.ints .u8 m4_0 m4_1], 0, .ro))], 6⟩ => some (a0, m0_0, m0_1, m2_0, m2_1, m4_0, m4_1)
  | _ => none
def f24.o0 (y : f24.Ty1) : VS := ⟨[(0, .agg [.ints .u8 32 y.1])], [(0, ([.vw true 2 0 y.2.1 3, .vw true 4 0 y.2.2.1 5], 0, .ro)), (2, ([.ints .u8 y.2.2.2.1 y.2.2.2.2.1], 0, .ro)), (4, ([.ints .u8 y.2.2.2.2.2.1 y.2.2.2.2.2.2], 0, .ro))], 6⟩
def f24.inR : VS → Option (f24.Ty1)
  | ⟨[(0, .agg [.ints .u8 32 y])], [(0, ([.vw true 2 0 z0_0 3, .vw true 4 0 z0_1 5], 0, .ro)), (2, ([.ints .u8 z2_0 z2_1], 0, .ro)), (4, ([.ints .u8 z4_0 z4_1], 0, .ro))], 6⟩ => some (y, z0_0, z0_1, z2_0, z2_1, z4_0, z4_1)
  | _ => none
noncomputable def f24.E (K : Nat) : Entry := genE 6 f24.inA (f24.F K) (dv1 f24.o0)
theorem f24.ok (K : Nat) : EntryOK Try.prog 24 (f24.E K) := gen_ok mix tys_ok (sp := tabSp [(49, (f49.E K)), (58, (viewE [(0, .u8), (1, .u8)] (f58.E K))), (59, (viewE [(0, .u8)] (f59.E K))), (57, (orF (fitR 1 .u8 (fitE 8 f57v2.inA)) (rowsE 1 .u8 (f57v2.E K)) (rowsE 1 .u8 (f57.E K)))), (51, (f51.E K))]) (tab_ok ((tab_cons (f49.ok K) (tab_cons (view_ok (f58.ok K)) (tab_cons (view_ok (f59.ok K)) (tab_cons (orF_ok (rows_ok (f57v2.ok K)) (rows_ok (f57.ok K))) (tab_cons (f51.ok K) tab_nil))))))) Try.func24 (c := bodyOf Try.f24) (by kernel_rfl) (by kernel_rfl) (loops_none (lp := lpNone) (by kernel_rfl)) (av := f24.av) (bl := f24.bl) (inR := f24.inR) (out := f24.o0) (fuel := 400)
  (by intro s x h; unfold f24.inA at h; split at h <;> simp at h; subst h; rfl) (fun _ => Nat.le_of_ble_eq_true rfl)
  (by intro s y h; unfold f24.inR at h; split at h <;> simp at h <;> subst h <;> rfl) (fun _ _ _ => rfl) (fun _ => by kernel_rfl)
end Go.Proofs

namespace Go.Proofs
open Go.VM
abbrev f53.Ty0 := List Int × ByteArray × Nat × Nat × List Int × List Int
abbrev f53.Ty1 := Int × ByteArray × Nat × Nat × List Int
def f53.T (K : Nat) (a0 : Int) (m0 : ByteArray) (m2 : Nat) (m3_0 : Nat) (m3_1 : List Int) : Option (f53.Ty0) :=
  bif ((Nat.ble (0 + m2) m3_0 && true) && true) then
    (f24.F K (m0, m2, 1, m2, (subI m3_1 0 m2), 1, [a0])).bind fun y1 =>
    (f31.F K (32, 32, (subI y1.1 0 32))).bind fun y2 =>
    some (y2.1, m0, m2, m3_0, m3_1, [a0])
  else
    none
def f53.F (K : Nat) (x : f53.Ty1) : Option (f53.Ty0) := f53.T K x.1 x.2.1 x.2.2.1 x.2.2.2.1 x.2.2.2.2
def f53.av (x : f53.Ty1) : List VV := [.int .u8 x.1, .ptr 0 0, .ptr 1 0]
def f53.bl (x : f53.Ty1) : List (Nat × Blk) := [(0, ([.str x.2.1], 9, .norm)), (1, ([.sl 2 0 1 2], 23, .norm)), (2, ([.vw true 3 0 x.2.2.1 4, .raw (.slice none 0 0)], 22, .norm)), (3, ([.ints .u8 x.2.2.2.1 x.2.2.2.2], 0, .ro))]
def f53.inA : VS → Option (f53.Ty1)
  | ⟨[(0, .int .u8 a0), (1, .ptr 0 0), (2, .ptr 1 0)], [(0, ([.str m0], 9, .norm)), (1, ([.sl 2 0 1 2], 23, .norm)), (2, ([.vw true 3 0 m2 4, .raw (.slice none 0 0)], 22, .norm)), (3, ([.ints .u8 m3_0 m3_1], 0, .ro))], 5⟩ => some (a0, m0, m2, m3_0, m3_1)
  | _ => none
def f53.o0 (y : f53.Ty0) : VS := ⟨[(0, .agg [.ints .u64 4 y.1])], [(0, ([.str y.2.1], 9, .norm)), (1, ([.sl 2 0 1 2], 23, .norm)), (2, ([.vw true 3 0 y.2.2.1 4, .sl 5 0 1 1], 22, .norm)), (3, ([.ints .u8 y.2.2.2.1 y.2.2.2.2.1], 0, .ro)), (5, ([.ints .u8 1 y.2.2.2.2.2], 5, .norm))], 6⟩
def f53.inR : VS → Option (f53.Ty0)
  | ⟨[(0, .agg [.ints .u64 4 y])], [(0, ([.str z0], 9, .norm)), (1, ([.sl 2 0 1 2], 23, .norm)), (2, ([.vw true 3 0 z2 4, .sl 5 0 1 1], 22, .norm)), (3, ([.ints .u8 z3_0 z3_1], 0, .ro)), (5, ([.ints .u8 1 z5], 5, .norm))], 6⟩ => some (y, z0, z2, z3_0, z3_1, z5)
  | _ => none
noncomputable def f53.E (K : Nat) : Entry := genE 5 f53.inA (f53.F K) (dv1 f53.o0)
theorem f53.ok (K : Nat) : EntryOK Try.prog 53 (f53.E K) := gen_ok mix tys_ok (sp := tabSp [(24, (rowsE 1 .u8 (f24.E K))), (31, (viewE [(0, .u8)] (f31.E K)))]) (tab_ok ((tab_cons (rows_ok (f24.ok K)) (tab_cons (view_ok (f31.ok K)) tab_nil)))) Try.func53 (c := bodyOf Try.f53) (by kernel_rfl) (by kernel_rfl) (loops_none (lp := lpNone) (by kernel_rfl)) (av := f53.av) (bl := f53.bl) (inR := f53.inR) (out := f53.o0) (fuel := 400)
  (by intro s x h; unfold f53.inA at h; split at h <;> simp at h; subst h; rfl) (fun _ => Nat.le_of_ble_eq_true rfl)
  (by intro s y h; unfold f53.inR at h; split at h <;> simp at h <;> subst h <;> rfl) (fun _ _ _ => rfl) (fun _ => by kernel_rfl)
end Go.Proofs

namespace Go.Proofs
open Go.VM
abbrev f53v1.Ty0 := List Int × ByteArray × Nat × Nat × List Int × List Int × List Int
abbrev f53v1.Ty1 := Int × ByteArray × Nat × Nat × List Int × List Int
def f53v1.T (K : Nat) (a0 : Int) (m0 : ByteArray) (m2 : Nat) (m3_0 : Nat) (m3_1 : List Int) (m5 : List Int) : Option (f53v1.Ty0) :=
  bif ((Nat.ble (0 + m2) m3_0 && true) && true) then
    (f24.F K (m0, m2, 1, m2, (subI m3_1 0 m2), 1, [a0])).bind fun y1 =>
    (f31.F K (32, 32, (subI y1.1 0 32))).bind fun y2 =>
    some (y2.1, m0, m2, m3_0, m3_1, m5, [a0])
  else
    none
def f53v1.F (K : Nat) (x : f53v1.Ty1) : Option (f53v1.Ty0) := f53v1.T K x.1 x.2.1 x.2.2.1 x.2.2.2.1 x.2.2.2.2.1 x.2.2.2.2.2
def f53v1.av (x : f53v1.Ty1) : List VV := [.int .u8 x.1, .ptr 0 0, .ptr 1 0]
def f53v1.bl (x : f53v1.Ty1) : List (Nat × Blk) := [(0, ([.str x.2.1], 9, .norm)), (1, ([.sl 2 0 1 2], 23, .norm)), (2, ([.vw true 3 0 x.2.2.1 4, .sl 5 0 1 1], 22, .norm)), (3, ([.ints .u8 x.2.2.2.1 x.2.2.2.2.1], 0, .ro)), (5, ([.ints .u8 1 x.2.2.2.2.2], 5, .norm))]
def f53v1.inA : VS → Option (f53v1.Ty1)
  | ⟨[(0, .int .u8 a0), (1, .ptr 0 0), (2, .ptr 1 0)], [(0, ([.str m0], 9, .norm)), (1, ([.sl 2 0 1 2], 23, .norm)), (2, ([.vw true 3 0 m2 4, .sl 5 0 1 1], 22, .norm)), (3, ([.ints .u8 m3_0 m3_1], 0, .ro)), (5, ([.ints .u8 1 m5], 5, .norm))], 6⟩ => some (a0, m0, m2, m3_0, m3_1, m5)
  | _ => none
def f53v1.o0 (y : f53v1.Ty0) : VS := ⟨[(0, .agg [.ints .u64 4 y.1])], [(0, ([.str y.2.1], 9, .norm)), (1, ([.sl 2 0 1 2], 23, .norm)), (2, ([.vw true 3 0 y.2.2.1 4, .sl 6 0 1 1], 22, .norm)), (3, ([.ints .u8 y.2.2.2.1 y.2.2.2.2.1], 0, .ro)), (5, ([.ints .u8 1 y.2.2.2.2.2.1], 5, .norm)), (6, ([.ints .u8 1 y.2.2.2.2.2.2], 5, .norm))], 7⟩
def f53v1.inR : VS → Option (f53v1.Ty0)
  | ⟨[(0, .agg [.ints .u64 4 y])], [(0, ([.str z0], 9, .norm)), (1, ([.sl 2 0 1 2], 23, .norm)), (2, ([.vw true 3 0 z2 4, .sl 6 0 1 1], 22, .norm)), (3, ([.ints .u8 z3_0 z3_1], 0, .ro)), (5, ([.ints .u8 1 z5], 5, .norm)), (6, ([.ints .u8 1 z6], 5, .norm))], 7⟩ => some (y, z0, z2, z3_0, z3_1, z5, z6)
  | _ => none
noncomputable def f53v1.E (K : Nat) : Entry := genE 6 f53v1.inA (f53v1.F K) (dv1 f53v1.o0)
theorem f53v1.ok (K : Nat) : EntryOK Try.prog 53 (f53v1.E K) := gen_ok mix tys_ok (sp := tabSp [(24, (rowsE 1 .u8 (f24.E K))), (31, (viewE [(0, .u8)] (f31.E K)))]) (tab_ok ((tab_cons (rows_ok (f24.ok K)) (tab_cons (view_ok (f31.ok K)) tab_nil)))) Try.func53 (c := bodyOf Try.f53) (by kernel_rfl) (by kernel_rfl) (loops_none (lp := lpNone) (by kernel_rfl)) (av := f53v1.av) (bl := f53v1.bl) (inR := f53v1.inR) (out := f53v1.o0) (fuel := 400)
  (by intro s x h; unfold f53v1.inA at h; split at h <;> simp at h; subst h; rfl) (fun _ => Nat.le_of_ble_eq_true rfl)
  (by intro s y h; unfold f53v1.inR at h; split at h <;> simp at h <;> subst h <;> rfl) (fun _ _ _ => rfl) (fun _ => by kernel_rfl)
end Go.Proofs

namespace Go.Proofs
open Go.VM
abbrev f22.Ty0 := List Int × ByteArray × Nat × Nat × List Int
abbrev f22.Ty1 := List Int × Int × Nat × Nat × List Int
def f22.T (K : Nat) (a0 : List Int) (a1 : ByteArray) (m0 : Nat) (m2_0 : Nat) (m2_1 : List Int) : Option (f22.Ty1) :=
  (f53.F K (1, a1, m0, m2_0, m2_1)).bind fun y1 =>
  (f53v1.F K (0, y1.2.1, y1.2.2.1, m2_0, m2_1, y1.2.2.2.2.2)).bind fun y2 =>
  (f54.F K (y1.1, y2.1, a0)).bind fun y3 =>
  some (y3.1, y3.2, m0, m2_0, m2_1)
def f22.F (K : Nat) (x : f22.Ty0) : Option (f22.Ty1) := f22.T K x.1 x.2.1 x.2.2.1 x.2.2.2.1 x.2.2.2.2
def f22.av (x : f22.Ty0) : List VV := [.agg [.ints .u64 4 x.1], .str x.2.1, .vw true 0 0 1 1]
def f22.bl (x : f22.Ty0) : List (Nat × Blk) := [(0, ([.vw true 2 0 x.2.2.1 3], 0, .ro)), (2, ([.ints .u8 x.2.2.2.1 x.2.2.2.2], 0, .ro))]
def f22.inA : VS → Option (f22.Ty0)
  | ⟨[(0, .agg [.ints .u64 4 a0]), (1, .str a1), (2, .vw true 0 0 1 1)], [(0, ([.vw true 2 0 m0 3], 0, .ro)), (2, ([.ints .u8 m2_0 m2_1], 0, .ro))], 4⟩ => some (a0, a1, m0, m2_0, m2_1)
  | _ => none
def f22.o0 (y : f22.Ty1) : VS := ⟨[(0, .tup [.agg [.ints .u64 4 y.1], .int .i64 y.2.1])], [(0, ([.vw true 2 0 y.2.2.1 3], 0, .ro)), (2, ([.ints .u8 y.2.2.2.1 y.2.2.2.2], 0, .ro))], 4⟩
def f22.inR : VS → Option (f22.Ty1)
  | ⟨[(0, .tup [.agg [.ints .u64 4 y_0], .int .i64 y_1])], [(0, ([.vw true 2 0 z0 3], 0, .ro)), (2, ([.ints .u8 z2_0 z2_1], 0, .ro))], 4⟩ => some (y_0, y_1, z0, z2_0, z2_1)
  | _ => none
noncomputable def f22.E (K : Nat) : Entry := genE 4 f22.inA (f22.F K) (dv1 f22.o0)
theorem f22.ok (K : Nat) : EntryOK Try.prog 22 (f22.E K) := gen_ok mix tys_ok (sp := tabSp [(53, (orF (fitE 5 f53.inA) (f53.E K) (f53v1.E K))), (54, (f54.E K))]) (tab_ok ((tab_cons (orF_ok (f53.ok K) (f53v1.ok K)) (tab_cons (f54.ok K) tab_nil)))) Try.func22 (c := bodyOf Try.f22) (by kernel_rfl) (by kernel_rfl) (loops_none (lp := lpNone) (by kernel_rfl)) (av := f22.av) (bl := f22.bl) (inR := f22.inR) (out := f22.o0) (fuel := 400)
  (by intro s x h; unfold f22.inA at h; split at h <;> simp at h; subst h; rfl) (fun _ => Nat.le_of_ble_eq_true rfl)
  (by intro s y h; unfold f22.inR at h; split at h <;> simp at h <;> subst h <;> rfl) (fun _ _ _ => rfl) (fun _ => by kernel_rfl)
end Go.Proofs

namespace Go.Proofs
open Go.VM
abbrev f40.Ty0 := List Int × List Int × List Int × Int × Int × List Int
abbrev f40.Ty1 := List Int × Int × Int × Int × List Int
def f40.k0 : ByteArray := ByteArray.mk #[101, 120, 112, 111, 110, 101, 110, 116]
def f40.T (K : Nat) (_a1_0 : List Int) (a1_1 : List Int) (_a1_2 : List Int) (m0_0 : Int) (m0_1 : Int) (m0_2 : List Int) : Option (f40.Ty1) :=
  (f68.F K (m0_0, m0_1, m0_2)).bind fun y1 =>
  bif !y1.1 then
    some ([0, 0, 0, 0], 2, y1.2.1, y1.2.2.1, y1.2.2.2)
  else
    (f33.F K 3).bind fun y2 =>
    (f35.F K (a1_1, y2)).bind fun y3 =>
    bif (decide (y3 < 0)) then
      some ([0, 0, 0, 0], 1, y1.2.1, y1.2.2.1, y1.2.2.2)
    else
      (f69.F K (y1.2.1, y1.2.2.1, y1.2.2.2)).bind fun y5 =>
      (f33.F K 1).bind fun y6 =>
      (f67.F K (a1_1, y6)).bind fun y7 =>
      (f22.F K (y7.1, f40.k0, 32, 32, (subI y5.1 0 32))).bind fun y8 =>
      (f33.F K 1).bind fun y9 =>
      (f70.F K (y8.1, y9)).bind fun y10 =>
      some (y10.1, 0, y5.2.1, y5.2.2.1, y5.2.2.2)
def f40.F (K : Nat) (x : f40.Ty0) : Option (f40.Ty1) := f40.T K x.1 x.2.1 x.2.2.1 x.2.2.2.1 x.2.2.2.2.1 x.2.2.2.2.2
def f40.av (x : f40.Ty0) : List VV := [.ptr 0 0, .agg [.ints .u64 4 x.1, .ints .u64 4 x.2.1, .ints .u64 4 x.2.2.1]]
def f40.bl (x : f40.Ty0) : List (Nat × Blk) := [(0, ([.int .u64 x.2.2.2.1, .int .i64 x.2.2.2.2.1, .ints .u8 32 x.2.2.2.2.2], 102, .norm))]
def f40.inA : VS → Option (f40.Ty0)
  | ⟨[(0, .ptr 0 0), (1, .agg [.ints .u64 4 a1_0, .ints .u64 4 a1_1, .ints .u64 4 a1_2])], [(0, ([.int .u64 m0_0, .int .i64 m0_1, .ints .u8 32 m0_2], 102, .norm))], 1⟩ => some (a1_0, a1_1, a1_2, m0_0, m0_1, m0_2)
  | _ => none
def f40.o0 (y : f40.Ty1) : VS := ⟨[(0, .tup [.agg [.ints .u64 4 y.1], .int .i64 y.2.1])], [(0, ([.int .u64 y.2.2.1, .int .i64 y.2.2.2.1, .ints .u8 32 y.2.2.2.2], 102, .norm))], 1⟩
def f40.inR : VS → Option (f40.Ty1)
  | ⟨[(0, .tup [.agg [.ints .u64 4 y_0], .int .i64 y_1])], [(0, ([.int .u64 z0_0, .int .i64 z0_1, .ints .u8 32 z0_2], 102, .norm))], 1⟩ => some (y_0, y_1, z0_0, z0_1, z0_2)
  | _ => none
noncomputable def f40.E (K : Nat) : Entry := genE 1 f40.inA (f40.F K) (dv1 f40.o0)
theorem f40.ok (K : Nat) : EntryOK Try.prog 40 (f40.E K) := gen_ok mix tys_ok (sp := tabSp [(68, (f68.E K)), (33, (f33.E K)), (35, (f35.E K)), (69, (f69.E K)), (67, (f67.E K)), (22, (rowsE 2 .u8 (f22.E K))), (70, (f70.E K))]) (tab_ok ((tab_cons (f68.ok K) (tab_cons (f33.ok K) (tab_cons (f35.ok K) (tab_cons (f69.ok K) (tab_cons (f67.ok K) (tab_cons (rows_ok (f22.ok K)) (tab_cons (f70.ok K) tab_nil))))))))) Try.func40 (c := bodyOf Try.f40) (by kernel_rfl) (by kernel_rfl) (loops_none (lp := lpNone) (by kernel_rfl)) (av := f40.av) (bl := f40.bl) (inR := f40.inR) (out := f40.o0) (fuel := 400)
  (by intro s x h; unfold f40.inA at h; split at h <;> simp at h; subst h; rfl) (fun _ => Nat.le_of_ble_eq_true rfl)
  (by intro s y h; unfold f40.inR at h; split at h <;> simp at h <;> subst h <;> rfl) (fun _ _ _ => rfl) (fun _ => by kernel_rfl)
end Go.Proofs

namespace Go.Proofs
open Go.VM
abbrev f40v1.Ty0 := List Int × List Int × List Int
def f40v1.T (_K : Nat) (_a1_0 : List Int) (_a1_1 : List Int) (_a1_2 : List Int) : Option (List Int × Int) :=
  some ([0, 0, 0, 0], 2)
def f40v1.F (K : Nat) (x : f40v1.Ty0) : Option (List Int × Int) := f40v1.T K x.1 x.2.1 x.2.2
def f40v1.av (x : f40v1.Ty0) : List VV := [.raw (.pointer none), .agg [.ints .u64 4 x.1, .ints .u64 4 x.2.1, .ints .u64 4 x.2.2]]
def f40v1.bl (_x : f40v1.Ty0) : List (Nat × Blk) := []
def f40v1.inA : VS → Option (f40v1.Ty0)
  | ⟨[(0, .raw (.pointer none)), (1, .agg [.ints .u64 4 a1_0, .ints .u64 4 a1_1, .ints .u64 4 a1_2])], [], 0⟩ => some (a1_0, a1_1, a1_2)
  | _ => none
def f40v1.o0 (y : List Int × Int) : VS := ⟨[(0, .tup [.agg [.ints .u64 4 y.1], .int .i64 y.2])], [], 0⟩
def f40v1.inR : VS → Option (List Int × Int)
  | ⟨[(0, .tup [.agg [.ints .u64 4 y_0], .int .i64 y_1])], [], 0⟩ => some (y_0, y_1)
  | _ => none
noncomputable def f40v1.E (K : Nat) : Entry := genE 0 f40v1.inA (f40v1.F K) (dv1 f40v1.o0)
theorem f40v1.ok (K : Nat) : EntryOK Try.prog 40 (f40v1.E K) := gen_ok mix tys_ok (tab_ok ( tab_nil)) Try.func40 (c := bodyOf Try.f40) (by kernel_rfl) (by kernel_rfl) (loops_none (lp := lpNone) (by kernel_rfl)) (av := f40v1.av) (bl := f40v1.bl) (inR := f40v1.inR) (out := f40v1.o0) (fuel := 400)
  (by intro s x h; unfold f40v1.inA at h; split at h <;> simp at h; subst h; rfl) (fun _ => Nat.le_of_ble_eq_true rfl)
  (by intro s y h; unfold f40v1.inR at h; split at h <;> simp at h <;> subst h <;> rfl) (fun _ _ _ => rfl) (fun _ => by kernel_rfl)
end Go.Proofs

namespace Go.Proofs
open Go.VM
def f76v1.T (_K : Nat)  : Option (Int) :=
  some (0)
def f76v1.F (K : Nat) (_x : Unit) : Option (Int) := f76v1.T K
def f76v1.av (_x : Unit) : List VV := [.raw (.pointer none), .fn 77 []]
def f76v1.bl (_x : Unit) : List (Nat × Blk) := []
def f76v1.inA : VS → Option (Unit)
  | ⟨[(0, .raw (.pointer none)), (1, .fn 77 [])], [], 0⟩ => some ()
  | _ => none
def f76v1.o0 (y : Int) : VS := ⟨[(0, .int .u64 y)], [], 0⟩
def f76v1.inR : VS → Option (Int)
  | ⟨[(0, .int .u64 y)], [], 0⟩ => some y
  | _ => none
noncomputable def f76v1.E (K : Nat) : Entry := genE 0 f76v1.inA (f76v1.F K) (dv1 f76v1.o0)
theorem f76v1.ok (K : Nat) : EntryOK Try.prog 76 (f76v1.E K) := gen_ok mix tys_ok (tab_ok ( tab_nil)) Try.func76 (c := bodyOf Try.f76) (by kernel_rfl) (by kernel_rfl) (loops_none (lp := lpNone) (by kernel_rfl)) (av := f76v1.av) (bl := f76v1.bl) (inR := f76v1.inR) (out := f76v1.o0) (fuel := 400)
  (by intro s x h; unfold f76v1.inA at h; split at h <;> simp at h; rfl) (fun _ => Nat.le_of_ble_eq_true rfl)
  (by intro s y h; unfold f76v1.inR at h; split at h <;> simp at h <;> subst h <;> rfl) (fun _ _ _ => rfl) (fun _ => by kernel_rfl)
end Go.Proofs

namespace Go.Proofs
open Go.VM
def f44v1.T (K : Nat)  : Option (Int) :=
  (f76v1.F K ()).bind fun y1 =>
  some y1
def f44v1.F (K : Nat) (_x : Unit) : Option (Int) := f44v1.T K
def f44v1.av (_x : Unit) : List VV := [.raw (.pointer none)]
def f44v1.bl (_x : Unit) : List (Nat × Blk) := []
def f44v1.inA : VS → Option (Unit)
  | ⟨[(0, .raw (.pointer none))], [], 0⟩ => some ()
  | _ => none
def f44v1.o0 (y : Int) : VS := ⟨[(0, .int .u64 y)], [], 0⟩
def f44v1.inR : VS → Option (Int)
  | ⟨[(0, .int .u64 y)], [], 0⟩ => some y
  | _ => none
noncomputable def f44v1.E (K : Nat) : Entry := genE 0 f44v1.inA (f44v1.F K) (dv1 f44v1.o0)
theorem f44v1.ok (K : Nat) : EntryOK Try.prog 44 (f44v1.E K) := gen_ok mix tys_ok (tab_ok ((tab_cons (f76v1.ok K) tab_nil))) Try.func44 (c := bodyOf Try.f44) (by kernel_rfl) (by kernel_rfl) (loops_none (lp := lpNone) (by kernel_rfl)) (av := f44v1.av) (bl := f44v1.bl) (inR := f44v1.inR) (out := f44v1.o0) (fuel := 400)
  (by intro s x h; unfold f44v1.inA at h; split at h <;> simp at h; rfl) (fun _ => Nat.le_of_ble_eq_true rfl)
  (by intro s y h; unfold f44v1.inR at h; split at h <;> simp at h <;> subst h <;> rfl) (fun _ _ _ => rfl) (fun _ => by kernel_rfl)
end Go.Proofs

namespace Go.Proofs
open Go.VM
def f37.T (K : Nat)  : Option (Bool) :=
  (f38.F K [0, 0, 0, 0, 0, 0, 0, 0, 0, 0, 0, 0, 0, 0, 0, 0, 0, 0, 0, 0, 0, 0, 0, 0, 0, 0, 0, 0, 0, 0, 0, 0]).bind fun y1 =>
  (f44.F K (y1.1, y1.2.1, y1.2.2)).bind fun y2 =>
  (f42.F K (y2.2.1, y2.2.2.1, y2.2.2.2)).bind fun y3 =>
  (f44.F K (y3.2.1, y3.2.2.1, y3.2.2.2)).bind fun y4 =>
  (f40.F K ([0, 0, 0, 0], [2, 0, 0, 0], [0, 0, 0, 0], y4.2.1, y4.2.2.1, y4.2.2.2)).bind fun y5 =>
  (f44.F K (y5.2.2.1, y5.2.2.2.1, y5.2.2.2.2)).bind fun y6 =>
  (f40.F K ([0, 0, 0, 0], [3, 0, 0, 0], [0, 0, 0, 0], y6.2.1, y6.2.2.1, y6.2.2.2)).bind fun y7 =>
  (f40v1.F K ([0, 0, 0, 0], [0, 0, 0, 0], [0, 0, 0, 0])).bind fun y8 =>
  bif (y2.1 == 0) then
    bif (y4.1 == 1) then
      bif (y5.2.1 == 1) then
        bif (y6.1 == 1) then
          bif (y7.2.1 == 0) then
            (f33.F K 1).bind fun y11 =>
            bif (eqL 4 y7.1 y11 && true) then
              bif (!(eqL 32 y3.1 [0, 0, 0, 0, 0, 0, 0, 0, 0, 0, 0, 0, 0, 0, 0, 0, 0, 0, 0, 0, 0, 0, 0, 0, 0, 0, 0, 0, 0, 0, 0, 0] && true)) then
                bif (y8.2 == 2) then
                  (f44v1.F K ()).bind fun y14 =>
                  some (y14 == 0)
                else
                  some false
              else
                some false
            else
              (f33.F K 2).bind fun y15 =>
              bif (eqL 4 y7.1 y15 && true) then
                bif (!(eqL 32 y3.1 [0, 0, 0, 0, 0, 0, 0, 0, 0, 0, 0, 0, 0, 0, 0, 0, 0, 0, 0, 0, 0, 0, 0, 0, 0, 0, 0, 0, 0, 0, 0, 0] && true)) then
                  bif (y8.2 == 2) then
                    (f44v1.F K ()).bind fun y18 =>
                    some (y18 == 0)
                  else
                    some false
                else
                  some false
              else
                some false
          else
            some false
        else
          some false
      else
        some false
    else
      some false
  else
    some false
def f37.F (K : Nat) (_x : Unit) : Option (Bool) := f37.T K
def f37.av (_x : Unit) : List VV := []
def f37.bl (_x : Unit) : List (Nat × Blk) := []
def f37.inA : VS → Option (Unit)
  | ⟨[], [], 0⟩ => some ()
  | _ => none
def f37.o0 (y : Bool) : VS := ⟨[(0, .bool y)], [], 0⟩
def f37.inR : VS → Option (Bool)
  | ⟨[(0, .bool y)], [], 0⟩ => some y
  | _ => none
noncomputable def f37.E (K : Nat) : Entry := genE 0 f37.inA (f37.F K) (dv1 f37.o0)
theorem f37.ok (K : Nat) : EntryOK Try.prog 37 (f37.E K) := gen_ok mix tys_ok (sp := tabSp [(38, (f38.E K)), (44, (orF (fitE 1 f44.inA) (f44.E K) (f44v1.E K))), (42, (f42.E K)), (40, (orF (fitE 1 f40.inA) (f40.E K) (f40v1.E K))), (33, (f33.E K))]) (tab_ok ((tab_cons (f38.ok K) (tab_cons (orF_ok (f44.ok K) (f44v1.ok K)) (tab_cons (f42.ok K) (tab_cons (orF_ok (f40.ok K) (f40v1.ok K)) (tab_cons (f33.ok K) tab_nil))))))) Try.func37 (c := bodyOf Try.f37) (by kernel_rfl) (by kernel_rfl) (loops_none (lp := lpNone) (by kernel_rfl)) (av := f37.av) (bl := f37.bl) (inR := f37.inR) (out := f37.o0) (fuel := 400)
  (by intro s x h; unfold f37.inA at h; split at h <;> simp at h; rfl) (fun _ => Nat.le_of_ble_eq_true rfl)
  (by intro s y h; unfold f37.inR at h; split at h <;> simp at h <;> subst h <;> rfl) (fun _ _ _ => rfl) (fun _ => by kernel_rfl)
end Go.Proofs

namespace Go.Proofs
open Go.VM
set_option maxRecDepth 1000000 in
theorem f37.holds : f37.F 100000 () = some true := by decide +kernel
def Dr.sum (s : List Int) (n : Nat) : List Int := Sh.mac s ([100, 114, 97, 119] ++ be 8 n)
theorem f68.spec (K : Nat) (a b : Int) (s : List Int) : f68.F K (a, b, s) = some (b == 1, a, b, s) := rfl
theorem f69.spec (K n : Nat) (s : List Int) (hs : s.length = 32) (ho : octets s) (hn : n < 18446744073709551616) (hK : 1000 < K) :
    f69.F K ((n : Int), 1, s) = some (Dr.sum s n, (((n + 1) % 18446744073709551616 : Nat) : Int), 1, s) := by
  simp only [f69.F, f69.T]
  have e1 := f59.spec K 0 8 n [] rfl hn (by omega) (by omega)
  rw [List.nil_append, Nat.zero_add] at e1
  rw [show ((8 : Int)) = ((8 : Nat) : Int) from rfl, e1, bind_s]
  simp only []
  rw [Nat.zero_add, ble_true (Nat.le_refl 8), Bool.and_self, Bool.and_self, cond_t, subI_self _ hs, subI_self _ (be_length 8 n),
    f15.spec K 32 s 4 [100, 114, 97, 119] 8 (be 8 n) hs ho (by omega) rfl (by intro x hx; simp only [List.mem_cons, List.not_mem_nil, or_false] at hx; omega) (by omega) (be_length _ _) (be_octets _ _) (by omega) (by omega), bind_s]
  simp only []
  rw [show ((n : Int)) + 1 = ((n + 1 : Nat) : Int) by omega, wrap_nat, Dr.sum]
theorem f42.spec (K n : Nat) (s : List Int) (hs : s.length = 32) (ho : octets s) (hn : n < 18446744073709551616) (hK : 1000 < K) :
    f42.F K ((n : Int), 1, s) = some (Dr.sum s n, (((n + 1) % 18446744073709551616 : Nat) : Int), 1, s) := by
  simp only [f42.F, f42.T, f74.F, f74.T]
  rw [f68.spec, bind_s]
  simp only []
  rw [show ((1 : Int) == 1) = true from rfl, Bool.not_true, cond_f, f69.spec K n s hs ho hn hK, bind_s, bind_s]
theorem f44.spec (K : Nat) (n : Int) (s : List Int) : f44.F K (n, 1, s) = some (n, n, 1, s) := rfl
end Go.Proofs

namespace Go.Proofs
open Go.VM
theorem eqL_refl (n : Nat) (l : List Int) : eqL n l l = true := by simp [eqL]
def up64 (n : Nat) : Nat := (n + 1) % 18446744073709551616
theorem f42.next (K n : Nat) (s : List Int) (hs : s.length = 32) (ho : octets s) (hn : n < 18446744073709551616) (hK : 1000 < K) :
    f42.F K ((n : Int), 1, s) = some (Dr.sum s n, ((up64 n : Nat) : Int), 1, s) := f42.spec K n s hs ho hn hK
end Go.Proofs

namespace Go.Proofs
open Go.VM
end Go.Proofs

namespace Go.Proofs
open Go.VM
end Go.Proofs

namespace Go.Proofs
open Go.VM
theorem f24.spec (K : Nat) (name : ByteArray) (n0 : Nat) (l0 : List Int) (n1 : Nat) (l1 : List Int) (hs : name.size ≤ 1000000000) (e0 : l0.length = n0) (o0 : octets l0) (z0 : n0 ≤ 1000000000) (e1 : l1.length = n1) (o1 : octets l1) (z1 : n1 ≤ 1000000000) (hK : 200 + name.size < K) (k0 : 68 + n0 < K) (k1 : 68 + n1 < K) :
    f24.F K (name, n0, n1, n0, l0, n1, l1) = some (Sh.sha (strL name) [l0, l1], n0, n1, n0, l0, n1, l1) := by
  have hnl := strL_length name
  have hno := strL_octets name
  simp only [f24.F, f24.T]
  rw [show f49.F K () = some ([0, 0, 0, 0, 0, 0, 0, 0, 0, 0, 0, 0, 0, 0, 0, 0, 0, 0, 0, 0, 0, 0, 0, 0, 0, 0, 0, 0, 0, 0, 0, 0, 0, 0, 0, 0, 0, 0, 0, 0, 0, 0, 0, 0, 0, 0, 0, 0, 0, 0, 0, 0, 0, 0, 0, 0, 0, 0, 0, 0, 0, 0, 0, 0], 0, 0, Sh.init) from rfl, bind_s]
  have a0 : f58.F K (0, name.size, 0, [], name.size, strL name) = some (0 + 4 + name.size, 0, [], name.size, strL name, 0 + 4 + name.size, [] ++ Sh.frame (strL name)) := f58.spec K 0 name.size [] (strL name) rfl hnl (by omega) (by omega)
  have a1 : f59.F K (0, ((2 : Nat) : Int), ((4 : Nat) : Int), 0, []) = some (4, 4, 0, [], 4, [] ++ be 4 2) := f59.spec K 0 4 2 [] rfl (by omega) (by omega) (by omega)
  rw [Nat.zero_add, List.nil_append] at a0
  rw [List.nil_append] at a1
  rw [Nat.zero_add, ble_true (Nat.le_refl name.size), Bool.and_self, Bool.and_self, cond_t, subI_self _ hnl, a0, bind_s, show ((2 : Int)) = ((2 : Nat) : Int) from rfl, show ((4 : Int)) = ((4 : Nat) : Int) from rfl, a1, bind_s]
  simp only []
  have hf := frame_length (strL name)
  rw [hnl] at hf
  rw [Nat.zero_add, Nat.zero_add, ble_true (Nat.le_refl (4 + name.size)), ble_true (Nat.le_refl 4), Bool.and_self, Bool.and_self, Bool.and_self, cond_t, subI_self _ hf, subI_self _ (be_length 4 2)]
  obtain ⟨B, H, S, c0, R⟩ := f57v2.spec K [] (4 + name.size) (Sh.frame (strL name)) 4 (be 4 2) hf (frame_octets hno) (by omega) (be_length _ _) (be_octets _ _) (by omega) _ _ _ Sh.rep0 (by omega)
  rw [show f57v2.F K ([0, 0, 0, 0, 0, 0, 0, 0, 0, 0, 0, 0, 0, 0, 0, 0, 0, 0, 0, 0, 0, 0, 0, 0, 0, 0, 0, 0, 0, 0, 0, 0, 0, 0, 0, 0, 0, 0, 0, 0, 0, 0, 0, 0, 0, 0, 0, 0, 0, 0, 0, 0, 0, 0, 0, 0, 0, 0, 0, 0, 0, 0, 0, 0], 0, 0, 4 + name.size, 4, Sh.init, 4 + name.size, Sh.frame (strL name), 4, be 4 2) = _ from c0, bind_s]
  simp only []
  have g0 : f58.F K (0, n0, 0, [], n0, l0) = some (4 + n0, 0, [], n0, l0, 4 + n0, Sh.frame l0) := by
    have := f58.spec K 0 n0 [] l0 rfl e0 (by omega) (by omega)
    rw [Nat.zero_add, List.nil_append] at this
    exact this
  have f0_ : (Sh.frame l0).length = 4 + n0 := by rw [frame_length, e0]
  rw [Nat.zero_add, ble_true (Nat.le_refl n0), Bool.and_self, Bool.and_self, cond_t, subI_self _ e0, g0, bind_s]
  simp only []
  rw [Nat.zero_add, ble_true (Nat.le_refl (4 + n0)), Bool.and_self, Bool.and_self, cond_t, subI_self _ f0_]
  obtain ⟨B0, H0, S0, c0_, R0⟩ := f57.spec K ([] ++ Sh.frame (strL name) ++ be 4 2) (4 + n0) (Sh.frame l0) f0_ (frame_octets o0) (by omega) _ _ _ R (by omega)
  rw [c0_, bind_s]
  simp only []
  have g1 : f58.F K (0, n1, 0, [], n1, l1) = some (4 + n1, 0, [], n1, l1, 4 + n1, Sh.frame l1) := by
    have := f58.spec K 0 n1 [] l1 rfl e1 (by omega) (by omega)
    rw [Nat.zero_add, List.nil_append] at this
    exact this
  have f1_ : (Sh.frame l1).length = 4 + n1 := by rw [frame_length, e1]
  rw [Nat.zero_add, ble_true (Nat.le_refl n1), Bool.and_self, Bool.and_self, cond_t, subI_self _ e1, g1, bind_s]
  simp only []
  rw [Nat.zero_add, ble_true (Nat.le_refl (4 + n1)), Bool.and_self, Bool.and_self, cond_t, subI_self _ f1_]
  obtain ⟨B1, H1, S1, c1_, R1⟩ := f57.spec K ([] ++ Sh.frame (strL name) ++ be 4 2 ++ Sh.frame l0) (4 + n1) (Sh.frame l1) f1_ (frame_octets o1) (by omega) _ _ _ R0 (by omega)
  rw [c1_, bind_s]
  simp only []
  rw [f51.spec K _ _ _ _ R1 (by omega), bind_s]
  simp only []
  have hM : [] ++ Sh.frame (strL name) ++ be 4 2 ++ Sh.frame l0 ++ Sh.frame l1 = Sh.cut (strL name) [l0, l1] := by
    simp only [Sh.cut, List.nil_append, List.length_cons, List.length_nil, List.flatMap_cons, List.flatMap_nil, List.append_nil, List.append_assoc]
  rw [hM, ← Sh.sha]
theorem f53.spec (K : Nat) (name : ByteArray) (x : Int) (n0 : Nat) (l0 : List Int)  (hs : name.size ≤ 1000) (hx : 0 ≤ x ∧ x < 256) (e0 : l0.length = n0) (o0 : octets l0) (z0 : n0 ≤ 1000) (hK : 10000 < K) :
    f53.F K (x, name, n0, n0, l0) = some (num (tv (Sh.sha (strL name) [l0, [x]])), name, n0, n0, l0, [x]) := by
  simp only [f53.F, f53.T]
  rw [Nat.zero_add, ble_true (Nat.le_refl n0), Bool.and_self, Bool.and_self, cond_t, subI_self _ e0]
  rw [f24.spec K name n0 l0 1 [x] (by omega) e0 o0 (by omega) rfl (by intro y hy; simp only [List.mem_singleton] at hy; omega) (by omega) (by omega) (by omega) (by omega), bind_s]
  simp only []
  rw [subI_self _ (sha_length _ _), f31.spec K _ (sha_length _ _) (sha_octets _ _) (by omega), bind_s]
theorem f53v1.spec (K : Nat) (name : ByteArray) (x : Int) (n0 : Nat) (l0 : List Int) (w : List Int) (hs : name.size ≤ 1000) (hx : 0 ≤ x ∧ x < 256) (e0 : l0.length = n0) (o0 : octets l0) (z0 : n0 ≤ 1000) (hK : 10000 < K) :
    f53v1.F K (x, name, n0, n0, l0, w) = some (num (tv (Sh.sha (strL name) [l0, [x]])), name, n0, n0, l0, w, [x]) := by
  simp only [f53v1.F, f53v1.T]
  rw [Nat.zero_add, ble_true (Nat.le_refl n0), Bool.and_self, Bool.and_self, cond_t, subI_self _ e0]
  rw [f24.spec K name n0 l0 1 [x] (by omega) e0 o0 (by omega) rfl (by intro y hy; simp only [List.mem_singleton] at hy; omega) (by omega) (by omega) (by omega) (by omega), bind_s]
  simp only []
  rw [subI_self _ (sha_length _ _), f31.spec K _ (sha_length _ _) (sha_octets _ _) (by omega), bind_s]
theorem f22.spec (Q : Nat) (name : ByteArray) (n0 : Nat) (l0 : List Int) (hs : name.size ≤ 1000) (hQ : Q < 2 ^ 256) (h0 : 0 < Q) (e0 : l0.length = n0) (o0 : octets l0) (z0 : n0 ≤ 1000) :
    f22.F 100000 (num Q, name, n0, n0, l0) = some (num (Sh.number Q (strL name) [l0]), 0, n0, n0, l0) := by
  have b1 := tv_lt 32 _ (sha_length (strL name) [l0, [1]]) (sha_octets _ _)
  have b2 := tv_lt 32 _ (sha_length (strL name) [l0, [0]]) (sha_octets _ _)
  simp only [f22.F, f22.T]
  rw [f53.spec 100000 name 1 n0 l0 hs (by omega) e0 o0 z0 (by omega), bind_s]
  simp only []
  rw [f53v1.spec 100000 name 0 n0 l0 _ hs (by omega) e0 o0 z0 (by omega), bind_s]
  simp only []
  rw [f54.spec _ _ Q b1 b2 hQ h0, bind_s]
  simp only [Sh.number, List.cons_append, List.nil_append]
end Go.Proofs

namespace Go.Proofs
open Go.VM
def Dr.num (Q : Nat) (s : List Int) (n : Nat) : Nat := Sh.number (Q - 1) (strL f40.k0) [Dr.sum s n] + 1
theorem dr_lt {Q : Nat} (h : 3 ≤ Q) (s : List Int) (n : Nat) : Dr.num Q s n < Q := by
  have : Sh.number (Q - 1) (strL f40.k0) [Dr.sum s n] < Q - 1 := Nat.mod_lt _ (by omega)
  unfold Dr.num; omega
theorem f40.small (p g : List Int) (Q : Nat) (hQ : Q < 2 ^ 256) (h : Q < 3) (n : Int) (s : List Int) : f40.F 100000 (p, num Q, g, n, 1, s) = some ([0, 0, 0, 0], 1, n, 1, s) := by
  simp only [f40.F, f40.T]
  rw [f68.spec, bind_s]
  simp only []
  rw [show ((1 : Int) == 1) = true from rfl, Bool.not_true, cond_f, show f33.F 100000 3 = some (num 3) from f33.spec 100000 3 (by omega), bind_s, f35.spec 100000 Q 3 hQ (by decide) (by omega), bind_s,
    show cmp Q 3 = -1 from by rw [cmp, if_neg (by omega), if_pos h], show decide ((-1 : Int) < 0) = true from rfl, cond_t]
theorem f40.spec (p g : List Int) (Q : Nat) (hQ : Q < 2 ^ 256) (h : 3 ≤ Q) (n : Nat) (hn : n < 18446744073709551616) (s : List Int) (hs : s.length = 32) (so : octets s) :
    f40.F 100000 (p, num Q, g, (n : Int), 1, s) = some (num (Dr.num Q s n), 0, ((up64 n : Nat) : Int), 1, s) := by
  have hlt := dr_lt h s n
  simp only [f40.F, f40.T]
  rw [f68.spec, bind_s]
  simp only []
  have hc : ¬ cmp Q 3 < 0 := by
    unfold cmp; split <;> (try split) <;> omega
  rw [show ((1 : Int) == 1) = true from rfl, Bool.not_true, cond_f, show f33.F 100000 3 = some (num 3) from f33.spec 100000 3 (by omega), bind_s, f35.spec 100000 Q 3 hQ (by decide) (by omega), bind_s, decide_eq_false hc, cond_f,
    f69.spec 100000 n s hs so hn (by omega), bind_s, show f33.F 100000 1 = some (num 1) from f33.spec 100000 1 (by omega), bind_s, f67.spec 100000 Q 1 hQ (by decide) (by omega), bind_s]
  simp only []
  have e1 : num (Q + 2 ^ 256 - 1) = num (Q - 1) := by
    rw [← num_mod (Q + 2 ^ 256 - 1), show Q + 2 ^ 256 - 1 = (Q - 1) + 2 ^ 256 by omega, Nat.add_mod_right, num_mod]
  rw [e1, subI_self (Dr.sum s n) (show (Dr.sum s n).length = 32 from mac_length _ _), f22.spec (Q - 1) f40.k0 32 _ (by decide) (by omega) (by omega) (show (Dr.sum s n).length = 32 from mac_length _ _) (show octets (Dr.sum s n) from mac_octets _ _) (by omega), bind_s]
  simp only []
  rw [bind_s, f70.spec 100000 _ 1 (by omega), bind_s]
  rfl
end Go.Proofs

namespace Go.Proofs
open Go.VM
end Go.Proofs

namespace Go.Proofs
open Go.VM
theorem zero_of (X : Nat) (hX : X < 2 ^ 256) : (eqL 4 (num X) [0, 0, 0, 0] && true) = decide (X = 0) := by
  rw [show ([0, 0, 0, 0] : List Int) = num 0 from rfl, eqN X 0 hX (by decide), Bool.and_true]
theorem up_one (i : Nat) (h : i < 1000) : up64 i = i + 1 := by rw [up64, Nat.mod_eq_of_lt (by omega)]
theorem cmp_three (Q : Nat) : decide (cmp Q 3 < 0) = decide (Q < 3) := by
  unfold cmp
  by_cases h : Q < 3
  · rw [if_neg (by omega), if_pos h, decide_eq_true h]; rfl
  · by_cases h2 : Q = 3
    · rw [if_pos h2, decide_eq_false h]; rfl
    · rw [if_neg h2, if_neg h, decide_eq_false h]; rfl
end Go.Proofs

namespace Go.Proofs
open Go.VM
abbrev bv (x : Int) : BitVec 32 := BitVec.ofInt 32 x
theorem wrap_32n (n : Nat) (h : n < 4294967296) : IntKind.wrap .u32 (n : Int) = (n : Int) := by
  simp [IntKind.wrap, IntKind.signed, IntKind.bits]; omega
theorem bits_and (x y : Int) : bits .and .u32 x y = (((bv x &&& bv y).toNat : Nat) : Int) := wrap_32n _ (bv x &&& bv y).isLt
theorem bits_or (x y : Int) : bits .or .u32 x y = (((bv x ||| bv y).toNat : Nat) : Int) := wrap_32n _ (bv x ||| bv y).isLt
theorem bits_xor (x y : Int) : bits .xor .u32 x y = (((bv x ^^^ bv y).toNat : Nat) : Int) := wrap_32n _ (bv x ^^^ bv y).isLt
theorem bv_nat (v : BitVec 32) : bv ((v.toNat : Nat) : Int) = v := by rw [bv, BitVec.ofInt_natCast, BitVec.ofNat_toNat]; simp
theorem or_comm32 (x y : Int) : bits .or .u32 x y = bits .or .u32 y x := by rw [bits_or, bits_or, BitVec.or_comm]
theorem ch_same (e f g : Int) : bits .xor .u32 (bits .and .u32 e f) (bits .and .u32 (bits .xor .u32 4294967295 e) g) = bits .or .u32 (bits .and .u32 e f) (bits .and .u32 (bits .xor .u32 4294967295 e) g) := by
  have hn : bv 4294967295 = BitVec.allOnes 32 := by decide
  simp only [bits_xor, bits_or, bits_and, bv_nat, hn]
  congr 2
  ext i hi
  simp only [BitVec.getElem_xor, BitVec.getElem_or, BitVec.getElem_and, BitVec.getElem_allOnes]
  cases (bv e)[i] <;> cases (bv f)[i] <;> cases (bv g)[i] <;> rfl
theorem maj_same (a b c : Int) : bits .or .u32 (bits .or .u32 (bits .and .u32 a b) (bits .and .u32 a c)) (bits .and .u32 b c) = bits .xor .u32 (bits .and .u32 a (bits .xor .u32 b c)) (bits .and .u32 b c) := by
  simp only [bits_xor, bits_or, bits_and, bv_nat]
  congr 2
  ext i hi
  simp only [BitVec.getElem_xor, BitVec.getElem_or, BitVec.getElem_and]
  cases (bv a)[i] <;> cases (bv b)[i] <;> cases (bv c)[i] <;> rfl
theorem xor_zero_left (x y : Int) : bits .xor .u32 (bits .xor .u32 0 x) y = bits .xor .u32 x y := by
  have h0 : bv 0 = 0#32 := by decide
  simp only [bits_xor, bv_nat, h0, BitVec.zero_xor]
def Rf.round (x : Int) (n : Nat) : Int := bits .or .u32 (shiftI .shr .u32 x (n : Int)) (shiftI .shl .u32 x ((32 - n : Nat) : Int))
theorem Rf.round_rot (x : Int) (n : Nat) : Rf.round x n = Sh.rot x ((32 - n : Nat) : Int) (n : Int) := or_comm32 _ _
theorem Rf.two (x : Int) (m n : Nat) (z : Int) : bits .xor .u32 (Sh.downs x [m, n]) z = bits .xor .u32 (bits .xor .u32 (Rf.round x m) (Rf.round x n)) z := by
  simp only [Sh.downs, List.foldl_cons, List.foldl_nil, xor_zero_left, Rf.round_rot]
theorem Rf.three (x : Int) (m n o : Nat) : Sh.downs x [m, n, o] = bits .xor .u32 (bits .xor .u32 (Rf.round x m) (Rf.round x n)) (Rf.round x o) := by
  simp only [Sh.downs, List.foldl_cons, List.foldl_nil, xor_zero_left, Rf.round_rot]
def Rf.s0 (x : Int) : Int := bits .xor .u32 (bits .xor .u32 (Rf.round x 7) (Rf.round x 18)) (Int.fdiv x (2 ^ 3))
def Rf.s1 (x : Int) : Int := bits .xor .u32 (bits .xor .u32 (Rf.round x 17) (Rf.round x 19)) (Int.fdiv x (2 ^ 10))
def Rf.w (b : List Int) : Nat → Int
  | t => if t < 16 then IntKind.wrap .u32 ((tv (subI b (4 * t) 4) : Nat) : Int)
    else if h : 16 ≤ t then IntKind.wrap .u32 ((IntKind.wrap .u32 ((IntKind.wrap .u32 (Rf.w b (t - 16) + Rf.w b (t - 7))) + Rf.s0 (Rf.w b (t - 15)))) + Rf.s1 (Rf.w b (t - 2)))
    else 0
termination_by t => t
theorem wrap32_mod (z : Int) : IntKind.wrap .u32 z = z % 4294967296 := by simp [IntKind.wrap, IntKind.signed, IntKind.bits]
theorem sums32 (a b c d : Int) : IntKind.wrap .u32 ((IntKind.wrap .u32 ((IntKind.wrap .u32 (a + c)) + d)) + b) = IntKind.wrap .u32 ((IntKind.wrap .u32 ((IntKind.wrap .u32 (a + b)) + c)) + d) := by
  simp only [wrap32_mod]; omega
theorem setD_at (l : List Int) (p : Nat) (x : Int) (i : Nat) (hp : p < l.length) : (setD l p x).getD i 0 = if i = p then x else l.getD i 0 := by
  induction l generalizing p i with
  | nil => simp at hp
  | cons a l ih =>
    cases p with
    | zero => cases i <;> simp [setD]
    | succ p =>
      cases i with
      | zero => simp [setD]
      | succ i =>
        have := ih p i (by simpa using hp)
        simp only [setD, List.getD_cons_succ, this]
        by_cases h : i = p
        · rw [if_pos h, if_pos (by omega)]
        · rw [if_neg h, if_neg (by omega)]
theorem Rf.w_low (b : List Int) (t : Nat) (h : t < 16) : Rf.w b t = IntKind.wrap .u32 ((tv (subI b (4 * t) 4) : Nat) : Int) := by
  rw [Rf.w, if_pos h]
theorem Rf.w_high (b : List Int) (t : Nat) (h : 16 ≤ t) : Rf.w b t = IntKind.wrap .u32 ((IntKind.wrap .u32 ((IntKind.wrap .u32 (Rf.w b (t - 16) + Rf.w b (t - 7))) + Rf.s0 (Rf.w b (t - 15)))) + Rf.s1 (Rf.w b (t - 2))) := by
  rw [Rf.w, if_neg (by omega), dif_pos h]
theorem sched_at (w b : List Int) (t : Nat) (hl : w.length = 16) (hw : ∀ k, k < 16 → k < t → List.getD w k 0 = Rf.w b (k + (t - 1 - k) / 16 * 16)) :
    (Sh.sched w b t).length = 16 ∧ List.getD (Sh.sched w b t) (t % 16) 0 = Rf.w b t ∧ ∀ k, k ≠ t % 16 → List.getD (Sh.sched w b t) k 0 = List.getD w k 0 := by
  have hk0 : t % 16 < 16 := Nat.mod_lt _ (by decide)
  unfold Sh.sched
  by_cases h : t < 16
  · rw [if_pos h]
    refine ⟨by rw [length_setD (by omega)]; exact hl, ?_, fun k hk => ?_⟩
    · rw [setD_at _ _ _ _ (by omega), if_pos rfl, Rf.w_low b t h]
    · rw [setD_at _ _ _ _ (by omega), if_neg hk]
  · rw [if_neg h]
    dsimp only
    have x1 := hw ((t + 1) % 16) (Nat.mod_lt _ (by decide)) (by omega)
    have x14 := hw ((t + 14) % 16) (Nat.mod_lt _ (by decide)) (by omega)
    have x9 := hw ((t + 9) % 16) (Nat.mod_lt _ (by decide)) (by omega)
    have x0 := hw (t % 16) hk0 (by omega)
    rw [show (t + 1) % 16 + (t - 1 - (t + 1) % 16) / 16 * 16 = t - 15 by omega] at x1
    rw [show (t + 14) % 16 + (t - 1 - (t + 14) % 16) / 16 * 16 = t - 2 by omega] at x14
    rw [show (t + 9) % 16 + (t - 1 - (t + 9) % 16) / 16 * 16 = t - 7 by omega] at x9
    rw [show t % 16 + (t - 1 - t % 16) / 16 * 16 = t - 16 by omega] at x0
    have ne9 : (t + 9) % 16 ≠ t % 16 := by omega
    rw [x1, x14, x0]
    have L1 : ∀ v, (setD w (t % 16) v).length = 16 := fun v => by rw [length_setD (by omega)]; exact hl
    have L2 : ∀ v u, (setD (setD w (t % 16) v) (t % 16) u).length = 16 := fun v u => by rw [length_setD (by rw [L1]; omega)]; exact L1 v
    refine ⟨by rw [length_setD (by rw [L2]; omega)]; exact L2 _ _, ?_, fun k hk => ?_⟩
    · rw [setD_at _ _ _ _ (by rw [L2]; omega), if_pos rfl, setD_at _ _ _ (t % 16) (by rw [L1]; omega), if_pos rfl, setD_at _ _ _ ((t + 9) % 16) (by rw [L1]; omega), if_neg ne9, setD_at _ _ _ (t % 16) (by omega), if_pos rfl, setD_at _ _ _ ((t + 9) % 16) (by omega), if_neg ne9, x9, Rf.w_high b t (by omega),
        Rf.two, Rf.two, sums32]
      rfl
    · rw [setD_at _ _ _ _ (by rw [L2]; omega), if_neg hk, setD_at _ _ _ _ (by rw [L1]; omega), if_neg hk, setD_at _ _ _ _ (by omega), if_neg hk]
theorem window (s b : List Int) : ∀ t, (Sh.rounds s b t).2.length = 16 ∧ ∀ k, k < 16 → k < t → List.getD (Sh.rounds s b t).2 k 0 = Rf.w b (k + (t - 1 - k) / 16 * 16)
  | 0 => ⟨rfl, fun k _ hk => absurd hk (Nat.not_lt_zero k)⟩
  | t + 1 => by
    obtain ⟨hl, hw⟩ := window s b t
    obtain ⟨g1, g2, g3⟩ := sched_at _ b t hl hw
    refine ⟨g1, fun k hk hkt => ?_⟩
    show List.getD (Sh.sched (Sh.rounds s b t).2 b t) k 0 = _
    by_cases hkk : k = t % 16
    · subst hkk
      rw [g2, show t % 16 + (t + 1 - 1 - t % 16) / 16 * 16 = t by omega]
    · rw [g3 k hkk, hw k hk (by omega), show (t - 1 - k) / 16 = (t + 1 - 1 - k) / 16 by omega]
def Rf.step (b : List Int) (t : Nat) (l : List Int) : List Int :=
  let a := List.getD l 0 0
  let e := List.getD l 4 0
  let t1 := IntKind.wrap .u32 ((IntKind.wrap .u32 ((IntKind.wrap .u32 ((IntKind.wrap .u32 ((List.getD l 7 0) + (bits .xor .u32 (bits .xor .u32 (Rf.round e 6) (Rf.round e 11)) (Rf.round e 25)))) + (bits .xor .u32 (bits .and .u32 e (List.getD l 5 0)) (bits .and .u32 (bits .xor .u32 4294967295 e) (List.getD l 6 0))))) + (List.getD Sh.consts t 0))) + Rf.w b t)
  [IntKind.wrap .u32 (t1 + (IntKind.wrap .u32 ((bits .xor .u32 (bits .xor .u32 (Rf.round a 2) (Rf.round a 13)) (Rf.round a 22)) + (bits .or .u32 (bits .or .u32 (bits .and .u32 a (List.getD l 1 0)) (bits .and .u32 a (List.getD l 2 0))) (bits .and .u32 (List.getD l 1 0) (List.getD l 2 0)))))), a, List.getD l 1 0, List.getD l 2 0, IntKind.wrap .u32 (List.getD l 3 0 + t1), e, List.getD l 5 0, List.getD l 6 0]
def Rf.rounds (s b : List Int) : Nat → List Int
  | 0 => s
  | t + 1 => Rf.step b t (Rf.rounds s b t)
theorem step_same (b w v : List Int) (t : Nat) (hv : v.length = 8) (hw : List.getD (Sh.sched w b t) (t % 16) 0 = Rf.w b t) : (Sh.step b t (v, w)).1 = Rf.step b t v := by
  obtain ⟨v0, v1, v2, v3, v4, v5, v6, v7, rfl⟩ : ∃ v0 v1 v2 v3 v4 v5 v6 v7, v = [v0, v1, v2, v3, v4, v5, v6, v7] := by
    match v, hv with
    | [v0, v1, v2, v3, v4, v5, v6, v7], _ => exact ⟨v0, v1, v2, v3, v4, v5, v6, v7, rfl⟩
  unfold Sh.step Rf.step
  dsimp only
  rw [hw, Rf.three, Rf.three]
  have g0 : List.getD [v0, v1, v2, v3, v4, v5, v6, v7] 0 0 = v0 := rfl
  have g1 : List.getD [v0, v1, v2, v3, v4, v5, v6, v7] 1 0 = v1 := rfl
  have g2 : List.getD [v0, v1, v2, v3, v4, v5, v6, v7] 2 0 = v2 := rfl
  have g3 : List.getD [v0, v1, v2, v3, v4, v5, v6, v7] 3 0 = v3 := rfl
  have g4 : List.getD [v0, v1, v2, v3, v4, v5, v6, v7] 4 0 = v4 := rfl
  have g5 : List.getD [v0, v1, v2, v3, v4, v5, v6, v7] 5 0 = v5 := rfl
  have g6 : List.getD [v0, v1, v2, v3, v4, v5, v6, v7] 6 0 = v6 := rfl
  have g7 : List.getD [v0, v1, v2, v3, v4, v5, v6, v7] 7 0 = v7 := rfl
  have e : spl [v0, v1, v2, v3, v4, v5, v6, v7] 1 7 (subI [v0, v1, v2, v3, v4, v5, v6, v7] 0 7) = [v0, v0, v1, v2, v3, v4, v5, v6] := rfl
  rw [e, g0, g1, g2, g3, g4, g5, g6, g7, ← ch_same, ← maj_same]
  rfl
theorem step_len (b : List Int) (t : Nat) (l : List Int) : (Rf.step b t l).length = 8 := rfl
theorem rounds_same (s b : List Int) (hs : s.length = 8) : ∀ t, (Sh.rounds s b t).1 = Rf.rounds s b t ∧ (Rf.rounds s b t).length = 8
  | 0 => ⟨rfl, hs⟩
  | t + 1 => by
    obtain ⟨h1, h2⟩ := rounds_same s b hs t
    obtain ⟨hl, hw⟩ := window s b t
    obtain ⟨_, g2, _⟩ := sched_at _ b t hl hw
    refine ⟨?_, step_len _ _ _⟩
    show (Sh.step b t (Sh.rounds s b t)).1 = Rf.step b t (Rf.rounds s b t)
    rw [← h1]
    exact step_same b (Sh.rounds s b t).2 (Sh.rounds s b t).1 t (by rw [h1]; exact h2) g2
theorem comp_same (s b : List Int) (hs : s.length = 8) : Sh.comp s b = Sh.added s (Rf.rounds s b 64) 8 := by
  rw [Sh.comp, (rounds_same s b hs 64).1]
end Go.Proofs

namespace Go.Proofs
open Go.VM
def f79.T (_K : Nat)  : Option (List Int) :=
  some ([1116352408, 1899447441, 3049323471, 3921009573, 961987163, 1508970993, 2453635748, 2870763221, 3624381080, 310598401, 607225278, 1426881987, 1925078388, 2162078206, 2614888103, 3248222580, 3835390401, 4022224774, 264347078, 604807628, 770255983, 1249150122, 1555081692, 1996064986, 2554220882, 2821834349, 2952996808, 3210313671, 3336571891, 3584528711, 113926993, 338241895, 666307205, 773529912, 1294757372, 1396182291, 1695183700, 1986661051, 2177026350, 2456956037, 2730485921, 2820302411, 3259730800, 3345764771, 3516065817, 3600352804, 4094571909, 275423344, 430227734, 506948616, 659060556, 883997877, 958139571, 1322822218, 1537002063, 1747873779, 1955562222, 2024104815, 2227730452, 2361852424, 2428436474, 2756734187, 3204031479, 3329325298])
def f79.F (K : Nat) (_x : Unit) : Option (List Int) := f79.T K
def f79.av (_x : Unit) : List VV := []
def f79.bl (_x : Unit) : List (Nat × Blk) := []
def f79.inA : VS → Option (Unit)
  | ⟨[], [], 0⟩ => some ()
  | _ => none
def f79.o0 (y : List Int) : VS := ⟨[(0, .sl 0 0 64 64)], [(0, ([.ints .u32 64 y], 111, .norm))], 1⟩
def f79.inR : VS → Option (List Int)
  | ⟨[(0, .sl 0 0 64 64)], [(0, ([.ints .u32 64 z0], 111, .norm))], 1⟩ => some z0
  | _ => none
noncomputable def f79.E (K : Nat) : Entry := genE 0 f79.inA (f79.F K) (dv1 f79.o0)
theorem f79.ok (K : Nat) : EntryOK Try.prog 79 (f79.E K) := gen_ok mix tys_ok (tab_ok ( tab_nil)) Try.func79 (c := bodyOf Try.f79) (by kernel_rfl) (by kernel_rfl) (loops_none (lp := lpNone) (by kernel_rfl)) (av := f79.av) (bl := f79.bl) (inR := f79.inR) (out := f79.o0) (fuel := 400)
  (by intro s x h; unfold f79.inA at h; split at h <;> simp at h; rfl) (fun _ => Nat.le_of_ble_eq_true rfl)
  (by intro s y h; unfold f79.inR at h; split at h <;> simp at h <;> subst h <;> rfl) (fun _ _ _ => rfl) (fun _ => by kernel_rfl)
end Go.Proofs

namespace Go.Proofs
open Go.VM
def f97.T (_K : Nat) (a0 : Int) (a1 : Int) : Option (Int) :=
  bif decide (0 ≤ a1) then
    let v2 := IntKind.wrap .u64 (32 - a1)
    bif decide (0 ≤ v2) then
      some (bits .or .u32 (shiftI .shr .u32 a0 a1) (shiftI .shl .u32 a0 v2))
    else
      none
  else
    none
def f97.F (K : Nat) (x : Int × Int) : Option (Int) := f97.T K x.1 x.2
def f97.av (x : Int × Int) : List VV := [.int .u32 x.1, .int .u64 x.2]
def f97.bl (_x : Int × Int) : List (Nat × Blk) := []
def f97.inA : VS → Option (Int × Int)
  | ⟨[(0, .int .u32 a0), (1, .int .u64 a1)], [], 0⟩ => some (a0, a1)
  | _ => none
def f97.o0 (y : Int) : VS := ⟨[(0, .int .u32 y)], [], 0⟩
def f97.inR : VS → Option (Int)
  | ⟨[(0, .int .u32 y)], [], 0⟩ => some y
  | _ => none
noncomputable def f97.E (K : Nat) : Entry := genE 0 f97.inA (f97.F K) (dv1 f97.o0)
theorem f97.ok (K : Nat) : EntryOK Try.prog 97 (f97.E K) := gen_ok mix tys_ok (tab_ok ( tab_nil)) Try.func97 (c := bodyOf Try.f97) (by kernel_rfl) (by kernel_rfl) (loops_none (lp := lpNone) (by kernel_rfl)) (av := f97.av) (bl := f97.bl) (inR := f97.inR) (out := f97.o0) (fuel := 400)
  (by intro s x h; unfold f97.inA at h; split at h <;> simp at h; subst h; rfl) (fun _ => Nat.le_of_ble_eq_true rfl)
  (by intro s y h; unfold f97.inR at h; split at h <;> simp at h <;> subst h <;> rfl) (fun _ _ _ => rfl) (fun _ => by kernel_rfl)
end Go.Proofs

namespace Go.Proofs
open Go.VM
abbrev f80.Ty0 := Nat × Int × Nat × List Int × Nat × List Int × List Int × List Int × List Int × List Int
abbrev f80.Ty1 := Nat × Nat × Int × Nat × List Int × Nat × List Int × List Int × List Int × List Int
abbrev f80.Ty2 := Nat × Int × Nat × List Int × Nat × List Int × List Int × List Int × List Int
abbrev f80.Ty3 := Nat × Nat × List Int × Nat × List Int × List Int × List Int × List Int
abbrev f80.Ty4 := Int × Nat × List Int × Nat × List Int × List Int × List Int × List Int
abbrev f80.Ty5 := Nat × List Int × Nat × List Int × List Int × List Int × List Int
abbrev f80.Ty6 := List Int × Nat × Nat × Nat × List Int × Nat × List Int
abbrev f80.Ty7 := Nat × List Int × Nat × List Int × List Int × List Int
abbrev f80.Ty8 := List Int × Nat × List Int × Nat × List Int
noncomputable def f80.c : Code := bodyOf Try.f80
def f80.s0t (_K : Nat) (rec : f80.Ty1 → Option (f80.Ty3)) (t1 : Nat) (t2 : Nat) (t8 : Int) (b0_0 : Nat) (b0_1 : List Int) (b2_0 : Nat) (b2_1 : List Int) (b4 : List Int) (b5 : List Int) (b6 : List Int) : Option (f80.Ty3) :=
  bif (decide (t8 < 16)) then
    let v2 := IntKind.wrap .i64 (4 * t8)
    bif decide (0 ≤ v2 ∧ v2 < ((t1 : Nat) : Int)) then
      let v3 := 0 + (Int.toNat v2)
      bif Nat.blt v3 b0_0 then
        let v8 := IntKind.wrap .i64 ((IntKind.wrap .i64 (4 * t8)) + 1)
        bif decide (0 ≤ v8 ∧ v8 < ((t1 : Nat) : Int)) then
          let v9 := 0 + (Int.toNat v8)
          bif Nat.blt v9 b0_0 then
            let v15 := IntKind.wrap .i64 ((IntKind.wrap .i64 (4 * t8)) + 2)
            bif decide (0 ≤ v15 ∧ v15 < ((t1 : Nat) : Int)) then
              let v16 := 0 + (Int.toNat v15)
              bif Nat.blt v16 b0_0 then
                let v22 := IntKind.wrap .i64 ((IntKind.wrap .i64 (4 * t8)) + 3)
                bif decide (0 ≤ v22 ∧ v22 < ((t1 : Nat) : Int)) then
                  let v23 := 0 + (Int.toNat v22)
                  bif Nat.blt v23 b0_0 then
                    bif decide (0 ≤ t8 ∧ t8 < 64) then
                      rec (t1, t2, (IntKind.wrap .i64 (t8 + 1)), b0_0, b0_1, b2_0, b2_1, b4, b5, (setD b6 (Int.toNat t8) (bits .or .u32 (bits .or .u32 (bits .or .u32 (IntKind.wrap .u32 ((IntKind.wrap .u32 (List.getD b0_1 v3 0)) * 2 ^ 24)) (IntKind.wrap .u32 ((IntKind.wrap .u32 (List.getD b0_1 v9 0)) * 2 ^ 16))) (IntKind.wrap .u32 ((IntKind.wrap .u32 (List.getD b0_1 v16 0)) * 2 ^ 8))) (IntKind.wrap .u32 (List.getD b0_1 v23 0)))))
                    else
                      none
                  else
                    none
                else
                  none
              else
                none
            else
              none
          else
            none
        else
          none
      else
        none
    else
      none
  else
    some (t2, b0_0, b0_1, b2_0, b2_1, b4, b5, b6)
def f80.s0 (K : Nat) (rec : f80.Ty1 → Option (f80.Ty3)) (x : f80.Ty1) : Option (f80.Ty3) := f80.s0t K rec x.1 x.2.1 x.2.2.1 x.2.2.2.1 x.2.2.2.2.1 x.2.2.2.2.2.1 x.2.2.2.2.2.2.1 x.2.2.2.2.2.2.2.1 x.2.2.2.2.2.2.2.2.1 x.2.2.2.2.2.2.2.2.2
noncomputable def f80.s0.b : Code := (findLoop 0 f80.c).getD .skip
def f80.s0.h : Hint := { lv := [1, 2, 3, 6, 7, 8] }
def f80.s0.ho : Hint := { lv := [2, 3, 6, 7] }
def f80.s0.shp (x : f80.Ty1) : VS := ⟨[(1, .vw true 0 0 x.1 1), (2, .vw true 2 0 x.2.1 3), (3, .ptr 4 0), (6, .ptr 5 0), (7, .ptr 6 0), (8, .int .i64 x.2.2.1)], [(0, ([.ints .u8 x.2.2.2.1 x.2.2.2.2.1], 0, .ro)), (2, ([.ints .u32 x.2.2.2.2.2.1 x.2.2.2.2.2.2.1], 0, .ro)), (4, ([.ints .u32 8 x.2.2.2.2.2.2.2.1], 112, .norm)), (5, ([.ints .u32 8 x.2.2.2.2.2.2.2.2.1], 112, .norm)), (6, ([.ints .u32 64 x.2.2.2.2.2.2.2.2.2], 139, .norm))], 7⟩
def f80.s0.inX : VS → Option (f80.Ty1)
  | ⟨[(1, .vw true 0 0 t1 1), (2, .vw true 2 0 t2 3), (3, .ptr 4 0), (6, .ptr 5 0), (7, .ptr 6 0), (8, .int .i64 t8)], [(0, ([.ints .u8 b0_0 b0_1], 0, .ro)), (2, ([.ints .u32 b2_0 b2_1], 0, .ro)), (4, ([.ints .u32 8 b4], 112, .norm)), (5, ([.ints .u32 8 b5], 112, .norm)), (6, ([.ints .u32 64 b6], 139, .norm))], 7⟩ => some (t1, t2, t8, b0_0, b0_1, b2_0, b2_1, b4, b5, b6)
  | _ => none
def f80.s0.o0 (y : f80.Ty3) : VS := ⟨[(2, .vw true 2 0 y.1 3), (3, .ptr 4 0), (6, .ptr 5 0), (7, .ptr 6 0)], [(0, ([.ints .u8 y.2.1 y.2.2.1], 0, .ro)), (2, ([.ints .u32 y.2.2.2.1 y.2.2.2.2.1], 0, .ro)), (4, ([.ints .u32 8 y.2.2.2.2.2.1], 112, .norm)), (5, ([.ints .u32 8 y.2.2.2.2.2.2.1], 112, .norm)), (6, ([.ints .u32 64 y.2.2.2.2.2.2.2], 139, .norm))], 7⟩
def f80.s0.des : ∀ α : Type, (f80.Ty3) → (Ex → VS → Option α) → Option α := (des1 (.exit 0) f80.s0.o0)
def f80.s0.out : f80.Ty3 → Ex × VS := (fun y => (.exit 0, f80.s0.o0 y))
theorem f80.s0.desOK : ∀ α y (k : Ex → VS → Option α), f80.s0.des α y k = k (f80.s0.out y).1 (f80.s0.out y).2 := (fun _ _ _ => rfl)
def f80.s0.inY : Ex → VS → Option (f80.Ty3)
  | .exit 0, ⟨[(2, .vw true 2 0 t2 3), (3, .ptr 4 0), (6, .ptr 5 0), (7, .ptr 6 0)], [(0, ([.ints .u8 b0_0 b0_1], 0, .ro)), (2, ([.ints .u32 b2_0 b2_1], 0, .ro)), (4, ([.ints .u32 8 b4], 112, .norm)), (5, ([.ints .u32 8 b5], 112, .norm)), (6, ([.ints .u32 64 b6], 139, .norm))], 7⟩ => some (t2, b0_0, b0_1, b2_0, b2_1, b4, b5, b6)
  | _, _ => none
def f80.s2t (K : Nat) (rec : f80.Ty2 → Option (f80.Ty3)) (t2 : Nat) (t9 : Int) (b0_0 : Nat) (b0_1 : List Int) (b2_0 : Nat) (b2_1 : List Int) (b4 : List Int) (b5 : List Int) (b6 : List Int) : Option (f80.Ty3) :=
  bif (decide (t9 < 64)) then
    let v32 := IntKind.wrap .i64 (t9 - 15)
    bif decide (0 ≤ v32 ∧ v32 < 64) then
      let v34 := List.getD b6 (Int.toNat v32) 0
      let v35 := IntKind.wrap .i64 (t9 - 2)
      bif decide (0 ≤ v35 ∧ v35 < 64) then
        let v37 := List.getD b6 (Int.toNat v35) 0
        let v38 := IntKind.wrap .i64 (t9 - 16)
        bif decide (0 ≤ v38 ∧ v38 < 64) then
          let v41 := IntKind.wrap .i64 (t9 - 7)
          bif decide (0 ≤ v41 ∧ v41 < 64) then
            (f97.F K (v34, 7)).bind fun y45 =>
            (f97.F K (v34, 18)).bind fun y46 =>
            (f97.F K (v37, 17)).bind fun y51 =>
            (f97.F K (v37, 19)).bind fun y52 =>
            bif decide (0 ≤ t9 ∧ t9 < 64) then
              rec (t2, (IntKind.wrap .i64 (t9 + 1)), b0_0, b0_1, b2_0, b2_1, b4, b5, (setD b6 (Int.toNat t9) (IntKind.wrap .u32 ((IntKind.wrap .u32 ((IntKind.wrap .u32 ((List.getD b6 (Int.toNat v38) 0) + (List.getD b6 (Int.toNat v41) 0))) + (bits .xor .u32 (bits .xor .u32 y45 y46) (Int.fdiv v34 (2 ^ 3))))) + (bits .xor .u32 (bits .xor .u32 y51 y52) (Int.fdiv v37 (2 ^ 10)))))))
            else
              none
          else
            none
        else
          none
      else
        none
    else
      none
  else
    some (t2, b0_0, b0_1, b2_0, b2_1, b4, b5, b6)
def f80.s2 (K : Nat) (rec : f80.Ty2 → Option (f80.Ty3)) (x : f80.Ty2) : Option (f80.Ty3) := f80.s2t K rec x.1 x.2.1 x.2.2.1 x.2.2.2.1 x.2.2.2.2.1 x.2.2.2.2.2.1 x.2.2.2.2.2.2.1 x.2.2.2.2.2.2.2.1 x.2.2.2.2.2.2.2.2
noncomputable def f80.s2.b : Code := (findLoop 2 f80.c).getD .skip
def f80.s2.h : Hint := { lv := [2, 3, 6, 7, 9] }
def f80.s2.ho : Hint := { lv := [2, 3, 6, 7] }
def f80.s2.shp (x : f80.Ty2) : VS := ⟨[(2, .vw true 2 0 x.1 3), (3, .ptr 4 0), (6, .ptr 5 0), (7, .ptr 6 0), (9, .int .i64 x.2.1)], [(0, ([.ints .u8 x.2.2.1 x.2.2.2.1], 0, .ro)), (2, ([.ints .u32 x.2.2.2.2.1 x.2.2.2.2.2.1], 0, .ro)), (4, ([.ints .u32 8 x.2.2.2.2.2.2.1], 112, .norm)), (5, ([.ints .u32 8 x.2.2.2.2.2.2.2.1], 112, .norm)), (6, ([.ints .u32 64 x.2.2.2.2.2.2.2.2], 139, .norm))], 7⟩
def f80.s2.inX : VS → Option (f80.Ty2)
  | ⟨[(2, .vw true 2 0 t2 3), (3, .ptr 4 0), (6, .ptr 5 0), (7, .ptr 6 0), (9, .int .i64 t9)], [(0, ([.ints .u8 b0_0 b0_1], 0, .ro)), (2, ([.ints .u32 b2_0 b2_1], 0, .ro)), (4, ([.ints .u32 8 b4], 112, .norm)), (5, ([.ints .u32 8 b5], 112, .norm)), (6, ([.ints .u32 64 b6], 139, .norm))], 7⟩ => some (t2, t9, b0_0, b0_1, b2_0, b2_1, b4, b5, b6)
  | _ => none
def f80.s2.o0 (y : f80.Ty3) : VS := ⟨[(2, .vw true 2 0 y.1 3), (3, .ptr 4 0), (6, .ptr 5 0), (7, .ptr 6 0)], [(0, ([.ints .u8 y.2.1 y.2.2.1], 0, .ro)), (2, ([.ints .u32 y.2.2.2.1 y.2.2.2.2.1], 0, .ro)), (4, ([.ints .u32 8 y.2.2.2.2.2.1], 112, .norm)), (5, ([.ints .u32 8 y.2.2.2.2.2.2.1], 112, .norm)), (6, ([.ints .u32 64 y.2.2.2.2.2.2.2], 139, .norm))], 7⟩
def f80.s2.des : ∀ α : Type, (f80.Ty3) → (Ex → VS → Option α) → Option α := (des1 (.exit 2) f80.s2.o0)
def f80.s2.out : f80.Ty3 → Ex × VS := (fun y => (.exit 2, f80.s2.o0 y))
theorem f80.s2.desOK : ∀ α y (k : Ex → VS → Option α), f80.s2.des α y k = k (f80.s2.out y).1 (f80.s2.out y).2 := (fun _ _ _ => rfl)
def f80.s2.inY : Ex → VS → Option (f80.Ty3)
  | .exit 2, ⟨[(2, .vw true 2 0 t2 3), (3, .ptr 4 0), (6, .ptr 5 0), (7, .ptr 6 0)], [(0, ([.ints .u8 b0_0 b0_1], 0, .ro)), (2, ([.ints .u32 b2_0 b2_1], 0, .ro)), (4, ([.ints .u32 8 b4], 112, .norm)), (5, ([.ints .u32 8 b5], 112, .norm)), (6, ([.ints .u32 64 b6], 139, .norm))], 7⟩ => some (t2, b0_0, b0_1, b2_0, b2_1, b4, b5, b6)
  | _, _ => none
def f80.s4t (K : Nat) (rec : f80.Ty0 → Option (f80.Ty5)) (t2 : Nat) (t13 : Int) (b0_0 : Nat) (b0_1 : List Int) (b2_0 : Nat) (b2_1 : List Int) (b4 : List Int) (b5 : List Int) (b6 : List Int) (b7 : List Int) : Option (f80.Ty5) :=
  bif (decide (t13 < 64)) then
    let v63 := List.getD b7 0 0
    let v64 := List.getD b7 4 0
    (f97.F K (v64, 6)).bind fun y66 =>
    (f97.F K (v64, 11)).bind fun y67 =>
    (f97.F K (v64, 25)).bind fun y69 =>
    bif decide (0 ≤ t13 ∧ t13 < ((t2 : Nat) : Int)) then
      let v79 := 0 + (Int.toNat t13)
      bif Nat.blt v79 b2_0 then
        bif decide (0 ≤ t13 ∧ t13 < 64) then
          let v84 := IntKind.wrap .u32 ((IntKind.wrap .u32 ((IntKind.wrap .u32 ((IntKind.wrap .u32 ((List.getD b7 7 0) + (bits .xor .u32 (bits .xor .u32 y66 y67) y69))) + (bits .xor .u32 (bits .and .u32 v64 (List.getD b7 5 0)) (bits .and .u32 (bits .xor .u32 4294967295 v64) (List.getD b7 6 0))))) + (List.getD b2_1 v79 0))) + (List.getD b6 (Int.toNat t13) 0))
          (f97.F K (v63, 2)).bind fun y85 =>
          (f97.F K (v63, 13)).bind fun y86 =>
          (f97.F K (v63, 22)).bind fun y88 =>
          rec (t2, (IntKind.wrap .i64 (t13 + 1)), b0_0, b0_1, b2_0, b2_1, b4, b5, b6, [(IntKind.wrap .u32 (v84 + (IntKind.wrap .u32 ((bits .xor .u32 (bits .xor .u32 y85 y86) y88) + (bits .or .u32 (bits .or .u32 (bits .and .u32 v63 (List.getD b7 1 0)) (bits .and .u32 v63 (List.getD b7 2 0))) (bits .and .u32 (List.getD b7 1 0) (List.getD b7 2 0))))))), v63, (List.getD b7 1 0), (List.getD b7 2 0), (IntKind.wrap .u32 ((List.getD b7 3 0) + v84)), v64, (List.getD b7 5 0), (List.getD b7 6 0)])
        else
          none
      else
        none
    else
      none
  else
    some (b0_0, b0_1, b2_0, b2_1, b4, b5, b7)
def f80.s4 (K : Nat) (rec : f80.Ty0 → Option (f80.Ty5)) (x : f80.Ty0) : Option (f80.Ty5) := f80.s4t K rec x.1 x.2.1 x.2.2.1 x.2.2.2.1 x.2.2.2.2.1 x.2.2.2.2.2.1 x.2.2.2.2.2.2.1 x.2.2.2.2.2.2.2.1 x.2.2.2.2.2.2.2.2.1 x.2.2.2.2.2.2.2.2.2
noncomputable def f80.s4.b : Code := (findLoop 4 f80.c).getD .skip
def f80.s4.h : Hint := { lv := [2, 3, 6, 7, 12, 13] }
def f80.s4.ho : Hint := { lv := [3, 6, 12] }
def f80.s4.shp (x : f80.Ty0) : VS := ⟨[(2, .vw true 2 0 x.1 3), (3, .ptr 4 0), (6, .ptr 5 0), (7, .ptr 6 0), (12, .ptr 7 0), (13, .int .i64 x.2.1)], [(0, ([.ints .u8 x.2.2.1 x.2.2.2.1], 0, .ro)), (2, ([.ints .u32 x.2.2.2.2.1 x.2.2.2.2.2.1], 0, .ro)), (4, ([.ints .u32 8 x.2.2.2.2.2.2.1], 112, .norm)), (5, ([.ints .u32 8 x.2.2.2.2.2.2.2.1], 112, .norm)), (6, ([.ints .u32 64 x.2.2.2.2.2.2.2.2.1], 139, .norm)), (7, ([.ints .u32 8 x.2.2.2.2.2.2.2.2.2], 112, .norm))], 8⟩
def f80.s4.inX : VS → Option (f80.Ty0)
  | ⟨[(2, .vw true 2 0 t2 3), (3, .ptr 4 0), (6, .ptr 5 0), (7, .ptr 6 0), (12, .ptr 7 0), (13, .int .i64 t13)], [(0, ([.ints .u8 b0_0 b0_1], 0, .ro)), (2, ([.ints .u32 b2_0 b2_1], 0, .ro)), (4, ([.ints .u32 8 b4], 112, .norm)), (5, ([.ints .u32 8 b5], 112, .norm)), (6, ([.ints .u32 64 b6], 139, .norm)), (7, ([.ints .u32 8 b7], 112, .norm))], 8⟩ => some (t2, t13, b0_0, b0_1, b2_0, b2_1, b4, b5, b6, b7)
  | _ => none
def f80.s4.o0 (y : f80.Ty5) : VS := ⟨[(3, .ptr 4 0), (6, .ptr 5 0), (12, .ptr 6 0)], [(0, ([.ints .u8 y.1 y.2.1], 0, .ro)), (2, ([.ints .u32 y.2.2.1 y.2.2.2.1], 0, .ro)), (4, ([.ints .u32 8 y.2.2.2.2.1], 112, .norm)), (5, ([.ints .u32 8 y.2.2.2.2.2.1], 112, .norm)), (6, ([.ints .u32 8 y.2.2.2.2.2.2], 112, .norm))], 7⟩
def f80.s4.des : ∀ α : Type, (f80.Ty5) → (Ex → VS → Option α) → Option α := (des1 (.exit 4) f80.s4.o0)
def f80.s4.out : f80.Ty5 → Ex × VS := (fun y => (.exit 4, f80.s4.o0 y))
theorem f80.s4.desOK : ∀ α y (k : Ex → VS → Option α), f80.s4.des α y k = k (f80.s4.out y).1 (f80.s4.out y).2 := (fun _ _ _ => rfl)
def f80.s4.inY : Ex → VS → Option (f80.Ty5)
  | .exit 4, ⟨[(3, .ptr 4 0), (6, .ptr 5 0), (12, .ptr 6 0)], [(0, ([.ints .u8 b0_0 b0_1], 0, .ro)), (2, ([.ints .u32 b2_0 b2_1], 0, .ro)), (4, ([.ints .u32 8 b4], 112, .norm)), (5, ([.ints .u32 8 b5], 112, .norm)), (6, ([.ints .u32 8 b6], 112, .norm))], 7⟩ => some (b0_0, b0_1, b2_0, b2_1, b4, b5, b6)
  | _, _ => none
def f80.s6t (_K : Nat) (rec : f80.Ty4 → Option (f80.Ty7)) (t18 : Int) (b0_0 : Nat) (b0_1 : List Int) (b2_0 : Nat) (b2_1 : List Int) (b4 : List Int) (b5 : List Int) (b6 : List Int) : Option (f80.Ty7) :=
  bif (decide (t18 < 8)) then
    bif decide (0 ≤ t18 ∧ t18 < 8) then
      bif decide (0 ≤ t18 ∧ t18 < 8) then
        bif decide (0 ≤ t18 ∧ t18 < 8) then
          rec ((IntKind.wrap .i64 (t18 + 1)), b0_0, b0_1, b2_0, b2_1, b4, b5, (setD b6 (Int.toNat t18) (IntKind.wrap .u32 ((List.getD b6 (Int.toNat t18) 0) + (List.getD b4 (Int.toNat t18) 0)))))
        else
          none
      else
        none
    else
      none
  else
    some (b0_0, b0_1, b2_0, b2_1, b5, b6)
def f80.s6 (K : Nat) (rec : f80.Ty4 → Option (f80.Ty7)) (x : f80.Ty4) : Option (f80.Ty7) := f80.s6t K rec x.1 x.2.1 x.2.2.1 x.2.2.2.1 x.2.2.2.2.1 x.2.2.2.2.2.1 x.2.2.2.2.2.2.1 x.2.2.2.2.2.2.2
noncomputable def f80.s6.b : Code := (findLoop 6 f80.c).getD .skip
def f80.s6.h : Hint := { lv := [3, 6, 12, 18] }
def f80.s6.ho : Hint := { lv := [6, 12] }
def f80.s6.shp (x : f80.Ty4) : VS := ⟨[(3, .ptr 4 0), (6, .ptr 5 0), (12, .ptr 6 0), (18, .int .i64 x.1)], [(0, ([.ints .u8 x.2.1 x.2.2.1], 0, .ro)), (2, ([.ints .u32 x.2.2.2.1 x.2.2.2.2.1], 0, .ro)), (4, ([.ints .u32 8 x.2.2.2.2.2.1], 112, .norm)), (5, ([.ints .u32 8 x.2.2.2.2.2.2.1], 112, .norm)), (6, ([.ints .u32 8 x.2.2.2.2.2.2.2], 112, .norm))], 7⟩
def f80.s6.inX : VS → Option (f80.Ty4)
  | ⟨[(3, .ptr 4 0), (6, .ptr 5 0), (12, .ptr 6 0), (18, .int .i64 t18)], [(0, ([.ints .u8 b0_0 b0_1], 0, .ro)), (2, ([.ints .u32 b2_0 b2_1], 0, .ro)), (4, ([.ints .u32 8 b4], 112, .norm)), (5, ([.ints .u32 8 b5], 112, .norm)), (6, ([.ints .u32 8 b6], 112, .norm))], 7⟩ => some (t18, b0_0, b0_1, b2_0, b2_1, b4, b5, b6)
  | _ => none
def f80.s6.o0 (y : f80.Ty7) : VS := ⟨[(6, .ptr 4 0), (12, .ptr 5 0)], [(0, ([.ints .u8 y.1 y.2.1], 0, .ro)), (2, ([.ints .u32 y.2.2.1 y.2.2.2.1], 0, .ro)), (4, ([.ints .u32 8 y.2.2.2.2.1], 112, .norm)), (5, ([.ints .u32 8 y.2.2.2.2.2], 112, .norm))], 6⟩
def f80.s6.des : ∀ α : Type, (f80.Ty7) → (Ex → VS → Option α) → Option α := (des1 (.exit 6) f80.s6.o0)
def f80.s6.out : f80.Ty7 → Ex × VS := (fun y => (.exit 6, f80.s6.o0 y))
theorem f80.s6.desOK : ∀ α y (k : Ex → VS → Option α), f80.s6.des α y k = k (f80.s6.out y).1 (f80.s6.out y).2 := (fun _ _ _ => rfl)
def f80.s6.inY : Ex → VS → Option (f80.Ty7)
  | .exit 6, ⟨[(6, .ptr 4 0), (12, .ptr 5 0)], [(0, ([.ints .u8 b0_0 b0_1], 0, .ro)), (2, ([.ints .u32 b2_0 b2_1], 0, .ro)), (4, ([.ints .u32 8 b4], 112, .norm)), (5, ([.ints .u32 8 b5], 112, .norm))], 6⟩ => some (b0_0, b0_1, b2_0, b2_1, b4, b5)
  | _, _ => none
def f80.lp (K : Nat) : Nat → Option (Hint × Summ) := tabLp [(0, f80.s0.h, summOf (iter (f80.s0 K) K) f80.s0.inX f80.s0.des), (2, f80.s2.h, summOf (iter (f80.s2 K) K) f80.s2.inX f80.s2.des), (4, f80.s4.h, summOf (iter (f80.s4 K) K) f80.s4.inX f80.s4.des), (6, f80.s6.h, summOf (iter (f80.s6 K) K) f80.s6.inX f80.s6.des)]
noncomputable def f80.tab (K : Nat) : List (Nat × Entry) := [(97, (f97.E K))]
theorem f80.tabOK (K : Nat) : SpecOK Try.prog (tabSp (f80.tab K)) := tab_ok ((tab_cons (f97.ok K) tab_nil))
theorem f80.s0.eq (K : Nat) (rec : f80.Ty1 → Option (f80.Ty3)) (x : f80.Ty1) : f80.s0 K rec x = roundL (getA tys) (tabSp (f80.tab K)) 195 4 (f80.lp K) 400 f80.s0.b f80.s0.h f80.s0.ho f80.s0.shp f80.s0.inX f80.s0.inY rec x := by kernel_rfl
theorem f80.s0.lok (K : Nat) : LoopsOK Try.prog 195 4 (f80.lp K) f80.s0.b := loops_ok (by
  have h : loopsIn (f80.lp K) f80.s0.b = [] := by kernel_rfl
  rw [h]; simp)
theorem f80.s0.ok (K : Nat) : SummOK Try.prog 195 4 (summOf (iter (f80.s0 K) K) f80.s0.inX f80.s0.des) f80.s0.b :=
  loop_ok mix tys_ok (f80.tabOK K) (h := f80.s0.h) (ho := f80.s0.ho) (shp := f80.s0.shp) (inX := f80.s0.inX) (des := f80.s0.des) (out := f80.s0.out) (inY := f80.s0.inY) (fuel := 400)
    (by intro st x h; unfold f80.s0.inX at h; split at h <;> simp at h; subst h; rfl)
    (by intro e st y h; unfold f80.s0.inY at h; split at h <;> simp at h <;> subst h <;> rfl)
    f80.s0.desOK (f80.s0.lok K) (f80.s0 K) (f80.s0.eq K) K
theorem f80.s2.eq (K : Nat) (rec : f80.Ty2 → Option (f80.Ty3)) (x : f80.Ty2) : f80.s2 K rec x = roundL (getA tys) (tabSp (f80.tab K)) 195 4 (f80.lp K) 400 f80.s2.b f80.s2.h f80.s2.ho f80.s2.shp f80.s2.inX f80.s2.inY rec x := by kernel_rfl
theorem f80.s2.lok (K : Nat) : LoopsOK Try.prog 195 4 (f80.lp K) f80.s2.b := loops_ok (by
  have h : loopsIn (f80.lp K) f80.s2.b = [] := by kernel_rfl
  rw [h]; simp)
theorem f80.s2.ok (K : Nat) : SummOK Try.prog 195 4 (summOf (iter (f80.s2 K) K) f80.s2.inX f80.s2.des) f80.s2.b :=
  loop_ok mix tys_ok (f80.tabOK K) (h := f80.s2.h) (ho := f80.s2.ho) (shp := f80.s2.shp) (inX := f80.s2.inX) (des := f80.s2.des) (out := f80.s2.out) (inY := f80.s2.inY) (fuel := 400)
    (by intro st x h; unfold f80.s2.inX at h; split at h <;> simp at h; subst h; rfl)
    (by intro e st y h; unfold f80.s2.inY at h; split at h <;> simp at h <;> subst h <;> rfl)
    f80.s2.desOK (f80.s2.lok K) (f80.s2 K) (f80.s2.eq K) K
theorem f80.s4.eq (K : Nat) (rec : f80.Ty0 → Option (f80.Ty5)) (x : f80.Ty0) : f80.s4 K rec x = roundL (getA tys) (tabSp (f80.tab K)) 195 4 (f80.lp K) 400 f80.s4.b f80.s4.h f80.s4.ho f80.s4.shp f80.s4.inX f80.s4.inY rec x := by kernel_rfl
theorem f80.s4.lok (K : Nat) : LoopsOK Try.prog 195 4 (f80.lp K) f80.s4.b := loops_ok (by
  have h : loopsIn (f80.lp K) f80.s4.b = [] := by kernel_rfl
  rw [h]; simp)
theorem f80.s4.ok (K : Nat) : SummOK Try.prog 195 4 (summOf (iter (f80.s4 K) K) f80.s4.inX f80.s4.des) f80.s4.b :=
  loop_ok mix tys_ok (f80.tabOK K) (h := f80.s4.h) (ho := f80.s4.ho) (shp := f80.s4.shp) (inX := f80.s4.inX) (des := f80.s4.des) (out := f80.s4.out) (inY := f80.s4.inY) (fuel := 400)
    (by intro st x h; unfold f80.s4.inX at h; split at h <;> simp at h; subst h; rfl)
    (by intro e st y h; unfold f80.s4.inY at h; split at h <;> simp at h <;> subst h <;> rfl)
    f80.s4.desOK (f80.s4.lok K) (f80.s4 K) (f80.s4.eq K) K
theorem f80.s6.eq (K : Nat) (rec : f80.Ty4 → Option (f80.Ty7)) (x : f80.Ty4) : f80.s6 K rec x = roundL (getA tys) (tabSp (f80.tab K)) 195 4 (f80.lp K) 400 f80.s6.b f80.s6.h f80.s6.ho f80.s6.shp f80.s6.inX f80.s6.inY rec x := by kernel_rfl
theorem f80.s6.lok (K : Nat) : LoopsOK Try.prog 195 4 (f80.lp K) f80.s6.b := loops_ok (by
  have h : loopsIn (f80.lp K) f80.s6.b = [] := by kernel_rfl
  rw [h]; simp)
theorem f80.s6.ok (K : Nat) : SummOK Try.prog 195 4 (summOf (iter (f80.s6 K) K) f80.s6.inX f80.s6.des) f80.s6.b :=
  loop_ok mix tys_ok (f80.tabOK K) (h := f80.s6.h) (ho := f80.s6.ho) (shp := f80.s6.shp) (inX := f80.s6.inX) (des := f80.s6.des) (out := f80.s6.out) (inY := f80.s6.inY) (fuel := 400)
    (by intro st x h; unfold f80.s6.inX at h; split at h <;> simp at h; subst h; rfl)
    (by intro e st y h; unfold f80.s6.inY at h; split at h <;> simp at h <;> subst h <;> rfl)
    f80.s6.desOK (f80.s6.lok K) (f80.s6 K) (f80.s6.eq K) K
theorem f80.loops (K : Nat) : LoopsOK Try.prog 195 4 (f80.lp K) f80.c := loops_ok (by
  have h : loopsIn (f80.lp K) f80.c = [(0, f80.s0.b), (2, f80.s2.b), (4, f80.s4.b), (6, f80.s6.b)] := by kernel_rfl
  rw [h]
  intro p hp
  simp only [List.mem_cons, List.not_mem_nil, or_false] at hp
  rcases hp with rfl | rfl | rfl | rfl
  · exact ⟨_, rfl, (f80.s0.ok K)⟩
  · exact ⟨_, rfl, (f80.s2.ok K)⟩
  · exact ⟨_, rfl, (f80.s4.ok K)⟩
  · exact ⟨_, rfl, (f80.s6.ok K)⟩)
def f80.T (K : Nat) (a0 : List Int) (a1 : Nat) (a2 : Nat) (m0_0 : Nat) (m0_1 : List Int) (m2_0 : Nat) (m2_1 : List Int) : Option (f80.Ty8) :=
  (iter (f80.s0 K) K (a1, a2, 0, m0_0, m0_1, m2_0, m2_1, a0, [0, 0, 0, 0, 0, 0, 0, 0], [0, 0, 0, 0, 0, 0, 0, 0, 0, 0, 0, 0, 0, 0, 0, 0, 0, 0, 0, 0, 0, 0, 0, 0, 0, 0, 0, 0, 0, 0, 0, 0, 0, 0, 0, 0, 0, 0, 0, 0, 0, 0, 0, 0, 0, 0, 0, 0, 0, 0, 0, 0, 0, 0, 0, 0, 0, 0, 0, 0, 0, 0, 0, 0])).bind fun y30 =>
  (iter (f80.s2 K) K (y30.1, 16, y30.2.1, y30.2.2.1, y30.2.2.2.1, y30.2.2.2.2.1, y30.2.2.2.2.2.1, y30.2.2.2.2.2.2.1, y30.2.2.2.2.2.2.2)).bind fun y60 =>
  (iter (f80.s4 K) K (y60.1, 0, y60.2.1, y60.2.2.1, y60.2.2.2.1, y60.2.2.2.2.1, y60.2.2.2.2.2.1, y60.2.2.2.2.2.2.1, y60.2.2.2.2.2.2.2, y60.2.2.2.2.2.1)).bind fun y108 =>
  (iter (f80.s6 K) K (0, y108.1, y108.2.1, y108.2.2.1, y108.2.2.2.1, y108.2.2.2.2.1, y108.2.2.2.2.2.1, y108.2.2.2.2.2.2)).bind fun y118 =>
  some (y118.2.2.2.2.2, y118.1, y118.2.1, y118.2.2.1, y118.2.2.2.1)
def f80.F (K : Nat) (x : f80.Ty6) : Option (f80.Ty8) := f80.T K x.1 x.2.1 x.2.2.1 x.2.2.2.1 x.2.2.2.2.1 x.2.2.2.2.2.1 x.2.2.2.2.2.2
def f80.av (x : f80.Ty6) : List VV := [.agg [.ints .u32 8 x.1], .vw true 0 0 x.2.1 1, .vw true 2 0 x.2.2.1 3]
def f80.bl (x : f80.Ty6) : List (Nat × Blk) := [(0, ([.ints .u8 x.2.2.2.1 x.2.2.2.2.1], 0, .ro)), (2, ([.ints .u32 x.2.2.2.2.2.1 x.2.2.2.2.2.2], 0, .ro))]
def f80.inA : VS → Option (f80.Ty6)
  | ⟨[(0, .agg [.ints .u32 8 a0]), (1, .vw true 0 0 a1 1), (2, .vw true 2 0 a2 3)], [(0, ([.ints .u8 m0_0 m0_1], 0, .ro)), (2, ([.ints .u32 m2_0 m2_1], 0, .ro))], 4⟩ => some (a0, a1, a2, m0_0, m0_1, m2_0, m2_1)
  | _ => none
def f80.o0 (y : f80.Ty8) : VS := ⟨[(0, .agg [.ints .u32 8 y.1])], [(0, ([.ints .u8 y.2.1 y.2.2.1], 0, .ro)), (2, ([.ints .u32 y.2.2.2.1 y.2.2.2.2], 0, .ro))], 4⟩
def f80.des : ∀ α : Type, (f80.Ty8) → (VS → Option α) → Option α := (dv1 f80.o0)
def f80.out : f80.Ty8 → VS := f80.o0
def f80.inR : VS → Option (f80.Ty8)
  | ⟨[(0, .agg [.ints .u32 8 y])], [(0, ([.ints .u8 z0_0 z0_1], 0, .ro)), (2, ([.ints .u32 z2_0 z2_1], 0, .ro))], 4⟩ => some (y, z0_0, z0_1, z2_0, z2_1)
  | _ => none
noncomputable def f80.E (K : Nat) : Entry := genE 4 f80.inA (f80.F K) f80.des
theorem f80.eq (K : Nat) (x : f80.Ty6) : f80.F K x = xrun (getA tys) (tabSp (f80.tab K)) Try.f80.ntmps 4 (f80.lp K) 400 f80.c ⟨initL 0 (f80.av x), f80.bl x, 4⟩ (contF (getA tys) 4 Try.f80.results.toList f80.inR) := by kernel_rfl
theorem f80.ok (K : Nat) : EntryOK Try.prog 80 (f80.E K) :=
  gen_ok mix tys_ok (f80.tabOK K) Try.func80 (by kernel_rfl : Try.f80.body = some f80.c) (by kernel_rfl) (f80.loops K) (av := f80.av) (bl := f80.bl) (out := f80.out) (fuel := 400)
    (by intro s x h; unfold f80.inA at h; split at h <;> simp at h; subst h; rfl) (fun _ => Nat.le_of_ble_eq_true rfl)
    (by intro s y h; unfold f80.inR at h; split at h <;> simp at h <;> subst h <;> rfl) (fun _ _ _ => rfl) (f80.eq K)
end Go.Proofs

namespace Go.Proofs
open Go.VM
theorem f97.spec (K : Nat) (x : Int) (n : Nat) (h1 : 1 ≤ n) (h2 : n ≤ 31) : f97.F K (x, (n : Int)) = some (Rf.round x n) := by
  simp only [f97.F, f97.T]
  rw [decide_eq_true (show (0 : Int) ≤ (n : Int) by omega), cond_t, wrap_u _ (by omega) (by omega), decide_eq_true (show (0 : Int) ≤ 32 - (n : Int) by omega), cond_t, Rf.round, show (32 : Int) - (n : Int) = ((32 - n : Nat) : Int) by omega]
theorem four_octets (a b c d : Nat) (ha : a < 256) (hb : b < 256) (hc : c < 256) (hd : d < 256) :
    bits .or .u32 (bits .or .u32 (bits .or .u32 (IntKind.wrap .u32 ((IntKind.wrap .u32 (a : Int)) * 2 ^ 24)) (IntKind.wrap .u32 ((IntKind.wrap .u32 (b : Int)) * 2 ^ 16))) (IntKind.wrap .u32 ((IntKind.wrap .u32 (c : Int)) * 2 ^ 8))) (IntKind.wrap .u32 (d : Int)) = ((a * 2 ^ 24 + b * 2 ^ 16 + c * 2 ^ 8 + d : Nat) : Int) := by
  have w : ∀ z : Nat, z < 4294967296 → IntKind.wrap .u32 (z : Int) = (z : Int) := wrap_32n
  have o : ∀ x y : Nat, x < 4294967296 → y < 4294967296 → bits .or .u32 (x : Int) (y : Int) = ((x ||| y : Nat) : Int) := by
    intro x y hx hy
    rw [bits_or, BitVec.toNat_or]
    simp only [bv, BitVec.ofInt_natCast, BitVec.toNat_ofNat]
    rw [Nat.mod_eq_of_lt (by omega), Nat.mod_eq_of_lt (by omega)]
  have oa : ∀ x y k : Nat, y < 2 ^ k → x * 2 ^ k ||| y = x * 2 ^ k + y := fun x y k h => by
    have := Nat.shiftLeft_add_eq_or_of_lt h x
    rw [Nat.shiftLeft_eq] at this
    exact this.symm
  rw [w a (by omega), w b (by omega), w c (by omega), w d (by omega), show (a : Int) * 2 ^ 24 = ((a * 2 ^ 24 : Nat) : Int) by omega, show (b : Int) * 2 ^ 16 = ((b * 2 ^ 16 : Nat) : Int) by omega, show (c : Int) * 2 ^ 8 = ((c * 2 ^ 8 : Nat) : Int) by omega,
    w _ (by omega), w _ (by omega), w _ (by omega), o _ _ (by omega) (by omega), oa a (b * 2 ^ 16) 24 (by omega), show a * 2 ^ 24 + b * 2 ^ 16 = (a * 2 ^ 8 + b) * 2 ^ 16 by omega, o _ _ (by omega) (by omega), oa _ (c * 2 ^ 8) 16 (by omega),
    show (a * 2 ^ 8 + b) * 2 ^ 16 + c * 2 ^ 8 = ((a * 2 ^ 8 + b) * 2 ^ 8 + c) * 2 ^ 8 by omega, o _ _ (by omega) (by omega), oa _ d 8 (by omega)]
theorem getD_oct {b : List Int} (ho : octets b) (i : Nat) : ∃ n : Nat, n < 256 ∧ b.getD i 0 = (n : Int) := by
  rw [List.getD_eq_getElem?_getD]
  cases e : b[i]? with
  | none => exact ⟨0, by decide, rfl⟩
  | some y => obtain ⟨h1, h2⟩ := ho y (List.mem_of_getElem? e); exact ⟨y.toNat, by omega, by simp; omega⟩
theorem tv_four (b : List Int) (ho : octets b) (t : Nat) : ((tv (subI b (4 * t) 4) : Nat) : Int) = ((( (b.getD (4 * t) 0).toNat * 2 ^ 24 + (b.getD (4 * t + 1) 0).toNat * 2 ^ 16 + (b.getD (4 * t + 2) 0).toNat * 2 ^ 8 + (b.getD (4 * t + 3) 0).toNat : Nat)) : Int) := by
  simp only [subI, List.range, List.range.loop, List.map_cons, List.map_nil, tv, List.foldl_cons, List.foldl_nil, Nat.add_zero]
  congr 1
  omega
def Rf.tab (b : List Int) (i : Nat) : List Int := (List.range 64).map fun k => if k < i then Rf.w b k else 0
theorem Rf.tab_at (b : List Int) (i k : Nat) (hk : k < 64) (hi : k < i) : (Rf.tab b i).getD k 0 = Rf.w b k := by
  simp [Rf.tab, List.getD_eq_getElem?_getD, hk, hi]
theorem Rf.tab_set (b : List Int) (i : Nat) (hi : i < 64) : setD (Rf.tab b i) i (Rf.w b i) = Rf.tab b (i + 1) := by
  have hl : ∀ j, (Rf.tab b j).length = 64 := fun j => by simp [Rf.tab]
  refine ext_getD (by rw [length_setD (by rw [hl]; exact hi), hl, hl]) fun k hk => ?_
  rw [length_setD (by rw [hl]; exact hi), hl] at hk
  rw [setD_at _ _ _ _ (by rw [hl]; exact hi)]
  by_cases h : k = i
  · subst h; rw [if_pos rfl, Rf.tab_at _ _ _ hk (by omega)]
  · rw [if_neg h]
    by_cases h2 : k < i
    · rw [Rf.tab_at _ _ _ hk h2, Rf.tab_at _ _ _ hk (by omega)]
    · simp [Rf.tab, List.getD_eq_getElem?_getD, hk, h2, show ¬ k < i + 1 by omega]
theorem f80.first (K : Nat) (a2 : Nat) (b k4 z5 : List Int) (ho : octets b) (hb : b.length = 64) (hK : 16 < K) (k2 : Nat) (k2l : List Int) :
    iter (f80.s0 K) K (64, a2, 0, 64, b, k2, k2l, k4, z5, Rf.tab b 0) = some (a2, 64, b, k2, k2l, k4, z5, Rf.tab b 16) := by
  have := iter_for (stp := f80.s0 K) (N := 16) (fun i => (64, a2, (i : Int), 64, b, k2, k2l, k4, z5, Rf.tab b i)) (y := some (a2, 64, b, k2, k2l, k4, z5, Rf.tab b 16)) ?_ ?_ hK
  · exact this
  · intro i hi rec
    simp only [f80.s0, f80.s0t]
    have e : ∀ j : Nat, j < 4 → IntKind.wrap .i64 ((IntKind.wrap .i64 (4 * (i : Int))) + (j : Int)) = ((4 * i + j : Nat) : Int) := fun j hj => by
      rw [wrap_i (4 * (i : Int)) (by omega) (by omega), wrap_i _ (by omega) (by omega)]; omega
    have e0 : IntKind.wrap .i64 (4 * (i : Int)) = ((4 * i : Nat) : Int) := by rw [wrap_i _ (by omega) (by omega)]; omega
    have e1 := e 1 (by omega)
    have e2 := e 2 (by omega)
    have e3 := e 3 (by omega)
    rw [show ((1 : Nat) : Int) = 1 from rfl] at e1
    rw [show ((2 : Nat) : Int) = 2 from rfl] at e2
    rw [show ((3 : Nat) : Int) = 3 from rfl] at e3
    have bl : ∀ x, x < 64 → Nat.blt (0 + x) 64 = true := fun x hx => by simp [Nat.blt_eq]; omega
    have dc : ∀ x : Nat, x < 64 → decide ((0 : Int) ≤ (x : Int) ∧ (x : Int) < ((64 : Nat) : Int)) = true := fun x hx => decide_eq_true (by omega)
    obtain ⟨n0, h0, g0⟩ := getD_oct ho (4 * i)
    obtain ⟨n1, h1, g1⟩ := getD_oct ho (4 * i + 1)
    obtain ⟨n2, h2, g2⟩ := getD_oct ho (4 * i + 2)
    obtain ⟨n3, h3, g3⟩ := getD_oct ho (4 * i + 3)
    have hW : Rf.w b i = ((n0 * 2 ^ 24 + n1 * 2 ^ 16 + n2 * 2 ^ 8 + n3 : Nat) : Int) := by
      rw [Rf.w_low b i hi, tv_four b ho, g0, g1, g2, g3]
      simp only [Int.toNat_natCast]
      exact wrap_32n _ (by omega)
    simp only [e1, e2, e3]
    rw [decide_eq_true (show (i : Int) < 16 by omega), cond_t]
    simp only [e0, Int.toNat_natCast]
    rw [dc _ (by omega), cond_t, bl _ (by omega), cond_t, dc _ (by omega), cond_t, bl _ (by omega), cond_t, dc _ (by omega), cond_t, bl _ (by omega), cond_t, dc _ (by omega), cond_t, bl _ (by omega), cond_t, decide_eq_true (show (0 : Int) ≤ (i : Int) ∧ (i : Int) < 64 by omega), cond_t]
    simp only [Nat.zero_add]
    rw [g0, g1, g2, g3, four_octets _ _ _ _ h0 h1 h2 h3, ← hW, Rf.tab_set b i (by omega), wrap_i _ (by omega) (by omega)]
    rfl
  · intro rec
    simp only [f80.s0, f80.s0t]
    rfl
theorem f80.second (K : Nat) (a2 : Nat) (b k4 z5 : List Int) (hK : 64 < K) (k2 : Nat) (k2l : List Int) :
    iter (f80.s2 K) K (a2, 16, 64, b, k2, k2l, k4, z5, Rf.tab b 16) = some (a2, 64, b, k2, k2l, k4, z5, Rf.tab b 64) := by
  have := iter_for (stp := f80.s2 K) (N := 48) (fun i => (a2, ((16 + i : Nat) : Int), 64, b, k2, k2l, k4, z5, Rf.tab b (16 + i))) (y := some (a2, 64, b, k2, k2l, k4, z5, Rf.tab b 64)) ?_ ?_ (show 48 < K by omega)
  · exact this
  · intro j hj rec
    generalize hi : 16 + j = i
    rw [show 16 + (j + 1) = i + 1 by omega]
    simp only [f80.s2, f80.s2t]
    have e : ∀ j : Nat, j ≤ 16 → IntKind.wrap .i64 ((i : Int) - (j : Int)) = ((i - j : Nat) : Int) := fun j hj => by rw [wrap_i _ (by omega) (by omega)]; omega
    have e15 := e 15 (by omega)
    have e2 := e 2 (by omega)
    have e16 := e 16 (by omega)
    have e7 := e 7 (by omega)
    rw [show ((15 : Nat) : Int) = 15 from rfl] at e15
    rw [show ((2 : Nat) : Int) = 2 from rfl] at e2
    rw [show ((16 : Nat) : Int) = 16 from rfl] at e16
    rw [show ((7 : Nat) : Int) = 7 from rfl] at e7
    have dc : ∀ x : Nat, x < 64 → decide ((0 : Int) ≤ (x : Int) ∧ (x : Int) < 64) = true := fun x hx => decide_eq_true (by omega)
    simp only [e15, e2, e16, e7, Int.toNat_natCast]
    rw [decide_eq_true (show (i : Int) < 64 by omega), cond_t, dc _ (by omega), cond_t, dc _ (by omega), cond_t, dc _ (by omega), cond_t, dc _ (by omega), cond_t]
    rw [show ((18 : Int)) = ((18 : Nat) : Int) from rfl, show ((17 : Int)) = ((17 : Nat) : Int) from rfl, show ((19 : Int)) = ((19 : Nat) : Int) from rfl]
    rw [show ∀ x, f97.F K (x, 7) = some (Rf.round x 7) from fun x => f97.spec K x 7 (by omega) (by omega), bind_s, f97.spec K _ 18 (by omega) (by omega), bind_s, f97.spec K _ 17 (by omega) (by omega), bind_s, f97.spec K _ 19 (by omega) (by omega), bind_s, dc _ (by omega), cond_t,
      Rf.tab_at b i (i - 15) (by omega) (by omega), Rf.tab_at b i (i - 2) (by omega) (by omega), Rf.tab_at b i (i - 16) (by omega) (by omega), Rf.tab_at b i (i - 7) (by omega) (by omega)]
    have hW := Rf.w_high b i (by omega)
    unfold Rf.s0 Rf.s1 at hW
    rw [← hW, Rf.tab_set b i (by omega), wrap_i _ (by omega) (by omega)]
    rfl
  · intro rec
    simp only [f80.s2, f80.s2t]
    rfl
end Go.Proofs

namespace Go.Proofs
open Go.VM
abbrev f52.Ty0 := Nat × Int × Nat × List Int × List Int × Nat × List Int × List Int × List Int
abbrev f52.Ty1 := Nat × Int × Int × Nat × List Int × List Int × Nat × List Int
abbrev f52.Ty2 := Nat × Nat × Nat × List Int × List Int × Nat × List Int
abbrev f52.Ty3 := Int × Nat × List Int × List Int × List Int × List Int
abbrev f52.Ty4 := Nat × Nat × List Int × List Int × Nat × List Int
abbrev f52.Ty5 := Nat × List Int × List Int × List Int
abbrev f52.Ty6 := List Int × Nat × List Int
abbrev f52.Ty7 := Nat × Nat × List Int
noncomputable def f52.c : Code := bodyOf Try.f52
def f52.s0t (_K : Nat) (rec : f52.Ty2 → Option (f52.Ty2)) (t0 : Nat) (t3 : Nat) (b0_0 : Nat) (b0_1 : List Int) (b2 : List Int) (b3_0 : Nat) (b3_1 : List Int) : Option (f52.Ty2) :=
  bif ((Int.tmod ((t3 : Nat) : Int) 64) != 56) then
    bif (Nat.ble t3 b3_0 && (fitB ((t3 + 1) * 1))) then
      rec (t0, (t3 + 1), b0_0, b0_1, b2, (t3 + 1), ((padT b3_1 t3) ++ [0]))
    else
      none
  else
    some (t0, t3, b0_0, b0_1, b2, b3_0, b3_1)
def f52.s0 (K : Nat) (rec : f52.Ty2 → Option (f52.Ty2)) (x : f52.Ty2) : Option (f52.Ty2) := f52.s0t K rec x.1 x.2.1 x.2.2.1 x.2.2.2.1 x.2.2.2.2.1 x.2.2.2.2.2.1 x.2.2.2.2.2.2
noncomputable def f52.s0.b : Code := (findLoop 0 f52.c).getD .skip
def f52.s0.h : Hint := { lv := [0, 2, 3] }
def f52.s0.ho : Hint := { lv := [0, 2, 3] }
def f52.s0.shp (x : f52.Ty2) : VS := ⟨[(0, .vw true 0 0 x.1 1), (2, .ptr 2 0), (3, .vec 3 0 x.2.1 4)], [(0, ([.ints .u8 x.2.2.1 x.2.2.2.1], 0, .ro)), (2, ([.ints .u8 32 x.2.2.2.2.1], 29, .norm)), (3, ([.ints .u8 x.2.2.2.2.2.1 x.2.2.2.2.2.2], 5, .vec 4))], 5⟩
def f52.s0.inX : VS → Option (f52.Ty2)
  | ⟨[(0, .vw true 0 0 t0 1), (2, .ptr 2 0), (3, .vec 3 0 t3 4)], [(0, ([.ints .u8 b0_0 b0_1], 0, .ro)), (2, ([.ints .u8 32 b2], 29, .norm)), (3, ([.ints .u8 b3_0 b3_1], 5, .vec 4))], 5⟩ => some (t0, t3, b0_0, b0_1, b2, b3_0, b3_1)
  | _ => none
def f52.s0.o0 (y : f52.Ty2) : VS := ⟨[(0, .vw true 0 0 y.1 1), (2, .ptr 2 0), (3, .vec 3 0 y.2.1 4)], [(0, ([.ints .u8 y.2.2.1 y.2.2.2.1], 0, .ro)), (2, ([.ints .u8 32 y.2.2.2.2.1], 29, .norm)), (3, ([.ints .u8 y.2.2.2.2.2.1 y.2.2.2.2.2.2], 5, .vec 4))], 5⟩
def f52.s0.des : ∀ α : Type, (f52.Ty2) → (Ex → VS → Option α) → Option α := (des1 (.exit 0) f52.s0.o0)
def f52.s0.out : f52.Ty2 → Ex × VS := (fun y => (.exit 0, f52.s0.o0 y))
theorem f52.s0.desOK : ∀ α y (k : Ex → VS → Option α), f52.s0.des α y k = k (f52.s0.out y).1 (f52.s0.out y).2 := (fun _ _ _ => rfl)
def f52.s0.inY : Ex → VS → Option (f52.Ty2)
  | .exit 0, ⟨[(0, .vw true 0 0 t0 1), (2, .ptr 2 0), (3, .vec 3 0 t3 4)], [(0, ([.ints .u8 b0_0 b0_1], 0, .ro)), (2, ([.ints .u8 32 b2], 29, .norm)), (3, ([.ints .u8 b3_0 b3_1], 5, .vec 4))], 5⟩ => some (t0, t3, b0_0, b0_1, b2, b3_0, b3_1)
  | _, _ => none
def f52.s2t (_K : Nat) (rec : f52.Ty1 → Option (f52.Ty4)) (t3 : Nat) (t4 : Int) (t5 : Int) (b0_0 : Nat) (b0_1 : List Int) (b2 : List Int) (b3_0 : Nat) (b3_1 : List Int) : Option (f52.Ty4) :=
  bif (decide (t5 < 8)) then
    let v12 := IntKind.wrap .i64 (56 - (IntKind.wrap .i64 (8 * t5)))
    bif decide (0 ≤ v12) then
      bif (Nat.ble t3 b3_0 && (fitB ((t3 + 1) * 1))) then
        rec ((t3 + 1), t4, (IntKind.wrap .i64 (t5 + 1)), b0_0, b0_1, b2, (t3 + 1), ((padT b3_1 t3) ++ [(IntKind.wrap .u8 (shiftI .shr .u64 t4 v12))]))
      else
        none
    else
      none
  else
    some (t3, b0_0, b0_1, b2, b3_0, b3_1)
def f52.s2 (K : Nat) (rec : f52.Ty1 → Option (f52.Ty4)) (x : f52.Ty1) : Option (f52.Ty4) := f52.s2t K rec x.1 x.2.1 x.2.2.1 x.2.2.2.1 x.2.2.2.2.1 x.2.2.2.2.2.1 x.2.2.2.2.2.2.1 x.2.2.2.2.2.2.2
noncomputable def f52.s2.b : Code := (findLoop 2 f52.c).getD .skip
def f52.s2.h : Hint := { lv := [2, 3, 4, 5] }
def f52.s2.ho : Hint := { lv := [2, 3] }
def f52.s2.shp (x : f52.Ty1) : VS := ⟨[(2, .ptr 2 0), (3, .vec 3 0 x.1 4), (4, .int .u64 x.2.1), (5, .int .i64 x.2.2.1)], [(0, ([.ints .u8 x.2.2.2.1 x.2.2.2.2.1], 0, .ro)), (2, ([.ints .u8 32 x.2.2.2.2.2.1], 29, .norm)), (3, ([.ints .u8 x.2.2.2.2.2.2.1 x.2.2.2.2.2.2.2], 5, .vec 4))], 5⟩
def f52.s2.inX : VS → Option (f52.Ty1)
  | ⟨[(2, .ptr 2 0), (3, .vec 3 0 t3 4), (4, .int .u64 t4), (5, .int .i64 t5)], [(0, ([.ints .u8 b0_0 b0_1], 0, .ro)), (2, ([.ints .u8 32 b2], 29, .norm)), (3, ([.ints .u8 b3_0 b3_1], 5, .vec 4))], 5⟩ => some (t3, t4, t5, b0_0, b0_1, b2, b3_0, b3_1)
  | _ => none
def f52.s2.o0 (y : f52.Ty4) : VS := ⟨[(2, .ptr 2 0), (3, .vec 3 0 y.1 4)], [(0, ([.ints .u8 y.2.1 y.2.2.1], 0, .ro)), (2, ([.ints .u8 32 y.2.2.2.1], 29, .norm)), (3, ([.ints .u8 y.2.2.2.2.1 y.2.2.2.2.2], 5, .vec 4))], 5⟩
def f52.s2.des : ∀ α : Type, (f52.Ty4) → (Ex → VS → Option α) → Option α := (des1 (.exit 2) f52.s2.o0)
def f52.s2.out : f52.Ty4 → Ex × VS := (fun y => (.exit 2, f52.s2.o0 y))
theorem f52.s2.desOK : ∀ α y (k : Ex → VS → Option α), f52.s2.des α y k = k (f52.s2.out y).1 (f52.s2.out y).2 := (fun _ _ _ => rfl)
def f52.s2.inY : Ex → VS → Option (f52.Ty4)
  | .exit 2, ⟨[(2, .ptr 2 0), (3, .vec 3 0 t3 4)], [(0, ([.ints .u8 b0_0 b0_1], 0, .ro)), (2, ([.ints .u8 32 b2], 29, .norm)), (3, ([.ints .u8 b3_0 b3_1], 5, .vec 4))], 5⟩ => some (t3, b0_0, b0_1, b2, b3_0, b3_1)
  | _, _ => none
def f52.s4t (K : Nat) (rec : f52.Ty0 → Option (f52.Ty5)) (t3 : Nat) (t8 : Int) (b0_0 : Nat) (b0_1 : List Int) (b2 : List Int) (b3_0 : Nat) (b3_1 : List Int) (b5 : List Int) (b6 : List Int) : Option (f52.Ty5) :=
  bif (decide (t8 < ((t3 : Nat) : Int))) then
    let v21 := IntKind.wrap .i64 (t8 + 64)
    bif ((decide (0 ≤ v21 ∧ v21 ≤ ((t3 : Nat) : Int)) && (decide (0 ≤ t8 ∧ t8 ≤ ((Int.toNat v21 : Nat) : Int)))) && (Nat.ble (0 + t3) b3_0)) then
      let v22 := 0 + (Int.toNat t8)
      let v23 := (Int.toNat v21) - (Int.toNat t8)
      bif ((Nat.ble (v22 + v23) b3_0 && true) && true) then
        (f80.F K (b5, v23, 64, v23, (subI b3_1 v22 v23), 64, (subI b6 0 64))).bind fun y24 =>
        rec (t3, (IntKind.wrap .i64 (t8 + 64)), b0_0, b0_1, b2, b3_0, b3_1, y24.1, b6)
      else
        none
    else
      none
  else
    some (b0_0, b0_1, b2, b5)
def f52.s4 (K : Nat) (rec : f52.Ty0 → Option (f52.Ty5)) (x : f52.Ty0) : Option (f52.Ty5) := f52.s4t K rec x.1 x.2.1 x.2.2.1 x.2.2.2.1 x.2.2.2.2.1 x.2.2.2.2.2.1 x.2.2.2.2.2.2.1 x.2.2.2.2.2.2.2.1 x.2.2.2.2.2.2.2.2
noncomputable def f52.s4.b : Code := (findLoop 4 f52.c).getD .skip
def f52.s4.h : Hint := { lv := [2, 3, 6, 7, 8] }
def f52.s4.ho : Hint := { lv := [2, 6] }
def f52.s4.shp (x : f52.Ty0) : VS := ⟨[(2, .ptr 2 0), (3, .vec 3 0 x.1 4), (6, .ptr 5 0), (7, .sl 6 0 64 64), (8, .int .i64 x.2.1)], [(0, ([.ints .u8 x.2.2.1 x.2.2.2.1], 0, .ro)), (2, ([.ints .u8 32 x.2.2.2.2.1], 29, .norm)), (3, ([.ints .u8 x.2.2.2.2.2.1 x.2.2.2.2.2.2.1], 5, .vec 4)), (5, ([.ints .u32 8 x.2.2.2.2.2.2.2.1], 112, .norm)), (6, ([.ints .u32 64 x.2.2.2.2.2.2.2.2], 111, .norm))], 7⟩
def f52.s4.inX : VS → Option (f52.Ty0)
  | ⟨[(2, .ptr 2 0), (3, .vec 3 0 t3 4), (6, .ptr 5 0), (7, .sl 6 0 64 64), (8, .int .i64 t8)], [(0, ([.ints .u8 b0_0 b0_1], 0, .ro)), (2, ([.ints .u8 32 b2], 29, .norm)), (3, ([.ints .u8 b3_0 b3_1], 5, .vec 4)), (5, ([.ints .u32 8 b5], 112, .norm)), (6, ([.ints .u32 64 b6], 111, .norm))], 7⟩ => some (t3, t8, b0_0, b0_1, b2, b3_0, b3_1, b5, b6)
  | _ => none
def f52.s4.o0 (y : f52.Ty5) : VS := ⟨[(2, .ptr 2 0), (6, .ptr 3 0)], [(0, ([.ints .u8 y.1 y.2.1], 0, .ro)), (2, ([.ints .u8 32 y.2.2.1], 29, .norm)), (3, ([.ints .u32 8 y.2.2.2], 112, .norm))], 4⟩
def f52.s4.des : ∀ α : Type, (f52.Ty5) → (Ex → VS → Option α) → Option α := (des1 (.exit 4) f52.s4.o0)
def f52.s4.out : f52.Ty5 → Ex × VS := (fun y => (.exit 4, f52.s4.o0 y))
theorem f52.s4.desOK : ∀ α y (k : Ex → VS → Option α), f52.s4.des α y k = k (f52.s4.out y).1 (f52.s4.out y).2 := (fun _ _ _ => rfl)
def f52.s4.inY : Ex → VS → Option (f52.Ty5)
  | .exit 4, ⟨[(2, .ptr 2 0), (6, .ptr 3 0)], [(0, ([.ints .u8 b0_0 b0_1], 0, .ro)), (2, ([.ints .u8 32 b2], 29, .norm)), (3, ([.ints .u32 8 b3], 112, .norm))], 4⟩ => some (b0_0, b0_1, b2, b3)
  | _, _ => none
def f52.s6t (_K : Nat) (rec : f52.Ty3 → Option (f52.Ty5)) (t10 : Int) (b0_0 : Nat) (b0_1 : List Int) (b2 : List Int) (b3 : List Int) (b4 : List Int) : Option (f52.Ty5) :=
  bif (decide (t10 < 32)) then
    let v28 := IntKind.wrap .i64 (Int.tdiv t10 4)
    bif decide (0 ≤ v28 ∧ v28 < 8) then
      let v33 := IntKind.wrap .i64 (24 - (IntKind.wrap .i64 (8 * (Int.tmod t10 4))))
      bif decide (0 ≤ v33) then
        bif decide (0 ≤ t10 ∧ t10 < 32) then
          rec ((IntKind.wrap .i64 (t10 + 1)), b0_0, b0_1, b2, b3, (setD b4 (Int.toNat t10) (IntKind.wrap .u8 (shiftI .shr .u32 (List.getD b3 (Int.toNat v28) 0) v33))))
        else
          none
      else
        none
    else
      none
  else
    some (b0_0, b0_1, b2, b4)
def f52.s6 (K : Nat) (rec : f52.Ty3 → Option (f52.Ty5)) (x : f52.Ty3) : Option (f52.Ty5) := f52.s6t K rec x.1 x.2.1 x.2.2.1 x.2.2.2.1 x.2.2.2.2.1 x.2.2.2.2.2
noncomputable def f52.s6.b : Code := (findLoop 6 f52.c).getD .skip
def f52.s6.h : Hint := { lv := [2, 6, 9, 10] }
def f52.s6.ho : Hint := { lv := [2, 9] }
def f52.s6.shp (x : f52.Ty3) : VS := ⟨[(2, .ptr 2 0), (6, .ptr 3 0), (9, .ptr 4 0), (10, .int .i64 x.1)], [(0, ([.ints .u8 x.2.1 x.2.2.1], 0, .ro)), (2, ([.ints .u8 32 x.2.2.2.1], 29, .norm)), (3, ([.ints .u32 8 x.2.2.2.2.1], 112, .norm)), (4, ([.ints .u8 32 x.2.2.2.2.2], 29, .norm))], 5⟩
def f52.s6.inX : VS → Option (f52.Ty3)
  | ⟨[(2, .ptr 2 0), (6, .ptr 3 0), (9, .ptr 4 0), (10, .int .i64 t10)], [(0, ([.ints .u8 b0_0 b0_1], 0, .ro)), (2, ([.ints .u8 32 b2], 29, .norm)), (3, ([.ints .u32 8 b3], 112, .norm)), (4, ([.ints .u8 32 b4], 29, .norm))], 5⟩ => some (t10, b0_0, b0_1, b2, b3, b4)
  | _ => none
def f52.s6.o0 (y : f52.Ty5) : VS := ⟨[(2, .ptr 2 0), (9, .ptr 3 0)], [(0, ([.ints .u8 y.1 y.2.1], 0, .ro)), (2, ([.ints .u8 32 y.2.2.1], 29, .norm)), (3, ([.ints .u8 32 y.2.2.2], 29, .norm))], 4⟩
def f52.s6.des : ∀ α : Type, (f52.Ty5) → (Ex → VS → Option α) → Option α := (des1 (.exit 6) f52.s6.o0)
def f52.s6.out : f52.Ty5 → Ex × VS := (fun y => (.exit 6, f52.s6.o0 y))
theorem f52.s6.desOK : ∀ α y (k : Ex → VS → Option α), f52.s6.des α y k = k (f52.s6.out y).1 (f52.s6.out y).2 := (fun _ _ _ => rfl)
def f52.s6.inY : Ex → VS → Option (f52.Ty5)
  | .exit 6, ⟨[(2, .ptr 2 0), (9, .ptr 3 0)], [(0, ([.ints .u8 b0_0 b0_1], 0, .ro)), (2, ([.ints .u8 32 b2], 29, .norm)), (3, ([.ints .u8 32 b3], 29, .norm))], 4⟩ => some (b0_0, b0_1, b2, b3)
  | _, _ => none
def f52.lp (K : Nat) : Nat → Option (Hint × Summ) := tabLp [(0, f52.s0.h, summOf (iter (f52.s0 K) K) f52.s0.inX f52.s0.des), (2, f52.s2.h, summOf (iter (f52.s2 K) K) f52.s2.inX f52.s2.des), (4, f52.s4.h, summOf (iter (f52.s4 K) K) f52.s4.inX f52.s4.des), (6, f52.s6.h, summOf (iter (f52.s6 K) K) f52.s6.inX f52.s6.des)]
noncomputable def f52.tab (K : Nat) : List (Nat × Entry) := [(79, (f79.E K)), (80, (viewE [(1, .u8), (2, .u32)] (f80.E K)))]
theorem f52.tabOK (K : Nat) : SpecOK Try.prog (tabSp (f52.tab K)) := tab_ok ((tab_cons (f79.ok K) (tab_cons (view_ok (f80.ok K)) tab_nil)))
theorem f52.s0.eq (K : Nat) (rec : f52.Ty2 → Option (f52.Ty2)) (x : f52.Ty2) : f52.s0 K rec x = roundL (getA tys) (tabSp (f52.tab K)) 72 2 (f52.lp K) 400 f52.s0.b f52.s0.h f52.s0.ho f52.s0.shp f52.s0.inX f52.s0.inY rec x := by kernel_rfl
theorem f52.s0.lok (K : Nat) : LoopsOK Try.prog 72 2 (f52.lp K) f52.s0.b := loops_ok (by
  have h : loopsIn (f52.lp K) f52.s0.b = [] := by kernel_rfl
  rw [h]; simp)
theorem f52.s0.ok (K : Nat) : SummOK Try.prog 72 2 (summOf (iter (f52.s0 K) K) f52.s0.inX f52.s0.des) f52.s0.b :=
  loop_ok mix tys_ok (f52.tabOK K) (h := f52.s0.h) (ho := f52.s0.ho) (shp := f52.s0.shp) (inX := f52.s0.inX) (des := f52.s0.des) (out := f52.s0.out) (inY := f52.s0.inY) (fuel := 400)
    (by intro st x h; unfold f52.s0.inX at h; split at h <;> simp at h; subst h; rfl)
    (by intro e st y h; unfold f52.s0.inY at h; split at h <;> simp at h <;> subst h <;> rfl)
    f52.s0.desOK (f52.s0.lok K) (f52.s0 K) (f52.s0.eq K) K
theorem f52.s2.eq (K : Nat) (rec : f52.Ty1 → Option (f52.Ty4)) (x : f52.Ty1) : f52.s2 K rec x = roundL (getA tys) (tabSp (f52.tab K)) 72 2 (f52.lp K) 400 f52.s2.b f52.s2.h f52.s2.ho f52.s2.shp f52.s2.inX f52.s2.inY rec x := by kernel_rfl
theorem f52.s2.lok (K : Nat) : LoopsOK Try.prog 72 2 (f52.lp K) f52.s2.b := loops_ok (by
  have h : loopsIn (f52.lp K) f52.s2.b = [] := by kernel_rfl
  rw [h]; simp)
theorem f52.s2.ok (K : Nat) : SummOK Try.prog 72 2 (summOf (iter (f52.s2 K) K) f52.s2.inX f52.s2.des) f52.s2.b :=
  loop_ok mix tys_ok (f52.tabOK K) (h := f52.s2.h) (ho := f52.s2.ho) (shp := f52.s2.shp) (inX := f52.s2.inX) (des := f52.s2.des) (out := f52.s2.out) (inY := f52.s2.inY) (fuel := 400)
    (by intro st x h; unfold f52.s2.inX at h; split at h <;> simp at h; subst h; rfl)
    (by intro e st y h; unfold f52.s2.inY at h; split at h <;> simp at h <;> subst h <;> rfl)
    f52.s2.desOK (f52.s2.lok K) (f52.s2 K) (f52.s2.eq K) K
theorem f52.s4.eq (K : Nat) (rec : f52.Ty0 → Option (f52.Ty5)) (x : f52.Ty0) : f52.s4 K rec x = roundL (getA tys) (tabSp (f52.tab K)) 72 2 (f52.lp K) 400 f52.s4.b f52.s4.h f52.s4.ho f52.s4.shp f52.s4.inX f52.s4.inY rec x := by kernel_rfl
theorem f52.s4.lok (K : Nat) : LoopsOK Try.prog 72 2 (f52.lp K) f52.s4.b := loops_ok (by
  have h : loopsIn (f52.lp K) f52.s4.b = [] := by kernel_rfl
  rw [h]; simp)
theorem f52.s4.ok (K : Nat) : SummOK Try.prog 72 2 (summOf (iter (f52.s4 K) K) f52.s4.inX f52.s4.des) f52.s4.b :=
  loop_ok mix tys_ok (f52.tabOK K) (h := f52.s4.h) (ho := f52.s4.ho) (shp := f52.s4.shp) (inX := f52.s4.inX) (des := f52.s4.des) (out := f52.s4.out) (inY := f52.s4.inY) (fuel := 400)
    (by intro st x h; unfold f52.s4.inX at h; split at h <;> simp at h; subst h; rfl)
    (by intro e st y h; unfold f52.s4.inY at h; split at h <;> simp at h <;> subst h <;> rfl)
    f52.s4.desOK (f52.s4.lok K) (f52.s4 K) (f52.s4.eq K) K
theorem f52.s6.eq (K : Nat) (rec : f52.Ty3 → Option (f52.Ty5)) (x : f52.Ty3) : f52.s6 K rec x = roundL (getA tys) (tabSp (f52.tab K)) 72 2 (f52.lp K) 400 f52.s6.b f52.s6.h f52.s6.ho f52.s6.shp f52.s6.inX f52.s6.inY rec x := by kernel_rfl
theorem f52.s6.lok (K : Nat) : LoopsOK Try.prog 72 2 (f52.lp K) f52.s6.b := loops_ok (by
  have h : loopsIn (f52.lp K) f52.s6.b = [] := by kernel_rfl
  rw [h]; simp)
theorem f52.s6.ok (K : Nat) : SummOK Try.prog 72 2 (summOf (iter (f52.s6 K) K) f52.s6.inX f52.s6.des) f52.s6.b :=
  loop_ok mix tys_ok (f52.tabOK K) (h := f52.s6.h) (ho := f52.s6.ho) (shp := f52.s6.shp) (inX := f52.s6.inX) (des := f52.s6.des) (out := f52.s6.out) (inY := f52.s6.inY) (fuel := 400)
    (by intro st x h; unfold f52.s6.inX at h; split at h <;> simp at h; subst h; rfl)
    (by intro e st y h; unfold f52.s6.inY at h; split at h <;> simp at h <;> subst h <;> rfl)
    f52.s6.desOK (f52.s6.lok K) (f52.s6 K) (f52.s6.eq K) K
theorem f52.loops (K : Nat) : LoopsOK Try.prog 72 2 (f52.lp K) f52.c := loops_ok (by
  have h : loopsIn (f52.lp K) f52.c = [(0, f52.s0.b), (2, f52.s2.b), (4, f52.s4.b), (6, f52.s6.b)] := by kernel_rfl
  rw [h]
  intro p hp
  simp only [List.mem_cons, List.not_mem_nil, or_false] at hp
  rcases hp with rfl | rfl | rfl | rfl
  · exact ⟨_, rfl, (f52.s0.ok K)⟩
  · exact ⟨_, rfl, (f52.s2.ok K)⟩
  · exact ⟨_, rfl, (f52.s4.ok K)⟩
  · exact ⟨_, rfl, (f52.s6.ok K)⟩)
def f52.T (K : Nat) (a0 : Nat) (m0_0 : Nat) (m0_1 : List Int) : Option (f52.Ty6) :=
  bif (Nat.ble (0 + a0) m0_0 && (fitB (a0 * 1))) then
    bif (Nat.ble a0 a0 && (fitB ((a0 + 1) * 1))) then
      (iter (f52.s0 K) K (a0, (a0 + 1), m0_0, m0_1, [0, 0, 0, 0, 0, 0, 0, 0, 0, 0, 0, 0, 0, 0, 0, 0, 0, 0, 0, 0, 0, 0, 0, 0, 0, 0, 0, 0, 0, 0, 0, 0], (a0 + 1), ((padT (subI m0_1 0 a0) a0) ++ [128]))).bind fun y6 =>
      (iter (f52.s2 K) K (y6.2.1, (IntKind.wrap .u64 (8 * (IntKind.wrap .u64 ((y6.1 : Nat) : Int)))), 0, y6.2.2.1, y6.2.2.2.1, y6.2.2.2.2.1, y6.2.2.2.2.2.1, y6.2.2.2.2.2.2)).bind fun y17 =>
      (f79.F K ()).bind fun y18 =>
      (iter (f52.s4 K) K (y17.1, 0, y17.2.1, y17.2.2.1, y17.2.2.2.1, y17.2.2.2.2.1, y17.2.2.2.2.2, [1779033703, 3144134277, 1013904242, 2773480762, 1359893119, 2600822924, 528734635, 1541459225], y18)).bind fun y26 =>
      (iter (f52.s6 K) K (0, y26.1, y26.2.1, y26.2.2.1, y26.2.2.2, [0, 0, 0, 0, 0, 0, 0, 0, 0, 0, 0, 0, 0, 0, 0, 0, 0, 0, 0, 0, 0, 0, 0, 0, 0, 0, 0, 0, 0, 0, 0, 0])).bind fun y39 =>
      some (y39.2.2.2, y39.1, y39.2.1)
    else
      none
  else
    none
def f52.F (K : Nat) (x : f52.Ty7) : Option (f52.Ty6) := f52.T K x.1 x.2.1 x.2.2
def f52.av (x : f52.Ty7) : List VV := [.vw true 0 0 x.1 1]
def f52.bl (x : f52.Ty7) : List (Nat × Blk) := [(0, ([.ints .u8 x.2.1 x.2.2], 0, .ro))]
def f52.inA : VS → Option (f52.Ty7)
  | ⟨[(0, .vw true 0 0 a0 1)], [(0, ([.ints .u8 m0_0 m0_1], 0, .ro))], 2⟩ => some (a0, m0_0, m0_1)
  | _ => none
def f52.o0 (y : f52.Ty6) : VS := ⟨[(0, .agg [.ints .u8 32 y.1])], [(0, ([.ints .u8 y.2.1 y.2.2], 0, .ro))], 2⟩
def f52.des : ∀ α : Type, (f52.Ty6) → (VS → Option α) → Option α := (dv1 f52.o0)
def f52.out : f52.Ty6 → VS := f52.o0
def f52.inR : VS → Option (f52.Ty6)
  | ⟨[(0, .agg [.ints .u8 32 y])], [(0, ([.ints .u8 z0_0 z0_1], 0, .ro))], 2⟩ => some (y, z0_0, z0_1)
  | _ => none
noncomputable def f52.E (K : Nat) : Entry := genE 2 f52.inA (f52.F K) f52.des
theorem f52.eq (K : Nat) (x : f52.Ty7) : f52.F K x = xrun (getA tys) (tabSp (f52.tab K)) Try.f52.ntmps 2 (f52.lp K) 400 f52.c ⟨initL 0 (f52.av x), f52.bl x, 2⟩ (contF (getA tys) 2 Try.f52.results.toList f52.inR) := by kernel_rfl
theorem f52.ok (K : Nat) : EntryOK Try.prog 52 (f52.E K) :=
  gen_ok mix tys_ok (f52.tabOK K) Try.func52 (by kernel_rfl : Try.f52.body = some f52.c) (by kernel_rfl) (f52.loops K) (av := f52.av) (bl := f52.bl) (out := f52.out) (fuel := 400)
    (by intro s x h; unfold f52.inA at h; split at h <;> simp at h; subst h; rfl) (fun _ => Nat.le_of_ble_eq_true rfl)
    (by intro s y h; unfold f52.inR at h; split at h <;> simp at h <;> subst h <;> rfl) (fun _ _ _ => rfl) (f52.eq K)
end Go.Proofs

namespace Go.Proofs
open Go.VM
theorem f80.third (K : Nat) (b k4 z : List Int) (s : List Int) (hK : 64 < K) :
    iter (f80.s4 K) K (64, 0, 64, b, 64, Sh.consts, k4, z, Rf.tab b 64, s) = some (64, b, 64, Sh.consts, k4, z, Rf.rounds s b 64) := by
  have := iter_for (stp := f80.s4 K) (N := 64) (fun i => (64, (i : Int), 64, b, 64, Sh.consts, k4, z, Rf.tab b 64, Rf.rounds s b i)) (y := some (64, b, 64, Sh.consts, k4, z, Rf.rounds s b 64)) ?_ ?_ hK
  · exact this
  · intro i hi rec
    simp only [f80.s4, f80.s4t]
    rw [decide_eq_true (show (i : Int) < 64 by omega), cond_t]
    have r : ∀ (x : Int) (n : Nat), 1 ≤ n → n ≤ 31 → f97.F K (x, (n : Int)) = some (Rf.round x n) := fun x n h1 h2 => f97.spec K x n h1 h2
    rw [show ((6 : Int)) = ((6 : Nat) : Int) from rfl, show ((11 : Int)) = ((11 : Nat) : Int) from rfl, show ((25 : Int)) = ((25 : Nat) : Int) from rfl, r _ 6 (by omega) (by omega), bind_s, r _ 11 (by omega) (by omega), bind_s, r _ 25 (by omega) (by omega), bind_s,
      decide_eq_true (show (0 : Int) ≤ (i : Int) ∧ (i : Int) < ((64 : Nat) : Int) by omega), cond_t]
    simp only [Int.toNat_natCast, Nat.zero_add]
    rw [show Nat.blt i 64 = true from by simp [Nat.blt_eq]; omega, cond_t, decide_eq_true (show (0 : Int) ≤ (i : Int) ∧ (i : Int) < 64 by omega), cond_t,
      show ((2 : Int)) = ((2 : Nat) : Int) from rfl, show ((13 : Int)) = ((13 : Nat) : Int) from rfl, show ((22 : Int)) = ((22 : Nat) : Int) from rfl, r _ 2 (by omega) (by omega), bind_s, r _ 13 (by omega) (by omega), bind_s, r _ 22 (by omega) (by omega), bind_s, Rf.tab_at b 64 i (by omega) (by omega), wrap_i _ (by omega) (by omega)]
    rfl
  · intro rec
    simp only [f80.s4, f80.s4t]
    rfl
theorem f80.fourth (K : Nat) (b s v z : List Int) (k2 : Nat) (k2l : List Int) (hK : 8 < K) :
    iter (f80.s6 K) K (0, 64, b, k2, k2l, s, z, v) = some (64, b, k2, k2l, z, Sh.added s v 8) := by
  have := iter_for (stp := f80.s6 K) (N := 8) (fun i => ((i : Int), 64, b, k2, k2l, s, z, Sh.added s v i)) (y := some (64, b, k2, k2l, z, Sh.added s v 8)) ?_ ?_ hK
  · exact this
  · intro i hi rec
    simp only [f80.s6, f80.s6t]
    rw [decide_eq_true (show (i : Int) < 8 by omega), cond_t, decide_eq_true (show (0 : Int) ≤ (i : Int) ∧ (i : Int) < 8 by omega), cond_t, cond_t, cond_t, Int.toNat_natCast, wrap_i _ (by omega) (by omega)]
    rfl
  · intro rec
    simp only [f80.s6, f80.s6t]
    rfl
theorem f80.spec (K : Nat) (s b : List Int) (hs : s.length = 8) (hb : b.length = 64) (ho : octets b) (hK : 64 < K) :
    f80.F K (s, 64, 64, 64, b, 64, Sh.consts) = some (Sh.comp s b, 64, b, 64, Sh.consts) := by
  simp only [f80.F, f80.T]
  have h1 := f80.first K 64 b s [0, 0, 0, 0, 0, 0, 0, 0] ho hb (by omega) 64 Sh.consts
  rw [show iter (f80.s0 K) K (64, 64, 0, 64, b, 64, Sh.consts, s, [0, 0, 0, 0, 0, 0, 0, 0], [0, 0, 0, 0, 0, 0, 0, 0, 0, 0, 0, 0, 0, 0, 0, 0, 0, 0, 0, 0, 0, 0, 0, 0, 0, 0, 0, 0, 0, 0, 0, 0, 0, 0, 0, 0, 0, 0, 0, 0, 0, 0, 0, 0, 0, 0, 0, 0, 0, 0, 0, 0, 0, 0, 0, 0, 0, 0, 0, 0, 0, 0, 0, 0]) = _ from h1, bind_s]
  dsimp only
  rw [f80.second K 64 b s _ hK, bind_s]
  dsimp only
  rw [f80.third K b s _ s hK, bind_s]
  dsimp only
  rw [f80.fourth K b s _ _ 64 Sh.consts (by omega), bind_s]
  dsimp only
  rw [comp_same s b hs]
theorem added_len (v s : List Int) (hs : s.length = 8) : ∀ i, i ≤ 8 → (Sh.added v s i).length = 8
  | 0, _ => hs
  | i + 1, h => by
    have := added_len v s hs i (by omega)
    rw [Sh.added, length_setD (by omega)]; exact this
theorem rounds_len (s b : List Int) (hs : s.length = 8) (t : Nat) : (Rf.rounds s b t).length = 8 := (rounds_same s b hs t).2
theorem comp_len (s b : List Int) (hs : s.length = 8) : (Sh.comp s b).length = 8 := by
  rw [comp_same s b hs]; exact added_len _ _ (rounds_len s b hs 64) 8 (by omega)
theorem chain_len (m : List Int) : ∀ n, (Sh.chain m n).length = 8
  | 0 => rfl
  | n + 1 => comp_len _ _ (chain_len m n)
theorem f52.zeros (K n0 : Nat) (l0 z : List Int) (m : List Int) (a : Nat) (hm : m.length + 100 ≤ 140737488355328) (hK : 64 < K) :
    iter (f52.s0 K) K (a, m.length, n0, l0, z, m.length, m) = some (a, m.length + (119 - (m.length + 63) % 64) % 64, n0, l0, z, m.length + (119 - (m.length + 63) % 64) % 64, m ++ List.replicate ((119 - (m.length + 63) % 64) % 64) 0) := by
  generalize hN : (119 - (m.length + 63) % 64) % 64 = N
  have := iter_for (stp := f52.s0 K) (N := N) (fun i => (a, m.length + i, n0, l0, z, m.length + i, m ++ List.replicate i 0)) (y := some (a, m.length + N, n0, l0, z, m.length + N, m ++ List.replicate N 0)) ?_ ?_ (show N < K by omega)
  · simp only [Nat.add_zero, List.replicate_zero, List.append_nil] at this
    exact this
  · intro i hi rec
    simp only [f52.s0, f52.s0t]
    have e : Int.tmod ((m.length + i : Nat) : Int) 64 = (((m.length + i) % 64 : Nat) : Int) := tmod_nat _ 64
    rw [e, show ((((m.length + i) % 64 : Nat) : Int) != 56) = true from bne_iff_ne.2 (by omega), cond_t, ble_true (Nat.le_refl _), fitB_true (by omega), Bool.and_self, cond_t, padT_self _ (by simp), List.append_assoc, ← List.replicate_succ']
    rfl
  · intro rec
    simp only [f52.s0, f52.s0t]
    have e : Int.tmod ((m.length + N : Nat) : Int) 64 = (((m.length + N) % 64 : Nat) : Int) := tmod_nat _ 64
    rw [e, show ((((m.length + N) % 64 : Nat) : Int) != 56) = false from by rw [bne_eq_false_iff_eq]; omega, cond_f]
theorem f52.eight (K n0 : Nat) (l0 z : List Int) (m : List Int) (x : Nat) (hx : x < 18446744073709551616) (hm : m.length + 100 ≤ 140737488355328) (hK : 64 < K) :
    iter (f52.s2 K) K (m.length, (x : Int), 0, n0, l0, z, m.length, m) = some (m.length + 8, n0, l0, z, m.length + 8, m ++ be 8 x) := by
  have top : ∀ i, i < 8 → be (i + 1) (x / 256 ^ (7 - i)) = be i (x / 256 ^ (8 - i)) ++ [((x / 256 ^ (7 - i) % 256 : Nat) : Int)] := fun i hi => by
    rw [be, Nat.div_div_eq_div_mul, ← Nat.pow_succ, show (7 - i).succ = 8 - i by omega]
  have := iter_for (stp := f52.s2 K) (N := 8) (fun i => (m.length + i, (x : Int), (i : Int), n0, l0, z, m.length + i, m ++ be i (x / 256 ^ (8 - i)))) (y := some (m.length + 8, n0, l0, z, m.length + 8, m ++ be 8 x)) ?_ ?_ (show 8 < K by omega)
  · simp only [Nat.add_zero, be, List.append_nil] at this
    exact this
  · intro i hi rec
    simp only [f52.s2, f52.s2t]
    have e12 : IntKind.wrap .i64 (56 - (IntKind.wrap .i64 (8 * (i : Int)))) = ((56 - 8 * i : Nat) : Int) := by rw [wrap_i (8 * (i : Int)) (by omega) (by omega), wrap_i _ (by omega) (by omega)]; omega
    have sh : IntKind.wrap .u8 (shiftI .shr .u64 (x : Int) ((56 - 8 * i : Nat) : Int)) = ((x / 256 ^ (7 - i) % 256 : Nat) : Int) := by
      unfold shiftI
      dsimp only
      rw [Int.toNat_natCast, show min (56 - 8 * i) IntKind.u64.bits = 56 - 8 * i from Nat.min_eq_left (by show _ ≤ 64; omega), fdiv_nat, show (2 : Nat) ^ (56 - 8 * i) = 256 ^ (7 - i) by rw [show (256 : Nat) = 2 ^ 8 from rfl, ← Nat.pow_mul]; congr 1; omega]
      simp [IntKind.wrap, IntKind.signed, IntKind.bits]
    rw [decide_eq_true (show (i : Int) < 8 by omega), cond_t]
    simp only [e12]
    rw [decide_eq_true (show (0 : Int) ≤ ((56 - 8 * i : Nat) : Int) by omega), cond_t, ble_true (Nat.le_refl _), fitB_true (by omega), Bool.and_self, cond_t, padT_self _ (by simp [be_length]), sh, wrap_i _ (by omega) (by omega), List.append_assoc, show 8 - (i + 1) = 7 - i by omega, top i hi]
    rfl
  · intro rec
    simp only [f52.s2, f52.s2t]
    rw [show 8 - 8 = 0 from rfl, Nat.pow_zero, Nat.div_one]
    rfl
end Go.Proofs

namespace Go.Proofs
open Go.VM
theorem octets_drop {l : List Int} (h : octets l) (a b : Nat) : octets ((l.drop a).take b) := fun x hx => h x (List.mem_of_mem_drop (List.mem_of_mem_take hx))
theorem f52.blocks (K n0 : Nat) (l0 z : List Int) (m : List Int) (n : Nat) (hm : m.length = 64 * n) (ho : octets m) (hs : m.length ≤ 140737488355328) (hK : 64 + n < K) :
    iter (f52.s4 K) K (m.length, 0, n0, l0, z, m.length, m, Sh.init, Sh.consts) = some (n0, l0, z, Sh.chain m n) := by
  have := iter_for (stp := f52.s4 K) (N := n) (fun i => (m.length, ((64 * i : Nat) : Int), n0, l0, z, m.length, m, Sh.chain m i, Sh.consts)) (y := some (n0, l0, z, Sh.chain m n)) ?_ ?_ (show n < K by omega)
  · exact this
  · intro i hi rec
    simp only [f52.s4, f52.s4t]
    have e21 : IntKind.wrap .i64 (((64 * i : Nat) : Int) + 64) = ((64 * (i + 1) : Nat) : Int) := by rw [wrap_i _ (by omega) (by omega)]; omega
    rw [decide_eq_true (show ((64 * i : Nat) : Int) < ((m.length : Nat) : Int) by omega), cond_t]
    simp only [e21, Int.toNat_natCast]
    rw [decide_eq_true (show (0 : Int) ≤ ((64 * (i + 1) : Nat) : Int) ∧ ((64 * (i + 1) : Nat) : Int) ≤ ((m.length : Nat) : Int) by omega), decide_eq_true (show (0 : Int) ≤ ((64 * i : Nat) : Int) ∧ ((64 * i : Nat) : Int) ≤ ((64 * (i + 1) : Nat) : Int) by omega), Nat.zero_add, ble_true (Nat.le_refl _), Bool.and_self, Bool.and_self, cond_t,
      Nat.zero_add, show 64 * (i + 1) - 64 * i = 64 by omega, ble_true (show 64 * i + 64 ≤ m.length by omega), Bool.and_self, Bool.and_self, cond_t, subI_self Sh.consts (show _ = 64 from rfl), subI_cut m (64 * i) 64 (by omega)]
    rw [f80.spec K _ _ (chain_len m i) (by rw [List.length_take, List.length_drop]; omega) (octets_drop ho _ _) (by omega), bind_s]
    dsimp only
    rw [← show Sh.chain m (i + 1) = Sh.comp (Sh.chain m i) ((m.drop (64 * i)).take 64) from rfl]
  · intro rec
    simp only [f52.s4, f52.s4t]
    rw [decide_eq_false (show ¬ ((64 * n : Nat) : Int) < ((m.length : Nat) : Int) by omega), cond_f]
theorem added_range (v : List Int) (s : List Int) (hs : s.length = 8) : ∀ i, i ≤ 8 → ∀ k, k < i → 0 ≤ (Sh.added v s i).getD k 0 ∧ (Sh.added v s i).getD k 0 < 4294967296
  | 0, _, k, hk => absurd hk (Nat.not_lt_zero k)
  | i + 1, h, k, hk => by
    have hl := added_len v s hs i (by omega)
    rw [Sh.added, setD_at _ _ _ _ (by omega)]
    by_cases hki : k = i
    · rw [if_pos hki, wrap32_mod]; omega
    · rw [if_neg hki]; exact added_range v s hs i (by omega) k (by omega)
theorem chain_range (m : List Int) (n k : Nat) (hk : k < 8) : 0 ≤ (Sh.chain m n).getD k 0 ∧ (Sh.chain m n).getD k 0 < 4294967296 := by
  cases n with
  | zero =>
    have : ∀ k : Fin 8, 0 ≤ Sh.init.getD k.val 0 ∧ Sh.init.getD k.val 0 < 4294967296 := by decide
    exact this ⟨k, hk⟩
  | succ n =>
    rw [Sh.chain, comp_same _ _ (chain_len m n)]
    exact added_range _ _ (rounds_len _ _ (chain_len m n) 64) 8 (by omega) k hk
def Rf.dig (s : List Int) (i : Nat) : Int := (((s.getD (i / 4) 0).toNat / 256 ^ (3 - i % 4) % 256 : Nat) : Int)
def Rf.digs (s : List Int) (i : Nat) : List Int := (List.range 32).map fun k => if k < i then Rf.dig s k else 0
theorem Rf.digs_set (s : List Int) (i : Nat) (hi : i < 32) : setD (Rf.digs s i) i (Rf.dig s i) = Rf.digs s (i + 1) := by
  have hl : ∀ j, (Rf.digs s j).length = 32 := fun j => by simp [Rf.digs]
  refine ext_getD (by rw [length_setD (by rw [hl]; exact hi), hl, hl]) fun k hk => ?_
  rw [length_setD (by rw [hl]; exact hi), hl] at hk
  rw [setD_at _ _ _ _ (by rw [hl]; exact hi)]
  have g : ∀ j, (Rf.digs s j).getD k 0 = if k < j then Rf.dig s k else 0 := fun j => by simp [Rf.digs, List.getD_eq_getElem?_getD, hk]
  rw [g, g]
  by_cases h : k = i
  · subst h; rw [if_pos rfl, if_pos (by omega)]
  · rw [if_neg h]
    by_cases h2 : k < i
    · rw [if_pos h2, if_pos (by omega)]
    · rw [if_neg h2, if_neg (by omega)]
theorem Rf.digs_all (s : List Int) (h : ∀ k, k < 8 → 0 ≤ s.getD k 0 ∧ s.getD k 0 < 4294967296) : Rf.digs s 32 = Sh.digest s := by
  have w : ∀ k, k < 8 → (IntKind.wrap .u64 (s.getD k 0)).toNat = (s.getD k 0).toNat := fun k hk => by
    obtain ⟨h1, h2⟩ := h k hk
    rw [wrap_u _ h1 (by omega)]
  have b4 : ∀ x : Nat, be 4 x = [((x / 256 ^ 3 % 256 : Nat) : Int), ((x / 256 ^ 2 % 256 : Nat) : Int), ((x / 256 ^ 1 % 256 : Nat) : Int), ((x / 256 ^ 0 % 256 : Nat) : Int)] := fun x => by
    simp only [be, List.nil_append, List.cons_append, Nat.div_div_eq_div_mul]
    simp
  simp only [Sh.digest, List.range, List.range.loop, List.flatMap_cons, List.flatMap_nil, w 0 (by omega), w 1 (by omega), w 2 (by omega), w 3 (by omega), w 4 (by omega), w 5 (by omega), w 6 (by omega), w 7 (by omega), b4, List.cons_append, List.nil_append, List.append_nil]
  rfl
theorem f52.digest (K n0 : Nat) (l0 z s : List Int) (h : ∀ k, k < 8 → 0 ≤ s.getD k 0 ∧ s.getD k 0 < 4294967296) (hK : 32 < K) :
    iter (f52.s6 K) K (0, n0, l0, z, s, Rf.digs s 0) = some (n0, l0, z, Rf.digs s 32) := by
  have := iter_for (stp := f52.s6 K) (N := 32) (fun i => ((i : Int), n0, l0, z, s, Rf.digs s i)) (y := some (n0, l0, z, Rf.digs s 32)) ?_ ?_ hK
  · exact this
  · intro i hi rec
    simp only [f52.s6, f52.s6t]
    have e28 : IntKind.wrap .i64 (Int.tdiv (i : Int) 4) = ((i / 4 : Nat) : Int) := by rw [show Int.tdiv (i : Int) 4 = ((i / 4 : Nat) : Int) from tdiv_nat i 4, wrap_i _ (by omega) (by omega)]
    have e33 : IntKind.wrap .i64 (24 - (IntKind.wrap .i64 (8 * (Int.tmod (i : Int) 4)))) = ((24 - 8 * (i % 4) : Nat) : Int) := by
      rw [show Int.tmod (i : Int) 4 = ((i % 4 : Nat) : Int) from tmod_nat i 4, wrap_i (8 * ((i % 4 : Nat) : Int)) (by omega) (by omega), wrap_i _ (by omega) (by omega)]; omega
    obtain ⟨r1, r2⟩ := h (i / 4) (by omega)
    have sh : IntKind.wrap .u8 (shiftI .shr .u32 (List.getD s (i / 4) 0) ((24 - 8 * (i % 4) : Nat) : Int)) = Rf.dig s i := by
      unfold shiftI Rf.dig
      dsimp only
      obtain ⟨x, hx⟩ : ∃ x : Nat, List.getD s (i / 4) 0 = (x : Int) := ⟨(List.getD s (i / 4) 0).toNat, by omega⟩
      rw [hx, Int.toNat_natCast, Int.toNat_natCast, show min (24 - 8 * (i % 4)) IntKind.u32.bits = 24 - 8 * (i % 4) from Nat.min_eq_left (by show _ ≤ 32; omega), fdiv_nat, show (2 : Nat) ^ (24 - 8 * (i % 4)) = 256 ^ (3 - i % 4) by rw [show (256 : Nat) = 2 ^ 8 from rfl, ← Nat.pow_mul]; congr 1; omega]
      simp [IntKind.wrap, IntKind.signed, IntKind.bits]
    rw [decide_eq_true (show (i : Int) < 32 by omega), cond_t]
    simp only [e28, e33, Int.toNat_natCast]
    rw [decide_eq_true (show (0 : Int) ≤ ((i / 4 : Nat) : Int) ∧ ((i / 4 : Nat) : Int) < 8 by omega), cond_t, decide_eq_true (show (0 : Int) ≤ ((24 - 8 * (i % 4) : Nat) : Int) by omega), cond_t, decide_eq_true (show (0 : Int) ≤ (i : Int) ∧ (i : Int) < 32 by omega), cond_t, sh, Rf.digs_set s i hi, wrap_i _ (by omega) (by omega)]
    rfl
  · intro rec
    simp only [f52.s6, f52.s6t]
    rfl
theorem f52.spec (K n : Nat) (m : List Int) (hm : m.length = n) (ho : octets m) (hn : n ≤ 100000000000) (hK : 200 + n / 64 < K) : f52.F K (n, n, m) = some (Sh.sum m, n, m) := by
  simp only [f52.F, f52.T]
  rw [Nat.zero_add, ble_true (Nat.le_refl n), fitB_true (by omega), Bool.and_self, cond_t, fitB_true (by omega), Bool.and_self, cond_t, subI_self m hm, padT_self m hm]
  have l1 : (m ++ [128]).length = n + 1 := by simp [hm]
  have z := f52.zeros K n m [0, 0, 0, 0, 0, 0, 0, 0, 0, 0, 0, 0, 0, 0, 0, 0, 0, 0, 0, 0, 0, 0, 0, 0, 0, 0, 0, 0, 0, 0, 0, 0] (m ++ [128]) n (by omega) (by omega)
  rw [l1, show (119 - (n + 1 + 63) % 64) % 64 = (119 - m.length % 64) % 64 by omega] at z
  generalize hN : (119 - m.length % 64) % 64 = N at z
  rw [z, bind_s]
  dsimp only
  have w8 : IntKind.wrap .u64 (8 * (IntKind.wrap .u64 ((n : Nat) : Int))) = ((8 * n : Nat) : Int) := by rw [wrap_u (n : Int) (by omega) (by omega), wrap_u _ (by omega) (by omega)]; omega
  have l2 : (m ++ [128] ++ List.replicate N 0).length = n + 1 + N := by rw [List.length_append, l1, List.length_replicate]
  have e := f52.eight K n m [0, 0, 0, 0, 0, 0, 0, 0, 0, 0, 0, 0, 0, 0, 0, 0, 0, 0, 0, 0, 0, 0, 0, 0, 0, 0, 0, 0, 0, 0, 0, 0] (m ++ [128] ++ List.replicate N 0) (8 * n) (by omega) (by omega) (by omega)
  rw [l2] at e
  rw [w8, e, bind_s, show f79.F K () = some Sh.consts from rfl, bind_s]
  dsimp only
  have hp : m ++ [128] ++ List.replicate N 0 ++ be 8 (8 * n) = Sh.padded m := by rw [Sh.padded, hN, hm]
  have lp : (Sh.padded m).length = n + 1 + N + 8 := by rw [← hp, List.length_append, l2, be_length]
  have op : octets (Sh.padded m) := by
    rw [← hp]
    exact octets_append (octets_append (octets_append ho (by intro x hx; simp only [List.mem_singleton] at hx; omega)) (octets_zeros N)) (be_octets _ _)
  have b := f52.blocks K n m [0, 0, 0, 0, 0, 0, 0, 0, 0, 0, 0, 0, 0, 0, 0, 0, 0, 0, 0, 0, 0, 0, 0, 0, 0, 0, 0, 0, 0, 0, 0, 0] (Sh.padded m) ((Sh.padded m).length / 64) (by omega) op (by omega) (by omega)
  rw [hp, ← lp]
  rw [show [1779033703, 3144134277, 1013904242, 2773480762, 1359893119, 2600822924, 528734635, 1541459225] = Sh.init from rfl, b, bind_s]
  dsimp only
  have d := f52.digest K n m [0, 0, 0, 0, 0, 0, 0, 0, 0, 0, 0, 0, 0, 0, 0, 0, 0, 0, 0, 0, 0, 0, 0, 0, 0, 0, 0, 0, 0, 0, 0, 0] (Sh.chain (Sh.padded m) ((Sh.padded m).length / 64)) (fun k hk => chain_range _ _ k hk) (by omega)
  rw [show Rf.digs (Sh.chain (Sh.padded m) ((Sh.padded m).length / 64)) 0 = [0, 0, 0, 0, 0, 0, 0, 0, 0, 0, 0, 0, 0, 0, 0, 0, 0, 0, 0, 0, 0, 0, 0, 0, 0, 0, 0, 0, 0, 0, 0, 0] from rfl] at d
  rw [d, bind_s]
  dsimp only
  rw [Rf.digs_all _ (fun k hk => chain_range _ _ k hk), ← Sh.sum]
end Go.Proofs

namespace Go.Proofs
open Go.VM
abbrev f85.Ty0 := Nat × Nat × Int × Nat × List Int × List Int × Nat × List Int
abbrev f85.Ty1 := Nat × Nat × Nat × List Int × Nat × List Int
abbrev f85.Ty2 := Nat × Nat × List Int × Nat × List Int
abbrev f85.Ty3 := Nat × List Int × Nat × List Int
noncomputable def f85.c : Code := bodyOf Try.f85
def f85.s0t (K : Nat) (rec : f85.Ty0 → Option (f85.Ty1)) (t0 : Nat) (t5 : Nat) (t6 : Int) (b0_0 : Nat) (b0_1 : List Int) (b2 : List Int) (b3_0 : Nat) (b3_1 : List Int) : Option (f85.Ty1) :=
  bif (decide (t6 < 4)) then
    bif decide (0 ≤ t6 ∧ t6 < 4) then
      (f96.F K ((List.getD b2 (Int.toNat t6) 0), 8)).bind fun y4 =>
      alt (fun y5 =>
        bif ((Nat.ble (0 + t5) b3_0 && true) && true) then
          (f95.F K (0, t5, 0, [], t5, (subI b3_1 0 t5))).bind fun y7 =>
          rec (t0, y7.1, (IntKind.wrap .i64 (t6 + 1)), b0_0, b0_1, b2, y7.2.2.2.2.2.1, y7.2.2.2.2.2.2)
        else
          none) (fun y6 =>
        bif ((Nat.ble (0 + y6.1) y6.2.1 && true) && ((Nat.ble (0 + t5) b3_0 && true) && true)) then
          (f95.F K (y6.1, t5, y6.1, (subI y6.2.2 0 y6.1), t5, (subI b3_1 0 t5))).bind fun y9 =>
          rec (t0, y9.1, (IntKind.wrap .i64 (t6 + 1)), b0_0, b0_1, b2, y9.2.2.2.2.2.1, y9.2.2.2.2.2.2)
        else
          none) y4
    else
      none
  else
    some (t0, t5, b0_0, b0_1, b3_0, b3_1)
def f85.s0 (K : Nat) (rec : f85.Ty0 → Option (f85.Ty1)) (x : f85.Ty0) : Option (f85.Ty1) := f85.s0t K rec x.1 x.2.1 x.2.2.1 x.2.2.2.1 x.2.2.2.2.1 x.2.2.2.2.2.1 x.2.2.2.2.2.2.1 x.2.2.2.2.2.2.2
noncomputable def f85.s0.b : Code := (findLoop 0 f85.c).getD .skip
def f85.s0.h : Hint := { lv := [0, 3, 5, 6], co := [(5, 5, [.ints .u8 0 []])] }
def f85.s0.ho : Hint := { lv := [0, 5] }
def f85.s0.shp (x : f85.Ty0) : VS := ⟨[(0, .vw true 0 0 x.1 1), (3, .ptr 2 0), (5, .vec 3 0 x.2.1 4), (6, .int .i64 x.2.2.1)], [(0, ([.ints .u8 x.2.2.2.1 x.2.2.2.2.1], 0, .ro)), (2, ([.ints .u64 4 x.2.2.2.2.2.1], 39, .norm)), (3, ([.ints .u8 x.2.2.2.2.2.2.1 x.2.2.2.2.2.2.2], 5, .vec 4))], 5⟩
def f85.s0.inX : VS → Option (f85.Ty0)
  | ⟨[(0, .vw true 0 0 t0 1), (3, .ptr 2 0), (5, .vec 3 0 t5 4), (6, .int .i64 t6)], [(0, ([.ints .u8 b0_0 b0_1], 0, .ro)), (2, ([.ints .u64 4 b2], 39, .norm)), (3, ([.ints .u8 b3_0 b3_1], 5, .vec 4))], 5⟩ => some (t0, t5, t6, b0_0, b0_1, b2, b3_0, b3_1)
  | _ => none
def f85.s0.o0 (y : f85.Ty1) : VS := ⟨[(0, .vw true 0 0 y.1 1), (5, .vec 2 0 y.2.1 3)], [(0, ([.ints .u8 y.2.2.1 y.2.2.2.1], 0, .ro)), (2, ([.ints .u8 y.2.2.2.2.1 y.2.2.2.2.2], 5, .vec 3))], 4⟩
def f85.s0.des : ∀ α : Type, (f85.Ty1) → (Ex → VS → Option α) → Option α := (des1 (.exit 0) f85.s0.o0)
def f85.s0.out : f85.Ty1 → Ex × VS := (fun y => (.exit 0, f85.s0.o0 y))
theorem f85.s0.desOK : ∀ α y (k : Ex → VS → Option α), f85.s0.des α y k = k (f85.s0.out y).1 (f85.s0.out y).2 := (fun _ _ _ => rfl)
def f85.s0.inY : Ex → VS → Option (f85.Ty1)
  | .exit 0, ⟨[(0, .vw true 0 0 t0 1), (5, .vec 2 0 t5 3)], [(0, ([.ints .u8 b0_0 b0_1], 0, .ro)), (2, ([.ints .u8 b2_0 b2_1], 5, .vec 3))], 4⟩ => some (t0, t5, b0_0, b0_1, b2_0, b2_1)
  | _, _ => none
def f85.lp (K : Nat) : Nat → Option (Hint × Summ) := tabLp [(0, f85.s0.h, summOf (iter (f85.s0 K) K) f85.s0.inX f85.s0.des)]
noncomputable def f85.tab (K : Nat) : List (Nat × Entry) := [(96, (f96.E K)), (95, (viewE [(0, .u8), (1, .u8)] (f95.E K)))]
theorem f85.tabOK (K : Nat) : SpecOK Try.prog (tabSp (f85.tab K)) := tab_ok ((tab_cons (f96.ok K) (tab_cons (view_ok (f95.ok K)) tab_nil)))
theorem f85.s0.eq (K : Nat) (rec : f85.Ty0 → Option (f85.Ty1)) (x : f85.Ty0) : f85.s0 K rec x = roundL (getA tys) (tabSp (f85.tab K)) 20 2 (f85.lp K) 400 f85.s0.b f85.s0.h f85.s0.ho f85.s0.shp f85.s0.inX f85.s0.inY rec x := by kernel_rfl
theorem f85.s0.lok (K : Nat) : LoopsOK Try.prog 20 2 (f85.lp K) f85.s0.b := loops_ok (by
  have h : loopsIn (f85.lp K) f85.s0.b = [] := by kernel_rfl
  rw [h]; simp)
theorem f85.s0.ok (K : Nat) : SummOK Try.prog 20 2 (summOf (iter (f85.s0 K) K) f85.s0.inX f85.s0.des) f85.s0.b :=
  loop_ok mix tys_ok (f85.tabOK K) (h := f85.s0.h) (ho := f85.s0.ho) (shp := f85.s0.shp) (inX := f85.s0.inX) (des := f85.s0.des) (out := f85.s0.out) (inY := f85.s0.inY) (fuel := 400)
    (by intro st x h; unfold f85.s0.inX at h; split at h <;> simp at h; subst h; rfl)
    (by intro e st y h; unfold f85.s0.inY at h; split at h <;> simp at h <;> subst h <;> rfl)
    f85.s0.desOK (f85.s0.lok K) (f85.s0 K) (f85.s0.eq K) K
theorem f85.loops (K : Nat) : LoopsOK Try.prog 20 2 (f85.lp K) f85.c := loops_ok (by
  have h : loopsIn (f85.lp K) f85.c = [(0, f85.s0.b)] := by kernel_rfl
  rw [h]
  intro p hp
  simp only [List.mem_cons, List.not_mem_nil, or_false] at hp
  rcases hp with rfl
  · exact ⟨_, rfl, (f85.s0.ok K)⟩)
def f85.T (K : Nat) (a0 : Nat) (a1 : List Int) (m0_0 : Nat) (m0_1 : List Int) : Option (f85.Ty2) :=
  (iter (f85.s0 K) K (a0, 0, 0, m0_0, m0_1, a1, 0, [])).bind fun y11 =>
  bif ((Nat.ble (0 + y11.1) y11.2.2.1 && true) && ((Nat.ble (0 + y11.2.1) y11.2.2.2.2.1 && true) && true)) then
    (f95.F K (y11.1, y11.2.1, y11.1, (subI y11.2.2.2.1 0 y11.1), y11.2.1, (subI y11.2.2.2.2.2 0 y11.2.1))).bind fun y12 =>
    some (y12.1, y11.2.2.1, y11.2.2.2.1, y12.2.2.2.2.2.1, y12.2.2.2.2.2.2)
  else
    none
def f85.F (K : Nat) (x : f85.Ty3) : Option (f85.Ty2) := f85.T K x.1 x.2.1 x.2.2.1 x.2.2.2
def f85.av (x : f85.Ty3) : List VV := [.vw true 0 0 x.1 1, .agg [.ints .u64 4 x.2.1]]
def f85.bl (x : f85.Ty3) : List (Nat × Blk) := [(0, ([.ints .u8 x.2.2.1 x.2.2.2], 0, .ro))]
def f85.inA : VS → Option (f85.Ty3)
  | ⟨[(0, .vw true 0 0 a0 1), (1, .agg [.ints .u64 4 a1])], [(0, ([.ints .u8 m0_0 m0_1], 0, .ro))], 2⟩ => some (a0, a1, m0_0, m0_1)
  | _ => none
def f85.o0 (y : f85.Ty2) : VS := ⟨[(0, .vec 2 0 y.1 3)], [(0, ([.ints .u8 y.2.1 y.2.2.1], 0, .ro)), (2, ([.ints .u8 y.2.2.2.1 y.2.2.2.2], 5, .vec 3))], 4⟩
def f85.des : ∀ α : Type, (f85.Ty2) → (VS → Option α) → Option α := (dv1 f85.o0)
def f85.out : f85.Ty2 → VS := f85.o0
def f85.inR : VS → Option (f85.Ty2)
  | ⟨[(0, .vec 2 0 y 3)], [(0, ([.ints .u8 z0_0 z0_1], 0, .ro)), (2, ([.ints .u8 z2_0 z2_1], 5, .vec 3))], 4⟩ => some (y, z0_0, z0_1, z2_0, z2_1)
  | _ => none
noncomputable def f85.E (K : Nat) : Entry := genE 2 f85.inA (f85.F K) f85.des
theorem f85.eq (K : Nat) (x : f85.Ty3) : f85.F K x = xrun (getA tys) (tabSp (f85.tab K)) Try.f85.ntmps 2 (f85.lp K) 400 f85.c ⟨initL 0 (f85.av x), f85.bl x, 2⟩ (contF (getA tys) 2 Try.f85.results.toList f85.inR) := by kernel_rfl
theorem f85.ok (K : Nat) : EntryOK Try.prog 85 (f85.E K) :=
  gen_ok mix tys_ok (f85.tabOK K) Try.func85 (by kernel_rfl : Try.f85.body = some f85.c) (by kernel_rfl) (f85.loops K) (av := f85.av) (bl := f85.bl) (out := f85.out) (fuel := 400)
    (by intro s x h; unfold f85.inA at h; split at h <;> simp at h; subst h; rfl) (fun _ => Nat.le_of_ble_eq_true rfl)
    (by intro s y h; unfold f85.inR at h; split at h <;> simp at h <;> subst h <;> rfl) (fun _ _ _ => rfl) (f85.eq K)
end Go.Proofs

namespace Go.Proofs
open Go.VM
abbrev f55.Ty0 := Nat × Int × Nat × List Int × List Int × List Int
abbrev f55.Ty1 := Nat × List Int × List Int × List Int
abbrev f55.Ty2 := List Int × Int × Nat × List Int
abbrev f55.Ty3 := Nat × Nat × List Int
noncomputable def f55.c : Code := bodyOf Try.f55
def f55.s0t (K : Nat) (rec : f55.Ty0 → Option (f55.Ty1)) (t0 : Nat) (t5 : Int) (b0_0 : Nat) (b0_1 : List Int) (b2 : List Int) (b3 : List Int) : Option (f55.Ty1) :=
  bif (decide (t5 < 4)) then
    let v5 := IntKind.wrap .i64 (24 - (IntKind.wrap .i64 (8 * t5)))
    let v7 := IntKind.wrap .i64 (32 - (IntKind.wrap .i64 (8 * t5)))
    bif (decide (0 ≤ v7 ∧ v7 ≤ ((t0 : Nat) : Int)) && (decide (0 ≤ v5 ∧ v5 ≤ ((Int.toNat v7 : Nat) : Int)))) then
      let v8 := 0 + (Int.toNat v5)
      let v9 := (Int.toNat v7) - (Int.toNat v5)
      bif ((Nat.ble (v8 + v9) b0_0 && true) && true) then
        (f84.F K (v9, v9, (subI b0_1 v8 v9))).bind fun y10 =>
        bif decide (0 ≤ t5 ∧ t5 < 4) then
          rec (t0, (IntKind.wrap .i64 (t5 + 1)), b0_0, b0_1, b2, (setD b3 (Int.toNat t5) y10.1))
        else
          none
      else
        none
    else
      none
  else
    some (b0_0, b0_1, b2, b3)
def f55.s0 (K : Nat) (rec : f55.Ty0 → Option (f55.Ty1)) (x : f55.Ty0) : Option (f55.Ty1) := f55.s0t K rec x.1 x.2.1 x.2.2.1 x.2.2.2.1 x.2.2.2.2.1 x.2.2.2.2.2
noncomputable def f55.s0.b : Code := (findLoop 0 f55.c).getD .skip
def f55.s0.h : Hint := { lv := [0, 2, 4, 5] }
def f55.s0.ho : Hint := { lv := [2, 4] }
def f55.s0.shp (x : f55.Ty0) : VS := ⟨[(0, .vw true 0 0 x.1 1), (2, .ptr 2 0), (4, .ptr 3 0), (5, .int .i64 x.2.1)], [(0, ([.ints .u8 x.2.2.1 x.2.2.2.1], 0, .ro)), (2, ([.ints .u64 4 x.2.2.2.2.1], 39, .norm)), (3, ([.ints .u64 4 x.2.2.2.2.2], 39, .norm))], 4⟩
def f55.s0.inX : VS → Option (f55.Ty0)
  | ⟨[(0, .vw true 0 0 t0 1), (2, .ptr 2 0), (4, .ptr 3 0), (5, .int .i64 t5)], [(0, ([.ints .u8 b0_0 b0_1], 0, .ro)), (2, ([.ints .u64 4 b2], 39, .norm)), (3, ([.ints .u64 4 b3], 39, .norm))], 4⟩ => some (t0, t5, b0_0, b0_1, b2, b3)
  | _ => none
def f55.s0.o0 (y : f55.Ty1) : VS := ⟨[(2, .ptr 2 0), (4, .ptr 3 0)], [(0, ([.ints .u8 y.1 y.2.1], 0, .ro)), (2, ([.ints .u64 4 y.2.2.1], 39, .norm)), (3, ([.ints .u64 4 y.2.2.2], 39, .norm))], 4⟩
def f55.s0.des : ∀ α : Type, (f55.Ty1) → (Ex → VS → Option α) → Option α := (des1 (.exit 0) f55.s0.o0)
def f55.s0.out : f55.Ty1 → Ex × VS := (fun y => (.exit 0, f55.s0.o0 y))
theorem f55.s0.desOK : ∀ α y (k : Ex → VS → Option α), f55.s0.des α y k = k (f55.s0.out y).1 (f55.s0.out y).2 := (fun _ _ _ => rfl)
def f55.s0.inY : Ex → VS → Option (f55.Ty1)
  | .exit 0, ⟨[(2, .ptr 2 0), (4, .ptr 3 0)], [(0, ([.ints .u8 b0_0 b0_1], 0, .ro)), (2, ([.ints .u64 4 b2], 39, .norm)), (3, ([.ints .u64 4 b3], 39, .norm))], 4⟩ => some (b0_0, b0_1, b2, b3)
  | _, _ => none
def f55.lp (K : Nat) : Nat → Option (Hint × Summ) := tabLp [(0, f55.s0.h, summOf (iter (f55.s0 K) K) f55.s0.inX f55.s0.des)]
noncomputable def f55.tab (K : Nat) : List (Nat × Entry) := [(84, (viewE [(0, .u8)] (f84.E K)))]
theorem f55.tabOK (K : Nat) : SpecOK Try.prog (tabSp (f55.tab K)) := tab_ok ((tab_cons (view_ok (f84.ok K)) tab_nil))
theorem f55.s0.eq (K : Nat) (rec : f55.Ty0 → Option (f55.Ty1)) (x : f55.Ty0) : f55.s0 K rec x = roundL (getA tys) (tabSp (f55.tab K)) 26 2 (f55.lp K) 400 f55.s0.b f55.s0.h f55.s0.ho f55.s0.shp f55.s0.inX f55.s0.inY rec x := by kernel_rfl
theorem f55.s0.lok (K : Nat) : LoopsOK Try.prog 26 2 (f55.lp K) f55.s0.b := loops_ok (by
  have h : loopsIn (f55.lp K) f55.s0.b = [] := by kernel_rfl
  rw [h]; simp)
theorem f55.s0.ok (K : Nat) : SummOK Try.prog 26 2 (summOf (iter (f55.s0 K) K) f55.s0.inX f55.s0.des) f55.s0.b :=
  loop_ok mix tys_ok (f55.tabOK K) (h := f55.s0.h) (ho := f55.s0.ho) (shp := f55.s0.shp) (inX := f55.s0.inX) (des := f55.s0.des) (out := f55.s0.out) (inY := f55.s0.inY) (fuel := 400)
    (by intro st x h; unfold f55.s0.inX at h; split at h <;> simp at h; subst h; rfl)
    (by intro e st y h; unfold f55.s0.inY at h; split at h <;> simp at h <;> subst h <;> rfl)
    f55.s0.desOK (f55.s0.lok K) (f55.s0 K) (f55.s0.eq K) K
theorem f55.loops (K : Nat) : LoopsOK Try.prog 26 2 (f55.lp K) f55.c := loops_ok (by
  have h : loopsIn (f55.lp K) f55.c = [(0, f55.s0.b)] := by kernel_rfl
  rw [h]
  intro p hp
  simp only [List.mem_cons, List.not_mem_nil, or_false] at hp
  rcases hp with rfl
  · exact ⟨_, rfl, (f55.s0.ok K)⟩)
def f55.T (K : Nat) (a0 : Nat) (m0_0 : Nat) (m0_1 : List Int) : Option (f55.Ty2) :=
  bif (decide (((a0 : Nat) : Int) < 32)) then
    some ([0, 0, 0, 0], 5, m0_0, m0_1)
  else
    (iter (f55.s0 K) K (a0, 0, m0_0, m0_1, [0, 0, 0, 0], [0, 0, 0, 0])).bind fun y14 =>
    some (y14.2.2.2, 0, y14.1, y14.2.1)
def f55.F (K : Nat) (x : f55.Ty3) : Option (f55.Ty2) := f55.T K x.1 x.2.1 x.2.2
def f55.av (x : f55.Ty3) : List VV := [.vw true 0 0 x.1 1]
def f55.bl (x : f55.Ty3) : List (Nat × Blk) := [(0, ([.ints .u8 x.2.1 x.2.2], 0, .ro))]
def f55.inA : VS → Option (f55.Ty3)
  | ⟨[(0, .vw true 0 0 a0 1)], [(0, ([.ints .u8 m0_0 m0_1], 0, .ro))], 2⟩ => some (a0, m0_0, m0_1)
  | _ => none
def f55.o0 (y : f55.Ty2) : VS := ⟨[(0, .tup [.agg [.ints .u64 4 y.1], .int .i64 y.2.1])], [(0, ([.ints .u8 y.2.2.1 y.2.2.2], 0, .ro))], 2⟩
def f55.des : ∀ α : Type, (f55.Ty2) → (VS → Option α) → Option α := (dv1 f55.o0)
def f55.out : f55.Ty2 → VS := f55.o0
def f55.inR : VS → Option (f55.Ty2)
  | ⟨[(0, .tup [.agg [.ints .u64 4 y_0], .int .i64 y_1])], [(0, ([.ints .u8 z0_0 z0_1], 0, .ro))], 2⟩ => some (y_0, y_1, z0_0, z0_1)
  | _ => none
noncomputable def f55.E (K : Nat) : Entry := genE 2 f55.inA (f55.F K) f55.des
theorem f55.eq (K : Nat) (x : f55.Ty3) : f55.F K x = xrun (getA tys) (tabSp (f55.tab K)) Try.f55.ntmps 2 (f55.lp K) 400 f55.c ⟨initL 0 (f55.av x), f55.bl x, 2⟩ (contF (getA tys) 2 Try.f55.results.toList f55.inR) := by kernel_rfl
theorem f55.ok (K : Nat) : EntryOK Try.prog 55 (f55.E K) :=
  gen_ok mix tys_ok (f55.tabOK K) Try.func55 (by kernel_rfl : Try.f55.body = some f55.c) (by kernel_rfl) (f55.loops K) (av := f55.av) (bl := f55.bl) (out := f55.out) (fuel := 400)
    (by intro s x h; unfold f55.inA at h; split at h <;> simp at h; subst h; rfl) (fun _ => Nat.le_of_ble_eq_true rfl)
    (by intro s y h; unfold f55.inR at h; split at h <;> simp at h <;> subst h <;> rfl) (fun _ _ _ => rfl) (f55.eq K)
end Go.Proofs

namespace Go.Proofs
open Go.VM
abbrev f99.Ty0 := Int × Int × Nat × List Int
abbrev f99.Ty1 := Nat × Int × Nat × List Int
def f99.T (K : Nat) (a0 : Nat) (a1 : Int) (m0_0 : Nat) (m0_1 : List Int) : Option (f99.Ty0) :=
  bif (decide (a1 < 0)) then
    some (0, 1, m0_0, m0_1)
  else
    bif (decide (a1 > 8)) then
      some (0, 1, m0_0, m0_1)
    else
      bif (decide (a1 > ((a0 : Nat) : Int))) then
        some (0, 5, m0_0, m0_1)
      else
        bif (decide (0 ≤ a1 ∧ a1 ≤ ((a0 : Nat) : Int)) && true) then
          let v5 := Int.toNat a1
          bif ((Nat.ble (0 + v5) m0_0 && true) && true) then
            (f84.F K (v5, v5, (subI m0_1 0 v5))).bind fun y6 =>
            some (y6.1, 0, m0_0, m0_1)
          else
            none
        else
          none
def f99.F (K : Nat) (x : f99.Ty1) : Option (f99.Ty0) := f99.T K x.1 x.2.1 x.2.2.1 x.2.2.2
def f99.av (x : f99.Ty1) : List VV := [.vw true 0 0 x.1 1, .int .i64 x.2.1]
def f99.bl (x : f99.Ty1) : List (Nat × Blk) := [(0, ([.ints .u8 x.2.2.1 x.2.2.2], 0, .ro))]
def f99.inA : VS → Option (f99.Ty1)
  | ⟨[(0, .vw true 0 0 a0 1), (1, .int .i64 a1)], [(0, ([.ints .u8 m0_0 m0_1], 0, .ro))], 2⟩ => some (a0, a1, m0_0, m0_1)
  | _ => none
def f99.o0 (y : f99.Ty0) : VS := ⟨[(0, .tup [.int .u64 y.1, .int .i64 y.2.1])], [(0, ([.ints .u8 y.2.2.1 y.2.2.2], 0, .ro))], 2⟩
def f99.inR : VS → Option (f99.Ty0)
  | ⟨[(0, .tup [.int .u64 y_0, .int .i64 y_1])], [(0, ([.ints .u8 z0_0 z0_1], 0, .ro))], 2⟩ => some (y_0, y_1, z0_0, z0_1)
  | _ => none
noncomputable def f99.E (K : Nat) : Entry := genE 2 f99.inA (f99.F K) (dv1 f99.o0)
theorem f99.ok (K : Nat) : EntryOK Try.prog 99 (f99.E K) := gen_ok mix tys_ok (sp := tabSp [(84, (viewE [(0, .u8)] (f84.E K)))]) (tab_ok ((tab_cons (view_ok (f84.ok K)) tab_nil))) Try.func99 (c := bodyOf Try.f99) (by kernel_rfl) (by kernel_rfl) (loops_none (lp := lpNone) (by kernel_rfl)) (av := f99.av) (bl := f99.bl) (inR := f99.inR) (out := f99.o0) (fuel := 400)
  (by intro s x h; unfold f99.inA at h; split at h <;> simp at h; subst h; rfl) (fun _ => Nat.le_of_ble_eq_true rfl)
  (by intro s y h; unfold f99.inR at h; split at h <;> simp at h <;> subst h <;> rfl) (fun _ _ _ => rfl) (fun _ => by kernel_rfl)
end Go.Proofs

namespace Go.Proofs
open Go.VM
theorem pow_bytes (n : Nat) : (256 : Nat) ^ n = 2 ^ (8 * n) := by
  rw [show (256 : Nat) = 2 ^ 8 from rfl, ← Nat.pow_mul]
theorem f96.eight (K w : Nat) (h : w < 18446744073709551616) (hK : 8 < K) : f96.F K ((w : Int), 8) = some (.inr (8, 8, be 8 w)) := by
  have := f96.spec 8 K w h hK (by decide)
  exact this
theorem f85.loop (a A : Nat) (L : List Int) : iter (f85.s0 100000) 100000 (a, 0, 0, a, L, num A, 0, []) = some (a, 32, a, L, 32, be 32 A) := by
  have key := iter_for (stp := f85.s0 100000) (N := 4) (fun i => (a, 8 * i, (i : Int), a, L, num A, 8 * i, be (8 * i) A)) (y := some (a, 32, a, L, 32, be 32 A)) (fun i hi rec => by
      simp only [f85.s0, f85.s0t]
      have e1 : List.getD (num A) i 0 = ((A / 2 ^ (64 * i) % 18446744073709551616 : Nat) : Int) := getD_words hi
      have w2 : IntKind.wrap .i64 ((i : Int) + 1) = ((i + 1 : Nat) : Int) := by rw [wrap_i _ (by omega) (by omega)]; rfl
      have hl : (be (8 * i) A).length = 8 * i := be_length _ _
      have e2 : be 8 (A / 2 ^ (64 * i) % 18446744073709551616) ++ be (8 * i) A = be (8 * (i + 1)) A := by
        rw [show (18446744073709551616 : Nat) = 256 ^ 8 from rfl, be_mod 8, show 64 * i = 8 * (8 * i) by omega, ← pow_bytes, ← be_add, show 8 + 8 * i = 8 * (i + 1) by omega]
      rw [decide_eq_true (show (i : Int) < 4 by omega), cond_t, decide_eq_true (show 0 ≤ (i : Int) ∧ (i : Int) < 4 by omega), cond_t, Int.toNat_natCast, e1, f96.eight _ _ (Nat.mod_lt _ (by decide)) (by decide), bind_s, altr]
      simp only [Nat.zero_add]
      rw [ble_true (Nat.le_refl 8), ble_true (Nat.le_refl (8 * i))]
      simp only [Bool.true_and]
      rw [cond_t, subI_self _ (be_length 8 _), subI_self _ hl,
        f95.spec _ 8 (8 * i) _ _ (be_length 8 _) hl (by omega), bind_s, e2, w2, show 8 + 8 * i = 8 * (i + 1) by omega])
    (fun rec => by
      simp only [f85.s0, f85.s0t]
      rw [decide_eq_false (show ¬ ((4 : Nat) : Int) < 4 by decide), cond_f]) (show 4 < 100000 by decide)
  exact key
theorem f85.spec (a A : Nat) (L : List Int) (hL : L.length = a) (ha : a < 1000000000) : f85.F 100000 (a, num A, a, L) = some (a + 32, a, L, a + 32, L ++ be 32 A) := by
  simp only [f85.F, f85.T, f85.loop a A L, bind_s, Nat.zero_add]
  rw [ble_true (Nat.le_refl a), ble_true (Nat.le_refl 32)]
  simp only [Bool.true_and]
  rw [cond_t, subI_self L hL, subI_self _ (be_length 32 A), f95.spec _ a 32 _ _ hL (be_length 32 A) (by omega), bind_s]
theorem told_at (l : List Int) (off : Nat) (ho : octets l) (h : off + 8 ≤ l.length) (hl : l.length < 1000000000) :
    f84.F 100000 (8, 8, subI l off 8) = some (((tv ((l.drop off).take 8) : Nat) : Int), 8, (l.drop off).take 8) := by
  rw [subI_cut l off 8 h]
  exact f84.spec 8 100000 _ (by simp; omega) (fun x hx => ho x (List.mem_of_mem_drop (List.mem_of_mem_take hx))) (by decide) (by decide)
theorem tv_word (l : List Int) (off k : Nat) (ho : octets l) (h : off + 8 + k = l.length) : tv ((l.drop off).take 8) = tv l / 256 ^ k % 256 ^ 8 := by
  have e1 : l = l.take off ++ ((l.drop off).take 8 ++ (l.drop off).drop 8) := by rw [List.take_append_drop, List.take_append_drop]
  have l1 : ((l.drop off).take 8).length = 8 := by simp; omega
  have l2 : ((l.drop off).drop 8).length = k := by simp; omega
  have b2 := tv_lt k _ l2 (fun x hx => ho x (List.mem_of_mem_drop (List.mem_of_mem_drop hx)))
  have b1 := tv_lt 8 _ l1 (fun x hx => ho x (List.mem_of_mem_drop (List.mem_of_mem_take hx)))
  conv => rhs; rw [e1]
  rw [tv_append, tv_append, List.length_append, l1, l2, Nat.pow_add, ← Nat.mul_assoc, ← Nat.add_assoc, ← Nat.add_mul, Nat.mul_comm _ (256 ^ k), Nat.mul_add_div (Nat.pow_pos (by decide)), Nat.div_eq_of_lt b2, Nat.add_zero, Nat.mul_comm, Nat.mul_add_mod, Nat.mod_eq_of_lt b1]
theorem f55.spec (l : List Int) (hl : l.length = 32) (ho : octets l) : f55.F 100000 (32, 32, l) = some (num (tv l), 0, 32, l) := by
  have hlt : tv l < 2 ^ 256 := by have := tv_lt 32 l hl ho; rw [pow_bytes] at this; exact this
  have key := iter_for (stp := f55.s0 100000) (N := 4) (fun i => (32, (i : Int), 32, l, [0, 0, 0, 0], num (tv l % 2 ^ (64 * i)))) (y := some (32, l, [0, 0, 0, 0], num (tv l))) (fun i hi rec => by
      simp only [f55.s0, f55.s0t]
      have w0 : IntKind.wrap .i64 (8 * (i : Int)) = ((8 * i : Nat) : Int) := by rw [wrap_i _ (by omega) (by omega)]; omega
      have w1 : IntKind.wrap .i64 (24 - ((8 * i : Nat) : Int)) = ((24 - 8 * i : Nat) : Int) := by rw [wrap_i _ (by omega) (by omega)]; omega
      have w2 : IntKind.wrap .i64 (32 - ((8 * i : Nat) : Int)) = ((32 - 8 * i : Nat) : Int) := by rw [wrap_i _ (by omega) (by omega)]; omega
      have w3 : IntKind.wrap .i64 ((i : Int) + 1) = ((i + 1 : Nat) : Int) := by rw [wrap_i _ (by omega) (by omega)]; rfl
      have ht := told_at l (24 - 8 * i) ho (by omega) (by omega)
      have hw := tv_word l (24 - 8 * i) (8 * i) ho (by omega)
      have hs : setD (num (tv l % 2 ^ (64 * i))) i ((tv l / 2 ^ (64 * i) % 2 ^ 64 : Nat) : Int) = num (tv l % 2 ^ (64 * (i + 1))) := by
        rw [num, words, setD_vec hi, num, words]
        refine congrArg _ (funext fun j => ?_)
        rcases Nat.lt_trichotomy j i with h | h | h
        · rw [if_neg (by omega), word_of_mod _ 64 j i h, word_of_mod _ 64 j (i + 1) (by omega)]
        · subst h
          rw [if_pos rfl, word_of_mod _ 64 j (j + 1) (by omega)]
        · rw [if_neg (by omega)]
          have p1 : tv l % 2 ^ (64 * i) < 2 ^ (64 * j) := Nat.lt_of_lt_of_le (Nat.mod_lt _ (Nat.two_pow_pos _)) (Nat.pow_le_pow_right (by decide) (by omega))
          have p2 : tv l % 2 ^ (64 * (i + 1)) < 2 ^ (64 * j) := Nat.lt_of_lt_of_le (Nat.mod_lt _ (Nat.two_pow_pos _)) (Nat.pow_le_pow_right (by decide) (by omega))
          rw [Nat.div_eq_of_lt p1, Nat.div_eq_of_lt p2]
      rw [decide_eq_true (show (i : Int) < 4 by omega), cond_t, w0, w1, w2, decide_eq_true (show (0 : Int) ≤ ((32 - 8 * i : Nat) : Int) ∧ ((32 - 8 * i : Nat) : Int) ≤ ((32 : Nat) : Int) by omega), Bool.true_and, Int.toNat_natCast,
        decide_eq_true (show (0 : Int) ≤ ((24 - 8 * i : Nat) : Int) ∧ ((24 - 8 * i : Nat) : Int) ≤ ((32 - 8 * i : Nat) : Int) by omega), cond_t, Int.toNat_natCast, Nat.zero_add, show 32 - 8 * i - (24 - 8 * i) = 8 by omega,
        ble_true (show 24 - 8 * i + 8 ≤ 32 by omega), Bool.true_and, Bool.true_and, cond_t, ht, bind_s, decide_eq_true (show 0 ≤ (i : Int) ∧ (i : Int) < 4 by omega), cond_t, Int.toNat_natCast, w3, hw, pow_bytes, pow_bytes, show 8 * (8 * i) = 64 * i by omega, show 8 * 8 = 64 from rfl, hs])
    (fun rec => by
      simp only [f55.s0, f55.s0t]
      rw [decide_eq_false (show ¬ ((4 : Nat) : Int) < 4 by decide), cond_f, Nat.mod_eq_of_lt hlt]) (show 4 < 100000 by decide)
  simp only [f55.F, f55.T]
  rw [decide_eq_false (show ¬ ((32 : Nat) : Int) < 32 by decide), cond_f]
  simp only [Nat.mul_zero, Nat.pow_zero, Nat.mod_one] at key
  have key' : iter (f55.s0 100000) 100000 (32, 0, 32, l, [0, 0, 0, 0], [0, 0, 0, 0]) = some (32, l, [0, 0, 0, 0], num (tv l)) := key
  rw [key', bind_s]
end Go.Proofs
