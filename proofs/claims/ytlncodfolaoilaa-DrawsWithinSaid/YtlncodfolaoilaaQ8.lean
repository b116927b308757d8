/- Plain laws: lemmas that hold with no condition but those that each states. -/
import Derived.Test.YtlncodfolaoilaaQ7
import Derived.Test.YtlncodfolaoilaaQ2
namespace Go.Proofs
open Go.VM
theorem shl_nat (x k : Nat) (h : k ≤ 64) : shiftI .shl .u64 (x : Int) (k : Int) = ((x * 2 ^ k % 2 ^ 64 : Nat) : Int) := by
  show IntKind.wrap .u64 ((x : Int) * 2 ^ (min (Int.toNat (k : Int)) 64)) = _
  rw [Int.toNat_natCast, Nat.min_eq_left h, show (x : Int) * 2 ^ k = ((x * 2 ^ k : Nat) : Int) by simp, wrap_nat]
theorem f93.spec (K x : Nat) (hx : x < 18446744073709551616) : f93.F K (x : Int) = some ((64 - blen x : Nat) : Int) := by
  have h : blen x ≤ 64 := blen_le (k := 64) hx
  simp only [f93.F, f93.T, f68.spec K x hx, bind_s]
  rw [wrap_i _ (by omega) (by omega)]
  congr 1; omega
theorem wrap_left (u u1 q Y : Nat) (hq : q * Y ≤ u * 4294967296 + u1) (hr : u * 4294967296 + u1 - q * Y < 18446744073709551616) :
    IntKind.wrap .u64 (IntKind.wrap .u64 (IntKind.wrap .u64 ((u : Int) * 4294967296) + (u1 : Int)) - IntKind.wrap .u64 ((q : Int) * (Y : Int))) = ((u * 4294967296 + u1 - q * Y : Nat) : Int) := by
  have e : (q : Int) * (Y : Int) = ((q * Y : Nat) : Int) := by simp
  rw [e]
  simp only [wrap_emod]
  omega
theorem low_mask (x : Nat) (h : x < 18446744073709551616) : bits .and .u64 (x : Int) 4294967295 = ((x % 4294967296 : Nat) : Int) := and_mask32 x h
theorem fdiv32 (x : Nat) : Int.fdiv (x : Int) (2 ^ 32) = ((x / 4294967296 : Nat) : Int) := fdiv_nat x 32
theorem mod_eq_sub (u v : Nat) : u - u / v * v = u % v := by
  have := Nat.mod_add_div u v
  rw [Nat.mul_comm] at this
  omega
theorem f86.spec (K hi lo y : Nat) (hy : y < 18446744073709551616) (hhi : hi < y) (hlo : lo < 18446744073709551616) (hK : 1 < K) :
    f86.F K ((hi : Int), (lo : Int), (y : Int)) = some ((((hi * 18446744073709551616 + lo) / y : Nat) : Int), (((hi * 18446744073709551616 + lo) % y : Nat) : Int)) := by
  have hy0 : 0 < y := by omega
  simp only [f86.F, f86.T]
  have c1 : ((y : Int) == 0) = false := by simp; omega
  have c3 : decide ((y : Int) ≠ 0) = true := decide_eq_true (by omega)
  rw [c1, decide_eq_false (show ¬ (y : Int) ≤ (hi : Int) by omega), c3]
  simp only [cond_t, cond_f]
  by_cases h0 : hi = 0
  · subst h0
    rw [show (((0 : Nat) : Int) == 0) = true from rfl, cond_t, tdiv_nat, tmod_nat, wrap_nat, Nat.zero_mul, Nat.zero_add, Nat.mod_eq_of_lt (Nat.lt_of_le_of_lt (Nat.div_le_self _ _) hlo)]
  · have c4 : ((hi : Int) == 0) = false := by simp; omega
    rw [c4, cond_f, f93.spec K y hy, bind_s]
    obtain ⟨gy, py⟩ := blen_ge (x := y) (by omega)
    have hb : blen y ≤ 64 := blen_le (k := 64) hy
    have ly := blen_lt y
    obtain ⟨s, hs⟩ : ∃ s, s = 64 - blen y := ⟨_, rfl⟩
    rw [← hs]
    have hs63 : s ≤ 63 := by omega
    have w5 : IntKind.wrap .u64 (s : Int) = (s : Int) := wrap_u _ (by omega) (by omega)
    have w10 : IntKind.wrap .u64 (64 - (s : Int)) = ((64 - s : Nat) : Int) := by rw [wrap_u _ (by omega) (by omega)]; omega
    have d1 : decide (0 ≤ (s : Int)) = true := decide_eq_true (by omega)
    have d2 : decide (0 ≤ ((64 - s : Nat) : Int)) = true := decide_eq_true (by omega)
    have p2 := Nat.two_pow_pos s
    have e64 : 18446744073709551616 = 2 ^ (64 - s) * 2 ^ s := by rw [← Nat.pow_add, show 64 - s + s = 64 by omega]
    have hYlt : y * 2 ^ s < 18446744073709551616 := by
      have h1 : y * 2 ^ s < 2 ^ blen y * 2 ^ s := Nat.mul_lt_mul_of_pos_right ly p2
      rw [← Nat.pow_add, show blen y + s = 64 by omega] at h1
      exact h1
    have hYge : 9223372036854775808 ≤ y * 2 ^ s := by
      have h1 : 2 ^ (blen y - 1) * 2 ^ s ≤ y * 2 ^ s := Nat.mul_le_mul_right _ gy
      rw [← Nat.pow_add, show blen y - 1 + s = 63 by omega] at h1
      exact h1
    have hl1 : lo / 2 ^ (64 - s) < 2 ^ s := by rw [Nat.div_lt_iff_lt_mul (Nat.two_pow_pos _), Nat.mul_comm, ← e64]; exact hlo
    have hu : hi * 2 ^ s + lo / 2 ^ (64 - s) < y * 2 ^ s := by
      have : (hi + 1) * 2 ^ s ≤ y * 2 ^ s := Nat.mul_le_mul_right _ hhi
      rw [Nat.succ_mul] at this
      omega
    have hh1 : hi * 2 ^ s < 18446744073709551616 := Nat.lt_of_le_of_lt (Nat.le_add_right _ _) (Nat.lt_trans hu hYlt)
    have hh2 : lo / 2 ^ (64 - s) < 18446744073709551616 := Nat.lt_of_le_of_lt (Nat.le_add_left _ _) (Nat.lt_trans hu hYlt)
    have hor : bits .or .u64 (shiftI .shl .u64 (hi : Int) (s : Int)) (shiftI .shr .u64 (lo : Int) ((64 - s : Nat) : Int)) = ((hi * 2 ^ s + lo / 2 ^ (64 - s) : Nat) : Int) := by
      rw [shl_nat hi s (by omega), shr_nat lo (64 - s) (by omega), show (2 : Nat) ^ 64 = 18446744073709551616 from rfl, Nat.mod_eq_of_lt hh1, bits_or_u64_nat _ _ hh1 hh2]
      congr 1
      rw [← Nat.shiftLeft_eq, ← Nat.shiftLeft_add_eq_or_of_lt hl1]
    have hlow : lo * 2 ^ s = lo / 2 ^ (64 - s) * 18446744073709551616 + lo * 2 ^ s % 18446744073709551616 := by
      have h1 : lo * 2 ^ s / 18446744073709551616 = lo / 2 ^ (64 - s) := by rw [e64, Nat.mul_div_mul_right _ _ p2]
      have h2 := Nat.mod_add_div (lo * 2 ^ s) 18446744073709551616
      rw [h1, Nat.mul_comm 18446744073709551616] at h2
      omega
    rw [w5, w10, d1, d2, hor, shl_nat y s (by omega), shl_nat lo s (by omega), show (2 : Nat) ^ 64 = 18446744073709551616 from rfl, Nat.mod_eq_of_lt hYlt]
    simp only [cond_t]
    have hw : lo * 2 ^ s % 18446744073709551616 < 18446744073709551616 := Nat.mod_lt _ (by decide)
    rw [low_mask _ hYlt, low_mask _ hw, fdiv32, fdiv32]
    have hN : (hi * 18446744073709551616 + lo) * 2 ^ s = (hi * 2 ^ s + lo / 2 ^ (64 - s)) * 18446744073709551616 + lo * 2 ^ s % 18446744073709551616 := by
      rw [Nat.add_mul, hlow, Nat.add_mul, Nat.mul_assoc, Nat.mul_comm 18446744073709551616, ← Nat.mul_assoc]
      omega
    have hfin : (hi * 18446744073709551616 + lo) / y = (hi * 18446744073709551616 + lo) * 2 ^ s / (y * 2 ^ s) ∧ (hi * 18446744073709551616 + lo) % y * 2 ^ s = (hi * 18446744073709551616 + lo) * 2 ^ s % (y * 2 ^ s) :=
      ⟨(Nat.mul_div_mul_right _ _ p2).symm, (Nat.mul_mod_mul_right _ _ _).symm⟩
    obtain ⟨N, hNN⟩ : ∃ N, N = hi * 18446744073709551616 + lo := ⟨_, rfl⟩
    obtain ⟨u, huu⟩ : ∃ u, u = hi * 2 ^ s + lo / 2 ^ (64 - s) := ⟨_, rfl⟩
    obtain ⟨l, hll⟩ : ∃ l, l = lo * 2 ^ s % 18446744073709551616 := ⟨_, rfl⟩
    obtain ⟨Y, hYY⟩ : ∃ Y, Y = y * 2 ^ s := ⟨_, rfl⟩
    rw [← hNN, ← huu, ← hll] at hN
    rw [← hNN, ← hYY] at hfin
    rw [← huu, ← hYY] at hu
    rw [← hYY] at hYlt hYge
    rw [← hll] at hw
    rw [← hNN, ← huu, ← hll, ← hYY]
    clear hNN huu hll hYY hlow hl1 hor hh1 hh2
    obtain ⟨y1, hy1⟩ : ∃ y1, y1 = Y / 4294967296 := ⟨_, rfl⟩
    obtain ⟨y0', hy0'⟩ : ∃ y0, y0 = Y % 4294967296 := ⟨_, rfl⟩
    obtain ⟨u1, hu1⟩ : ∃ u1, u1 = l / 4294967296 := ⟨_, rfl⟩
    obtain ⟨u0, hu0⟩ : ∃ u0, u0 = l % 4294967296 := ⟨_, rfl⟩
    rw [← hy1, ← hy0', ← hu1, ← hu0]
    have b1 : 2147483648 ≤ y1 := by omega
    have b2 : y1 < 4294967296 := by omega
    have b3 : y0' < 4294967296 := by omega
    have b4 : Y = y1 * 4294967296 + y0' := by omega
    have b5 : u1 < 4294967296 := by omega
    have b6 : u0 < 4294967296 := by omega
    have step : ∀ v : Nat, v < Y → IntKind.wrap .u64 (Int.tdiv (v : Int) (y1 : Int)) = ((v / y1 : Nat) : Int) ∧ IntKind.wrap .u64 ((v : Int) - IntKind.wrap .u64 (((v / y1 : Nat) : Int) * (y1 : Int))) = ((v % y1 : Nat) : Int) := by
      intro v hv
      have h1 : v / y1 ≤ v := Nat.div_le_self _ _
      have h2 : v / y1 * y1 ≤ v := Nat.div_mul_le_self _ _
      have h3 := mod_eq_sub v y1
      refine ⟨by rw [tdiv_nat, wrap_nat, Nat.mod_eq_of_lt (by omega)], ?_⟩
      rw [show ((v / y1 : Nat) : Int) * (y1 : Int) = ((v / y1 * y1 : Nat) : Int) by simp, wrap_nat, Nat.mod_eq_of_lt (by omega), wrap_u _ (by omega) (by omega)]
      omega
    have dy : decide ((y1 : Int) ≠ 0) = true := decide_eq_true (by omega)
    rw [dy]
    simp only [cond_t]
    rw [(step u hu).1, (step u hu).2, f86.loop0 K K Y y1 y0' u u1 (s : Int) (u0 : Int) b4 b1 b2 b3 hu b5 hK, bind_s]
    have hY0 : 0 < Y := by omega
    have m1 := Nat.mod_lt (u * 4294967296 + u1) hY0
    have q1 : (u * 4294967296 + u1) / Y * Y ≤ u * 4294967296 + u1 := Nat.div_mul_le_self _ _
    have r1 := mod_eq_sub (u * 4294967296 + u1) Y
    have hq1 : (u * 4294967296 + u1) / Y < 4294967296 := by have := guess_lt (y1 := y1) (y0 := y0') (u := u) (u1 := u1) (by omega) (by omega) b5; rwa [← b4] at this
    have d1' := Nat.mod_add_div (u * 4294967296 + u1) Y
    generalize (u * 4294967296 + u1) / Y = Q1 at *
    have wl := wrap_left u u1 Q1 Y q1 (by omega)
    simp only [dy, cond_t]
    rw [wl, r1]
    generalize (u * 4294967296 + u1) % Y = R1 at *
    rw [(step R1 m1).1, (step R1 m1).2, f86.loop2 K K Y y1 y0' R1 u0 (s : Int) (Q1 : Int) b4 b1 b2 b3 m1 b6 hK, bind_s]
    have m2 := Nat.mod_lt (R1 * 4294967296 + u0) hY0
    have q2 : (R1 * 4294967296 + u0) / Y * Y ≤ R1 * 4294967296 + u0 := Nat.div_mul_le_self _ _
    have r2 := mod_eq_sub (R1 * 4294967296 + u0) Y
    have hq2 : (R1 * 4294967296 + u0) / Y < 4294967296 := by have := guess_lt (y1 := y1) (y0 := y0') (u := R1) (u1 := u0) (by omega) (by omega) b6; rwa [← b4] at this
    have d2' := Nat.mod_add_div (R1 * 4294967296 + u0) Y
    generalize (R1 * 4294967296 + u0) / Y = Q0 at *
    have wl2 := wrap_left R1 u0 Q0 Y q2 (by omega)
    simp only [d1, cond_t]
    rw [wl2, r2]
    generalize (R1 * 4294967296 + u0) % Y = R0 at *
    have hdiv : N * 2 ^ s = R0 + Y * (Q1 * 4294967296 + Q0) := by
      rw [hN, Nat.mul_add, ← Nat.mul_assoc]
      omega
    obtain ⟨g1, g2⟩ := div_mod_of hdiv m2
    rw [hfin.1, g1, shr_nat R0 s (by omega)]
    have hrem : N % y = R0 / 2 ^ s := by
      have := hfin.2
      rw [g2] at this
      rw [← this, Nat.mul_div_cancel _ p2]
    rw [hrem, wrap_u ((Q1 : Int) * 4294967296) (by omega) (by omega), wrap_u _ (by omega) (by omega)]
    rfl
end Go.Proofs

namespace Go.Proofs
open Go.VM
abbrev f75.Ty0 := Int × Int × Int × Int × List Int × List Int × List Int × List Int
abbrev f75.Ty1 := Int × Int × List Int × List Int × List Int × List Int
abbrev f75.Ty2 := Int × Int × Int × List Int × List Int × List Int
abbrev f75.Ty3 := List Int × List Int × List Int
abbrev f75.Ty4 := Int × List Int
abbrev f75.Ty5 := List Int × Int
noncomputable def f75.c : Code := bodyOf Try.f75
def f75.s2t (K : Nat) (rec : f75.Ty0 → Option (f75.Ty2)) (t8 : Int) (t28 : Int) (t29 : Int) (t33 : Int) (b0 : List Int) (b1 : List Int) (b2 : List Int) (b3 : List Int) : Option (f75.Ty2) :=
  bif (decide (t33 < 4)) then
    let v10 := IntKind.wrap .i64 (3 - t33)
    bif decide (0 ≤ v10 ∧ v10 < 4) then
      (f86.F K (t8, (List.getD b2 (Int.toNat v10) 0), (List.getD b0 0 0))).bind fun y14 =>
      rec (y14.2, t28, t29, (IntKind.wrap .i64 (t33 + 1)), b0, b1, b2, b3)
    else
      none
  else
    some (t8, t28, t29, b0, b1, b3)
def f75.s2 (K : Nat) (rec : f75.Ty0 → Option (f75.Ty2)) (x : f75.Ty0) : Option (f75.Ty2) := f75.s2t K rec x.1 x.2.1 x.2.2.1 x.2.2.2.1 x.2.2.2.2.1 x.2.2.2.2.2.1 x.2.2.2.2.2.2.1 x.2.2.2.2.2.2.2
noncomputable def f75.s2.b : Code := (findLoop 2 f75.c).getD .skip
def f75.s2.h : Hint := { lv := [5, 6, 8, 10, 27, 28, 29, 33] }
def f75.s2.ho : Hint := { lv := [5, 6, 8, 27, 28, 29] }
def f75.s2.shp (x : f75.Ty0) : VS := ⟨[(5, .ptr 0 0), (6, .ptr 1 0), (8, .int .u64 x.1), (10, .ptr 2 0), (27, .sl 3 0 2 2), (28, .int .i64 x.2.1), (29, .int .i64 x.2.2.1), (33, .int .i64 x.2.2.2.1)], [(0, ([.ints .u64 4 x.2.2.2.2.1], 67, .norm)), (1, ([.ints .u64 4 x.2.2.2.2.2.1], 67, .norm)), (2, ([.ints .u64 4 x.2.2.2.2.2.2.1], 67, .norm)), (3, ([.ints .u64 8 x.2.2.2.2.2.2.2], 67, .norm))], 4⟩
def f75.s2.inX : VS → Option (f75.Ty0)
  | ⟨[(5, .ptr 0 0), (6, .ptr 1 0), (8, .int .u64 t8), (10, .ptr 2 0), (27, .sl 3 0 2 2), (28, .int .i64 t28), (29, .int .i64 t29), (33, .int .i64 t33)], [(0, ([.ints .u64 4 b0], 67, .norm)), (1, ([.ints .u64 4 b1], 67, .norm)), (2, ([.ints .u64 4 b2], 67, .norm)), (3, ([.ints .u64 8 b3], 67, .norm))], 4⟩ => some (t8, t28, t29, t33, b0, b1, b2, b3)
  | _ => none
def f75.s2.o0 (y : f75.Ty2) : VS := ⟨[(5, .ptr 0 0), (6, .ptr 1 0), (8, .int .u64 y.1), (27, .sl 2 0 2 2), (28, .int .i64 y.2.1), (29, .int .i64 y.2.2.1)], [(0, ([.ints .u64 4 y.2.2.2.1], 67, .norm)), (1, ([.ints .u64 4 y.2.2.2.2.1], 67, .norm)), (2, ([.ints .u64 8 y.2.2.2.2.2], 67, .norm))], 3⟩
def f75.s2.des : ∀ α : Type, (f75.Ty2) → (Ex → VS → Option α) → Option α := (des1 (.exit 2) f75.s2.o0)
def f75.s2.out : f75.Ty2 → Ex × VS := (fun y => (.exit 2, f75.s2.o0 y))
theorem f75.s2.desOK : ∀ α y (k : Ex → VS → Option α), f75.s2.des α y k = k (f75.s2.out y).1 (f75.s2.out y).2 := (fun _ _ _ => rfl)
def f75.s2.inY : Ex → VS → Option (f75.Ty2)
  | .exit 2, ⟨[(5, .ptr 0 0), (6, .ptr 1 0), (8, .int .u64 t8), (27, .sl 2 0 2 2), (28, .int .i64 t28), (29, .int .i64 t29)], [(0, ([.ints .u64 4 b0], 67, .norm)), (1, ([.ints .u64 4 b1], 67, .norm)), (2, ([.ints .u64 8 b2], 67, .norm))], 3⟩ => some (t8, t28, t29, b0, b1, b2)
  | _, _ => none
def f75.s0t (K : Nat) (rec : f75.Ty2 → Option (f75.Ty4)) (t8 : Int) (t28 : Int) (t29 : Int) (b0 : List Int) (b1 : List Int) (b2 : List Int) : Option (f75.Ty4) :=
  bif (decide (t29 < t28)) then
    bif decide (0 ≤ t29 ∧ t29 < 2) then
      (iter (f75.s2 K) K (t8, t28, t29, 0, b0, b1, (List.take 4 (List.drop ((Int.toNat t29) * 4) b2)), b2)).bind fun y16 =>
      rec (y16.1, y16.2.1, (IntKind.wrap .i64 (y16.2.2.1 + 1)), y16.2.2.2.1, y16.2.2.2.2.1, y16.2.2.2.2.2)
    else
      none
  else
    some (t8, b1)
def f75.s0 (K : Nat) (rec : f75.Ty2 → Option (f75.Ty4)) (x : f75.Ty2) : Option (f75.Ty4) := f75.s0t K rec x.1 x.2.1 x.2.2.1 x.2.2.2.1 x.2.2.2.2.1 x.2.2.2.2.2
noncomputable def f75.s0.b : Code := (findLoop 0 f75.c).getD .skip
def f75.s0.h : Hint := { lv := [5, 6, 8, 27, 28, 29] }
def f75.s0.ho : Hint := { lv := [6, 8] }
def f75.s0.shp (x : f75.Ty2) : VS := ⟨[(5, .ptr 0 0), (6, .ptr 1 0), (8, .int .u64 x.1), (27, .sl 2 0 2 2), (28, .int .i64 x.2.1), (29, .int .i64 x.2.2.1)], [(0, ([.ints .u64 4 x.2.2.2.1], 67, .norm)), (1, ([.ints .u64 4 x.2.2.2.2.1], 67, .norm)), (2, ([.ints .u64 8 x.2.2.2.2.2], 67, .norm))], 3⟩
def f75.s0.inX : VS → Option (f75.Ty2)
  | ⟨[(5, .ptr 0 0), (6, .ptr 1 0), (8, .int .u64 t8), (27, .sl 2 0 2 2), (28, .int .i64 t28), (29, .int .i64 t29)], [(0, ([.ints .u64 4 b0], 67, .norm)), (1, ([.ints .u64 4 b1], 67, .norm)), (2, ([.ints .u64 8 b2], 67, .norm))], 3⟩ => some (t8, t28, t29, b0, b1, b2)
  | _ => none
def f75.s0.o0 (y : f75.Ty4) : VS := ⟨[(6, .ptr 0 0), (8, .int .u64 y.1)], [(0, ([.ints .u64 4 y.2], 67, .norm))], 1⟩
def f75.s0.des : ∀ α : Type, (f75.Ty4) → (Ex → VS → Option α) → Option α := (des1 (.exit 0) f75.s0.o0)
def f75.s0.out : f75.Ty4 → Ex × VS := (fun y => (.exit 0, f75.s0.o0 y))
theorem f75.s0.desOK : ∀ α y (k : Ex → VS → Option α), f75.s0.des α y k = k (f75.s0.out y).1 (f75.s0.out y).2 := (fun _ _ _ => rfl)
def f75.s0.inY : Ex → VS → Option (f75.Ty4)
  | .exit 0, ⟨[(6, .ptr 0 0), (8, .int .u64 t8)], [(0, ([.ints .u64 4 b0], 67, .norm))], 1⟩ => some (t8, b0)
  | _, _ => none
def f75.s4t (K : Nat) (rec : f75.Ty1 → Option (List Int)) (t76 : Int) (t77 : Int) (b0 : List Int) (b1 : List Int) (b2 : List Int) (b3 : List Int) : Option (List Int) :=
  bif (decide (t77 < t76)) then
    (f89.F K (b0, t77)).bind fun y29 =>
    bif (y29 == 1) then
      (f88.F K (b2, b3, b1)).bind fun y30 =>
      (f88.F K (b3, b3, b1)).bind fun y31 =>
      rec (t76, (IntKind.wrap .i64 (t77 + 1)), b0, b1, y30, y31)
    else
      (f88.F K (b3, b3, b1)).bind fun y33 =>
      rec (t76, (IntKind.wrap .i64 (t77 + 1)), b0, b1, b2, y33)
  else
    some b2
def f75.s4 (K : Nat) (rec : f75.Ty1 → Option (List Int)) (x : f75.Ty1) : Option (List Int) := f75.s4t K rec x.1 x.2.1 x.2.2.1 x.2.2.2.1 x.2.2.2.2.1 x.2.2.2.2.2
noncomputable def f75.s4.b : Code := (findLoop 4 f75.c).getD .skip
def f75.s4.h : Hint := { lv := [4, 5, 6, 15, 76, 77] }
def f75.s4.ho : Hint := { lv := [6] }
def f75.s4.shp (x : f75.Ty1) : VS := ⟨[(4, .ptr 0 0), (5, .ptr 1 0), (6, .ptr 2 0), (15, .ptr 3 0), (76, .int .i64 x.1), (77, .int .i64 x.2.1)], [(0, ([.ints .u64 4 x.2.2.1], 67, .norm)), (1, ([.ints .u64 4 x.2.2.2.1], 67, .norm)), (2, ([.ints .u64 4 x.2.2.2.2.1], 67, .norm)), (3, ([.ints .u64 4 x.2.2.2.2.2], 67, .norm))], 4⟩
def f75.s4.inX : VS → Option (f75.Ty1)
  | ⟨[(4, .ptr 0 0), (5, .ptr 1 0), (6, .ptr 2 0), (15, .ptr 3 0), (76, .int .i64 t76), (77, .int .i64 t77)], [(0, ([.ints .u64 4 b0], 67, .norm)), (1, ([.ints .u64 4 b1], 67, .norm)), (2, ([.ints .u64 4 b2], 67, .norm)), (3, ([.ints .u64 4 b3], 67, .norm))], 4⟩ => some (t76, t77, b0, b1, b2, b3)
  | _ => none
def f75.s4.o0 (y : List Int) : VS := ⟨[(6, .ptr 0 0)], [(0, ([.ints .u64 4 y], 67, .norm))], 1⟩
def f75.s4.des : ∀ α : Type, (List Int) → (Ex → VS → Option α) → Option α := (des1 (.exit 4) f75.s4.o0)
def f75.s4.out : List Int → Ex × VS := (fun y => (.exit 4, f75.s4.o0 y))
theorem f75.s4.desOK : ∀ α y (k : Ex → VS → Option α), f75.s4.des α y k = k (f75.s4.out y).1 (f75.s4.out y).2 := (fun _ _ _ => rfl)
def f75.s4.inY : Ex → VS → Option (List Int)
  | .exit 4, ⟨[(6, .ptr 0 0)], [(0, ([.ints .u64 4 b0], 67, .norm))], 1⟩ => some b0
  | _, _ => none
def f75.lp (K : Nat) : Nat → Option (Hint × Summ) := tabLp [(2, f75.s2.h, summOf (iter (f75.s2 K) K) f75.s2.inX f75.s2.des), (0, f75.s0.h, summOf (iter (f75.s0 K) K) f75.s0.inX f75.s0.des), (4, f75.s4.h, summOf (iter (f75.s4 K) K) f75.s4.inX f75.s4.des)]
noncomputable def f75.tab (K : Nat) : List (Nat × Entry) := [(84, (f84.E K)), (85, (f85.E K)), (86, (f86.E K)), (39, (f39.E K)), (55, (f55.E K)), (87, (f87.E K)), (88, (f88.E K)), (89, (f89.E K))]
theorem f75.tabOK (K : Nat) : SpecOK Try.prog (tabSp (f75.tab K)) := tab_ok ((tab_cons (f84.ok K) (tab_cons (f85.ok K) (tab_cons (f86.ok K) (tab_cons (f39.ok K) (tab_cons (f55.ok K) (tab_cons (f87.ok K) (tab_cons (f88.ok K) (tab_cons (f89.ok K) tab_nil)))))))))
theorem f75.s2.eq (K : Nat) (rec : f75.Ty0 → Option (f75.Ty2)) (x : f75.Ty0) : f75.s2 K rec x = roundL (getA tys) (tabSp (f75.tab K)) 94 0 (f75.lp K) 400 f75.s2.b f75.s2.h f75.s2.ho f75.s2.shp f75.s2.inX f75.s2.inY rec x := by kernel_rfl
theorem f75.s2.lok (K : Nat) : LoopsOK Try.prog 94 0 (f75.lp K) f75.s2.b := loops_ok (by
  have h : loopsIn (f75.lp K) f75.s2.b = [] := by kernel_rfl
  rw [h]; simp)
theorem f75.s2.ok (K : Nat) : SummOK Try.prog 94 0 (summOf (iter (f75.s2 K) K) f75.s2.inX f75.s2.des) f75.s2.b :=
  loop_ok mix tys_ok (f75.tabOK K) (h := f75.s2.h) (ho := f75.s2.ho) (shp := f75.s2.shp) (inX := f75.s2.inX) (des := f75.s2.des) (out := f75.s2.out) (inY := f75.s2.inY) (fuel := 400)
    (by intro st x h; unfold f75.s2.inX at h; split at h <;> simp at h; subst h; rfl)
    (by intro e st y h; unfold f75.s2.inY at h; split at h <;> simp at h <;> subst h <;> rfl)
    f75.s2.desOK (f75.s2.lok K) (f75.s2 K) (f75.s2.eq K) K
theorem f75.s0.eq (K : Nat) (rec : f75.Ty2 → Option (f75.Ty4)) (x : f75.Ty2) : f75.s0 K rec x = roundL (getA tys) (tabSp (f75.tab K)) 94 0 (f75.lp K) 400 f75.s0.b f75.s0.h f75.s0.ho f75.s0.shp f75.s0.inX f75.s0.inY rec x := by kernel_rfl
theorem f75.s0.lok (K : Nat) : LoopsOK Try.prog 94 0 (f75.lp K) f75.s0.b := loops_ok (by
  have h : loopsIn (f75.lp K) f75.s0.b = [(2, f75.s2.b)] := by kernel_rfl
  rw [h]
  intro p hp
  simp only [List.mem_cons, List.not_mem_nil, or_false] at hp
  rcases hp with rfl
  · exact ⟨_, rfl, (f75.s2.ok K)⟩)
theorem f75.s0.ok (K : Nat) : SummOK Try.prog 94 0 (summOf (iter (f75.s0 K) K) f75.s0.inX f75.s0.des) f75.s0.b :=
  loop_ok mix tys_ok (f75.tabOK K) (h := f75.s0.h) (ho := f75.s0.ho) (shp := f75.s0.shp) (inX := f75.s0.inX) (des := f75.s0.des) (out := f75.s0.out) (inY := f75.s0.inY) (fuel := 400)
    (by intro st x h; unfold f75.s0.inX at h; split at h <;> simp at h; subst h; rfl)
    (by intro e st y h; unfold f75.s0.inY at h; split at h <;> simp at h <;> subst h <;> rfl)
    f75.s0.desOK (f75.s0.lok K) (f75.s0 K) (f75.s0.eq K) K
theorem f75.s4.eq (K : Nat) (rec : f75.Ty1 → Option (List Int)) (x : f75.Ty1) : f75.s4 K rec x = roundL (getA tys) (tabSp (f75.tab K)) 94 0 (f75.lp K) 400 f75.s4.b f75.s4.h f75.s4.ho f75.s4.shp f75.s4.inX f75.s4.inY rec x := by kernel_rfl
theorem f75.s4.lok (K : Nat) : LoopsOK Try.prog 94 0 (f75.lp K) f75.s4.b := loops_ok (by
  have h : loopsIn (f75.lp K) f75.s4.b = [] := by kernel_rfl
  rw [h]; simp)
theorem f75.s4.ok (K : Nat) : SummOK Try.prog 94 0 (summOf (iter (f75.s4 K) K) f75.s4.inX f75.s4.des) f75.s4.b :=
  loop_ok mix tys_ok (f75.tabOK K) (h := f75.s4.h) (ho := f75.s4.ho) (shp := f75.s4.shp) (inX := f75.s4.inX) (des := f75.s4.des) (out := f75.s4.out) (inY := f75.s4.inY) (fuel := 400)
    (by intro st x h; unfold f75.s4.inX at h; split at h <;> simp at h; subst h; rfl)
    (by intro e st y h; unfold f75.s4.inY at h; split at h <;> simp at h <;> subst h <;> rfl)
    f75.s4.desOK (f75.s4.lok K) (f75.s4 K) (f75.s4.eq K) K
theorem f75.loops (K : Nat) : LoopsOK Try.prog 94 0 (f75.lp K) f75.c := loops_ok (by
  have h : loopsIn (f75.lp K) f75.c = [(0, f75.s0.b), (2, f75.s2.b), (4, f75.s4.b)] := by kernel_rfl
  rw [h]
  intro p hp
  simp only [List.mem_cons, List.not_mem_nil, or_false] at hp
  rcases hp with rfl | rfl | rfl
  · exact ⟨_, rfl, (f75.s0.ok K)⟩
  · exact ⟨_, rfl, (f75.s2.ok K)⟩
  · exact ⟨_, rfl, (f75.s4.ok K)⟩)
def f75.T (K : Nat) (a0 : List Int) (a1 : List Int) (a2 : List Int) : Option (f75.Ty5) :=
  (f84.F K ()).bind fun y1 =>
  bif (eqL 4 a2 y1 && true) then
    some ([0, 0, 0, 0], 1)
  else
    (f85.F K a2).bind fun y3 =>
    bif (decide (y3 ≤ 64)) then
      (iter (f75.s0 K) K (0, 2, 0, a2, [0, 0, 0, 0], (spl (spl [] 0 4 a1) 4 4 a0))).bind fun y18 =>
      (f39.F K y18.1).bind fun y19 =>
      some (y19, 0)
    else
      (f84.F K ()).bind fun y20 =>
      (f39.F K 1).bind fun y21 =>
      (f55.F K (y20, y21)).bind fun y22 =>
      (f87.F K (a0, a2)).bind fun y23 =>
      (f87.F K (y22.1, a2)).bind fun y24 =>
      (f39.F K 1).bind fun y25 =>
      (f88.F K (y24.2.1, y25, a2)).bind fun y26 =>
      (f85.F K a1).bind fun y27 =>
      (iter (f75.s4 K) K (y27, 0, a1, a2, y23.2.1, y26)).bind fun y35 =>
      some (y35, 0)
def f75.F (K : Nat) (x : f75.Ty3) : Option (f75.Ty5) := f75.T K x.1 x.2.1 x.2.2
def f75.av (x : f75.Ty3) : List VV := [.agg [.ints .u64 4 x.1], .agg [.ints .u64 4 x.2.1], .agg [.ints .u64 4 x.2.2]]
def f75.bl (_x : f75.Ty3) : List (Nat × Blk) := []
def f75.inA : VS → Option (f75.Ty3)
  | ⟨[(0, .agg [.ints .u64 4 a0]), (1, .agg [.ints .u64 4 a1]), (2, .agg [.ints .u64 4 a2])], [], 0⟩ => some (a0, a1, a2)
  | _ => none
def f75.o0 (y : f75.Ty5) : VS := ⟨[(0, .tup [.agg [.ints .u64 4 y.1], .int .i64 y.2])], [], 0⟩
def f75.des : ∀ α : Type, (f75.Ty5) → (VS → Option α) → Option α := (dv1 f75.o0)
def f75.out : f75.Ty5 → VS := f75.o0
def f75.inR : VS → Option (f75.Ty5)
  | ⟨[(0, .tup [.agg [.ints .u64 4 y_0], .int .i64 y_1])], [], 0⟩ => some (y_0, y_1)
  | _ => none
noncomputable def f75.E (K : Nat) : Entry := genE 0 f75.inA (f75.F K) f75.des
theorem f75.eq (K : Nat) (x : f75.Ty3) : f75.F K x = xrun (getA tys) (tabSp (f75.tab K)) Try.f75.ntmps 0 (f75.lp K) 400 f75.c ⟨initL 0 (f75.av x), f75.bl x, 0⟩ (contF (getA tys) 0 Try.f75.results.toList f75.inR) := by kernel_rfl
theorem f75.ok (K : Nat) : EntryOK Try.prog 75 (f75.E K) :=
  gen_ok mix tys_ok (f75.tabOK K) Try.func75 (by kernel_rfl : Try.f75.body = some f75.c) (by kernel_rfl) (f75.loops K) (av := f75.av) (bl := f75.bl) (out := f75.out) (fuel := 400)
    (by intro s x h; unfold f75.inA at h; split at h <;> simp at h; subst h; rfl) (fun _ => Nat.le_of_ble_eq_true rfl)
    (by intro s y h; unfold f75.inR at h; split at h <;> simp at h <;> subst h <;> rfl) (fun _ _ _ => rfl) (f75.eq K)
end Go.Proofs

namespace Go.Proofs
open Go.VM
theorem mod_step (a t w M : Nat) : (a % M * t + w) % M = (a * t + w) % M := by
  rw [Nat.add_mod, Nat.mul_mod, Nat.mod_mod, ← Nat.mul_mod, ← Nat.add_mod]
theorem two_rows (H L : Nat) : spl (spl [] 0 4 (num H)) 4 4 (num L) = num H ++ num L := rfl
theorem f75.words (X M l : Nat) (hX : X < 2 ^ 256) (hM : 0 < M) (hM64 : M < 18446744073709551616) (hl : l < M) (t z b3 : _) (i : Nat) :
    iter (f75.s2 100000) 100000 ((l : Int), t, (i : Int), 0, num M, z, num X, b3) = some ((((l * 2 ^ 256 + X) % M : Nat) : Int), t, (i : Int), num M, z, b3) := by
  have key := iter_for (stp := f75.s2 100000) (N := 4) (fun j => ((((l * 2 ^ (64 * j) + X / 2 ^ (64 * (4 - j))) % M : Nat) : Int), t, (i : Int), (j : Int), num M, z, num X, b3))
    (y := some ((((l * 2 ^ 256 + X) % M : Nat) : Int), t, (i : Int), num M, z, b3)) (fun j hj rec => by
      simp only [f75.s2, f75.s2t]
      have w1 : IntKind.wrap .i64 (3 - (j : Int)) = ((3 - j : Nat) : Int) := by rw [wrap_i _ (by omega) (by omega)]; omega
      have w2 : IntKind.wrap .i64 ((j : Int) + 1) = ((j + 1 : Nat) : Int) := by rw [wrap_i _ (by omega) (by omega)]; rfl
      have h4 : decide ((0 : Int) ≤ ((3 - j : Nat) : Int) ∧ ((3 - j : Nat) : Int) < 4) = true := inR_nat (n := 4) (by omega)
      have hw : X / 2 ^ (64 * (3 - j)) % 2 ^ 64 < 18446744073709551616 := Nat.mod_lt _ (by decide)
      rw [decide_eq_true (show (j : Int) < 4 by omega), cond_t, w1, w2, h4, cond_t, Int.toNat_natCast, getD_words (show 3 - j < 4 by omega), word0 M hM64,
        f86.spec 100000 _ _ M hM64 (Nat.mod_lt _ hM) hw (by decide), bind_s, mod_step]
      have e1 : X / 2 ^ (64 * (3 - j)) = X / 2 ^ (64 * (4 - j)) * 18446744073709551616 + X / 2 ^ (64 * (3 - j)) % 2 ^ 64 := by
        have h := Nat.mod_add_div (X / 2 ^ (64 * (3 - j))) (2 ^ 64)
        rw [Nat.div_div_eq_div_mul, ← Nat.pow_add, show 64 * (3 - j) + 64 = 64 * (4 - j) by omega] at h
        omega
      have e2 : l * 2 ^ (64 * (j + 1)) = l * 2 ^ (64 * j) * 18446744073709551616 := by
        rw [show 64 * (j + 1) = 64 * j + 64 by omega, Nat.pow_add, ← Nat.mul_assoc]
      rw [show 4 - (j + 1) = 3 - j by omega, e2]
      conv => rhs; rw [e1]
      rw [Nat.add_mul, Nat.add_assoc]) (fun rec => by
      simp only [f75.s2, f75.s2t]
      rw [decide_eq_false (show ¬ ((4 : Nat) : Int) < 4 by decide), cond_f, Nat.sub_self, Nat.mul_zero, Nat.pow_zero, Nat.div_one]) (show 4 < 100000 by decide)
  simp only [Nat.mul_zero, Nat.pow_zero, Nat.mul_one, Nat.sub_zero] at key
  rw [show 64 * 4 = 256 from rfl, Nat.div_eq_of_lt hX, Nat.add_zero, Nat.mod_eq_of_lt hl] at key
  exact key
def wideSo (H L M i : Nat) : Nat := if i = 0 then 0 else if i = 1 then H % M else (H * 2 ^ 256 + L) % M
theorem wideSo0 (H L M : Nat) : wideSo H L M 0 = 0 := if_pos rfl
theorem wideSo1 (H L M : Nat) : wideSo H L M 1 = H % M := by unfold wideSo; rw [if_neg (by decide), if_pos rfl]
theorem wideSo2 (H L M : Nat) : wideSo H L M 2 = (H * 2 ^ 256 + L) % M := by unfold wideSo; rw [if_neg (by decide), if_neg (by decide)]
theorem f75.small (H L M : Nat) (hH : H < 2 ^ 256) (hL : L < 2 ^ 256) (hM : 0 < M) (hM64 : M < 18446744073709551616) (z : _) :
    iter (f75.s0 100000) 100000 (0, 2, 0, num M, z, num H ++ num L) = some ((((H * 2 ^ 256 + L) % M : Nat) : Int), z) := by
  have key := iter_for (stp := f75.s0 100000) (N := 2) (fun i => ((wideSo H L M i : Int), (2 : Int), (i : Int), num M, z, num H ++ num L))
    (y := some ((((H * 2 ^ 256 + L) % M : Nat) : Int), z)) (fun i hi rec => by
      have hi2 : i = 0 ∨ i = 1 := by omega
      have wi : IntKind.wrap .i64 ((i : Int) + 1) = ((i + 1 : Nat) : Int) := by rw [wrap_i _ (by omega) (by omega)]; rfl
      simp only [f75.s0, f75.s0t]
      rw [decide_eq_true (show (i : Int) < 2 by omega), cond_t, decide_eq_true (show 0 ≤ (i : Int) ∧ (i : Int) < 2 by omega), cond_t]
      rcases hi2 with rfl | rfl
      · have hrow : List.take 4 (List.drop (Int.toNat ((0 : Nat) : Int) * 4) (num H ++ num L)) = num H := rfl
        have e := f75.words H M 0 hH hM hM64 hM 2 z (num H ++ num L) 0
        rw [Nat.zero_mul, Nat.zero_add] at e
        rw [hrow, wideSo0, e, bind_s]
        simp only []
        rw [wi, wideSo1]
      · have hrow : List.take 4 (List.drop (Int.toNat ((1 : Nat) : Int) * 4) (num H ++ num L)) = num L := rfl
        have e := f75.words L M (H % M) hL hM hM64 (Nat.mod_lt _ hM) 2 z (num H ++ num L) 1
        rw [hrow, wideSo1, e, bind_s, mod_step]
        simp only []
        rw [wi, wideSo2]) (fun rec => by
      simp only [f75.s0, f75.s0t]
      rw [decide_eq_false (show ¬ ((2 : Nat) : Int) < 2 by decide), cond_f, wideSo2]) (show 2 < 100000 by decide)
  rw [wideSo0] at key
  exact key
theorem f75.bits (H L M : Nat) (hH : H < 2 ^ 256) (hM : 0 < M) (hM' : M < 2 ^ 256) (_hL : L < 2 ^ 256) :
    iter (f75.s4 100000) 100000 (((blen H : Nat) : Int), 0, num H, num M, num (L % M), num (2 ^ 256 % M)) = some (num ((H * 2 ^ 256 + L) % M)) := by
  have hb := blen_256 hH
  have key := iter_for (stp := f75.s4 100000) (N := blen H) (fun i => (((blen H : Nat) : Int), (i : Int), num H, num M, num ((H % 2 ^ i * 2 ^ 256 + L) % M), num (2 ^ (256 + i) % M)))
    (y := some (num ((H * 2 ^ 256 + L) % M))) (fun i hi rec => by
      simp only [f75.s4, f75.s4t]
      have w2 : IntKind.wrap .i64 ((i : Int) + 1) = ((i + 1 : Nat) : Int) := by rw [wrap_i _ (by omega) (by omega)]; rfl
      have hs : num ((2 ^ (256 + i) % M + 2 ^ (256 + i) % M) % M) = num (2 ^ (256 + (i + 1)) % M) := by
        rw [← Nat.add_mod, show 2 ^ (256 + (i + 1)) = 2 ^ (256 + i) + 2 ^ (256 + i) by rw [show 256 + (i + 1) = (256 + i) + 1 from rfl, Nat.pow_succ, Nat.mul_two]]
      have hl := Nat.mod_lt (2 ^ (256 + i)) hM
      have hr := Nat.mod_lt (H % 2 ^ i * 2 ^ 256 + L) hM
      have hbit : H % 2 ^ (i + 1) = H % 2 ^ i + 2 ^ i * (H / 2 ^ i % 2) := by rw [Nat.pow_succ, Nat.mod_mul]
      rw [decide_eq_true (show (i : Int) < ((blen H : Nat) : Int) by omega), cond_t, f89.all H i (by omega), mod_self_of hH, bind_s, w2, f88.spec _ _ M hl hl hM', bind_s, hs, hbit]
      rcases Nat.mod_two_eq_zero_or_one (H / 2 ^ i) with h | h
      · rw [h, show (((0 : Nat) : Int) == 1) = false from rfl, cond_f, Nat.mul_zero, Nat.add_zero (H % 2 ^ i)]
      · rw [h, show (((1 : Nat) : Int) == 1) = true from rfl, cond_t, f88.spec _ _ M hr hl hM', bind_s, ← Nat.add_mod, Nat.mul_one]
        have e : (H % 2 ^ i + 2 ^ i) * 2 ^ 256 + L = H % 2 ^ i * 2 ^ 256 + L + 2 ^ (256 + i) := by
          rw [Nat.add_mul (H % 2 ^ i) (2 ^ i) (2 ^ 256), Nat.pow_add 2 256 i, Nat.mul_comm (2 ^ 256) (2 ^ i)]
          omega
        rw [e, bind_s]) (fun rec => by
      simp only [f75.s4, f75.s4t]
      rw [decide_eq_false (Int.lt_irrefl _), cond_f, Nat.mod_eq_of_lt (blen_lt H)]) (show blen H < 100000 by omega)
  simp only [Nat.pow_zero, Nat.mod_one, Nat.zero_mul, Nat.zero_add, Nat.add_zero] at key
  exact key
theorem f75.spec (L H M : Nat) (hL : L < 2 ^ 256) (hH : H < 2 ^ 256) (hM : M < 2 ^ 256) (h0 : 0 < M) : f75.F 100000 (num L, num H, num M) = some (num ((H * 2 ^ 256 + L) % M), 0) := by
  have mM := mod_self_of hM
  have hz : decide (M = 0 % 2 ^ 256) = false := decide_eq_false (fun h => by rw [Nat.zero_mod] at h; omega)
  have lM := blen_lt M
  simp only [f75.F, f75.T, f84.spec, bind_s, eqL_num, mM, hz, Bool.and_true, cond_f, f85.all, two_rows]
  by_cases h : blen M ≤ 64
  · have hM64 : M < 2 ^ 64 := Nat.lt_of_lt_of_le lM (Nat.pow_le_pow_right (by decide) h)
    have hr : (H * 2 ^ 256 + L) % M < 18446744073709551616 := Nat.lt_trans (Nat.mod_lt _ h0) hM64
    rw [decide_eq_true (show ((blen M : Nat) : Int) ≤ 64 by omega), cond_t, f75.small H L M hH hL h0 hM64, bind_s, f39.nat _ _ hr, bind_s]
  · obtain ⟨gM, _⟩ := blen_ge (x := M) (by omega)
    have hM64 : 2 ^ 64 ≤ M := Nat.le_trans (Nat.pow_le_pow_right (by decide) (by omega)) gM
    have e1 : (0 : Nat) % 2 ^ 256 + 2 ^ 256 - 1 % 2 ^ 256 = 2 ^ 256 - 1 := rfl
    have hp : (2 ^ 256 - 1 : Nat) < 2 ^ 256 := by decide
    have e2 : ((2 ^ 256 - 1) % M + 1) % M = 2 ^ 256 % M := by
      have h1 : (1 : Nat) % M = 1 := Nat.mod_eq_of_lt (by omega)
      have h2 : ((2 ^ 256 - 1) % M + 1 % M) % M = 2 ^ 256 % M := by rw [← Nat.add_mod]
      rwa [h1] at h2
    rw [decide_eq_false (show ¬ ((blen M : Nat) : Int) ≤ 64 by omega), cond_f]
    simp only [f39.one, bind_s, f55.all, e1]
    rw [f87.spec L M hL hM h0, bind_s, f87.spec _ M hp hM h0, bind_s, f88.spec _ 1 M (Nat.mod_lt _ h0) (by omega) hM, bind_s, e2, mod_self_of hH, f75.bits H L M hH h0 hM hL, bind_s]
end Go.Proofs

namespace Go.Proofs
open Go.VM
def Sh.cut (name : List Int) (ps : List (List Int)) : List Int := Sh.frame name ++ be 4 ps.length ++ ps.flatMap Sh.frame
def Sh.sha (name : List Int) (ps : List (List Int)) : List Int := Sh.sum (Sh.cut name ps)
theorem Sh.rep0 : Sh.Rep [] [0, 0, 0, 0, 0, 0, 0, 0, 0, 0, 0, 0, 0, 0, 0, 0, 0, 0, 0, 0, 0, 0, 0, 0, 0, 0, 0, 0, 0, 0, 0, 0, 0, 0, 0, 0, 0, 0, 0, 0, 0, 0, 0, 0, 0, 0, 0, 0, 0, 0, 0, 0, 0, 0, 0, 0, 0, 0, 0, 0, 0, 0, 0, 0] 0 Sh.init :=
  ⟨rfl, by intro x hx; simp only [List.mem_cons, List.not_mem_nil, or_false, or_self] at hx; omega, rfl, rfl, rfl⟩
theorem sha_length (name : List Int) (ps : List (List Int)) : (Sh.sha name ps).length = 32 := digest_length _
theorem sha_octets (name : List Int) (ps : List (List Int)) : octets (Sh.sha name ps) := digest_octets _
def Sh.number (Q : Nat) (name : List Int) (ps : List (List Int)) : Nat := (tv (Sh.sha name (ps ++ [[0]])) * 2 ^ 256 + tv (Sh.sha name (ps ++ [[1]]))) % Q
end Go.Proofs

namespace Go.Proofs
open Go.VM
abbrev f18.Ty0 := List Int × Nat × List Int
abbrev f18.Ty1 := Nat × Nat × List Int
def f18.T (K : Nat) (a0 : Nat) (m0_0 : Nat) (m0_1 : List Int) : Option (f18.Ty0) :=
  (f42.F K ()).bind fun y1 =>
  bif ((Nat.ble (0 + a0) m0_0 && true) && true) then
    (f40.F K (y1.1, y1.2.1, y1.2.2.1, a0, y1.2.2.2, a0, (subI m0_1 0 a0))).bind fun y2 =>
    (f16v2.F K (y2.1, y2.2.1, y2.2.2.1, y2.2.2.2.2.2.2)).bind fun y3 =>
    some (y3.1, m0_0, m0_1)
  else
    none
def f18.F (K : Nat) (x : f18.Ty1) : Option (f18.Ty0) := f18.T K x.1 x.2.1 x.2.2
def f18.av (x : f18.Ty1) : List VV := [.vw true 0 0 x.1 1]
def f18.bl (x : f18.Ty1) : List (Nat × Blk) := [(0, ([.ints .u8 x.2.1 x.2.2], 0, .ro))]
def f18.inA : VS → Option (f18.Ty1)
  | ⟨[(0, .vw true 0 0 a0 1)], [(0, ([.ints .u8 m0_0 m0_1], 0, .ro))], 2⟩ => some (a0, m0_0, m0_1)
  | _ => none
def f18.o0 (y : f18.Ty0) : VS := ⟨[(0, .agg [.ints .u8 32 y.1])], [(0, ([.ints .u8 y.2.1 y.2.2], 0, .ro))], 2⟩
def f18.inR : VS → Option (f18.Ty0)
  | ⟨[(0, .agg [.ints .u8 32 y])], [(0, ([.ints .u8 z0_0 z0_1], 0, .ro))], 2⟩ => some (y, z0_0, z0_1)
  | _ => none
noncomputable def f18.E (K : Nat) : Entry := genE 2 f18.inA (f18.F K) (dv1 f18.o0)
theorem f18.ok (K : Nat) : EntryOK Try.prog 18 (f18.E K) := gen_ok mix tys_ok (sp := tabSp [(42, (f42.E K)), (40, (rowsE 1 .u8 (f40.E K))), (16, (f16v2.E K))]) (tab_ok ((tab_cons (f42.ok K) (tab_cons (rows_ok (f40.ok K)) (tab_cons (f16v2.ok K) tab_nil))))) Try.func18 (c := bodyOf Try.f18) (by kernel_rfl) (by kernel_rfl) (loops_none (lp := lpNone) (by kernel_rfl)) (av := f18.av) (bl := f18.bl) (inR := f18.inR) (out := f18.o0) (fuel := 400)
  (by intro s x h; unfold f18.inA at h; split at h <;> simp at h; subst h; rfl) (fun _ => Nat.le_of_ble_eq_true rfl)
  (by intro s y h; unfold f18.inR at h; split at h <;> simp at h <;> subst h <;> rfl) (fun _ _ _ => rfl) (fun _ => by kernel_rfl)
end Go.Proofs

namespace Go.Proofs
open Go.VM
abbrev f15v2.Ty0 := Int × List Int × Int × Int × Nat × List Int × List Int
abbrev f15v2.Ty1 := Nat × List Int × Int × Int × Nat × List Int × List Int
def f15v2.T (K : Nat) (a1 : Nat) (m0_0 : List Int) (m0_1 : Int) (m0_2 : Int) (m1_0 : Nat) (m1_1 : List Int) (m3 : List Int) : Option (f15v2.Ty0) :=
  bif ((Nat.ble (0 + a1) m1_0 && true) && true) then
    (f40.F K (m0_0, m0_1, m0_2, a1, m3, a1, (subI m1_1 0 a1))).bind fun y1 =>
    some (0, y1.1, y1.2.1, y1.2.2.1, m1_0, m1_1, y1.2.2.2.2.2.2)
  else
    none
def f15v2.F (K : Nat) (x : f15v2.Ty1) : Option (f15v2.Ty0) := f15v2.T K x.1 x.2.1 x.2.2.1 x.2.2.2.1 x.2.2.2.2.1 x.2.2.2.2.2.1 x.2.2.2.2.2.2
def f15v2.av (x : f15v2.Ty1) : List VV := [.ptr 0 0, .vw true 1 0 x.1 2]
def f15v2.bl (x : f15v2.Ty1) : List (Nat × Blk) := [(0, ([.ptr 3 0, .ints .u8 64 x.2.1, .int .i64 x.2.2.1, .int .u64 x.2.2.2.1], 30, .norm)), (1, ([.ints .u8 x.2.2.2.2.1 x.2.2.2.2.2.1], 0, .ro)), (3, ([.ints .u32 8 x.2.2.2.2.2.2], 110, .norm))]
def f15v2.inA : VS → Option (f15v2.Ty1)
  | ⟨[(0, .ptr 0 0), (1, .vw true 1 0 a1 2)], [(0, ([.ptr 3 0, .ints .u8 64 m0_0, .int .i64 m0_1, .int .u64 m0_2], 30, .norm)), (1, ([.ints .u8 m1_0 m1_1], 0, .ro)), (3, ([.ints .u32 8 m3], 110, .norm))], 4⟩ => some (a1, m0_0, m0_1, m0_2, m1_0, m1_1, m3)
  | _ => none
def f15v2.o0 (y : f15v2.Ty0) : VS := ⟨[(0, .int .i64 y.1)], [(0, ([.ptr 4 0, .ints .u8 64 y.2.1, .int .i64 y.2.2.1, .int .u64 y.2.2.2.1], 30, .norm)), (1, ([.ints .u8 y.2.2.2.2.1 y.2.2.2.2.2.1], 0, .ro)), (3, ([], 110, .dead)), (4, ([.ints .u32 8 y.2.2.2.2.2.2], 110, .norm))], 5⟩
def f15v2.inR : VS → Option (f15v2.Ty0)
  | ⟨[(0, .int .i64 y)], [(0, ([.ptr 4 0, .ints .u8 64 z0_0, .int .i64 z0_1, .int .u64 z0_2], 30, .norm)), (1, ([.ints .u8 z1_0 z1_1], 0, .ro)), (3, ([], 110, .dead)), (4, ([.ints .u32 8 z4], 110, .norm))], 5⟩ => some (y, z0_0, z0_1, z0_2, z1_0, z1_1, z4)
  | _ => none
noncomputable def f15v2.E (K : Nat) : Entry := genE 4 f15v2.inA (f15v2.F K) (dv1 f15v2.o0)
theorem f15v2.ok (K : Nat) : EntryOK Try.prog 15 (f15v2.E K) := gen_ok mix tys_ok (sp := tabSp [(40, (rowsE 1 .u8 (f40.E K)))]) (tab_ok ((tab_cons (rows_ok (f40.ok K)) tab_nil))) Try.func15 (c := bodyOf Try.f15) (by kernel_rfl) (by kernel_rfl) (loops_none (lp := lpNone) (by kernel_rfl)) (av := f15v2.av) (bl := f15v2.bl) (inR := f15v2.inR) (out := f15v2.o0) (fuel := 400)
  (by intro s x h; unfold f15v2.inA at h; split at h <;> simp at h; subst h; rfl) (fun _ => Nat.le_of_ble_eq_true rfl)
  (by intro s y h; unfold f15v2.inR at h; split at h <;> simp at h <;> subst h <;> rfl) (fun _ _ _ => rfl) (fun _ => by kernel_rfl)
end Go.Proofs

namespace Go.Proofs
open Go.VM
abbrev f46.Ty0 := Int × Int × List Int × List Int
abbrev f46.Ty1 := List Int × List Int
abbrev f46.Ty2 := Int × List Int
noncomputable def f46.c : Code := bodyOf Try.f46
def f46.s0t (_K : Nat) (rec : f46.Ty0 → Option (f46.Ty1)) (t0 : Int) (t7 : Int) (b0 : List Int) (b1 : List Int) : Option (f46.Ty1) :=
  bif (decide (t7 < 64)) then
    bif decide (0 ≤ t7 ∧ t7 < 64) then
      bif decide (0 ≤ t7 ∧ t7 < 64) then
        rec (t0, (IntKind.wrap .i64 (t7 + 1)), b0, (setD b1 (Int.toNat t7) (bits .xor .u8 (List.getD b1 (Int.toNat t7) 0) t0)))
      else
        none
    else
      none
  else
    some (b0, b1)
def f46.s0 (K : Nat) (rec : f46.Ty0 → Option (f46.Ty1)) (x : f46.Ty0) : Option (f46.Ty1) := f46.s0t K rec x.1 x.2.1 x.2.2.1 x.2.2.2
noncomputable def f46.s0.b : Code := (findLoop 0 f46.c).getD .skip
def f46.s0.h : Hint := { lv := [0, 4, 7] }
def f46.s0.ho : Hint := { lv := [4] }
def f46.s0.shp (x : f46.Ty0) : VS := ⟨[(0, .int .u8 x.1), (4, .ptr 1 0), (7, .int .i64 x.2.1)], [(0, ([.ints .u8 64 x.2.2.1], 25, .norm)), (1, ([.ints .u8 64 x.2.2.2], 25, .norm))], 2⟩
def f46.s0.inX : VS → Option (f46.Ty0)
  | ⟨[(0, .int .u8 t0), (4, .ptr 1 0), (7, .int .i64 t7)], [(0, ([.ints .u8 64 b0], 25, .norm)), (1, ([.ints .u8 64 b1], 25, .norm))], 2⟩ => some (t0, t7, b0, b1)
  | _ => none
def f46.s0.o0 (y : f46.Ty1) : VS := ⟨[(4, .ptr 1 0)], [(0, ([.ints .u8 64 y.1], 25, .norm)), (1, ([.ints .u8 64 y.2], 25, .norm))], 2⟩
def f46.s0.des : ∀ α : Type, (f46.Ty1) → (Ex → VS → Option α) → Option α := (des1 (.exit 0) f46.s0.o0)
def f46.s0.out : f46.Ty1 → Ex × VS := (fun y => (.exit 0, f46.s0.o0 y))
theorem f46.s0.desOK : ∀ α y (k : Ex → VS → Option α), f46.s0.des α y k = k (f46.s0.out y).1 (f46.s0.out y).2 := (fun _ _ _ => rfl)
def f46.s0.inY : Ex → VS → Option (f46.Ty1)
  | .exit 0, ⟨[(4, .ptr 1 0)], [(0, ([.ints .u8 64 b0], 25, .norm)), (1, ([.ints .u8 64 b1], 25, .norm))], 2⟩ => some (b0, b1)
  | _, _ => none
def f46.lp (K : Nat) : Nat → Option (Hint × Summ) := tabLp [(0, f46.s0.h, summOf (iter (f46.s0 K) K) f46.s0.inX f46.s0.des)]
noncomputable def f46.tab (_K : Nat) : List (Nat × Entry) := []
theorem f46.tabOK (K : Nat) : SpecOK Try.prog (tabSp (f46.tab K)) := tab_ok ( tab_nil)
theorem f46.s0.eq (K : Nat) (rec : f46.Ty0 → Option (f46.Ty1)) (x : f46.Ty0) : f46.s0 K rec x = roundL (getA tys) (tabSp (f46.tab K)) 18 1 (f46.lp K) 400 f46.s0.b f46.s0.h f46.s0.ho f46.s0.shp f46.s0.inX f46.s0.inY rec x := by kernel_rfl
theorem f46.s0.lok (K : Nat) : LoopsOK Try.prog 18 1 (f46.lp K) f46.s0.b := loops_ok (by
  have h : loopsIn (f46.lp K) f46.s0.b = [] := by kernel_rfl
  rw [h]; simp)
theorem f46.s0.ok (K : Nat) : SummOK Try.prog 18 1 (summOf (iter (f46.s0 K) K) f46.s0.inX f46.s0.des) f46.s0.b :=
  loop_ok mix tys_ok (f46.tabOK K) (h := f46.s0.h) (ho := f46.s0.ho) (shp := f46.s0.shp) (inX := f46.s0.inX) (des := f46.s0.des) (out := f46.s0.out) (inY := f46.s0.inY) (fuel := 400)
    (by intro st x h; unfold f46.s0.inX at h; split at h <;> simp at h; subst h; rfl)
    (by intro e st y h; unfold f46.s0.inY at h; split at h <;> simp at h <;> subst h <;> rfl)
    f46.s0.desOK (f46.s0.lok K) (f46.s0 K) (f46.s0.eq K) K
theorem f46.loops (K : Nat) : LoopsOK Try.prog 18 1 (f46.lp K) f46.c := loops_ok (by
  have h : loopsIn (f46.lp K) f46.c = [(0, f46.s0.b)] := by kernel_rfl
  rw [h]
  intro p hp
  simp only [List.mem_cons, List.not_mem_nil, or_false] at hp
  rcases hp with rfl
  · exact ⟨_, rfl, (f46.s0.ok K)⟩)
def f46.T (K : Nat) (a0 : Int) (m0 : List Int) : Option (f46.Ty1) :=
  (iter (f46.s0 K) K (a0, 0, m0, m0)).bind fun y8 =>
  some (y8.1, y8.2)
def f46.F (K : Nat) (x : f46.Ty2) : Option (f46.Ty1) := f46.T K x.1 x.2
def f46.av (x : f46.Ty2) : List VV := [.int .u8 x.1, .ptr 0 0]
def f46.bl (x : f46.Ty2) : List (Nat × Blk) := [(0, ([.ints .u8 64 x.2], 25, .norm))]
def f46.inA : VS → Option (f46.Ty2)
  | ⟨[(0, .int .u8 a0), (1, .ptr 0 0)], [(0, ([.ints .u8 64 m0], 25, .norm))], 1⟩ => some (a0, m0)
  | _ => none
def f46.o0 (y : f46.Ty1) : VS := ⟨[(0, .sl 1 0 64 64)], [(0, ([.ints .u8 64 y.1], 25, .norm)), (1, ([.ints .u8 64 y.2], 25, .norm))], 2⟩
def f46.des : ∀ α : Type, (f46.Ty1) → (VS → Option α) → Option α := (dv1 f46.o0)
def f46.out : f46.Ty1 → VS := f46.o0
def f46.inR : VS → Option (f46.Ty1)
  | ⟨[(0, .sl 1 0 64 64)], [(0, ([.ints .u8 64 z0], 25, .norm)), (1, ([.ints .u8 64 z1], 25, .norm))], 2⟩ => some (z0, z1)
  | _ => none
noncomputable def f46.E (K : Nat) : Entry := genE 1 f46.inA (f46.F K) f46.des
theorem f46.eq (K : Nat) (x : f46.Ty2) : f46.F K x = xrun (getA tys) (tabSp (f46.tab K)) Try.f46.ntmps 1 (f46.lp K) 400 f46.c ⟨initL 0 (f46.av x), f46.bl x, 1⟩ (contF (getA tys) 1 Try.f46.results.toList f46.inR) := by kernel_rfl
theorem f46.ok (K : Nat) : EntryOK Try.prog 46 (f46.E K) :=
  gen_ok mix tys_ok (f46.tabOK K) Try.func46 (by kernel_rfl : Try.f46.body = some f46.c) (by kernel_rfl) (f46.loops K) (av := f46.av) (bl := f46.bl) (out := f46.out) (fuel := 400)
    (by intro s x h; unfold f46.inA at h; split at h <;> simp at h; subst h; rfl) (fun _ => Nat.le_of_ble_eq_true rfl)
    (by intro s y h; unfold f46.inR at h; split at h <;> simp at h <;> subst h <;> rfl) (fun _ _ _ => rfl) (f46.eq K)
end Go.Proofs

namespace Go.Proofs
open Go.VM
abbrev f22v1.Ty0 := List Int × Nat × List Int × Nat × Nat × Nat × List Int × Nat × List Int
abbrev f22v1.Ty1 := Nat × Nat × List Int × Nat × Nat × Nat × List Int × Nat × List Int
def f22v1.T (K : Nat) (a0 : Nat) (m0_0 : Nat) (m0_1 : List Int) (m2_0 : Nat) (m2_1 : Nat) (m4_0 : Nat) (m4_1 : List Int) (m6_0 : Nat) (m6_1 : List Int) : Option (f22v1.Ty0) :=
  bif (decide (((a0 : Nat) : Int) > 64)) then
    bif ((Nat.ble (0 + a0) m0_0 && true) && true) then
      (f18.F K (a0, a0, (subI m0_1 0 a0))).bind fun y3 =>
      (f42.F K ()).bind fun y5 =>
      (f42.F K ()).bind fun y6 =>
      (f46.F K (54, (spl [0, 0, 0, 0, 0, 0, 0, 0, 0, 0, 0, 0, 0, 0, 0, 0, 0, 0, 0, 0, 0, 0, 0, 0, 0, 0, 0, 0, 0, 0, 0, 0, 0, 0, 0, 0, 0, 0, 0, 0, 0, 0, 0, 0, 0, 0, 0, 0, 0, 0, 0, 0, 0, 0, 0, 0, 0, 0, 0, 0, 0, 0, 0, 0] 0 32 (subI y3.1 0 32)))).bind fun y7 =>
      (f15v2.F K (64, y5.1, y5.2.1, y5.2.2.1, 64, (subI y7.2 0 64), y5.2.2.2)).bind fun y8 =>
      bif ((Nat.ble (0 + m2_0) m4_0 && true) && true) then
        (f15v2.F K (m2_0, y8.2.1, y8.2.2.1, y8.2.2.2.1, m2_0, (subI m4_1 0 m2_0), y8.2.2.2.2.2.2)).bind fun y9 =>
        bif ((Nat.ble (0 + m2_1) m6_0 && true) && true) then
          (f15v2.F K (m2_1, y9.2.1, y9.2.2.1, y9.2.2.2.1, m2_1, (subI m6_1 0 m2_1), y9.2.2.2.2.2.2)).bind fun y10 =>
          (f16v2.F K (y10.2.1, y10.2.2.1, y10.2.2.2.1, y10.2.2.2.2.2.2)).bind fun y11 =>
          (f46.F K (92, y7.1)).bind fun y12 =>
          (f15v2.F K (64, y6.1, y6.2.1, y6.2.2.1, 64, (subI y12.2 0 64), y6.2.2.2)).bind fun y13 =>
          (f15v2.F K (32, y13.2.1, y13.2.2.1, y13.2.2.2.1, 32, (subI y11.1 0 32), y13.2.2.2.2.2.2)).bind fun y14 =>
          (f16v2.F K (y14.2.1, y14.2.2.1, y14.2.2.2.1, y14.2.2.2.2.2.2)).bind fun y15 =>
          some (y15.1, m0_0, m0_1, m2_0, m2_1, m4_0, m4_1, m6_0, m6_1)
        else
          none
      else
        none
    else
      none
  else
    bif ((Nat.ble (0 + a0) m0_0 && true) && (Nat.beq a0 a0)) then
      (f42.F K ()).bind fun y18 =>
      (f42.F K ()).bind fun y19 =>
      (f46.F K (54, (spl [0, 0, 0, 0, 0, 0, 0, 0, 0, 0, 0, 0, 0, 0, 0, 0, 0, 0, 0, 0, 0, 0, 0, 0, 0, 0, 0, 0, 0, 0, 0, 0, 0, 0, 0, 0, 0, 0, 0, 0, 0, 0, 0, 0, 0, 0, 0, 0, 0, 0, 0, 0, 0, 0, 0, 0, 0, 0, 0, 0, 0, 0, 0, 0] 0 (Nat.min a0 64) (subI m0_1 0 a0)))).bind fun y20 =>
      (f15v2.F K (64, y18.1, y18.2.1, y18.2.2.1, 64, (subI y20.2 0 64), y18.2.2.2)).bind fun y21 =>
      bif ((Nat.ble (0 + m2_0) m4_0 && true) && true) then
        (f15v2.F K (m2_0, y21.2.1, y21.2.2.1, y21.2.2.2.1, m2_0, (subI m4_1 0 m2_0), y21.2.2.2.2.2.2)).bind fun y22 =>
        bif ((Nat.ble (0 + m2_1) m6_0 && true) && true) then
          (f15v2.F K (m2_1, y22.2.1, y22.2.2.1, y22.2.2.2.1, m2_1, (subI m6_1 0 m2_1), y22.2.2.2.2.2.2)).bind fun y23 =>
          (f16v2.F K (y23.2.1, y23.2.2.1, y23.2.2.2.1, y23.2.2.2.2.2.2)).bind fun y24 =>
          (f46.F K (92, y20.1)).bind fun y25 =>
          (f15v2.F K (64, y19.1, y19.2.1, y19.2.2.1, 64, (subI y25.2 0 64), y19.2.2.2)).bind fun y26 =>
          (f15v2.F K (32, y26.2.1, y26.2.2.1, y26.2.2.2.1, 32, (subI y24.1 0 32), y26.2.2.2.2.2.2)).bind fun y27 =>
          (f16v2.F K (y27.2.1, y27.2.2.1, y27.2.2.2.1, y27.2.2.2.2.2.2)).bind fun y28 =>
          some (y28.1, m0_0, m0_1, m2_0, m2_1, m4_0, m4_1, m6_0, m6_1)
        else
          none
      else
        none
    else
      none
def f22v1.F (K : Nat) (x : f22v1.Ty1) : Option (f22v1.Ty0) := f22v1.T K x.1 x.2.1 x.2.2.1 x.2.2.2.1 x.2.2.2.2.1 x.2.2.2.2.2.1 x.2.2.2.2.2.2.1 x.2.2.2.2.2.2.2.1 x.2.2.2.2.2.2.2.2
def f22v1.av (x : f22v1.Ty1) : List VV := [.vw true 0 0 x.1 1, .vw true 2 0 2 3]
def f22v1.bl (x : f22v1.Ty1) : List (Nat × Blk) := [(0, ([.ints .u8 x.2.1 x.2.2.1], 0, .ro)), (2, ([.vw true 4 0 x.2.2.2.1 5, .vw true 6 0 x.2.2.2.2.1 7], 0, .ro)), (4, ([.ints .u8 x.2.2.2.2.2.1 x.2.2.2.2.2.2.1], 0, .ro)), (6, ([.ints .u8 x.2.2.2.2.2.2.2.1 x.2.2.2.2.2.2.2.2], 0, .ro))]
def f22v1.inA : VS → Option (f22v1.Ty1)
  | ⟨[(0, .vw true 0 0 a0 1), (1, .vw true 2 0 2 3)], [(0, ([.ints .u8 m0_0 m0_1], 0, .ro)), (2, ([.vw true 4 0 m2_0 5, .vw true 6 0 m2_1 7], 0, .ro)), (4, ([.ints .u8 m4_0 m4_1], 0, .ro)), (6, ([.ints .u8 m6_0 m6_1], 0, .ro))], 8⟩ => some (a0, m0_0, m0_1, m2_0, m2_1, m4_0, m4_1, m6_0, m6_1)
  | _ => none
def f22v1.o0 (y : f22v1.Ty0) : VS := ⟨[(0, .agg [.ints .u8 32 y.1])], [(0, ([.ints .u8 y.2.1 y.2.2.1], 0, .ro)), (2, ([.vw true 4 0 y.2.2.2.1 5, .vw true 6 0 y.2.2.2.2.1 7], 0, .ro)), (4, ([.ints .u8 y.2.2.2.2.2.1 y.2.2.2.2.2.2.1], 0, .ro)), (6, ([.ints .u8 y.2.2.2.2.2.2.2.1 y.2.2.2.2.2.2.2.2], 0, .ro))], 8⟩
def f22v1.inR : VS → Option (f22v1.Ty0)
  | ⟨[(0, .agg [.ints .u8 32 y])], [(0, ([.ints .u8 z0_0 z0_1], 0, .ro)), (2, ([.vw true 4 0 z2_0 5, .vw true 6 0 z2_1 7], 0, .ro)), (4, ([.ints .u8 z4_0 z4_1], 0, .ro)), (6, ([.ints .u8 z6_0 z6_1], 0, .ro))], 8⟩ => some (y, z0_0, z0_1, z2_0, z2_1, z4_0, z4_1, z6_0, z6_1)
  | _ => none
noncomputable def f22v1.E (K : Nat) : Entry := genE 8 f22v1.inA (f22v1.F K) (dv1 f22v1.o0)
theorem f22v1.ok (K : Nat) : EntryOK Try.prog 22 (f22v1.E K) := gen_ok mix tys_ok (sp := tabSp [(18, (viewE [(0, .u8)] (f18.E K))), (42, (f42.E K)), (46, (f46.E K)), (15, (viewE [(1, .u8)] (f15v2.E K))), (16, (f16v2.E K))]) (tab_ok ((tab_cons (view_ok (f18.ok K)) (tab_cons (f42.ok K) (tab_cons (f46.ok K) (tab_cons (view_ok (f15v2.ok K)) (tab_cons (f16v2.ok K) tab_nil))))))) Try.func22 (c := bodyOf Try.f22) (by kernel_rfl) (by kernel_rfl) (loops_none (lp := lpNone) (by kernel_rfl)) (av := f22v1.av) (bl := f22v1.bl) (inR := f22v1.inR) (out := f22v1.o0) (fuel := 400)
  (by intro s x h; unfold f22v1.inA at h; split at h <;> simp at h; subst h; rfl) (fun _ => Nat.le_of_ble_eq_true rfl)
  (by intro s y h; unfold f22v1.inR at h; split at h <;> simp at h <;> subst h <;> rfl) (fun _ _ _ => rfl) (fun _ => by kernel_rfl)
end Go.Proofs

namespace Go.Proofs
open Go.VM
end Go.Proofs

namespace Go.Proofs
open Go.VM
theorem sum_length (m : List Int) : (Sh.sum m).length = 32 := digest_length _
theorem sum_octets (m : List Int) : octets (Sh.sum m) := digest_octets _
theorem f18.spec (K n : Nat) (m : List Int) (hm : m.length = n) (ho : octets m) (hn : n ≤ 1000000000000) (hK : 300 + n < K) : f18.F K (n, n, m) = some (Sh.sum m, n, m) := by
  simp only [f18.F, f18.T]
  rw [show f42.F K () = some ([0, 0, 0, 0, 0, 0, 0, 0, 0, 0, 0, 0, 0, 0, 0, 0, 0, 0, 0, 0, 0, 0, 0, 0, 0, 0, 0, 0, 0, 0, 0, 0, 0, 0, 0, 0, 0, 0, 0, 0, 0, 0, 0, 0, 0, 0, 0, 0, 0, 0, 0, 0, 0, 0, 0, 0, 0, 0, 0, 0, 0, 0, 0, 0], 0, 0, Sh.init) from rfl, bind_s]
  simp only []
  rw [Nat.zero_add, ble_true (Nat.le_refl n), Bool.and_self, Bool.and_self, cond_t, subI_self _ hm]
  obtain ⟨b', h', s', e, R⟩ := f40.spec K [] n m hm ho hn _ _ _ Sh.rep0 (by omega)
  rw [show f40.F K ([0, 0, 0, 0, 0, 0, 0, 0, 0, 0, 0, 0, 0, 0, 0, 0, 0, 0, 0, 0, 0, 0, 0, 0, 0, 0, 0, 0, 0, 0, 0, 0, 0, 0, 0, 0, 0, 0, 0, 0, 0, 0, 0, 0, 0, 0, 0, 0, 0, 0, 0, 0, 0, 0, 0, 0, 0, 0, 0, 0, 0, 0, 0, 0], 0, 0, n, Sh.init, n, m) = _ from e, bind_s]
  simp only []
  rw [f16v2.spec K _ _ _ _ R (by omega), bind_s]
  rfl
theorem f15v2.spec (K : Nat) (m : List Int) (n : Nat) (l : List Int) (hl : l.length = n) (ho : octets l) (hn : n ≤ 1000000000000) (b s : List Int) (h : Int) (R : Sh.Rep m b h s) (hK : 64 + n < K) :
    ∃ b' h' s', f15v2.F K (n, b, h, ((m.length % 18446744073709551616 : Nat) : Int), n, l, s) = some (0, b', h', (((m ++ l).length % 18446744073709551616 : Nat) : Int), n, l, s') ∧ Sh.Rep (m ++ l) b' h' s' := by
  obtain ⟨b', h', s', e, R'⟩ := f40.spec K m n l hl ho hn b s h R hK
  refine ⟨b', h', s', ?_, R'⟩
  simp only [f15v2.F, f15v2.T]
  rw [Nat.zero_add, ble_true (Nat.le_refl n), Bool.and_self, Bool.and_self, cond_t, subI_self _ hl, e, bind_s]
theorem list_getD {l m : List Int} (h : l.length = m.length) (g : ∀ i, i < l.length → l.getD i 0 = m.getD i 0) : l = m := by
  apply List.ext_getElem h
  intro i h1 h2
  have := g i h1
  simpa [List.getD_eq_getElem?_getD, h1, h2] using this
def Sh.xr (by' : Int) (k : List Int) : List Int := k.map fun x => bits .xor .u8 x by'
theorem wrap8 (z : Int) : IntKind.wrap .u8 z = z % 256 := by simp [IntKind.wrap, IntKind.signed, IntKind.bits]
theorem xor_octet (x y : Int) : 0 ≤ bits .xor .u8 x y ∧ bits .xor .u8 x y < 256 := by
  show 0 ≤ IntKind.wrap .u8 _ ∧ IntKind.wrap .u8 _ < 256
  rw [wrap8]
  omega
theorem xr_length (y : Int) (k : List Int) : (Sh.xr y k).length = k.length := by simp [Sh.xr]
theorem xr_octets (y : Int) (k : List Int) : octets (Sh.xr y k) := by
  intro x hx
  obtain ⟨z, _, rfl⟩ := List.mem_map.1 hx
  exact xor_octet z y
theorem f46.spec (K : Nat) (y : Int) (k : List Int) (hk : k.length = 64) (hK : 64 < K) : f46.F K (y, k) = some (k, Sh.xr y k) := by
  have := iter_for (stp := f46.s0 K) (N := 64) (fun i => (y, (i : Int), k, Sh.xr y (k.take i) ++ k.drop i)) (y := some (k, Sh.xr y k)) ?_ ?_ hK
  · simp only [f46.F, f46.T]
    rw [show iter (f46.s0 K) K (y, 0, k, k) = _ from this, bind_s]
  · intro i hi rec
    simp only [f46.s0, f46.s0t]
    have hd : List.getD (Sh.xr y (k.take i) ++ k.drop i) i 0 = k.getD i 0 := by
      rw [List.getD_eq_getElem?_getD, List.getElem?_append_right (by rw [xr_length, List.length_take]; omega), xr_length, List.length_take, List.getElem?_drop, List.getD_eq_getElem?_getD]
      congr 2; omega
    rw [decide_eq_true (show (i : Int) < 64 by omega), cond_t, decide_eq_true (show (0 : Int) ≤ (i : Int) ∧ (i : Int) < 64 by omega), cond_t, cond_t, Int.toNat_natCast, hd, wrap_i _ (by omega) (by omega), setD_eq_set _ _ _ (by rw [List.length_append, xr_length, List.length_take, List.length_drop]; omega)]
    congr 4
    have e1 : k.drop i = k.getD i 0 :: k.drop (i + 1) := by
      rw [List.drop_eq_getElem_cons (by omega)]; simp [List.getD_eq_getElem?_getD, show i < k.length by omega]
    have e2 : k.take (i + 1) = k.take i ++ [k.getD i 0] := by
      rw [List.take_add_one, List.getElem?_eq_getElem (by omega)]; simp [List.getD_eq_getElem?_getD, show i < k.length by omega]
    rw [e2, e1, List.set_append, if_neg (by rw [xr_length, List.length_take]; omega)]
    have e3 : i - (Sh.xr y (k.take i)).length = 0 := by rw [xr_length, List.length_take]; omega
    rw [e3]
    simp [Sh.xr]
  · intro rec
    simp only [f46.s0, f46.s0t]
    rw [decide_eq_false (show ¬ (((64 : Nat) : Int)) < 64 by omega), cond_f, List.take_of_length_le (by omega), List.drop_of_length_le (by omega), List.append_nil]
def Sh.key (k : List Int) : List Int := padT (if 64 < k.length then Sh.sum k else k) 64
def Sh.mac (k m : List Int) : List Int := Sh.sum (Sh.xr 92 (Sh.key k) ++ Sh.sum (Sh.xr 54 (Sh.key k) ++ m))
theorem mac_length (k m : List Int) : (Sh.mac k m).length = 32 := sum_length _
theorem mac_octets (k m : List Int) : octets (Sh.mac k m) := sum_octets _
theorem spl_key (k : List Int) (n : Nat) (hk : k.length = n) (hn : n ≤ 64) :
    spl [0, 0, 0, 0, 0, 0, 0, 0, 0, 0, 0, 0, 0, 0, 0, 0, 0, 0, 0, 0, 0, 0, 0, 0, 0, 0, 0, 0, 0, 0, 0, 0, 0, 0, 0, 0, 0, 0, 0, 0, 0, 0, 0, 0, 0, 0, 0, 0, 0, 0, 0, 0, 0, 0, 0, 0, 0, 0, 0, 0, 0, 0, 0, 0] 0 n k = padT k 64 := by
  have hz : ([0, 0, 0, 0, 0, 0, 0, 0, 0, 0, 0, 0, 0, 0, 0, 0, 0, 0, 0, 0, 0, 0, 0, 0, 0, 0, 0, 0, 0, 0, 0, 0, 0, 0, 0, 0, 0, 0, 0, 0, 0, 0, 0, 0, 0, 0, 0, 0, 0, 0, 0, 0, 0, 0, 0, 0, 0, 0, 0, 0, 0, 0, 0, 0] : List Int) = List.replicate 64 0 := rfl
  rw [hz]
  refine list_getD (by simp [spl, padT]; omega) fun i hi => ?_
  have hi' : i < 64 := by simp [spl, padT] at hi; omega
  rw [getD_spl, getD_padT, if_pos hi']
  rw [if_neg (by omega)]
  by_cases h : i < n
  · rw [if_pos (by omega), Nat.sub_zero]
  · rw [if_neg (by omega)]
    simp only [List.getD_eq_getElem?_getD]
    rw [List.getElem?_eq_none (show k.length ≤ i by omega), List.getElem?_replicate, if_pos hi']
    rfl
theorem f22v1.spec (K n : Nat) (k : List Int) (p0 : Nat) (l0 : List Int) (p1 : Nat) (l1 : List Int) (hk : k.length = n) (hko : octets k) (hn : n ≤ 1000000000) (e0 : l0.length = p0) (o0 : octets l0) (z0 : p0 ≤ 1000000000) (e1 : l1.length = p1) (o1 : octets l1) (z1 : p1 ≤ 1000000000) (hK : 400 + n + p0 + p1 < K) :
    f22v1.F K (n, n, k, p0, p1, p0, l0, p1, l1) = some (Sh.mac k (l0 ++ l1), n, k, p0, p1, p0, l0, p1, l1) := by
  have h42 : f42.F K () = some ([0, 0, 0, 0, 0, 0, 0, 0, 0, 0, 0, 0, 0, 0, 0, 0, 0, 0, 0, 0, 0, 0, 0, 0, 0, 0, 0, 0, 0, 0, 0, 0, 0, 0, 0, 0, 0, 0, 0, 0, 0, 0, 0, 0, 0, 0, 0, 0, 0, 0, 0, 0, 0, 0, 0, 0, 0, 0, 0, 0, 0, 0, 0, 0], 0, 0, Sh.init) := rfl
  simp only [f22v1.F, f22v1.T]
  by_cases h : 64 < n
  · rw [decide_eq_true (show ((n : Nat) : Int) > 64 by omega), cond_t, Nat.zero_add, ble_true (Nat.le_refl n), Bool.and_self, Bool.and_self, cond_t, subI_self _ hk, f18.spec K n k hk hko (by omega) (by omega), bind_s, h42, bind_s, bind_s]
    simp only []
    rw [subI_self _ (sum_length k), spl_key _ 32 (sum_length k) (by omega)]
    rw [f46.spec K 54 (padT (Sh.sum k) 64) (padT_length _ _) (by omega), bind_s]
    simp only []
    rw [subI_self _ (show (Sh.xr 54 (padT (Sh.sum k) 64)).length = 64 by rw [xr_length, padT_length])]
    obtain ⟨b1, h1, s1, E1, R1⟩ := f15v2.spec K [] 64 (Sh.xr 54 (padT (Sh.sum k) 64)) (by rw [xr_length, padT_length]) (xr_octets _ _) (by omega) _ _ _ Sh.rep0 (by omega)
    rw [show f15v2.F K (64, [0, 0, 0, 0, 0, 0, 0, 0, 0, 0, 0, 0, 0, 0, 0, 0, 0, 0, 0, 0, 0, 0, 0, 0, 0, 0, 0, 0, 0, 0, 0, 0, 0, 0, 0, 0, 0, 0, 0, 0, 0, 0, 0, 0, 0, 0, 0, 0, 0, 0, 0, 0, 0, 0, 0, 0, 0, 0, 0, 0, 0, 0, 0, 0], 0, 0, 64, Sh.xr 54 (padT (Sh.sum k) 64), Sh.init) = _ from E1, bind_s]
    simp only []
    rw [Nat.zero_add, ble_true (Nat.le_refl p0), Bool.and_self, Bool.and_self, cond_t, subI_self _ e0]
    obtain ⟨c0, h2_0, s2_0, g0, S0⟩ := f15v2.spec K _ p0 l0 e0 o0 (by omega) _ _ _ R1 (by omega)
    rw [g0, bind_s]
    simp only []
    rw [Nat.zero_add, ble_true (Nat.le_refl p1), Bool.and_self, Bool.and_self, cond_t, subI_self _ e1]
    obtain ⟨c1, h2_1, s2_1, g1, S1⟩ := f15v2.spec K _ p1 l1 e1 o1 (by omega) _ _ _ S0 (by omega)
    rw [g1, bind_s]
    simp only []
    rw [f16v2.spec K _ _ _ _ S1 (by omega), bind_s]
    simp only []
    rw [f46.spec K 92 (padT (Sh.sum k) 64) (padT_length _ _) (by omega), bind_s]
    simp only []
    rw [subI_self _ (show (Sh.xr 92 (padT (Sh.sum k) 64)).length = 64 by rw [xr_length, padT_length])]
    obtain ⟨b3, h3, s3, E3, R3⟩ := f15v2.spec K [] 64 (Sh.xr 92 (padT (Sh.sum k) 64)) (by rw [xr_length, padT_length]) (xr_octets _ _) (by omega) _ _ _ Sh.rep0 (by omega)
    rw [show f15v2.F K (64, [0, 0, 0, 0, 0, 0, 0, 0, 0, 0, 0, 0, 0, 0, 0, 0, 0, 0, 0, 0, 0, 0, 0, 0, 0, 0, 0, 0, 0, 0, 0, 0, 0, 0, 0, 0, 0, 0, 0, 0, 0, 0, 0, 0, 0, 0, 0, 0, 0, 0, 0, 0, 0, 0, 0, 0, 0, 0, 0, 0, 0, 0, 0, 0], 0, 0, 64, Sh.xr 92 (padT (Sh.sum k) 64), Sh.init) = _ from E3, bind_s]
    simp only []
    rw [subI_self _ (sum_length _)]
    obtain ⟨b4, h4, s4, E4, R4⟩ := f15v2.spec K _ 32 _ (sum_length ([] ++ Sh.xr 54 (padT (Sh.sum k) 64) ++ l0 ++ l1)) (sum_octets _) (by omega) _ _ _ R3 (by omega)
    rw [E4, bind_s]
    simp only []
    rw [f16v2.spec K _ _ _ _ R4 (by omega), bind_s]
    simp only [Sh.mac, Sh.key, if_pos (show 64 < k.length by omega), List.nil_append, List.append_assoc]
  · rw [decide_eq_false (show ¬ ((n : Nat) : Int) > 64 by omega), cond_f, Nat.zero_add, ble_true (Nat.le_refl n), show Nat.beq n n = true from by simp, Bool.and_self, Bool.and_self, cond_t, h42, bind_s, bind_s]
    simp only []
    rw [subI_self _ hk, show Nat.min n 64 = n from Nat.min_eq_left (by omega), spl_key _ n hk (by omega)]
    rw [f46.spec K 54 (padT k 64) (padT_length _ _) (by omega), bind_s]
    simp only []
    rw [subI_self _ (show (Sh.xr 54 (padT k 64)).length = 64 by rw [xr_length, padT_length])]
    obtain ⟨b1, h1, s1, E1, R1⟩ := f15v2.spec K [] 64 (Sh.xr 54 (padT k 64)) (by rw [xr_length, padT_length]) (xr_octets _ _) (by omega) _ _ _ Sh.rep0 (by omega)
    rw [show f15v2.F K (64, [0, 0, 0, 0, 0, 0, 0, 0, 0, 0, 0, 0, 0, 0, 0, 0, 0, 0, 0, 0, 0, 0, 0, 0, 0, 0, 0, 0, 0, 0, 0, 0, 0, 0, 0, 0, 0, 0, 0, 0, 0, 0, 0, 0, 0, 0, 0, 0, 0, 0, 0, 0, 0, 0, 0, 0, 0, 0, 0, 0, 0, 0, 0, 0], 0, 0, 64, Sh.xr 54 (padT k 64), Sh.init) = _ from E1, bind_s]
    simp only []
    rw [Nat.zero_add, ble_true (Nat.le_refl p0), Bool.and_self, Bool.and_self, cond_t, subI_self _ e0]
    obtain ⟨c0, h2_0, s2_0, g0, S0⟩ := f15v2.spec K _ p0 l0 e0 o0 (by omega) _ _ _ R1 (by omega)
    rw [g0, bind_s]
    simp only []
    rw [Nat.zero_add, ble_true (Nat.le_refl p1), Bool.and_self, Bool.and_self, cond_t, subI_self _ e1]
    obtain ⟨c1, h2_1, s2_1, g1, S1⟩ := f15v2.spec K _ p1 l1 e1 o1 (by omega) _ _ _ S0 (by omega)
    rw [g1, bind_s]
    simp only []
    rw [f16v2.spec K _ _ _ _ S1 (by omega), bind_s]
    simp only []
    rw [f46.spec K 92 (padT k 64) (padT_length _ _) (by omega), bind_s]
    simp only []
    rw [subI_self _ (show (Sh.xr 92 (padT k 64)).length = 64 by rw [xr_length, padT_length])]
    obtain ⟨b3, h3, s3, E3, R3⟩ := f15v2.spec K [] 64 (Sh.xr 92 (padT k 64)) (by rw [xr_length, padT_length]) (xr_octets _ _) (by omega) _ _ _ Sh.rep0 (by omega)
    rw [show f15v2.F K (64, [0, 0, 0, 0, 0, 0, 0, 0, 0, 0, 0, 0, 0, 0, 0, 0, 0, 0, 0, 0, 0, 0, 0, 0, 0, 0, 0, 0, 0, 0, 0, 0, 0, 0, 0, 0, 0, 0, 0, 0, 0, 0, 0, 0, 0, 0, 0, 0, 0, 0, 0, 0, 0, 0, 0, 0, 0, 0, 0, 0, 0, 0, 0, 0], 0, 0, 64, Sh.xr 92 (padT k 64), Sh.init) = _ from E3, bind_s]
    simp only []
    rw [subI_self _ (sum_length _)]
    obtain ⟨b4, h4, s4, E4, R4⟩ := f15v2.spec K _ 32 _ (sum_length ([] ++ Sh.xr 54 (padT k 64) ++ l0 ++ l1)) (sum_octets _) (by omega) _ _ _ R3 (by omega)
    rw [E4, bind_s]
    simp only []
    rw [f16v2.spec K _ _ _ _ R4 (by omega), bind_s]
    simp only [Sh.mac, Sh.key, if_neg (show ¬ 64 < k.length by omega), List.nil_append, List.append_assoc]
end Go.Proofs

namespace Go.Proofs
open Go.VM
abbrev f33.Ty0 := List Int × List Int × List Int
def f33.T (_K : Nat) (_a1_0 : List Int) (_a1_1 : List Int) (_a1_2 : List Int) : Option (List Int × Int) :=
  some ([0, 0, 0, 0], 2)
def f33.F (K : Nat) (x : f33.Ty0) : Option (List Int × Int) := f33.T K x.1 x.2.1 x.2.2
def f33.av (x : f33.Ty0) : List VV := [.raw (.pointer none), .agg [.ints .u64 4 x.1, .ints .u64 4 x.2.1, .ints .u64 4 x.2.2]]
def f33.bl (_x : f33.Ty0) : List (Nat × Blk) := []
def f33.inA : VS → Option (f33.Ty0)
  | ⟨[(0, .raw (.pointer none)), (1, .agg [.ints .u64 4 a1_0, .ints .u64 4 a1_1, .ints .u64 4 a1_2])], [], 0⟩ => some (a1_0, a1_1, a1_2)
  | _ => none
def f33.o0 (y : List Int × Int) : VS := ⟨[(0, .tup [.agg [.ints .u64 4 y.1], .int .i64 y.2])], [], 0⟩
def f33.inR : VS → Option (List Int × Int)
  | ⟨[(0, .tup [.agg [.ints .u64 4 y_0], .int .i64 y_1])], [], 0⟩ => some (y_0, y_1)
  | _ => none
noncomputable def f33.E (K : Nat) : Entry := genE 0 f33.inA (f33.F K) (dv1 f33.o0)
theorem f33.ok (K : Nat) : EntryOK Try.prog 33 (f33.E K) := gen_ok mix tys_ok (tab_ok ( tab_nil)) Try.func33 (c := bodyOf Try.f33) (by kernel_rfl) (by kernel_rfl) (loops_none (lp := lpNone) (by kernel_rfl)) (av := f33.av) (bl := f33.bl) (inR := f33.inR) (out := f33.o0) (fuel := 400)
  (by intro s x h; unfold f33.inA at h; split at h <;> simp at h; subst h; rfl) (fun _ => Nat.le_of_ble_eq_true rfl)
  (by intro s y h; unfold f33.inR at h; split at h <;> simp at h <;> subst h <;> rfl) (fun _ _ _ => rfl) (fun _ => by kernel_rfl)
end Go.Proofs

namespace Go.Proofs
open Go.VM
end Go.Proofs

namespace Go.Proofs
open Go.VM
end Go.Proofs

namespace Go.Proofs
open Go.VM
def f59.T (_K : Nat)  : Option (Int) :=
  some (0)
def f59.F (K : Nat) (_x : Unit) : Option (Int) := f59.T K
def f59.av (_x : Unit) : List VV := [.raw (.pointer none), .fn 60 []]
def f59.bl (_x : Unit) : List (Nat × Blk) := []
def f59.inA : VS → Option (Unit)
  | ⟨[(0, .raw (.pointer none)), (1, .fn 60 [])], [], 0⟩ => some ()
  | _ => none
def f59.o0 (y : Int) : VS := ⟨[(0, .int .u64 y)], [], 0⟩
def f59.inR : VS → Option (Int)
  | ⟨[(0, .int .u64 y)], [], 0⟩ => some y
  | _ => none
noncomputable def f59.E (K : Nat) : Entry := genE 0 f59.inA (f59.F K) (dv1 f59.o0)
theorem f59.ok (K : Nat) : EntryOK Try.prog 59 (f59.E K) := gen_ok mix tys_ok (tab_ok ( tab_nil)) Try.func59 (c := bodyOf Try.f59) (by kernel_rfl) (by kernel_rfl) (loops_none (lp := lpNone) (by kernel_rfl)) (av := f59.av) (bl := f59.bl) (inR := f59.inR) (out := f59.o0) (fuel := 400)
  (by intro s x h; unfold f59.inA at h; split at h <;> simp at h; rfl) (fun _ => Nat.le_of_ble_eq_true rfl)
  (by intro s y h; unfold f59.inR at h; split at h <;> simp at h <;> subst h <;> rfl) (fun _ _ _ => rfl) (fun _ => by kernel_rfl)
end Go.Proofs

namespace Go.Proofs
open Go.VM
def f35.T (K : Nat)  : Option (Int) :=
  (f59.F K ()).bind fun y1 =>
  some y1
def f35.F (K : Nat) (_x : Unit) : Option (Int) := f35.T K
def f35.av (_x : Unit) : List VV := [.raw (.pointer none)]
def f35.bl (_x : Unit) : List (Nat × Blk) := []
def f35.inA : VS → Option (Unit)
  | ⟨[(0, .raw (.pointer none))], [], 0⟩ => some ()
  | _ => none
def f35.o0 (y : Int) : VS := ⟨[(0, .int .u64 y)], [], 0⟩
def f35.inR : VS → Option (Int)
  | ⟨[(0, .int .u64 y)], [], 0⟩ => some y
  | _ => none
noncomputable def f35.E (K : Nat) : Entry := genE 0 f35.inA (f35.F K) (dv1 f35.o0)
theorem f35.ok (K : Nat) : EntryOK Try.prog 35 (f35.E K) := gen_ok mix tys_ok (tab_ok ((tab_cons (f59.ok K) tab_nil))) Try.func35 (c := bodyOf Try.f35) (by kernel_rfl) (by kernel_rfl) (loops_none (lp := lpNone) (by kernel_rfl)) (av := f35.av) (bl := f35.bl) (inR := f35.inR) (out := f35.o0) (fuel := 400)
  (by intro s x h; unfold f35.inA at h; split at h <;> simp at h; rfl) (fun _ => Nat.le_of_ble_eq_true rfl)
  (by intro s y h; unfold f35.inR at h; split at h <;> simp at h <;> subst h <;> rfl) (fun _ _ _ => rfl) (fun _ => by kernel_rfl)
end Go.Proofs

namespace Go.Proofs
open Go.VM
abbrev f53.Ty0 := Bool × Int × Int × List Int
abbrev f53.Ty1 := Int × Int × List Int
def f53.T (_K : Nat) (m0_0 : Int) (m0_1 : Int) (m0_2 : List Int) : Option (f53.Ty0) :=
  some ((m0_1 == 1), m0_0, m0_1, m0_2)
def f53.F (K : Nat) (x : f53.Ty1) : Option (f53.Ty0) := f53.T K x.1 x.2.1 x.2.2
def f53.av (_x : f53.Ty1) : List VV := [.ptr 0 0]
def f53.bl (x : f53.Ty1) : List (Nat × Blk) := [(0, ([.int .u64 x.1, .int .i64 x.2.1, .ints .u8 32 x.2.2], 74, .norm))]
def f53.inA : VS → Option (f53.Ty1)
  | ⟨[(0, .ptr 0 0)], [(0, ([.int .u64 m0_0, .int .i64 m0_1, .ints .u8 32 m0_2], 74, .norm))], 1⟩ => some (m0_0, m0_1, m0_2)
  | _ => none
def f53.o0 (y : f53.Ty0) : VS := ⟨[(0, .bool y.1)], [(0, ([.int .u64 y.2.1, .int .i64 y.2.2.1, .ints .u8 32 y.2.2.2], 74, .norm))], 1⟩
def f53.inR : VS → Option (f53.Ty0)
  | ⟨[(0, .bool y)], [(0, ([.int .u64 z0_0, .int .i64 z0_1, .ints .u8 32 z0_2], 74, .norm))], 1⟩ => some (y, z0_0, z0_1, z0_2)
  | _ => none
noncomputable def f53.E (K : Nat) : Entry := genE 1 f53.inA (f53.F K) (dv1 f53.o0)
theorem f53.ok (K : Nat) : EntryOK Try.prog 53 (f53.E K) := gen_ok mix tys_ok (tab_ok ( tab_nil)) Try.func53 (c := bodyOf Try.f53) (by kernel_rfl) (by kernel_rfl) (loops_none (lp := lpNone) (by kernel_rfl)) (av := f53.av) (bl := f53.bl) (inR := f53.inR) (out := f53.o0) (fuel := 400)
  (by intro s x h; unfold f53.inA at h; split at h <;> simp at h; subst h; rfl) (fun _ => Nat.le_of_ble_eq_true rfl)
  (by intro s y h; unfold f53.inR at h; split at h <;> simp at h <;> subst h <;> rfl) (fun _ _ _ => rfl) (fun _ => by kernel_rfl)
end Go.Proofs

namespace Go.Proofs
open Go.VM
abbrev f54.Ty0 := List Int × Int × Int × List Int
abbrev f54.Ty1 := Int × Int × List Int
def f54.T (K : Nat) (m0_0 : Int) (m0_1 : Int) (m0_2 : List Int) : Option (f54.Ty0) :=
  (f41.F K (0, m0_0, 8, 0, [])).bind fun y2 =>
  bif ((Nat.ble (0 + y2.1) y2.2.2.2.2.1 && (Nat.ble y2.1 y2.2.1)) && true) then
    (f22v1.F K (32, 32, (subI m0_2 0 32), 4, y2.1, 4, [100, 114, 97, 119], y2.1, (subI y2.2.2.2.2.2 0 y2.1))).bind fun y3 =>
    some (y3.1, (IntKind.wrap .u64 (m0_0 + 1)), m0_1, m0_2)
  else
    none
def f54.F (K : Nat) (x : f54.Ty1) : Option (f54.Ty0) := f54.T K x.1 x.2.1 x.2.2
def f54.av (_x : f54.Ty1) : List VV := [.ptr 0 0]
def f54.bl (x : f54.Ty1) : List (Nat × Blk) := [(0, ([.int .u64 x.1, .int .i64 x.2.1, .ints .u8 32 x.2.2], 74, .norm))]
def f54.inA : VS → Option (f54.Ty1)
  | ⟨[(0, .ptr 0 0)], [(0, ([.int .u64 m0_0, .int .i64 m0_1, .ints .u8 32 m0_2], 74, .norm))], 1⟩ => some (m0_0, m0_1, m0_2)
  | _ => none
def f54.o0 (y : f54.Ty0) : VS := ⟨[(0, .agg [.ints .u8 32 y.1])], [(0, ([.int .u64 y.2.1, .int .i64 y.2.2.1, .ints .u8 32 y.2.2.2], 74, .norm))], 1⟩
def f54.inR : VS → Option (f54.Ty0)
  | ⟨[(0, .agg [.ints .u8 32 y])], [(0, ([.int .u64 z0_0, .int .i64 z0_1, .ints .u8 32 z0_2], 74, .norm))], 1⟩ => some (y, z0_0, z0_1, z0_2)
  | _ => none
noncomputable def f54.E (K : Nat) : Entry := genE 1 f54.inA (f54.F K) (dv1 f54.o0)
theorem f54.ok (K : Nat) : EntryOK Try.prog 54 (f54.E K) := gen_ok mix tys_ok (sp := tabSp [(41, (viewE [(0, .u8)] (f41.E K))), (22, (rowsE 1 .u8 (viewE [(0, .u8)] (f22v1.E K))))]) (tab_ok ((tab_cons (view_ok (f41.ok K)) (tab_cons (rows_ok (view_ok (f22v1.ok K))) tab_nil)))) Try.func54 (c := bodyOf Try.f54) (by kernel_rfl) (by kernel_rfl) (loops_none (lp := lpNone) (by kernel_rfl)) (av := f54.av) (bl := f54.bl) (inR := f54.inR) (out := f54.o0) (fuel := 400)
  (by intro s x h; unfold f54.inA at h; split at h <;> simp at h; subst h; rfl) (fun _ => Nat.le_of_ble_eq_true rfl)
  (by intro s y h; unfold f54.inR at h; split at h <;> simp at h <;> subst h <;> rfl) (fun _ _ _ => rfl) (fun _ => by kernel_rfl)
end Go.Proofs

namespace Go.Proofs
open Go.VM
abbrev f50v1.Ty0 := ByteArray × Nat × Nat × Nat × List Int × Nat × List Int
abbrev f50v1.Ty1 := List Int × Nat × Nat × Nat × List Int × Nat × List Int
def f50v1.T (K : Nat) (a0 : ByteArray) (m0_0 : Nat) (m0_1 : Nat) (m2_0 : Nat) (m2_1 : List Int) (m4_0 : Nat) (m4_1 : List Int) : Option (f50v1.Ty1) :=
  (f42.F K ()).bind fun y1 =>
  let v2 := ByteArray.size a0
  bif ((Nat.ble (0 + v2) (ByteArray.size a0) && true) && true) then
    (f69.F K (0, v2, 0, [], v2, (subI (strL a0) 0 v2))).bind fun y4 =>
    (f41.F K (0, 2, 4, 0, [])).bind fun y5 =>
    bif ((Nat.ble (0 + y4.1) y4.2.2.2.2.2.1 && true) && ((Nat.ble (0 + y5.1) y5.2.2.2.2.1 && (Nat.ble y5.1 y5.2.1)) && true)) then
      (f40v2.F K (y1.1, y1.2.1, y1.2.2.1, y4.1, y5.1, y1.2.2.2, y4.1, (subI y4.2.2.2.2.2.2 0 y4.1), y5.1, (subI y5.2.2.2.2.2 0 y5.1))).bind fun y6 =>
      bif ((Nat.ble (0 + m0_0) m2_0 && true) && true) then
        (f69.F K (0, m0_0, 0, [], m0_0, (subI m2_1 0 m0_0))).bind fun y7 =>
        bif ((Nat.ble (0 + y7.1) y7.2.2.2.2.2.1 && true) && true) then
          (f40.F K (y6.1, y6.2.1, y6.2.2.1, y7.1, y6.2.2.2.2.2.2.2.2.2, y7.1, (subI y7.2.2.2.2.2.2 0 y7.1))).bind fun y8 =>
          bif ((Nat.ble (0 + m0_1) m4_0 && true) && true) then
            (f69.F K (0, m0_1, 0, [], m0_1, (subI m4_1 0 m0_1))).bind fun y9 =>
            bif ((Nat.ble (0 + y9.1) y9.2.2.2.2.2.1 && true) && true) then
              (f40.F K (y8.1, y8.2.1, y8.2.2.1, y9.1, y8.2.2.2.2.2.2, y9.1, (subI y9.2.2.2.2.2.2 0 y9.1))).bind fun y10 =>
              (f16v2.F K (y10.1, y10.2.1, y10.2.2.1, y10.2.2.2.2.2.2)).bind fun y11 =>
              some (y11.1, m0_0, m0_1, m2_0, m2_1, m4_0, m4_1)
            else
              none
          else
            none
        else
          none
      else
        none
    else
      none
  else
    none
def f50v1.F (K : Nat) (x : f50v1.Ty0) : Option (f50v1.Ty1) := f50v1.T K x.1 x.2.1 x.2.2.1 x.2.2.2.1 x.2.2.2.2.1 x.2.2.2.2.2.1 x.2.2.2.2.2.2
def f50v1.av (x : f50v1.Ty0) : List VV := [.str x.1, .vw true 0 0 2 1]
def f50v1.bl (x : f50v1.Ty0) : List (Nat × Blk) := [(0, ([.vw true 2 0 x.2.1 3, .vw true 4 0 x.2.2.1 5], 0, .ro)), (2, ([.ints .u8 x.2.2.2.1 x.2.2.2.2.1], 0, .ro)), (4, ([.ints .u8 x.2.2.2.2.2.1 x.2.2.2.2.2.2], 0, .ro))]
def f50v1.inA : VS → Option (f50v1.Ty0)
  | ⟨[(0, .str a0), (1, .vw true 0 0 2 1)], [(0, ([.vw true 2 0 m0_0 3, .vw true 4 0 m0_1 5], 0, .ro)), (2, ([.ints .u8 m2_0 m2_1], 0, .ro)), (4, ([.ints .u8 m4_0 m4_1], 0, .ro))], 6⟩ => some (a0, m0_0, m0_1, m2_0, m2_1, m4_0, m4_1)
  | _ => none
def f50v1.o0 (y : f50v1.Ty1) : VS := ⟨[(0, .agg [.ints .u8 32 y.1])], [(0, ([.vw true 2 0 y.2.1 3, .vw true 4 0 y.2.2.1 5], 0, .ro)), (2, ([.ints .u8 y.2.2.2.1 y.2.2.2.2.1], 0, .ro)), (4, ([.ints .u8 y.2.2.2.2.2.1 y.2.2.2.2.2.2], 0, .ro))], 6⟩
def f50v1.inR : VS → Option (f50v1.Ty1)
  | ⟨[(0, .agg [.ints .u8 32 y])], [(0, ([.vw true 2 0 z0_0 3, .vw true 4 0 z0_1 5], 0, .ro)), (2, ([.ints .u8 z2_0 z2_1], 0, .ro)), (4, ([.ints .u8 z4_0 z4_1], 0, .ro))], 6⟩ => some (y, z0_0, z0_1, z2_0, z2_1, z4_0, z4_1)
  | _ => none
noncomputable def f50v1.E (K : Nat) : Entry := genE 6 f50v1.inA (f50v1.F K) (dv1 f50v1.o0)
theorem f50v1.ok (K : Nat) : EntryOK Try.prog 50 (f50v1.E K) := gen_ok mix tys_ok (sp := tabSp [(42, (f42.E K)), (69, (viewE [(0, .u8), (1, .u8)] (f69.E K))), (41, (viewE [(0, .u8)] (f41.E K))), (40, (orF (fitR 1 .u8 (fitE 8 f40v2.inA)) (rowsE 1 .u8 (f40v2.E K)) (rowsE 1 .u8 (f40.E K)))), (16, (f16v2.E K))]) (tab_ok ((tab_cons (f42.ok K) (tab_cons (view_ok (f69.ok K)) (tab_cons (view_ok (f41.ok K)) (tab_cons (orF_ok (rows_ok (f40v2.ok K)) (rows_ok (f40.ok K))) (tab_cons (f16v2.ok K) tab_nil))))))) Try.func50 (c := bodyOf Try.f50) (by kernel_rfl) (by kernel_rfl) (loops_none (lp := lpNone) (by kernel_rfl)) (av := f50v1.av) (bl := f50v1.bl) (inR := f50v1.inR) (out := f50v1.o0) (fuel := 400)
  (by intro s x h; unfold f50v1.inA at h; split at h <;> simp at h; subst h; rfl) (fun _ => Nat.le_of_ble_eq_true rfl)
  (by intro s y h; unfold f50v1.inR at h; split at h <;> simp at h <;> subst h <;> rfl) (fun _ _ _ => rfl) (fun _ => by kernel_rfl)
end Go.Proofs

namespace Go.Proofs
open Go.VM
abbrev f73.Ty0 := List Int × ByteArray × Nat × Nat × List Int × List Int
abbrev f73.Ty1 := Int × ByteArray × Nat × Nat × List Int
def f73.T (K : Nat) (a0 : Int) (m0 : ByteArray) (m2 : Nat) (m3_0 : Nat) (m3_1 : List Int) : Option (f73.Ty0) :=
  bif ((Nat.ble (0 + m2) m3_0 && true) && true) then
    (f50v1.F K (m0, m2, 1, m2, (subI m3_1 0 m2), 1, [a0])).bind fun y1 =>
    (f74.F K (32, 32, (subI y1.1 0 32))).bind fun y2 =>
    some (y2.1, m0, m2, m3_0, m3_1, [a0])
  else
    none
def f73.F (K : Nat) (x : f73.Ty1) : Option (f73.Ty0) := f73.T K x.1 x.2.1 x.2.2.1 x.2.2.2.1 x.2.2.2.2
def f73.av (x : f73.Ty1) : List VV := [.int .u8 x.1, .ptr 0 0, .ptr 1 0]
def f73.bl (x : f73.Ty1) : List (Nat × Blk) := [(0, ([.str x.2.1], 9, .norm)), (1, ([.sl 2 0 1 2], 93, .norm)), (2, ([.vw true 3 0 x.2.2.1 4, .raw (.slice none 0 0)], 22, .norm)), (3, ([.ints .u8 x.2.2.2.1 x.2.2.2.2], 0, .ro))]
def f73.inA : VS → Option (f73.Ty1)
  | ⟨[(0, .int .u8 a0), (1, .ptr 0 0), (2, .ptr 1 0)], [(0, ([.str m0], 9, .norm)), (1, ([.sl 2 0 1 2], 93, .norm)), (2, ([.vw true 3 0 m2 4, .raw (.slice none 0 0)], 22, .norm)), (3, ([.ints .u8 m3_0 m3_1], 0, .ro))], 5⟩ => some (a0, m0, m2, m3_0, m3_1)
  | _ => none
def f73.o0 (y : f73.Ty0) : VS := ⟨[(0, .agg [.ints .u64 4 y.1])], [(0, ([.str y.2.1], 9, .norm)), (1, ([.sl 2 0 1 2], 93, .norm)), (2, ([.vw true 3 0 y.2.2.1 4, .sl 5 0 1 1], 22, .norm)), (3, ([.ints .u8 y.2.2.2.1 y.2.2.2.2.1], 0, .ro)), (5, ([.ints .u8 1 y.2.2.2.2.2], 5, .norm))], 6⟩
def f73.inR : VS → Option (f73.Ty0)
  | ⟨[(0, .agg [.ints .u64 4 y])], [(0, ([.str z0], 9, .norm)), (1, ([.sl 2 0 1 2], 93, .norm)), (2, ([.vw true 3 0 z2 4, .sl 5 0 1 1], 22, .norm)), (3, ([.ints .u8 z3_0 z3_1], 0, .ro)), (5, ([.ints .u8 1 z5], 5, .norm))], 6⟩ => some (y, z0, z2, z3_0, z3_1, z5)
  | _ => none
noncomputable def f73.E (K : Nat) : Entry := genE 5 f73.inA (f73.F K) (dv1 f73.o0)
theorem f73.ok (K : Nat) : EntryOK Try.prog 73 (f73.E K) := gen_ok mix tys_ok (sp := tabSp [(50, (rowsE 1 .u8 (f50v1.E K))), (74, (viewE [(0, .u8)] (f74.E K)))]) (tab_ok ((tab_cons (rows_ok (f50v1.ok K)) (tab_cons (view_ok (f74.ok K)) tab_nil)))) Try.func73 (c := bodyOf Try.f73) (by kernel_rfl) (by kernel_rfl) (loops_none (lp := lpNone) (by kernel_rfl)) (av := f73.av) (bl := f73.bl) (inR := f73.inR) (out := f73.o0) (fuel := 400)
  (by intro s x h; unfold f73.inA at h; split at h <;> simp at h; subst h; rfl) (fun _ => Nat.le_of_ble_eq_true rfl)
  (by intro s y h; unfold f73.inR at h; split at h <;> simp at h <;> subst h <;> rfl) (fun _ _ _ => rfl) (fun _ => by kernel_rfl)
end Go.Proofs

namespace Go.Proofs
open Go.VM
abbrev f73v1.Ty0 := List Int × ByteArray × Nat × Nat × List Int × List Int × List Int
abbrev f73v1.Ty1 := Int × ByteArray × Nat × Nat × List Int × List Int
def f73v1.T (K : Nat) (a0 : Int) (m0 : ByteArray) (m2 : Nat) (m3_0 : Nat) (m3_1 : List Int) (m5 : List Int) : Option (f73v1.Ty0) :=
  bif ((Nat.ble (0 + m2) m3_0 && true) && true) then
    (f50v1.F K (m0, m2, 1, m2, (subI m3_1 0 m2), 1, [a0])).bind fun y1 =>
    (f74.F K (32, 32, (subI y1.1 0 32))).bind fun y2 =>
    some (y2.1, m0, m2, m3_0, m3_1, m5, [a0])
  else
    none
def f73v1.F (K : Nat) (x : f73v1.Ty1) : Option (f73v1.Ty0) := f73v1.T K x.1 x.2.1 x.2.2.1 x.2.2.2.1 x.2.2.2.2.1 x.2.2.2.2.2
def f73v1.av (x : f73v1.Ty1) : List VV := [.int .u8 x.1, .ptr 0 0, .ptr 1 0]
def f73v1.bl (x : f73v1.Ty1) : List (Nat × Blk) := [(0, ([.str x.2.1], 9, .norm)), (1, ([.sl 2 0 1 2], 93, .norm)), (2, ([.vw true 3 0 x.2.2.1 4, .sl 5 0 1 1], 22, .norm)), (3, ([.ints .u8 x.2.2.2.1 x.2.2.2.2.1], 0, .ro)), (5, ([.ints .u8 1 x.2.2.2.2.2], 5, .norm))]
def f73v1.inA : VS → Option (f73v1.Ty1)
  | ⟨[(0, .int .u8 a0), (1, .ptr 0 0), (2, .ptr 1 0)], [(0, ([.str m0], 9, .norm)), (1, ([.sl 2 0 1 2], 93, .norm)), (2, ([.vw true 3 0 m2 4, .sl 5 0 1 1], 22, .norm)), (3, ([.ints .u8 m3_0 m3_1], 0, .ro)), (5, ([.ints .u8 1 m5], 5, .norm))], 6⟩ => some (a0, m0, m2, m3_0, m3_1, m5)
  | _ => none
def f73v1.o0 (y : f73v1.Ty0) : VS := ⟨[(0, .agg [.ints .u64 4 y.1])], [(0, ([.str y.2.1], 9, .norm)), (1, ([.sl 2 0 1 2], 93, .norm)), (2, ([.vw true 3 0 y.2.2.1 4, .sl 6 0 1 1], 22, .norm)), (3, ([.ints .u8 y.2.2.2.1 y.2.2.2.2.1], 0, .ro)), (5, ([.ints .u8 1 y.2.2.2.2.2.1], 5, .norm)), (6, ([.ints .u8 1 y.2.2.2.2.2.2], 5, .norm))], 7⟩
def f73v1.inR : VS → Option (f73v1.Ty0)
  | ⟨[(0, .agg [.ints .u64 4 y])], [(0, ([.str z0], 9, .norm)), (1, ([.sl 2 0 1 2], 93, .norm)), (2, ([.vw true 3 0 z2 4, .sl 6 0 1 1], 22, .norm)), (3, ([.ints .u8 z3_0 z3_1], 0, .ro)), (5, ([.ints .u8 1 z5], 5, .norm)), (6, ([.ints .u8 1 z6], 5, .norm))], 7⟩ => some (y, z0, z2, z3_0, z3_1, z5, z6)
  | _ => none
noncomputable def f73v1.E (K : Nat) : Entry := genE 6 f73v1.inA (f73v1.F K) (dv1 f73v1.o0)
theorem f73v1.ok (K : Nat) : EntryOK Try.prog 73 (f73v1.E K) := gen_ok mix tys_ok (sp := tabSp [(50, (rowsE 1 .u8 (f50v1.E K))), (74, (viewE [(0, .u8)] (f74.E K)))]) (tab_ok ((tab_cons (rows_ok (f50v1.ok K)) (tab_cons (view_ok (f74.ok K)) tab_nil)))) Try.func73 (c := bodyOf Try.f73) (by kernel_rfl) (by kernel_rfl) (loops_none (lp := lpNone) (by kernel_rfl)) (av := f73v1.av) (bl := f73v1.bl) (inR := f73v1.inR) (out := f73v1.o0) (fuel := 400)
  (by intro s x h; unfold f73v1.inA at h; split at h <;> simp at h; subst h; rfl) (fun _ => Nat.le_of_ble_eq_true rfl)
  (by intro s y h; unfold f73v1.inR at h; split at h <;> simp at h <;> subst h <;> rfl) (fun _ _ _ => rfl) (fun _ => by kernel_rfl)
end Go.Proofs

namespace Go.Proofs
open Go.VM
abbrev f56.Ty0 := List Int × ByteArray × Nat × Nat × List Int
abbrev f56.Ty1 := List Int × Int × Nat × Nat × List Int
def f56.T (K : Nat) (a0 : List Int) (a1 : ByteArray) (m0 : Nat) (m2_0 : Nat) (m2_1 : List Int) : Option (f56.Ty1) :=
  (f73.F K (1, a1, m0, m2_0, m2_1)).bind fun y1 =>
  (f73v1.F K (0, y1.2.1, y1.2.2.1, m2_0, m2_1, y1.2.2.2.2.2)).bind fun y2 =>
  (f75.F K (y1.1, y2.1, a0)).bind fun y3 =>
  some (y3.1, y3.2, m0, m2_0, m2_1)
def f56.F (K : Nat) (x : f56.Ty0) : Option (f56.Ty1) := f56.T K x.1 x.2.1 x.2.2.1 x.2.2.2.1 x.2.2.2.2
def f56.av (x : f56.Ty0) : List VV := [.agg [.ints .u64 4 x.1], .str x.2.1, .vw true 0 0 1 1]
def f56.bl (x : f56.Ty0) : List (Nat × Blk) := [(0, ([.vw true 2 0 x.2.2.1 3], 0, .ro)), (2, ([.ints .u8 x.2.2.2.1 x.2.2.2.2], 0, .ro))]
def f56.inA : VS → Option (f56.Ty0)
  | ⟨[(0, .agg [.ints .u64 4 a0]), (1, .str a1), (2, .vw true 0 0 1 1)], [(0, ([.vw true 2 0 m0 3], 0, .ro)), (2, ([.ints .u8 m2_0 m2_1], 0, .ro))], 4⟩ => some (a0, a1, m0, m2_0, m2_1)
  | _ => none
def f56.o0 (y : f56.Ty1) : VS := ⟨[(0, .tup [.agg [.ints .u64 4 y.1], .int .i64 y.2.1])], [(0, ([.vw true 2 0 y.2.2.1 3], 0, .ro)), (2, ([.ints .u8 y.2.2.2.1 y.2.2.2.2], 0, .ro))], 4⟩
def f56.inR : VS → Option (f56.Ty1)
  | ⟨[(0, .tup [.agg [.ints .u64 4 y_0], .int .i64 y_1])], [(0, ([.vw true 2 0 z0 3], 0, .ro)), (2, ([.ints .u8 z2_0 z2_1], 0, .ro))], 4⟩ => some (y_0, y_1, z0, z2_0, z2_1)
  | _ => none
noncomputable def f56.E (K : Nat) : Entry := genE 4 f56.inA (f56.F K) (dv1 f56.o0)
theorem f56.ok (K : Nat) : EntryOK Try.prog 56 (f56.E K) := gen_ok mix tys_ok (sp := tabSp [(73, (orF (fitE 5 f73.inA) (f73.E K) (f73v1.E K))), (75, (f75.E K))]) (tab_ok ((tab_cons (orF_ok (f73.ok K) (f73v1.ok K)) (tab_cons (f75.ok K) tab_nil)))) Try.func56 (c := bodyOf Try.f56) (by kernel_rfl) (by kernel_rfl) (loops_none (lp := lpNone) (by kernel_rfl)) (av := f56.av) (bl := f56.bl) (inR := f56.inR) (out := f56.o0) (fuel := 400)
  (by intro s x h; unfold f56.inA at h; split at h <;> simp at h; subst h; rfl) (fun _ => Nat.le_of_ble_eq_true rfl)
  (by intro s y h; unfold f56.inR at h; split at h <;> simp at h <;> subst h <;> rfl) (fun _ _ _ => rfl) (fun _ => by kernel_rfl)
end Go.Proofs

namespace Go.Proofs
open Go.VM
abbrev f33v1.Ty0 := List Int × List Int × List Int × Int × Int × List Int
abbrev f33v1.Ty1 := List Int × Int × Int × Int × List Int
def f33v1.k0 : ByteArray := ByteArray.mk #[101, 120, 112, 111, 110, 101, 110, 116]
def f33v1.T (K : Nat) (_a1_0 : List Int) (a1_1 : List Int) (_a1_2 : List Int) (m0_0 : Int) (m0_1 : Int) (m0_2 : List Int) : Option (f33v1.Ty1) :=
  (f53.F K (m0_0, m0_1, m0_2)).bind fun y1 =>
  bif !y1.1 then
    some ([0, 0, 0, 0], 2, y1.2.1, y1.2.2.1, y1.2.2.2)
  else
    (f39.F K 3).bind fun y2 =>
    (f38.F K (a1_1, y2)).bind fun y3 =>
    bif (decide (y3 < 0)) then
      some ([0, 0, 0, 0], 1, y1.2.1, y1.2.2.1, y1.2.2.2)
    else
      (f54.F K (y1.2.1, y1.2.2.1, y1.2.2.2)).bind fun y5 =>
      (f39.F K 1).bind fun y6 =>
      (f55.F K (a1_1, y6)).bind fun y7 =>
      (f56.F K (y7.1, f33v1.k0, 32, 32, (subI y5.1 0 32))).bind fun y8 =>
      (f39.F K 1).bind fun y9 =>
      (f57.F K (y8.1, y9)).bind fun y10 =>
      some (y10.1, 0, y5.2.1, y5.2.2.1, y5.2.2.2)
def f33v1.F (K : Nat) (x : f33v1.Ty0) : Option (f33v1.Ty1) := f33v1.T K x.1 x.2.1 x.2.2.1 x.2.2.2.1 x.2.2.2.2.1 x.2.2.2.2.2
def f33v1.av (x : f33v1.Ty0) : List VV := [.ptr 0 0, .agg [.ints .u64 4 x.1, .ints .u64 4 x.2.1, .ints .u64 4 x.2.2.1]]
def f33v1.bl (x : f33v1.Ty0) : List (Nat × Blk) := [(0, ([.int .u64 x.2.2.2.1, .int .i64 x.2.2.2.2.1, .ints .u8 32 x.2.2.2.2.2], 74, .norm))]
def f33v1.inA : VS → Option (f33v1.Ty0)
  | ⟨[(0, .ptr 0 0), (1, .agg [.ints .u64 4 a1_0, .ints .u64 4 a1_1, .ints .u64 4 a1_2])], [(0, ([.int .u64 m0_0, .int .i64 m0_1, .ints .u8 32 m0_2], 74, .norm))], 1⟩ => some (a1_0, a1_1, a1_2, m0_0, m0_1, m0_2)
  | _ => none
def f33v1.o0 (y : f33v1.Ty1) : VS := ⟨[(0, .tup [.agg [.ints .u64 4 y.1], .int .i64 y.2.1])], [(0, ([.int .u64 y.2.2.1, .int .i64 y.2.2.2.1, .ints .u8 32 y.2.2.2.2], 74, .norm))], 1⟩
def f33v1.inR : VS → Option (f33v1.Ty1)
  | ⟨[(0, .tup [.agg [.ints .u64 4 y_0], .int .i64 y_1])], [(0, ([.int .u64 z0_0, .int .i64 z0_1, .ints .u8 32 z0_2], 74, .norm))], 1⟩ => some (y_0, y_1, z0_0, z0_1, z0_2)
  | _ => none
noncomputable def f33v1.E (K : Nat) : Entry := genE 1 f33v1.inA (f33v1.F K) (dv1 f33v1.o0)
theorem f33v1.ok (K : Nat) : EntryOK Try.prog 33 (f33v1.E K) := gen_ok mix tys_ok (sp := tabSp [(53, (f53.E K)), (39, (f39.E K)), (38, (f38.E K)), (54, (f54.E K)), (55, (f55.E K)), (56, (rowsE 2 .u8 (f56.E K))), (57, (f57.E K))]) (tab_ok ((tab_cons (f53.ok K) (tab_cons (f39.ok K) (tab_cons (f38.ok K) (tab_cons (f54.ok K) (tab_cons (f55.ok K) (tab_cons (rows_ok (f56.ok K)) (tab_cons (f57.ok K) tab_nil))))))))) Try.func33 (c := bodyOf Try.f33) (by kernel_rfl) (by kernel_rfl) (loops_none (lp := lpNone) (by kernel_rfl)) (av := f33v1.av) (bl := f33v1.bl) (inR := f33v1.inR) (out := f33v1.o0) (fuel := 400)
  (by intro s x h; unfold f33v1.inA at h; split at h <;> simp at h; subst h; rfl) (fun _ => Nat.le_of_ble_eq_true rfl)
  (by intro s y h; unfold f33v1.inR at h; split at h <;> simp at h <;> subst h <;> rfl) (fun _ _ _ => rfl) (fun _ => by kernel_rfl)
end Go.Proofs

namespace Go.Proofs
open Go.VM
abbrev f58v1.Ty0 := List Int × Int × Int × List Int
abbrev f58v1.Ty1 := Int × Int × List Int
def f58v1.T (K : Nat) (m0_0 : Int) (m0_1 : Int) (m0_2 : List Int) : Option (f58v1.Ty0) :=
  (f53.F K (m0_0, m0_1, m0_2)).bind fun y1 =>
  bif !y1.1 then
    some ([0, 0, 0, 0, 0, 0, 0, 0, 0, 0, 0, 0, 0, 0, 0, 0, 0, 0, 0, 0, 0, 0, 0, 0, 0, 0, 0, 0, 0, 0, 0, 0], y1.2.1, y1.2.2.1, y1.2.2.2)
  else
    (f54.F K (y1.2.1, y1.2.2.1, y1.2.2.2)).bind fun y2 =>
    some (y2.1, y2.2.1, y2.2.2.1, y2.2.2.2)
def f58v1.F (K : Nat) (x : f58v1.Ty1) : Option (f58v1.Ty0) := f58v1.T K x.1 x.2.1 x.2.2
def f58v1.av (_x : f58v1.Ty1) : List VV := [.ptr 0 0, .fn 54 []]
def f58v1.bl (x : f58v1.Ty1) : List (Nat × Blk) := [(0, ([.int .u64 x.1, .int .i64 x.2.1, .ints .u8 32 x.2.2], 74, .norm))]
def f58v1.inA : VS → Option (f58v1.Ty1)
  | ⟨[(0, .ptr 0 0), (1, .fn 54 [])], [(0, ([.int .u64 m0_0, .int .i64 m0_1, .ints .u8 32 m0_2], 74, .norm))], 1⟩ => some (m0_0, m0_1, m0_2)
  | _ => none
def f58v1.o0 (y : f58v1.Ty0) : VS := ⟨[(0, .agg [.ints .u8 32 y.1])], [(0, ([.int .u64 y.2.1, .int .i64 y.2.2.1, .ints .u8 32 y.2.2.2], 74, .norm))], 1⟩
def f58v1.inR : VS → Option (f58v1.Ty0)
  | ⟨[(0, .agg [.ints .u8 32 y])], [(0, ([.int .u64 z0_0, .int .i64 z0_1, .ints .u8 32 z0_2], 74, .norm))], 1⟩ => some (y, z0_0, z0_1, z0_2)
  | _ => none
noncomputable def f58v1.E (K : Nat) : Entry := genE 1 f58v1.inA (f58v1.F K) (dv1 f58v1.o0)
theorem f58v1.ok (K : Nat) : EntryOK Try.prog 58 (f58v1.E K) := gen_ok mix tys_ok (tab_ok ((tab_cons (f53.ok K) (tab_cons (f54.ok K) tab_nil)))) Try.func58 (c := bodyOf Try.f58) (by kernel_rfl) (by kernel_rfl) (loops_none (lp := lpNone) (by kernel_rfl)) (av := f58v1.av) (bl := f58v1.bl) (inR := f58v1.inR) (out := f58v1.o0) (fuel := 400)
  (by intro s x h; unfold f58v1.inA at h; split at h <;> simp at h; subst h; rfl) (fun _ => Nat.le_of_ble_eq_true rfl)
  (by intro s y h; unfold f58v1.inR at h; split at h <;> simp at h <;> subst h <;> rfl) (fun _ _ _ => rfl) (fun _ => by kernel_rfl)
end Go.Proofs

namespace Go.Proofs
open Go.VM
abbrev f34v1.Ty0 := List Int × Int × Int × List Int
abbrev f34v1.Ty1 := Int × Int × List Int
def f34v1.T (K : Nat) (m0_0 : Int) (m0_1 : Int) (m0_2 : List Int) : Option (f34v1.Ty0) :=
  (f58v1.F K (m0_0, m0_1, m0_2)).bind fun y1 =>
  some (y1.1, y1.2.1, y1.2.2.1, y1.2.2.2)
def f34v1.F (K : Nat) (x : f34v1.Ty1) : Option (f34v1.Ty0) := f34v1.T K x.1 x.2.1 x.2.2
def f34v1.av (_x : f34v1.Ty1) : List VV := [.ptr 0 0]
def f34v1.bl (x : f34v1.Ty1) : List (Nat × Blk) := [(0, ([.int .u64 x.1, .int .i64 x.2.1, .ints .u8 32 x.2.2], 74, .norm))]
def f34v1.inA : VS → Option (f34v1.Ty1)
  | ⟨[(0, .ptr 0 0)], [(0, ([.int .u64 m0_0, .int .i64 m0_1, .ints .u8 32 m0_2], 74, .norm))], 1⟩ => some (m0_0, m0_1, m0_2)
  | _ => none
def f34v1.o0 (y : f34v1.Ty0) : VS := ⟨[(0, .agg [.ints .u8 32 y.1])], [(0, ([.int .u64 y.2.1, .int .i64 y.2.2.1, .ints .u8 32 y.2.2.2], 74, .norm))], 1⟩
def f34v1.inR : VS → Option (f34v1.Ty0)
  | ⟨[(0, .agg [.ints .u8 32 y])], [(0, ([.int .u64 z0_0, .int .i64 z0_1, .ints .u8 32 z0_2], 74, .norm))], 1⟩ => some (y, z0_0, z0_1, z0_2)
  | _ => none
noncomputable def f34v1.E (K : Nat) : Entry := genE 1 f34v1.inA (f34v1.F K) (dv1 f34v1.o0)
theorem f34v1.ok (K : Nat) : EntryOK Try.prog 34 (f34v1.E K) := gen_ok mix tys_ok (tab_ok ((tab_cons (f58v1.ok K) tab_nil))) Try.func34 (c := bodyOf Try.f34) (by kernel_rfl) (by kernel_rfl) (loops_none (lp := lpNone) (by kernel_rfl)) (av := f34v1.av) (bl := f34v1.bl) (inR := f34v1.inR) (out := f34v1.o0) (fuel := 400)
  (by intro s x h; unfold f34v1.inA at h; split at h <;> simp at h; subst h; rfl) (fun _ => Nat.le_of_ble_eq_true rfl)
  (by intro s y h; unfold f34v1.inR at h; split at h <;> simp at h <;> subst h <;> rfl) (fun _ _ _ => rfl) (fun _ => by kernel_rfl)
end Go.Proofs

namespace Go.Proofs
open Go.VM
abbrev f60.Ty0 := Int × Int × Int × List Int
abbrev f60.Ty1 := Int × Int × List Int
def f60.T (_K : Nat) (m0_0 : Int) (m0_1 : Int) (m0_2 : List Int) : Option (f60.Ty0) :=
  some (m0_0, m0_0, m0_1, m0_2)
def f60.F (K : Nat) (x : f60.Ty1) : Option (f60.Ty0) := f60.T K x.1 x.2.1 x.2.2
def f60.av (_x : f60.Ty1) : List VV := [.ptr 0 0]
def f60.bl (x : f60.Ty1) : List (Nat × Blk) := [(0, ([.int .u64 x.1, .int .i64 x.2.1, .ints .u8 32 x.2.2], 74, .norm))]
def f60.inA : VS → Option (f60.Ty1)
  | ⟨[(0, .ptr 0 0)], [(0, ([.int .u64 m0_0, .int .i64 m0_1, .ints .u8 32 m0_2], 74, .norm))], 1⟩ => some (m0_0, m0_1, m0_2)
  | _ => none
def f60.o0 (y : f60.Ty0) : VS := ⟨[(0, .int .u64 y.1)], [(0, ([.int .u64 y.2.1, .int .i64 y.2.2.1, .ints .u8 32 y.2.2.2], 74, .norm))], 1⟩
def f60.inR : VS → Option (f60.Ty0)
  | ⟨[(0, .int .u64 y)], [(0, ([.int .u64 z0_0, .int .i64 z0_1, .ints .u8 32 z0_2], 74, .norm))], 1⟩ => some (y, z0_0, z0_1, z0_2)
  | _ => none
noncomputable def f60.E (K : Nat) : Entry := genE 1 f60.inA (f60.F K) (dv1 f60.o0)
theorem f60.ok (K : Nat) : EntryOK Try.prog 60 (f60.E K) := gen_ok mix tys_ok (tab_ok ( tab_nil)) Try.func60 (c := bodyOf Try.f60) (by kernel_rfl) (by kernel_rfl) (loops_none (lp := lpNone) (by kernel_rfl)) (av := f60.av) (bl := f60.bl) (inR := f60.inR) (out := f60.o0) (fuel := 400)
  (by intro s x h; unfold f60.inA at h; split at h <;> simp at h; subst h; rfl) (fun _ => Nat.le_of_ble_eq_true rfl)
  (by intro s y h; unfold f60.inR at h; split at h <;> simp at h <;> subst h <;> rfl) (fun _ _ _ => rfl) (fun _ => by kernel_rfl)
end Go.Proofs

namespace Go.Proofs
open Go.VM
abbrev f59v1.Ty0 := Int × Int × Int × List Int
abbrev f59v1.Ty1 := Int × Int × List Int
def f59v1.T (K : Nat) (m0_0 : Int) (m0_1 : Int) (m0_2 : List Int) : Option (f59v1.Ty0) :=
  (f53.F K (m0_0, m0_1, m0_2)).bind fun y1 =>
  bif !y1.1 then
    some (0, y1.2.1, y1.2.2.1, y1.2.2.2)
  else
    (f60.F K (y1.2.1, y1.2.2.1, y1.2.2.2)).bind fun y2 =>
    some (y2.1, y2.2.1, y2.2.2.1, y2.2.2.2)
def f59v1.F (K : Nat) (x : f59v1.Ty1) : Option (f59v1.Ty0) := f59v1.T K x.1 x.2.1 x.2.2
def f59v1.av (_x : f59v1.Ty1) : List VV := [.ptr 0 0, .fn 60 []]
def f59v1.bl (x : f59v1.Ty1) : List (Nat × Blk) := [(0, ([.int .u64 x.1, .int .i64 x.2.1, .ints .u8 32 x.2.2], 74, .norm))]
def f59v1.inA : VS → Option (f59v1.Ty1)
  | ⟨[(0, .ptr 0 0), (1, .fn 60 [])], [(0, ([.int .u64 m0_0, .int .i64 m0_1, .ints .u8 32 m0_2], 74, .norm))], 1⟩ => some (m0_0, m0_1, m0_2)
  | _ => none
def f59v1.o0 (y : f59v1.Ty0) : VS := ⟨[(0, .int .u64 y.1)], [(0, ([.int .u64 y.2.1, .int .i64 y.2.2.1, .ints .u8 32 y.2.2.2], 74, .norm))], 1⟩
def f59v1.inR : VS → Option (f59v1.Ty0)
  | ⟨[(0, .int .u64 y)], [(0, ([.int .u64 z0_0, .int .i64 z0_1, .ints .u8 32 z0_2], 74, .norm))], 1⟩ => some (y, z0_0, z0_1, z0_2)
  | _ => none
noncomputable def f59v1.E (K : Nat) : Entry := genE 1 f59v1.inA (f59v1.F K) (dv1 f59v1.o0)
theorem f59v1.ok (K : Nat) : EntryOK Try.prog 59 (f59v1.E K) := gen_ok mix tys_ok (tab_ok ((tab_cons (f53.ok K) (tab_cons (f60.ok K) tab_nil)))) Try.func59 (c := bodyOf Try.f59) (by kernel_rfl) (by kernel_rfl) (loops_none (lp := lpNone) (by kernel_rfl)) (av := f59v1.av) (bl := f59v1.bl) (inR := f59v1.inR) (out := f59v1.o0) (fuel := 400)
  (by intro s x h; unfold f59v1.inA at h; split at h <;> simp at h; subst h; rfl) (fun _ => Nat.le_of_ble_eq_true rfl)
  (by intro s y h; unfold f59v1.inR at h; split at h <;> simp at h <;> subst h <;> rfl) (fun _ _ _ => rfl) (fun _ => by kernel_rfl)
end Go.Proofs

namespace Go.Proofs
open Go.VM
abbrev f35v1.Ty0 := Int × Int × Int × List Int
abbrev f35v1.Ty1 := Int × Int × List Int
def f35v1.T (K : Nat) (m0_0 : Int) (m0_1 : Int) (m0_2 : List Int) : Option (f35v1.Ty0) :=
  (f59v1.F K (m0_0, m0_1, m0_2)).bind fun y1 =>
  some (y1.1, y1.2.1, y1.2.2.1, y1.2.2.2)
def f35v1.F (K : Nat) (x : f35v1.Ty1) : Option (f35v1.Ty0) := f35v1.T K x.1 x.2.1 x.2.2
def f35v1.av (_x : f35v1.Ty1) : List VV := [.ptr 0 0]
def f35v1.bl (x : f35v1.Ty1) : List (Nat × Blk) := [(0, ([.int .u64 x.1, .int .i64 x.2.1, .ints .u8 32 x.2.2], 74, .norm))]
def f35v1.inA : VS → Option (f35v1.Ty1)
  | ⟨[(0, .ptr 0 0)], [(0, ([.int .u64 m0_0, .int .i64 m0_1, .ints .u8 32 m0_2], 74, .norm))], 1⟩ => some (m0_0, m0_1, m0_2)
  | _ => none
def f35v1.o0 (y : f35v1.Ty0) : VS := ⟨[(0, .int .u64 y.1)], [(0, ([.int .u64 y.2.1, .int .i64 y.2.2.1, .ints .u8 32 y.2.2.2], 74, .norm))], 1⟩
def f35v1.inR : VS → Option (f35v1.Ty0)
  | ⟨[(0, .int .u64 y)], [(0, ([.int .u64 z0_0, .int .i64 z0_1, .ints .u8 32 z0_2], 74, .norm))], 1⟩ => some (y, z0_0, z0_1, z0_2)
  | _ => none
noncomputable def f35v1.E (K : Nat) : Entry := genE 1 f35v1.inA (f35v1.F K) (dv1 f35v1.o0)
theorem f35v1.ok (K : Nat) : EntryOK Try.prog 35 (f35v1.E K) := gen_ok mix tys_ok (tab_ok ((tab_cons (f59v1.ok K) tab_nil))) Try.func35 (c := bodyOf Try.f35) (by kernel_rfl) (by kernel_rfl) (loops_none (lp := lpNone) (by kernel_rfl)) (av := f35v1.av) (bl := f35v1.bl) (inR := f35v1.inR) (out := f35v1.o0) (fuel := 400)
  (by intro s x h; unfold f35v1.inA at h; split at h <;> simp at h; subst h; rfl) (fun _ => Nat.le_of_ble_eq_true rfl)
  (by intro s y h; unfold f35v1.inR at h; split at h <;> simp at h <;> subst h <;> rfl) (fun _ _ _ => rfl) (fun _ => by kernel_rfl)
end Go.Proofs

namespace Go.Proofs
open Go.VM
abbrev f37.Ty0 := Int × Int × List Int
def f37.T (_K : Nat) (a0 : List Int) : Option (f37.Ty0) :=
  some (0, 1, a0)
def f37.F (K : Nat) (x : List Int) : Option (f37.Ty0) := f37.T K x
def f37.av (x : List Int) : List VV := [.agg [.ints .u8 32 x]]
def f37.bl (_x : List Int) : List (Nat × Blk) := []
def f37.inA : VS → Option (List Int)
  | ⟨[(0, .agg [.ints .u8 32 a0])], [], 0⟩ => some a0
  | _ => none
def f37.o0 (y : f37.Ty0) : VS := ⟨[(0, .ptr 0 0)], [(0, ([.int .u64 y.1, .int .i64 y.2.1, .ints .u8 32 y.2.2], 74, .norm))], 1⟩
def f37.inR : VS → Option (f37.Ty0)
  | ⟨[(0, .ptr 0 0)], [(0, ([.int .u64 z0_0, .int .i64 z0_1, .ints .u8 32 z0_2], 74, .norm))], 1⟩ => some (z0_0, z0_1, z0_2)
  | _ => none
noncomputable def f37.E (K : Nat) : Entry := genE 0 f37.inA (f37.F K) (dv1 f37.o0)
theorem f37.ok (K : Nat) : EntryOK Try.prog 37 (f37.E K) := gen_ok mix tys_ok (tab_ok ( tab_nil)) Try.func37 (c := bodyOf Try.f37) (by kernel_rfl) (by kernel_rfl) (loops_none (lp := lpNone) (by kernel_rfl)) (av := f37.av) (bl := f37.bl) (inR := f37.inR) (out := f37.o0) (fuel := 400)
  (by intro s x h; unfold f37.inA at h; split at h <;> simp at h; subst h; rfl) (fun _ => Nat.le_of_ble_eq_true rfl)
  (by intro s y h; unfold f37.inR at h; split at h <;> simp at h <;> subst h <;> rfl) (fun _ _ _ => rfl) (fun _ => by kernel_rfl)
end Go.Proofs

namespace Go.Proofs
open Go.VM
def f36.T (K : Nat)  : Option (Bool) :=
  (f37.F K [0, 0, 0, 0, 0, 0, 0, 0, 0, 0, 0, 0, 0, 0, 0, 0, 0, 0, 0, 0, 0, 0, 0, 0, 0, 0, 0, 0, 0, 0, 0, 0]).bind fun y1 =>
  (f35v1.F K (y1.1, y1.2.1, y1.2.2)).bind fun y2 =>
  (f34v1.F K (y2.2.1, y2.2.2.1, y2.2.2.2)).bind fun y3 =>
  (f35v1.F K (y3.2.1, y3.2.2.1, y3.2.2.2)).bind fun y4 =>
  (f33v1.F K ([0, 0, 0, 0], [2, 0, 0, 0], [0, 0, 0, 0], y4.2.1, y4.2.2.1, y4.2.2.2)).bind fun y5 =>
  (f35v1.F K (y5.2.2.1, y5.2.2.2.1, y5.2.2.2.2)).bind fun y6 =>
  (f33v1.F K ([0, 0, 0, 0], [3, 0, 0, 0], [0, 0, 0, 0], y6.2.1, y6.2.2.1, y6.2.2.2)).bind fun y7 =>
  (f33.F K ([0, 0, 0, 0], [0, 0, 0, 0], [0, 0, 0, 0])).bind fun y8 =>
  bif (y2.1 == 0) then
    bif (y4.1 == 1) then
      bif (y5.2.1 == 1) then
        bif (y6.1 == 1) then
          bif (y7.2.1 == 0) then
            (f39.F K 1).bind fun y11 =>
            bif (eqL 4 y7.1 y11 && true) then
              bif (!(eqL 32 y3.1 [0, 0, 0, 0, 0, 0, 0, 0, 0, 0, 0, 0, 0, 0, 0, 0, 0, 0, 0, 0, 0, 0, 0, 0, 0, 0, 0, 0, 0, 0, 0, 0] && true)) then
                bif (y8.2 == 2) then
                  (f35.F K ()).bind fun y14 =>
                  some (y14 == 0)
                else
                  some false
              else
                some false
            else
              (f39.F K 2).bind fun y15 =>
              bif (eqL 4 y7.1 y15 && true) then
                bif (!(eqL 32 y3.1 [0, 0, 0, 0, 0, 0, 0, 0, 0, 0, 0, 0, 0, 0, 0, 0, 0, 0, 0, 0, 0, 0, 0, 0, 0, 0, 0, 0, 0, 0, 0, 0] && true)) then
                  bif (y8.2 == 2) then
                    (f35.F K ()).bind fun y18 =>
                    some (y18 == 0)
                  else
                    some false
                else
                  some false
              else
                some false
          else
            some false
        else
          some false
      else
        some false
    else
      some false
  else
    some false
def f36.F (K : Nat) (_x : Unit) : Option (Bool) := f36.T K
def f36.av (_x : Unit) : List VV := []
def f36.bl (_x : Unit) : List (Nat × Blk) := []
def f36.inA : VS → Option (Unit)
  | ⟨[], [], 0⟩ => some ()
  | _ => none
def f36.o0 (y : Bool) : VS := ⟨[(0, .bool y)], [], 0⟩
def f36.inR : VS → Option (Bool)
  | ⟨[(0, .bool y)], [], 0⟩ => some y
  | _ => none
noncomputable def f36.E (K : Nat) : Entry := genE 0 f36.inA (f36.F K) (dv1 f36.o0)
theorem f36.ok (K : Nat) : EntryOK Try.prog 36 (f36.E K) := gen_ok mix tys_ok (sp := tabSp [(37, (f37.E K)), (35, (orF (fitE 1 f35v1.inA) (f35v1.E K) (f35.E K))), (34, (f34v1.E K)), (33, (orF (fitE 1 f33v1.inA) (f33v1.E K) (f33.E K))), (39, (f39.E K))]) (tab_ok ((tab_cons (f37.ok K) (tab_cons (orF_ok (f35v1.ok K) (f35.ok K)) (tab_cons (f34v1.ok K) (tab_cons (orF_ok (f33v1.ok K) (f33.ok K)) (tab_cons (f39.ok K) tab_nil))))))) Try.func36 (c := bodyOf Try.f36) (by kernel_rfl) (by kernel_rfl) (loops_none (lp := lpNone) (by kernel_rfl)) (av := f36.av) (bl := f36.bl) (inR := f36.inR) (out := f36.o0) (fuel := 400)
  (by intro s x h; unfold f36.inA at h; split at h <;> simp at h; rfl) (fun _ => Nat.le_of_ble_eq_true rfl)
  (by intro s y h; unfold f36.inR at h; split at h <;> simp at h <;> subst h <;> rfl) (fun _ _ _ => rfl) (fun _ => by kernel_rfl)
end Go.Proofs

namespace Go.Proofs
open Go.VM
end Go.Proofs

namespace Go.Proofs
open Go.VM
end Go.Proofs

namespace Go.Proofs
open Go.VM
set_option maxRecDepth 1000000 in
theorem f36.holds : f36.F 100000 () = some true := by decide +kernel
def Dr.sum (s : List Int) (n : Nat) : List Int := Sh.mac s ([100, 114, 97, 119] ++ be 8 n)
theorem f53.spec (K : Nat) (a b : Int) (s : List Int) : f53.F K (a, b, s) = some (b == 1, a, b, s) := rfl
theorem f54.spec (K n : Nat) (s : List Int) (hs : s.length = 32) (ho : octets s) (hn : n < 18446744073709551616) (hK : 1000 < K) :
    f54.F K ((n : Int), 1, s) = some (Dr.sum s n, (((n + 1) % 18446744073709551616 : Nat) : Int), 1, s) := by
  simp only [f54.F, f54.T]
  have e1 := f41.spec K 0 8 n [] rfl hn (by omega) (by omega)
  rw [List.nil_append, Nat.zero_add] at e1
  rw [show ((8 : Int)) = ((8 : Nat) : Int) from rfl, e1, bind_s]
  simp only []
  rw [Nat.zero_add, ble_true (Nat.le_refl 8), Bool.and_self, Bool.and_self, cond_t, subI_self _ hs, subI_self _ (be_length 8 n),
    f22v1.spec K 32 s 4 [100, 114, 97, 119] 8 (be 8 n) hs ho (by omega) rfl (by intro x hx; simp only [List.mem_cons, List.not_mem_nil, or_false] at hx; omega) (by omega) (be_length _ _) (be_octets _ _) (by omega) (by omega), bind_s]
  simp only []
  rw [show ((n : Int)) + 1 = ((n + 1 : Nat) : Int) by omega, wrap_nat, Dr.sum]
theorem f35v1.spec (K : Nat) (n : Int) (s : List Int) : f35v1.F K (n, 1, s) = some (n, n, 1, s) := rfl
end Go.Proofs

namespace Go.Proofs
open Go.VM
def up64 (n : Nat) : Nat := (n + 1) % 18446744073709551616
end Go.Proofs

namespace Go.Proofs
open Go.VM
end Go.Proofs

namespace Go.Proofs
open Go.VM
end Go.Proofs

namespace Go.Proofs
open Go.VM
theorem f50v1.spec (K : Nat) (name : ByteArray) (n0 : Nat) (l0 : List Int) (n1 : Nat) (l1 : List Int) (hs : name.size ≤ 1000000000) (e0 : l0.length = n0) (o0 : octets l0) (z0 : n0 ≤ 1000000000) (e1 : l1.length = n1) (o1 : octets l1) (z1 : n1 ≤ 1000000000) (hK : 200 + name.size < K) (k0 : 68 + n0 < K) (k1 : 68 + n1 < K) :
    f50v1.F K (name, n0, n1, n0, l0, n1, l1) = some (Sh.sha (strL name) [l0, l1], n0, n1, n0, l0, n1, l1) := by
  have hnl := strL_length name
  have hno := strL_octets name
  simp only [f50v1.F, f50v1.T]
  rw [show f42.F K () = some ([0, 0, 0, 0, 0, 0, 0, 0, 0, 0, 0, 0, 0, 0, 0, 0, 0, 0, 0, 0, 0, 0, 0, 0, 0, 0, 0, 0, 0, 0, 0, 0, 0, 0, 0, 0, 0, 0, 0, 0, 0, 0, 0, 0, 0, 0, 0, 0, 0, 0, 0, 0, 0, 0, 0, 0, 0, 0, 0, 0, 0, 0, 0, 0], 0, 0, Sh.init) from rfl, bind_s]
  have a0 : f69.F K (0, name.size, 0, [], name.size, strL name) = some (0 + 4 + name.size, 0, [], name.size, strL name, 0 + 4 + name.size, [] ++ Sh.frame (strL name)) := f69.spec K 0 name.size [] (strL name) rfl hnl (by omega) (by omega)
  have a1 : f41.F K (0, ((2 : Nat) : Int), ((4 : Nat) : Int), 0, []) = some (4, 4, 0, [], 4, [] ++ be 4 2) := f41.spec K 0 4 2 [] rfl (by omega) (by omega) (by omega)
  rw [Nat.zero_add, List.nil_append] at a0
  rw [List.nil_append] at a1
  rw [Nat.zero_add, ble_true (Nat.le_refl name.size), Bool.and_self, Bool.and_self, cond_t, subI_self _ hnl, a0, bind_s, show ((2 : Int)) = ((2 : Nat) : Int) from rfl, show ((4 : Int)) = ((4 : Nat) : Int) from rfl, a1, bind_s]
  simp only []
  have hf := frame_length (strL name)
  rw [hnl] at hf
  rw [Nat.zero_add, Nat.zero_add, ble_true (Nat.le_refl (4 + name.size)), ble_true (Nat.le_refl 4), Bool.and_self, Bool.and_self, Bool.and_self, cond_t, subI_self _ hf, subI_self _ (be_length 4 2)]
  obtain ⟨B, H, S, c0, R⟩ := f40v2.spec K [] (4 + name.size) (Sh.frame (strL name)) 4 (be 4 2) hf (frame_octets hno) (by omega) (be_length _ _) (be_octets _ _) (by omega) _ _ _ Sh.rep0 (by omega)
  rw [show f40v2.F K ([0, 0, 0, 0, 0, 0, 0, 0, 0, 0, 0, 0, 0, 0, 0, 0, 0, 0, 0, 0, 0, 0, 0, 0, 0, 0, 0, 0, 0, 0, 0, 0, 0, 0, 0, 0, 0, 0, 0, 0, 0, 0, 0, 0, 0, 0, 0, 0, 0, 0, 0, 0, 0, 0, 0, 0, 0, 0, 0, 0, 0, 0, 0, 0], 0, 0, 4 + name.size, 4, Sh.init, 4 + name.size, Sh.frame (strL name), 4, be 4 2) = _ from c0, bind_s]
  simp only []
  have g0 : f69.F K (0, n0, 0, [], n0, l0) = some (4 + n0, 0, [], n0, l0, 4 + n0, Sh.frame l0) := by
    have := f69.spec K 0 n0 [] l0 rfl e0 (by omega) (by omega)
    rw [Nat.zero_add, List.nil_append] at this
    exact this
  have f0_ : (Sh.frame l0).length = 4 + n0 := by rw [frame_length, e0]
  rw [Nat.zero_add, ble_true (Nat.le_refl n0), Bool.and_self, Bool.and_self, cond_t, subI_self _ e0, g0, bind_s]
  simp only []
  rw [Nat.zero_add, ble_true (Nat.le_refl (4 + n0)), Bool.and_self, Bool.and_self, cond_t, subI_self _ f0_]
  obtain ⟨B0, H0, S0, c0_, R0⟩ := f40.spec K ([] ++ Sh.frame (strL name) ++ be 4 2) (4 + n0) (Sh.frame l0) f0_ (frame_octets o0) (by omega) _ _ _ R (by omega)
  rw [c0_, bind_s]
  simp only []
  have g1 : f69.F K (0, n1, 0, [], n1, l1) = some (4 + n1, 0, [], n1, l1, 4 + n1, Sh.frame l1) := by
    have := f69.spec K 0 n1 [] l1 rfl e1 (by omega) (by omega)
    rw [Nat.zero_add, List.nil_append] at this
    exact this
  have f1_ : (Sh.frame l1).length = 4 + n1 := by rw [frame_length, e1]
  rw [Nat.zero_add, ble_true (Nat.le_refl n1), Bool.and_self, Bool.and_self, cond_t, subI_self _ e1, g1, bind_s]
  simp only []
  rw [Nat.zero_add, ble_true (Nat.le_refl (4 + n1)), Bool.and_self, Bool.and_self, cond_t, subI_self _ f1_]
  obtain ⟨B1, H1, S1, c1_, R1⟩ := f40.spec K ([] ++ Sh.frame (strL name) ++ be 4 2 ++ Sh.frame l0) (4 + n1) (Sh.frame l1) f1_ (frame_octets o1) (by omega) _ _ _ R0 (by omega)
  rw [c1_, bind_s]
  simp only []
  rw [f16v2.spec K _ _ _ _ R1 (by omega), bind_s]
  simp only []
  have hM : [] ++ Sh.frame (strL name) ++ be 4 2 ++ Sh.frame l0 ++ Sh.frame l1 = Sh.cut (strL name) [l0, l1] := by
    simp only [Sh.cut, List.nil_append, List.length_cons, List.length_nil, List.flatMap_cons, List.flatMap_nil, List.append_nil, List.append_assoc]
  rw [hM, ← Sh.sha]
theorem f73.spec (K : Nat) (name : ByteArray) (x : Int) (n0 : Nat) (l0 : List Int)  (hs : name.size ≤ 1000) (hx : 0 ≤ x ∧ x < 256) (e0 : l0.length = n0) (o0 : octets l0) (z0 : n0 ≤ 1000) (hK : 10000 < K) :
    f73.F K (x, name, n0, n0, l0) = some (num (tv (Sh.sha (strL name) [l0, [x]])), name, n0, n0, l0, [x]) := by
  simp only [f73.F, f73.T]
  rw [Nat.zero_add, ble_true (Nat.le_refl n0), Bool.and_self, Bool.and_self, cond_t, subI_self _ e0]
  rw [f50v1.spec K name n0 l0 1 [x] (by omega) e0 o0 (by omega) rfl (by intro y hy; simp only [List.mem_singleton] at hy; omega) (by omega) (by omega) (by omega) (by omega), bind_s]
  simp only []
  rw [subI_self _ (sha_length _ _), f74.spec K _ (sha_length _ _) (sha_octets _ _) (by omega), bind_s]
theorem f73v1.spec (K : Nat) (name : ByteArray) (x : Int) (n0 : Nat) (l0 : List Int) (w : List Int) (hs : name.size ≤ 1000) (hx : 0 ≤ x ∧ x < 256) (e0 : l0.length = n0) (o0 : octets l0) (z0 : n0 ≤ 1000) (hK : 10000 < K) :
    f73v1.F K (x, name, n0, n0, l0, w) = some (num (tv (Sh.sha (strL name) [l0, [x]])), name, n0, n0, l0, w, [x]) := by
  simp only [f73v1.F, f73v1.T]
  rw [Nat.zero_add, ble_true (Nat.le_refl n0), Bool.and_self, Bool.and_self, cond_t, subI_self _ e0]
  rw [f50v1.spec K name n0 l0 1 [x] (by omega) e0 o0 (by omega) rfl (by intro y hy; simp only [List.mem_singleton] at hy; omega) (by omega) (by omega) (by omega) (by omega), bind_s]
  simp only []
  rw [subI_self _ (sha_length _ _), f74.spec K _ (sha_length _ _) (sha_octets _ _) (by omega), bind_s]
theorem f56.spec (Q : Nat) (name : ByteArray) (n0 : Nat) (l0 : List Int) (hs : name.size ≤ 1000) (hQ : Q < 2 ^ 256) (h0 : 0 < Q) (e0 : l0.length = n0) (o0 : octets l0) (z0 : n0 ≤ 1000) :
    f56.F 100000 (num Q, name, n0, n0, l0) = some (num (Sh.number Q (strL name) [l0]), 0, n0, n0, l0) := by
  have b1 := tv_lt 32 _ (sha_length (strL name) [l0, [1]]) (sha_octets _ _)
  have b2 := tv_lt 32 _ (sha_length (strL name) [l0, [0]]) (sha_octets _ _)
  simp only [f56.F, f56.T]
  rw [f73.spec 100000 name 1 n0 l0 hs (by omega) e0 o0 z0 (by omega), bind_s]
  simp only []
  rw [f73v1.spec 100000 name 0 n0 l0 _ hs (by omega) e0 o0 z0 (by omega), bind_s]
  simp only []
  rw [f75.spec _ _ Q b1 b2 hQ h0, bind_s]
  simp only [Sh.number, List.cons_append, List.nil_append]
end Go.Proofs

namespace Go.Proofs
open Go.VM
end Go.Proofs

namespace Go.Proofs
open Go.VM
theorem num_zero : ([0, 0, 0, 0] : List Int) = num 0 := rfl
structure Lines (A M a p b q : Nat) : Prop where
  hle : b ≤ a
  ham : a ≤ M
  hgcd : Nat.gcd a b = Nat.gcd A M
  hp : p < M
  hq : q < M
  hap : A * p % M = a % M
  hbq : A * q % M = b % M
theorem Lines.step {A M a p b q : Nat} (h : Lines A M a p b q) (hb : 0 < b) : Lines A M b q (a % b) ((p + M - a / b * q % M) % M) := by
  have hM : 0 < M := by have := h.hp; omega
  have hm := Nat.mod_lt (a / b * q) hM
  refine ⟨Nat.le_of_lt (Nat.mod_lt _ hb), Nat.le_trans h.hle h.ham, ?_, h.hq, Nat.mod_lt _ hM, h.hbq, ?_⟩
  · rw [← h.hgcd, Nat.gcd_comm b, ← Nat.gcd_rec, Nat.gcd_comm]
  ·
    have e0 : (A * ((p + M - a / b * q % M) % M) + a / b * (A * q)) % M = A * p % M := by
      have e1 : (p + M - a / b * q % M + a / b * q) % M = p % M := by
        have h2 := Nat.mod_add_div (a / b * q) M
        have : p + M - a / b * q % M + a / b * q = p + M * (1 + a / b * q / M) := by rw [Nat.mul_add, Nat.mul_one]; omega
        rw [this, Nat.add_mul_mod_self_left]
      have e2 : a / b * (A * q) = A * (a / b * q) := by rw [← Nat.mul_assoc, Nat.mul_comm (a / b) A, Nat.mul_assoc]
      rw [e2, ← Nat.mul_add, Nat.mul_mod, Nat.mod_add_mod, e1, ← Nat.mul_mod]
    have e3 : (a % b + a / b * b) % M = a % M := by have := Nat.mod_add_div a b; rw [Nat.mul_comm b] at this; rw [this]
    have e4 : (A * ((p + M - a / b * q % M) % M) + a / b * b) % M = (a % b + a / b * b) % M := by
      rw [e3, ← h.hap, ← e0, Nat.add_mod _ (a / b * b), Nat.add_mod _ (a / b * (A * q)), Nat.mul_mod (a / b) b, Nat.mul_mod (a / b) (A * q), h.hbq]
    have cancel : ∀ x y c : Nat, (x + c) % M = (y + c) % M → x % M = y % M := by
      intro x y c hxy
      have h1 : (x + c + (M - c % M)) % M = (y + c + (M - c % M)) % M := by rw [Nat.add_mod, hxy, ← Nat.add_mod]
      have h2 : ∀ z, z + c + (M - c % M) = z + M * (1 + c / M) := by
        intro z
        have h3 := Nat.mod_add_div c M
        have h4 := Nat.mod_lt c hM
        rw [Nat.mul_add, Nat.mul_one]
        omega
      rw [h2, h2, Nat.add_mul_mod_self_left, Nat.add_mul_mod_self_left] at h1
      exact h1
    exact cancel _ _ _ e4
theorem blen_rem {a b : Nat} (hb : 0 < b) (h : b ≤ a) : blen (a % b) < blen a := by
  have h1 : 1 ≤ a / b := (Nat.le_div_iff_mul_le hb).2 (by omega)
  have h2 := Nat.mod_add_div a b
  have h3 : b * 1 ≤ b * (a / b) := Nat.mul_le_mul_left b h1
  have h4 := Nat.mod_lt a hb
  have h5 : a % b ≤ a / 2 := by omega
  have h6 := blen_mono h5
  by_cases h0 : a / 2 = 0
  · rw [h0, blen_zero] at h6
    have := (blen_ge (x := a) (by omega)).2
    omega
  · have := blen_shift a 1 (by simpa using h0)
    rw [Nat.pow_one] at this
    omega
end Go.Proofs

namespace Go.Proofs
open Go.VM
theorem Lines.loop {A M : Nat} {stp : (List Int × List Int × List Int × List Int × List Int × List Int × List Int → Option (List Int × List Int × List Int)) → List Int × List Int × List Int × List Int × List Int × List Int × List Int → Option (List Int × List Int × List Int)} (hA : A < M) (h1 : 1 < M) (hM : M < 2 ^ 256) (z : List Int)
    (h0 : ∀ a p, ∀ rec, stp rec (num M, z, num a, num p, num 0, num 1, num M) = some (z, num a, num p))
    (h0' : ∀ a p q, ∀ rec, stp rec (num M, z, num a, num p, num 0, num q, num M) = some (z, num a, num p))
    (hs : ∀ a p b q, 0 < b → b ≤ a → a ≤ M → p < M → q < M → ∀ rec, stp rec (num M, z, num a, num p, num b, num q, num M) = rec (num M, z, num b, num q, num (a % b), num ((p + M - a / b * q % M) % M), num M)) :
    ∃ p, p < M ∧ A * p % M = Nat.gcd A M % M ∧ iter stp 100000 (num M, z, num M, num 0, num A, num 1, num M) = some (z, num (Nat.gcd A M), num p) := by
  obtain ⟨y, ⟨p, hp, hq, rfl⟩, h⟩ := iter_inv (stp := stp) (fun m x => ∃ a p b q, x = (num M, z, num a, num p, num b, num q, num M) ∧ Lines A M a p b q ∧ blen a + blen b ≤ m)
    (fun y => ∃ p, p < M ∧ A * p % M = Nat.gcd A M % M ∧ y = (z, num (Nat.gcd A M), num p)) (by
      intro m x ⟨a, p, b, q, hx, hl, hm⟩
      subst hx
      by_cases hb : b = 0
      · subst hb
        have hg : a = Nat.gcd A M := by have := hl.hgcd; rw [Nat.gcd_zero_right] at this; exact this
        exact .inl ⟨_, ⟨p, hl.hp, by rw [← hg]; exact hl.hap, by rw [← hg]⟩, h0' a p q⟩
      · have hb0 : 0 < b := by omega
        have hr := blen_rem hb0 hl.hle
        exact .inr ⟨_, blen b + blen (a % b), by omega, ⟨_, _, _, _, rfl, hl.step hb0, Nat.le_refl _⟩, hs a p b q hb0 hl.hle hl.ham hl.hp hl.hq⟩)
    512 _ ⟨M, 0, A, 1, rfl, ⟨Nat.le_of_lt hA, Nat.le_refl _, Nat.gcd_comm _ _, by omega, h1, by rw [Nat.mul_zero, Nat.zero_mod, Nat.mod_self], by rw [Nat.mul_one]⟩, by
      have := blen_256 hM; have := blen_256 (Nat.lt_trans hA hM); omega⟩ 100000 (by decide)
  exact ⟨p, hp, hq, h⟩
end Go.Proofs

namespace Go.Proofs
open Go.VM
end Go.Proofs

namespace Go.Proofs
open Go.VM
end Go.Proofs

namespace Go.Proofs
open Go.VM
theorem zero_of (X : Nat) (hX : X < 2 ^ 256) : (eqL 4 (num X) [0, 0, 0, 0] && true) = decide (X = 0) := by
  rw [num_zero, eqN X 0 hX (by decide), Bool.and_true]
end Go.Proofs

namespace Go.Proofs
open Go.VM
abbrev f14.Ty0 := Int × Int × List Int × List Int × List Int × Int × Int × List Int
abbrev f14.Ty1 := List Int × List Int × List Int × List Int × Int
noncomputable def f14.c : Code := bodyOf Try.f14
def f14.s0t (K : Nat) (rec : f14.Ty0 → Option (Bool ⊕ Unit)) (t2 : Int) (t8 : Int) (b0_0 : List Int) (b0_1 : List Int) (b0_2 : List Int) (b1_0 : Int) (b1_1 : Int) (b1_2 : List Int) : Option (Bool ⊕ Unit) :=
  bif (decide (t8 < (Int.tmod (IntKind.wrap .i64 t2) 20))) then
    (f35v1.F K (b1_0, b1_1, b1_2)).bind fun y5 =>
    (f33v1.F K (b0_0, b0_1, b0_2, y5.2.1, y5.2.2.1, y5.2.2.2)).bind fun y6 =>
    (f39.F K 3).bind fun y7 =>
    (f38.F K (b0_1, y7)).bind fun y8 =>
    bif (decide (y8 < 0)) then
      bif (y6.2.1 != 1) then
        some (.inl false)
      else
        (f35v1.F K (y6.2.2.1, y6.2.2.2.1, y6.2.2.2.2)).bind fun y11 =>
        bif (y11.1 != y5.1) then
          some (.inl false)
        else
          rec (t2, (IntKind.wrap .i64 (t8 + 1)), b0_0, b0_1, b0_2, y11.2.1, y11.2.2.1, y11.2.2.2)
    else
      bif (y6.2.1 != 0) then
        some (.inl false)
      else
        bif (eqL 4 y6.1 [0, 0, 0, 0] && true) then
          some (.inl false)
        else
          (f38.F K (y6.1, b0_1)).bind fun y16 =>
          bif (decide (y16 ≥ 0)) then
            some (.inl false)
          else
            (f35v1.F K (y6.2.2.1, y6.2.2.2.1, y6.2.2.2.2)).bind fun y18 =>
            bif (y18.1 != (IntKind.wrap .u64 (y5.1 + 1))) then
              some (.inl false)
            else
              rec (t2, (IntKind.wrap .i64 (t8 + 1)), b0_0, b0_1, b0_2, y18.2.1, y18.2.2.1, y18.2.2.2)
  else
    some (.inr ())
def f14.s0 (K : Nat) (rec : f14.Ty0 → Option (Bool ⊕ Unit)) (x : f14.Ty0) : Option (Bool ⊕ Unit) := f14.s0t K rec x.1 x.2.1 x.2.2.1 x.2.2.2.1 x.2.2.2.2.1 x.2.2.2.2.2.1 x.2.2.2.2.2.2.1 x.2.2.2.2.2.2.2
noncomputable def f14.s0.b : Code := (findLoop 0 f14.c).getD .skip
def f14.s0.h : Hint := { lv := [2, 4, 7, 8] }
def f14.s0.ho : Hint := { lv := [6] }
def f14.s0.shp (x : f14.Ty0) : VS := ⟨[(2, .int .u8 x.1), (4, .ptr 0 0), (7, .ptr 1 0), (8, .int .i64 x.2.1)], [(0, ([.ints .u64 4 x.2.2.1, .ints .u64 4 x.2.2.2.1, .ints .u64 4 x.2.2.2.2.1], 69, .norm)), (1, ([.int .u64 x.2.2.2.2.2.1, .int .i64 x.2.2.2.2.2.2.1, .ints .u8 32 x.2.2.2.2.2.2.2], 74, .norm))], 2⟩
def f14.s0.inX : VS → Option (f14.Ty0)
  | ⟨[(2, .int .u8 t2), (4, .ptr 0 0), (7, .ptr 1 0), (8, .int .i64 t8)], [(0, ([.ints .u64 4 b0_0, .ints .u64 4 b0_1, .ints .u64 4 b0_2], 69, .norm)), (1, ([.int .u64 b1_0, .int .i64 b1_1, .ints .u8 32 b1_2], 74, .norm))], 2⟩ => some (t2, t8, b0_0, b0_1, b0_2, b1_0, b1_1, b1_2)
  | _ => none
def f14.s0.o0 (y : Bool) : VS := ⟨[(6, .bool y)], [], 0⟩
def f14.s0.o1 (_y : Unit) : VS := ⟨[], [], 0⟩
def f14.s0.des : ∀ α : Type, (Bool ⊕ Unit) → (Ex → VS → Option α) → Option α := (desA (des1 (.ret) f14.s0.o0) (des1 (.exit 0) f14.s0.o1))
def f14.s0.out : Bool ⊕ Unit → Ex × VS := (alt (fun y => (.ret, f14.s0.o0 y)) (fun y => (.exit 0, f14.s0.o1 y)))
theorem f14.s0.desOK : ∀ α y (k : Ex → VS → Option α), f14.s0.des α y k = k (f14.s0.out y).1 (f14.s0.out y).2 := (desA_ok (fun _ _ _ => rfl) (fun _ _ _ => rfl))
def f14.s0.inY : Ex → VS → Option (Bool ⊕ Unit)
  | .ret, ⟨[(6, .bool t6)], [], 0⟩ => some (.inl t6)
  | .exit 0, ⟨[], [], 0⟩ => some (.inr ())
  | _, _ => none
def f14.lp (K : Nat) : Nat → Option (Hint × Summ) := tabLp [(0, f14.s0.h, summOf (iter (f14.s0 K) K) f14.s0.inX f14.s0.des)]
noncomputable def f14.tab (K : Nat) : List (Nat × Entry) := [(37, (f37.E K)), (35, (f35v1.E K)), (33, (f33v1.E K)), (39, (f39.E K)), (38, (f38.E K)), (36, (f36.E K))]
theorem f14.tabOK (K : Nat) : SpecOK Try.prog (tabSp (f14.tab K)) := tab_ok ((tab_cons (f37.ok K) (tab_cons (f35v1.ok K) (tab_cons (f33v1.ok K) (tab_cons (f39.ok K) (tab_cons (f38.ok K) (tab_cons (f36.ok K) tab_nil)))))))
theorem f14.s0.eq (K : Nat) (rec : f14.Ty0 → Option (Bool ⊕ Unit)) (x : f14.Ty0) : f14.s0 K rec x = roundL (getA tys) (tabSp (f14.tab K)) 64 0 (f14.lp K) 400 f14.s0.b f14.s0.h f14.s0.ho f14.s0.shp f14.s0.inX f14.s0.inY rec x := by kernel_rfl
theorem f14.s0.lok (K : Nat) : LoopsOK Try.prog 64 0 (f14.lp K) f14.s0.b := loops_ok (by
  have h : loopsIn (f14.lp K) f14.s0.b = [] := by kernel_rfl
  rw [h]; simp)
theorem f14.s0.ok (K : Nat) : SummOK Try.prog 64 0 (summOf (iter (f14.s0 K) K) f14.s0.inX f14.s0.des) f14.s0.b :=
  loop_ok mix tys_ok (f14.tabOK K) (h := f14.s0.h) (ho := f14.s0.ho) (shp := f14.s0.shp) (inX := f14.s0.inX) (des := f14.s0.des) (out := f14.s0.out) (inY := f14.s0.inY) (fuel := 400)
    (by intro st x h; unfold f14.s0.inX at h; split at h <;> simp at h; subst h; rfl)
    (by intro e st y h; unfold f14.s0.inY at h; split at h <;> simp at h <;> subst h <;> rfl)
    f14.s0.desOK (f14.s0.lok K) (f14.s0 K) (f14.s0.eq K) K
theorem f14.loops (K : Nat) : LoopsOK Try.prog 64 0 (f14.lp K) f14.c := loops_ok (by
  have h : loopsIn (f14.lp K) f14.c = [(0, f14.s0.b)] := by kernel_rfl
  rw [h]
  intro p hp
  simp only [List.mem_cons, List.not_mem_nil, or_false] at hp
  rcases hp with rfl
  · exact ⟨_, rfl, (f14.s0.ok K)⟩)
def f14.T (K : Nat) (a0 : List Int) (a1_0 : List Int) (a1_1 : List Int) (a1_2 : List Int) (a2 : Int) : Option (Bool) :=
  (f37.F K a0).bind fun y1 =>
  (iter (f14.s0 K) K (a2, 0, a1_0, a1_1, a1_2, y1.1, y1.2.1, y1.2.2)).bind fun y22 =>
  alt (fun y23 =>
    some y23) (fun y24 =>
    (f36.F K ()).bind fun y25 =>
    some y25) y22
def f14.F (K : Nat) (x : f14.Ty1) : Option (Bool) := f14.T K x.1 x.2.1 x.2.2.1 x.2.2.2.1 x.2.2.2.2
def f14.av (x : f14.Ty1) : List VV := [.agg [.ints .u8 32 x.1], .agg [.ints .u64 4 x.2.1, .ints .u64 4 x.2.2.1, .ints .u64 4 x.2.2.2.1], .int .u8 x.2.2.2.2]
def f14.bl (_x : f14.Ty1) : List (Nat × Blk) := []
def f14.inA : VS → Option (f14.Ty1)
  | ⟨[(0, .agg [.ints .u8 32 a0]), (1, .agg [.ints .u64 4 a1_0, .ints .u64 4 a1_1, .ints .u64 4 a1_2]), (2, .int .u8 a2)], [], 0⟩ => some (a0, a1_0, a1_1, a1_2, a2)
  | _ => none
def f14.o0 (y : Bool) : VS := ⟨[(0, .bool y)], [], 0⟩
def f14.des : ∀ α : Type, Bool → (VS → Option α) → Option α := (dv1 f14.o0)
def f14.out : Bool → VS := f14.o0
def f14.inR : VS → Option (Bool)
  | ⟨[(0, .bool y)], [], 0⟩ => some y
  | _ => none
noncomputable def f14.E (K : Nat) : Entry := genE 0 f14.inA (f14.F K) f14.des
theorem f14.eq (K : Nat) (x : f14.Ty1) : f14.F K x = xrun (getA tys) (tabSp (f14.tab K)) Try.f14.ntmps 0 (f14.lp K) 400 f14.c ⟨initL 0 (f14.av x), f14.bl x, 0⟩ (contF (getA tys) 0 Try.f14.results.toList f14.inR) := by kernel_rfl
theorem f14.ok (K : Nat) : EntryOK Try.prog 14 (f14.E K) :=
  gen_ok mix tys_ok (f14.tabOK K) Try.func14 (by kernel_rfl : Try.f14.body = some f14.c) (by kernel_rfl) (f14.loops K) (av := f14.av) (bl := f14.bl) (out := f14.out) (fuel := 400)
    (by intro s x h; unfold f14.inA at h; split at h <;> simp at h; subst h; rfl) (fun _ => Nat.le_of_ble_eq_true rfl)
    (by intro s y h; unfold f14.inR at h; split at h <;> simp at h <;> subst h <;> rfl) (fun _ _ _ => rfl) (f14.eq K)
end Go.Proofs

namespace Go.Proofs
open Go.VM
def Dr.num (Q : Nat) (s : List Int) (n : Nat) : Nat := Sh.number (Q - 1) (strL f33v1.k0) [Dr.sum s n] + 1
theorem dr_lt {Q : Nat} (h : 3 ≤ Q) (s : List Int) (n : Nat) : Dr.num Q s n < Q := by
  have : Sh.number (Q - 1) (strL f33v1.k0) [Dr.sum s n] < Q - 1 := Nat.mod_lt _ (by omega)
  unfold Dr.num; omega
theorem f33v1.small (p g : List Int) (Q : Nat) (hQ : Q < 2 ^ 256) (h : Q < 3) (n : Int) (s : List Int) : f33v1.F 100000 (p, num Q, g, n, 1, s) = some ([0, 0, 0, 0], 1, n, 1, s) := by
  simp only [f33v1.F, f33v1.T]
  rw [f53.spec, bind_s]
  simp only []
  rw [show ((1 : Int) == 1) = true from rfl, Bool.not_true, cond_f, show f39.F 100000 3 = some (num 3) from f39.spec 100000 3 (by omega), bind_s, f38.spec 100000 Q 3 hQ (by decide) (by omega), bind_s,
    show cmp Q 3 = -1 from by rw [cmp, if_neg (by omega), if_pos h], show decide ((-1 : Int) < 0) = true from rfl, cond_t]
theorem f33v1.spec (p g : List Int) (Q : Nat) (hQ : Q < 2 ^ 256) (h : 3 ≤ Q) (n : Nat) (hn : n < 18446744073709551616) (s : List Int) (hs : s.length = 32) (so : octets s) :
    f33v1.F 100000 (p, num Q, g, (n : Int), 1, s) = some (num (Dr.num Q s n), 0, ((up64 n : Nat) : Int), 1, s) := by
  have hlt := dr_lt h s n
  simp only [f33v1.F, f33v1.T]
  rw [f53.spec, bind_s]
  simp only []
  have hc : ¬ cmp Q 3 < 0 := by
    unfold cmp; split <;> (try split) <;> omega
  rw [show ((1 : Int) == 1) = true from rfl, Bool.not_true, cond_f, show f39.F 100000 3 = some (num 3) from f39.spec 100000 3 (by omega), bind_s, f38.spec 100000 Q 3 hQ (by decide) (by omega), bind_s, decide_eq_false hc, cond_f,
    f54.spec 100000 n s hs so hn (by omega), bind_s, show f39.F 100000 1 = some (num 1) from f39.spec 100000 1 (by omega), bind_s, f55.spec 100000 Q 1 hQ (by decide) (by omega), bind_s]
  simp only []
  have e1 : num (Q + 2 ^ 256 - 1) = num (Q - 1) := by
    rw [← num_mod (Q + 2 ^ 256 - 1), show Q + 2 ^ 256 - 1 = (Q - 1) + 2 ^ 256 by omega, Nat.add_mod_right, num_mod]
  rw [e1, subI_self (Dr.sum s n) (show (Dr.sum s n).length = 32 from mac_length _ _), f56.spec (Q - 1) f33v1.k0 32 _ (by decide) (by omega) (by omega) (show (Dr.sum s n).length = 32 from mac_length _ _) (show octets (Dr.sum s n) from mac_octets _ _) (by omega), bind_s]
  simp only []
  rw [bind_s, f57.spec 100000 _ 1 (by omega), bind_s]
  rfl
theorem f14.holds (s : List Int) (hs : s.length = 32 ∧ ∀ x ∈ s, 0 ≤ x ∧ x < 256) (P Q G : Nat) (hP : P < 2 ^ 256) (hQ : Q < 2 ^ 256) (hG : G < 2 ^ 256) (z : Int) (hz : 0 ≤ z ∧ z < 256) : f14.F 100000 (s, num P, num Q, num G, z) = some true := by
  obtain ⟨c, rfl⟩ : ∃ c : Nat, z = (c : Int) := ⟨z.toNat, by omega⟩
  have hm : Int.tmod (IntKind.wrap .i64 (c : Int)) 20 = ((c % 20 : Nat) : Int) := by rw [wrap_i _ (by omega) (by omega)]; exact tmod_nat c 20
  generalize hN : c % 20 = N at hm
  have hN20 : N < 20 := by omega
  simp only [f14.F, f14.T]
  rw [show f37.F 100000 s = some (0, 1, s) from rfl, bind_s]
  simp only []
  have e3 : f39.F 100000 3 = some (num 3) := f39.spec 100000 3 (by omega)
  have key : iter (f14.s0 100000) 100000 ((c : Int), 0, num P, num Q, num G, 0, 1, s) = some (.inr ()) := by
    by_cases h : Q < 3
    · have := iter_for (stp := f14.s0 100000) (N := N) (fun i => ((c : Int), (i : Int), num P, num Q, num G, (0 : Int), (1 : Int), s)) (y := some (.inr ())) ?_ ?_ (show N < 100000 by omega)
      · exact this
      · intro i hi rec
        simp only [f14.s0, f14.s0t]
        rw [hm, decide_eq_true (show (i : Int) < ((N : Nat) : Int) by omega), cond_t, f35v1.spec, bind_s]
        simp only []
        rw [f33v1.small _ _ Q hQ h, bind_s]
        simp only []
        rw [e3, bind_s, f38.spec 100000 Q 3 hQ (by decide) (by omega), bind_s, show cmp Q 3 = -1 from by rw [cmp, if_neg (by omega), if_pos h], show decide ((-1 : Int) < 0) = true from rfl, cond_t, show ((1 : Int) != 1) = false from rfl, cond_f, f35v1.spec, bind_s]
        simp only []
        rw [show ((0 : Int) != 0) = false from rfl, cond_f, wrap_i _ (by omega) (by omega)]
        rfl
      · intro rec
        simp only [f14.s0, f14.s0t]
        rw [hm, decide_eq_false (show ¬ ((N : Nat) : Int) < ((N : Nat) : Int) by omega), cond_f]
    · have := iter_for (stp := f14.s0 100000) (N := N) (fun i => ((c : Int), (i : Int), num P, num Q, num G, (i : Int), (1 : Int), s)) (y := some (.inr ())) ?_ ?_ (show N < 100000 by omega)
      · exact this
      · intro i hi rec
        simp only [f14.s0, f14.s0t]
        have hlt := dr_lt (show 3 ≤ Q by omega) s i
        have hup : up64 i = i + 1 := by rw [up64, Nat.mod_eq_of_lt (by omega)]
        have hc : ¬ cmp Q 3 < 0 := by
          unfold cmp; split <;> (try split) <;> omega
        have h0 : (eqL 4 (num (Dr.num Q s i)) [0, 0, 0, 0] && true) = false := by rw [zero_of _ (by omega), decide_eq_false (by unfold Dr.num; omega)]
        have hw : IntKind.wrap .u64 ((i : Int) + 1) = ((i + 1 : Nat) : Int) := by rw [show ((i : Nat) : Int) + 1 = ((i + 1 : Nat) : Int) by omega, wrap_nat, Nat.mod_eq_of_lt (by omega)]
        rw [hm, decide_eq_true (show (i : Int) < ((N : Nat) : Int) by omega), cond_t, f35v1.spec, bind_s]
        simp only []
        rw [f33v1.spec _ _ Q hQ (by omega) i (by omega) s hs.1 hs.2, bind_s, hup]
        simp only []
        rw [e3, bind_s, f38.spec 100000 Q 3 hQ (by decide) (by omega), bind_s, decide_eq_false hc, cond_f, show ((0 : Int) != 0) = false from rfl, cond_f, h0, cond_f, f38.spec 100000 _ Q (by omega) hQ (by omega), bind_s,
          show cmp (Dr.num Q s i) Q = -1 from by rw [cmp, if_neg (by omega), if_pos hlt], show decide ((-1 : Int) ≥ 0) = false from rfl, cond_f, f35v1.spec, bind_s]
        simp only []
        rw [hw, show (((i + 1 : Nat) : Int) != ((i + 1 : Nat) : Int)) = false from by simp, cond_f, wrap_i _ (by omega) (by omega)]
        rfl
      · intro rec
        simp only [f14.s0, f14.s0t]
        rw [hm, decide_eq_false (show ¬ ((N : Nat) : Int) < ((N : Nat) : Int) by omega), cond_f]
  rw [key, bind_s, altr, f36.holds, bind_s]
end Go.Proofs
