/- Plain laws: lemmas that hold with no condition but those that each states. -/
import Derived.Test.YtmbbkmljmienjaaQ7
import Derived.Test.YtmbbkmljmienjaaQ3
namespace Go.Proofs
open Go.VM
theorem shl_nat (x k : Nat) (h : k ≤ 64) : shiftI .shl .u64 (x : Int) (k : Int) = ((x * 2 ^ k % 2 ^ 64 : Nat) : Int) := by
  show IntKind.wrap .u64 ((x : Int) * 2 ^ (min (Int.toNat (k : Int)) 64)) = _
  rw [Int.toNat_natCast, Nat.min_eq_left h, show (x : Int) * 2 ^ k = ((x * 2 ^ k : Nat) : Int) by simp, wrap_nat]
theorem f98.spec (K x : Nat) (hx : x < 18446744073709551616) : f98.F K (x : Int) = some ((64 - blen x : Nat) : Int) := by
  have h : blen x ≤ 64 := blen_le (k := 64) hx
  simp only [f98.F, f98.T, f104.spec K x hx, bind_s]
  rw [wrap_i _ (by omega) (by omega)]
  congr 1; omega
theorem wrap_left (u u1 q Y : Nat) (hq : q * Y ≤ u * 4294967296 + u1) (hr : u * 4294967296 + u1 - q * Y < 18446744073709551616) :
    IntKind.wrap .u64 (IntKind.wrap .u64 (IntKind.wrap .u64 ((u : Int) * 4294967296) + (u1 : Int)) - IntKind.wrap .u64 ((q : Int) * (Y : Int))) = ((u * 4294967296 + u1 - q * Y : Nat) : Int) := by
  have e : (q : Int) * (Y : Int) = ((q * Y : Nat) : Int) := by simp
  rw [e]
  simp only [wrap_emod]
  omega
theorem low_mask (x : Nat) (h : x < 18446744073709551616) : bits .and .u64 (x : Int) 4294967295 = ((x % 4294967296 : Nat) : Int) := and_mask32 x h
theorem fdiv32 (x : Nat) : Int.fdiv (x : Int) (2 ^ 32) = ((x / 4294967296 : Nat) : Int) := fdiv_nat x 32
theorem mod_eq_sub (u v : Nat) : u - u / v * v = u % v := by
  have := Nat.mod_add_div u v
  rw [Nat.mul_comm] at this
  omega
theorem f81.spec (K hi lo y : Nat) (hy : y < 18446744073709551616) (hhi : hi < y) (hlo : lo < 18446744073709551616) (hK : 1 < K) :
    f81.F K ((hi : Int), (lo : Int), (y : Int)) = some ((((hi * 18446744073709551616 + lo) / y : Nat) : Int), (((hi * 18446744073709551616 + lo) % y : Nat) : Int)) := by
  have hy0 : 0 < y := by omega
  simp only [f81.F, f81.T]
  have c1 : ((y : Int) == 0) = false := by simp; omega
  have c3 : decide ((y : Int) ≠ 0) = true := decide_eq_true (by omega)
  rw [c1, decide_eq_false (show ¬ (y : Int) ≤ (hi : Int) by omega), c3]
  simp only [cond_t, cond_f]
  by_cases h0 : hi = 0
  · subst h0
    rw [show (((0 : Nat) : Int) == 0) = true from rfl, cond_t, tdiv_nat, tmod_nat, wrap_nat, Nat.zero_mul, Nat.zero_add, Nat.mod_eq_of_lt (Nat.lt_of_le_of_lt (Nat.div_le_self _ _) hlo)]
  · have c4 : ((hi : Int) == 0) = false := by simp; omega
    rw [c4, cond_f, f98.spec K y hy, bind_s]
    obtain ⟨gy, py⟩ := blen_ge (x := y) (by omega)
    have hb : blen y ≤ 64 := blen_le (k := 64) hy
    have ly := blen_lt y
    obtain ⟨s, hs⟩ : ∃ s, s = 64 - blen y := ⟨_, rfl⟩
    rw [← hs]
    have hs63 : s ≤ 63 := by omega
    have w5 : IntKind.wrap .u64 (s : Int) = (s : Int) := wrap_u _ (by omega) (by omega)
    have w10 : IntKind.wrap .u64 (64 - (s : Int)) = ((64 - s : Nat) : Int) := by rw [wrap_u _ (by omega) (by omega)]; omega
    have d1 : decide (0 ≤ (s : Int)) = true := decide_eq_true (by omega)
    have d2 : decide (0 ≤ ((64 - s : Nat) : Int)) = true := decide_eq_true (by omega)
    have p2 := Nat.two_pow_pos s
    have e64 : 18446744073709551616 = 2 ^ (64 - s) * 2 ^ s := by rw [← Nat.pow_add, show 64 - s + s = 64 by omega]
    have hYlt : y * 2 ^ s < 18446744073709551616 := by
      have h1 : y * 2 ^ s < 2 ^ blen y * 2 ^ s := Nat.mul_lt_mul_of_pos_right ly p2
      rw [← Nat.pow_add, show blen y + s = 64 by omega] at h1
      exact h1
    have hYge : 9223372036854775808 ≤ y * 2 ^ s := by
      have h1 : 2 ^ (blen y - 1) * 2 ^ s ≤ y * 2 ^ s := Nat.mul_le_mul_right _ gy
      rw [← Nat.pow_add, show blen y - 1 + s = 63 by omega] at h1
      exact h1
    have hl1 : lo / 2 ^ (64 - s) < 2 ^ s := by rw [Nat.div_lt_iff_lt_mul (Nat.two_pow_pos _), Nat.mul_comm, ← e64]; exact hlo
    have hu : hi * 2 ^ s + lo / 2 ^ (64 - s) < y * 2 ^ s := by
      have : (hi + 1) * 2 ^ s ≤ y * 2 ^ s := Nat.mul_le_mul_right _ hhi
      rw [Nat.succ_mul] at this
      omega
    have hh1 : hi * 2 ^ s < 18446744073709551616 := Nat.lt_of_le_of_lt (Nat.le_add_right _ _) (Nat.lt_trans hu hYlt)
    have hh2 : lo / 2 ^ (64 - s) < 18446744073709551616 := Nat.lt_of_le_of_lt (Nat.le_add_left _ _) (Nat.lt_trans hu hYlt)
    have hor : bits .or .u64 (shiftI .shl .u64 (hi : Int) (s : Int)) (shiftI .shr .u64 (lo : Int) ((64 - s : Nat) : Int)) = ((hi * 2 ^ s + lo / 2 ^ (64 - s) : Nat) : Int) := by
      rw [shl_nat hi s (by omega), shr_nat lo (64 - s) (by omega), show (2 : Nat) ^ 64 = 18446744073709551616 from rfl, Nat.mod_eq_of_lt hh1, bits_or_u64_nat _ _ hh1 hh2]
      congr 1
      rw [← Nat.shiftLeft_eq, ← Nat.shiftLeft_add_eq_or_of_lt hl1]
    have hlow : lo * 2 ^ s = lo / 2 ^ (64 - s) * 18446744073709551616 + lo * 2 ^ s % 18446744073709551616 := by
      have h1 : lo * 2 ^ s / 18446744073709551616 = lo / 2 ^ (64 - s) := by rw [e64, Nat.mul_div_mul_right _ _ p2]
      have h2 := Nat.mod_add_div (lo * 2 ^ s) 18446744073709551616
      rw [h1, Nat.mul_comm 18446744073709551616] at h2
      omega
    rw [w5, w10, d1, d2, hor, shl_nat y s (by omega), shl_nat lo s (by omega), show (2 : Nat) ^ 64 = 18446744073709551616 from rfl, Nat.mod_eq_of_lt hYlt]
    simp only [cond_t]
    have hw : lo * 2 ^ s % 18446744073709551616 < 18446744073709551616 := Nat.mod_lt _ (by decide)
    rw [low_mask _ hYlt, low_mask _ hw, fdiv32, fdiv32]
    have hN : (hi * 18446744073709551616 + lo) * 2 ^ s = (hi * 2 ^ s + lo / 2 ^ (64 - s)) * 18446744073709551616 + lo * 2 ^ s % 18446744073709551616 := by
      rw [Nat.add_mul, hlow, Nat.add_mul, Nat.mul_assoc, Nat.mul_comm 18446744073709551616, ← Nat.mul_assoc]
      omega
    have hfin : (hi * 18446744073709551616 + lo) / y = (hi * 18446744073709551616 + lo) * 2 ^ s / (y * 2 ^ s) ∧ (hi * 18446744073709551616 + lo) % y * 2 ^ s = (hi * 18446744073709551616 + lo) * 2 ^ s % (y * 2 ^ s) :=
      ⟨(Nat.mul_div_mul_right _ _ p2).symm, (Nat.mul_mod_mul_right _ _ _).symm⟩
    obtain ⟨N, hNN⟩ : ∃ N, N = hi * 18446744073709551616 + lo := ⟨_, rfl⟩
    obtain ⟨u, huu⟩ : ∃ u, u = hi * 2 ^ s + lo / 2 ^ (64 - s) := ⟨_, rfl⟩
    obtain ⟨l, hll⟩ : ∃ l, l = lo * 2 ^ s % 18446744073709551616 := ⟨_, rfl⟩
    obtain ⟨Y, hYY⟩ : ∃ Y, Y = y * 2 ^ s := ⟨_, rfl⟩
    rw [← hNN, ← huu, ← hll] at hN
    rw [← hNN, ← hYY] at hfin
    rw [← huu, ← hYY] at hu
    rw [← hYY] at hYlt hYge
    rw [← hll] at hw
    rw [← hNN, ← huu, ← hll, ← hYY]
    clear hNN huu hll hYY hlow hl1 hor hh1 hh2
    obtain ⟨y1, hy1⟩ : ∃ y1, y1 = Y / 4294967296 := ⟨_, rfl⟩
    obtain ⟨y0', hy0'⟩ : ∃ y0, y0 = Y % 4294967296 := ⟨_, rfl⟩
    obtain ⟨u1, hu1⟩ : ∃ u1, u1 = l / 4294967296 := ⟨_, rfl⟩
    obtain ⟨u0, hu0⟩ : ∃ u0, u0 = l % 4294967296 := ⟨_, rfl⟩
    rw [← hy1, ← hy0', ← hu1, ← hu0]
    have b1 : 2147483648 ≤ y1 := by omega
    have b2 : y1 < 4294967296 := by omega
    have b3 : y0' < 4294967296 := by omega
    have b4 : Y = y1 * 4294967296 + y0' := by omega
    have b5 : u1 < 4294967296 := by omega
    have b6 : u0 < 4294967296 := by omega
    have step : ∀ v : Nat, v < Y → IntKind.wrap .u64 (Int.tdiv (v : Int) (y1 : Int)) = ((v / y1 : Nat) : Int) ∧ IntKind.wrap .u64 ((v : Int) - IntKind.wrap .u64 (((v / y1 : Nat) : Int) * (y1 : Int))) = ((v % y1 : Nat) : Int) := by
      intro v hv
      have h1 : v / y1 ≤ v := Nat.div_le_self _ _
      have h2 : v / y1 * y1 ≤ v := Nat.div_mul_le_self _ _
      have h3 := mod_eq_sub v y1
      refine ⟨by rw [tdiv_nat, wrap_nat, Nat.mod_eq_of_lt (by omega)], ?_⟩
      rw [show ((v / y1 : Nat) : Int) * (y1 : Int) = ((v / y1 * y1 : Nat) : Int) by simp, wrap_nat, Nat.mod_eq_of_lt (by omega), wrap_u _ (by omega) (by omega)]
      omega
    have dy : decide ((y1 : Int) ≠ 0) = true := decide_eq_true (by omega)
    rw [dy]
    simp only [cond_t]
    rw [(step u hu).1, (step u hu).2, f81.loop0 K K Y y1 y0' u u1 (s : Int) (u0 : Int) b4 b1 b2 b3 hu b5 hK, bind_s]
    have hY0 : 0 < Y := by omega
    have m1 := Nat.mod_lt (u * 4294967296 + u1) hY0
    have q1 : (u * 4294967296 + u1) / Y * Y ≤ u * 4294967296 + u1 := Nat.div_mul_le_self _ _
    have r1 := mod_eq_sub (u * 4294967296 + u1) Y
    have hq1 : (u * 4294967296 + u1) / Y < 4294967296 := by have := guess_lt (y1 := y1) (y0 := y0') (u := u) (u1 := u1) (by omega) (by omega) b5; rwa [← b4] at this
    have d1' := Nat.mod_add_div (u * 4294967296 + u1) Y
    generalize (u * 4294967296 + u1) / Y = Q1 at *
    have wl := wrap_left u u1 Q1 Y q1 (by omega)
    simp only [dy, cond_t]
    rw [wl, r1]
    generalize (u * 4294967296 + u1) % Y = R1 at *
    rw [(step R1 m1).1, (step R1 m1).2, f81.loop2 K K Y y1 y0' R1 u0 (s : Int) (Q1 : Int) b4 b1 b2 b3 m1 b6 hK, bind_s]
    have m2 := Nat.mod_lt (R1 * 4294967296 + u0) hY0
    have q2 : (R1 * 4294967296 + u0) / Y * Y ≤ R1 * 4294967296 + u0 := Nat.div_mul_le_self _ _
    have r2 := mod_eq_sub (R1 * 4294967296 + u0) Y
    have hq2 : (R1 * 4294967296 + u0) / Y < 4294967296 := by have := guess_lt (y1 := y1) (y0 := y0') (u := R1) (u1 := u0) (by omega) (by omega) b6; rwa [← b4] at this
    have d2' := Nat.mod_add_div (R1 * 4294967296 + u0) Y
    generalize (R1 * 4294967296 + u0) / Y = Q0 at *
    have wl2 := wrap_left R1 u0 Q0 Y q2 (by omega)
    simp only [d1, cond_t]
    rw [wl2, r2]
    generalize (R1 * 4294967296 + u0) % Y = R0 at *
    have hdiv : N * 2 ^ s = R0 + Y * (Q1 * 4294967296 + Q0) := by
      rw [hN, Nat.mul_add, ← Nat.mul_assoc]
      omega
    obtain ⟨g1, g2⟩ := div_mod_of hdiv m2
    rw [hfin.1, g1, shr_nat R0 s (by omega)]
    have hrem : N % y = R0 / 2 ^ s := by
      have := hfin.2
      rw [g2] at this
      rw [← this, Nat.mul_div_cancel _ p2]
    rw [hrem, wrap_u ((Q1 : Int) * 4294967296) (by omega) (by omega), wrap_u _ (by omega) (by omega)]
    rfl
end Go.Proofs

namespace Go.Proofs
open Go.VM
abbrev f54.Ty0 := Int × Int × Int × Int × List Int × List Int × List Int × List Int
abbrev f54.Ty1 := Int × Int × List Int × List Int × List Int × List Int
abbrev f54.Ty2 := Int × Int × Int × List Int × List Int × List Int
abbrev f54.Ty3 := List Int × List Int × List Int
abbrev f54.Ty4 := Int × List Int
abbrev f54.Ty5 := List Int × Int
noncomputable def f54.c : Code := bodyOf Try.f54
def f54.s2t (K : Nat) (rec : f54.Ty0 → Option (f54.Ty2)) (t8 : Int) (t28 : Int) (t29 : Int) (t33 : Int) (b0 : List Int) (b1 : List Int) (b2 : List Int) (b3 : List Int) : Option (f54.Ty2) :=
  bif (decide (t33 < 4)) then
    let v10 := IntKind.wrap .i64 (3 - t33)
    bif decide (0 ≤ v10 ∧ v10 < 4) then
      (f81.F K (t8, (List.getD b2 (Int.toNat v10) 0), (List.getD b0 0 0))).bind fun y14 =>
      rec (y14.2, t28, t29, (IntKind.wrap .i64 (t33 + 1)), b0, b1, b2, b3)
    else
      none
  else
    some (t8, t28, t29, b0, b1, b3)
def f54.s2 (K : Nat) (rec : f54.Ty0 → Option (f54.Ty2)) (x : f54.Ty0) : Option (f54.Ty2) := f54.s2t K rec x.1 x.2.1 x.2.2.1 x.2.2.2.1 x.2.2.2.2.1 x.2.2.2.2.2.1 x.2.2.2.2.2.2.1 x.2.2.2.2.2.2.2
noncomputable def f54.s2.b : Code := (findLoop 2 f54.c).getD .skip
def f54.s2.h : Hint := { lv := [5, 6, 8, 10, 27, 28, 29, 33] }
def f54.s2.ho : Hint := { lv := [5, 6, 8, 27, 28, 29] }
def f54.s2.shp (x : f54.Ty0) : VS := ⟨[(5, .ptr 0 0), (6, .ptr 1 0), (8, .int .u64 x.1), (10, .ptr 2 0), (27, .sl 3 0 2 2), (28, .int .i64 x.2.1), (29, .int .i64 x.2.2.1), (33, .int .i64 x.2.2.2.1)], [(0, ([.ints .u64 4 x.2.2.2.2.1], 39, .norm)), (1, ([.ints .u64 4 x.2.2.2.2.2.1], 39, .norm)), (2, ([.ints .u64 4 x.2.2.2.2.2.2.1], 39, .norm)), (3, ([.ints .u64 8 x.2.2.2.2.2.2.2], 39, .norm))], 4⟩
def f54.s2.inX : VS → Option (f54.Ty0)
  | ⟨[(5, .ptr 0 0), (6, .ptr 1 0), (8, .int .u64 t8), (10, .ptr 2 0), (27, .sl 3 0 2 2), (28, .int .i64 t28), (29, .int .i64 t29), (33, .int .i64 t33)], [(0, ([.ints .u64 4 b0], 39, .norm)), (1, ([.ints .u64 4 b1], 39, .norm)), (2, ([.ints .u64 4 b2], 39, .norm)), (3, ([.ints .u64 8 b3], 39, .norm))], 4⟩ => some (t8, t28, t29, t33, b0, b1, b2, b3)
  | _ => none
def f54.s2.o0 (y : f54.Ty2) : VS := ⟨[(5, .ptr 0 0), (6, .ptr 1 0), (8, .int .u64 y.1), (27, .sl 2 0 2 2), (28, .int .i64 y.2.1), (29, .int .i64 y.2.2.1)], [(0, ([.ints .u64 4 y.2.2.2.1], 39, .norm)), (1, ([.ints .u64 4 y.2.2.2.2.1], 39, .norm)), (2, ([.ints .u64 8 y.2.2.2.2.2], 39, .norm))], 3⟩
def f54.s2.des : ∀ α : Type, (f54.Ty2) → (Ex → VS → Option α) → Option α := (des1 (.exit 2) f54.s2.o0)
def f54.s2.out : f54.Ty2 → Ex × VS := (fun y => (.exit 2, f54.s2.o0 y))
theorem f54.s2.desOK : ∀ α y (k : Ex → VS → Option α), f54.s2.des α y k = k (f54.s2.out y).1 (f54.s2.out y).2 := (fun _ _ _ => rfl)
def f54.s2.inY : Ex → VS → Option (f54.Ty2)
  | .exit 2, ⟨[(5, .ptr 0 0), (6, .ptr 1 0), (8, .int .u64 t8), (27, .sl 2 0 2 2), (28, .int .i64 t28), (29, .int .i64 t29)], [(0, ([.ints .u64 4 b0], 39, .norm)), (1, ([.ints .u64 4 b1], 39, .norm)), (2, ([.ints .u64 8 b2], 39, .norm))], 3⟩ => some (t8, t28, t29, b0, b1, b2)
  | _, _ => none
def f54.s0t (K : Nat) (rec : f54.Ty2 → Option (f54.Ty4)) (t8 : Int) (t28 : Int) (t29 : Int) (b0 : List Int) (b1 : List Int) (b2 : List Int) : Option (f54.Ty4) :=
  bif (decide (t29 < t28)) then
    bif decide (0 ≤ t29 ∧ t29 < 2) then
      (iter (f54.s2 K) K (t8, t28, t29, 0, b0, b1, (List.take 4 (List.drop ((Int.toNat t29) * 4) b2)), b2)).bind fun y16 =>
      rec (y16.1, y16.2.1, (IntKind.wrap .i64 (y16.2.2.1 + 1)), y16.2.2.2.1, y16.2.2.2.2.1, y16.2.2.2.2.2)
    else
      none
  else
    some (t8, b1)
def f54.s0 (K : Nat) (rec : f54.Ty2 → Option (f54.Ty4)) (x : f54.Ty2) : Option (f54.Ty4) := f54.s0t K rec x.1 x.2.1 x.2.2.1 x.2.2.2.1 x.2.2.2.2.1 x.2.2.2.2.2
noncomputable def f54.s0.b : Code := (findLoop 0 f54.c).getD .skip
def f54.s0.h : Hint := { lv := [5, 6, 8, 27, 28, 29] }
def f54.s0.ho : Hint := { lv := [6, 8] }
def f54.s0.shp (x : f54.Ty2) : VS := ⟨[(5, .ptr 0 0), (6, .ptr 1 0), (8, .int .u64 x.1), (27, .sl 2 0 2 2), (28, .int .i64 x.2.1), (29, .int .i64 x.2.2.1)], [(0, ([.ints .u64 4 x.2.2.2.1], 39, .norm)), (1, ([.ints .u64 4 x.2.2.2.2.1], 39, .norm)), (2, ([.ints .u64 8 x.2.2.2.2.2], 39, .norm))], 3⟩
def f54.s0.inX : VS → Option (f54.Ty2)
  | ⟨[(5, .ptr 0 0), (6, .ptr 1 0), (8, .int .u64 t8), (27, .sl 2 0 2 2), (28, .int .i64 t28), (29, .int .i64 t29)], [(0, ([.ints .u64 4 b0], 39, .norm)), (1, ([.ints .u64 4 b1], 39, .norm)), (2, ([.ints .u64 8 b2], 39, .norm))], 3⟩ => some (t8, t28, t29, b0, b1, b2)
  | _ => none
def f54.s0.o0 (y : f54.Ty4) : VS := ⟨[(6, .ptr 0 0), (8, .int .u64 y.1)], [(0, ([.ints .u64 4 y.2], 39, .norm))], 1⟩
def f54.s0.des : ∀ α : Type, (f54.Ty4) → (Ex → VS → Option α) → Option α := (des1 (.exit 0) f54.s0.o0)
def f54.s0.out : f54.Ty4 → Ex × VS := (fun y => (.exit 0, f54.s0.o0 y))
theorem f54.s0.desOK : ∀ α y (k : Ex → VS → Option α), f54.s0.des α y k = k (f54.s0.out y).1 (f54.s0.out y).2 := (fun _ _ _ => rfl)
def f54.s0.inY : Ex → VS → Option (f54.Ty4)
  | .exit 0, ⟨[(6, .ptr 0 0), (8, .int .u64 t8)], [(0, ([.ints .u64 4 b0], 39, .norm))], 1⟩ => some (t8, b0)
  | _, _ => none
def f54.s4t (K : Nat) (rec : f54.Ty1 → Option (List Int)) (t76 : Int) (t77 : Int) (b0 : List Int) (b1 : List Int) (b2 : List Int) (b3 : List Int) : Option (List Int) :=
  bif (decide (t77 < t76)) then
    (f83.F K (b0, t77)).bind fun y29 =>
    bif (y29 == 1) then
      (f82.F K (b2, b3, b1)).bind fun y30 =>
      (f82.F K (b3, b3, b1)).bind fun y31 =>
      rec (t76, (IntKind.wrap .i64 (t77 + 1)), b0, b1, y30, y31)
    else
      (f82.F K (b3, b3, b1)).bind fun y33 =>
      rec (t76, (IntKind.wrap .i64 (t77 + 1)), b0, b1, b2, y33)
  else
    some b2
def f54.s4 (K : Nat) (rec : f54.Ty1 → Option (List Int)) (x : f54.Ty1) : Option (List Int) := f54.s4t K rec x.1 x.2.1 x.2.2.1 x.2.2.2.1 x.2.2.2.2.1 x.2.2.2.2.2
noncomputable def f54.s4.b : Code := (findLoop 4 f54.c).getD .skip
def f54.s4.h : Hint := { lv := [4, 5, 6, 15, 76, 77] }
def f54.s4.ho : Hint := { lv := [6] }
def f54.s4.shp (x : f54.Ty1) : VS := ⟨[(4, .ptr 0 0), (5, .ptr 1 0), (6, .ptr 2 0), (15, .ptr 3 0), (76, .int .i64 x.1), (77, .int .i64 x.2.1)], [(0, ([.ints .u64 4 x.2.2.1], 39, .norm)), (1, ([.ints .u64 4 x.2.2.2.1], 39, .norm)), (2, ([.ints .u64 4 x.2.2.2.2.1], 39, .norm)), (3, ([.ints .u64 4 x.2.2.2.2.2], 39, .norm))], 4⟩
def f54.s4.inX : VS → Option (f54.Ty1)
  | ⟨[(4, .ptr 0 0), (5, .ptr 1 0), (6, .ptr 2 0), (15, .ptr 3 0), (76, .int .i64 t76), (77, .int .i64 t77)], [(0, ([.ints .u64 4 b0], 39, .norm)), (1, ([.ints .u64 4 b1], 39, .norm)), (2, ([.ints .u64 4 b2], 39, .norm)), (3, ([.ints .u64 4 b3], 39, .norm))], 4⟩ => some (t76, t77, b0, b1, b2, b3)
  | _ => none
def f54.s4.o0 (y : List Int) : VS := ⟨[(6, .ptr 0 0)], [(0, ([.ints .u64 4 y], 39, .norm))], 1⟩
def f54.s4.des : ∀ α : Type, (List Int) → (Ex → VS → Option α) → Option α := (des1 (.exit 4) f54.s4.o0)
def f54.s4.out : List Int → Ex × VS := (fun y => (.exit 4, f54.s4.o0 y))
theorem f54.s4.desOK : ∀ α y (k : Ex → VS → Option α), f54.s4.des α y k = k (f54.s4.out y).1 (f54.s4.out y).2 := (fun _ _ _ => rfl)
def f54.s4.inY : Ex → VS → Option (List Int)
  | .exit 4, ⟨[(6, .ptr 0 0)], [(0, ([.ints .u64 4 b0], 39, .norm))], 1⟩ => some b0
  | _, _ => none
def f54.lp (K : Nat) : Nat → Option (Hint × Summ) := tabLp [(2, f54.s2.h, summOf (iter (f54.s2 K) K) f54.s2.inX f54.s2.des), (0, f54.s0.h, summOf (iter (f54.s0 K) K) f54.s0.inX f54.s0.des), (4, f54.s4.h, summOf (iter (f54.s4 K) K) f54.s4.inX f54.s4.des)]
noncomputable def f54.tab (K : Nat) : List (Nat × Entry) := [(65, (f65.E K)), (66, (f66.E K)), (81, (f81.E K)), (33, (f33.E K)), (67, (f67.E K)), (36, (f36.E K)), (82, (f82.E K)), (83, (f83.E K))]
theorem f54.tabOK (K : Nat) : SpecOK Try.prog (tabSp (f54.tab K)) := tab_ok ((tab_cons (f65.ok K) (tab_cons (f66.ok K) (tab_cons (f81.ok K) (tab_cons (f33.ok K) (tab_cons (f67.ok K) (tab_cons (f36.ok K) (tab_cons (f82.ok K) (tab_cons (f83.ok K) tab_nil)))))))))
theorem f54.s2.eq (K : Nat) (rec : f54.Ty0 → Option (f54.Ty2)) (x : f54.Ty0) : f54.s2 K rec x = roundL (getA tys) (tabSp (f54.tab K)) 94 0 (f54.lp K) 400 f54.s2.b f54.s2.h f54.s2.ho f54.s2.shp f54.s2.inX f54.s2.inY rec x := by kernel_rfl
theorem f54.s2.lok (K : Nat) : LoopsOK Try.prog 94 0 (f54.lp K) f54.s2.b := loops_ok (by
  have h : loopsIn (f54.lp K) f54.s2.b = [] := by kernel_rfl
  rw [h]; simp)
theorem f54.s2.ok (K : Nat) : SummOK Try.prog 94 0 (summOf (iter (f54.s2 K) K) f54.s2.inX f54.s2.des) f54.s2.b :=
  loop_ok mix tys_ok (f54.tabOK K) (h := f54.s2.h) (ho := f54.s2.ho) (shp := f54.s2.shp) (inX := f54.s2.inX) (des := f54.s2.des) (out := f54.s2.out) (inY := f54.s2.inY) (fuel := 400)
    (by intro st x h; unfold f54.s2.inX at h; split at h <;> simp at h; subst h; rfl)
    (by intro e st y h; unfold f54.s2.inY at h; split at h <;> simp at h <;> subst h <;> rfl)
    f54.s2.desOK (f54.s2.lok K) (f54.s2 K) (f54.s2.eq K) K
theorem f54.s0.eq (K : Nat) (rec : f54.Ty2 → Option (f54.Ty4)) (x : f54.Ty2) : f54.s0 K rec x = roundL (getA tys) (tabSp (f54.tab K)) 94 0 (f54.lp K) 400 f54.s0.b f54.s0.h f54.s0.ho f54.s0.shp f54.s0.inX f54.s0.inY rec x := by kernel_rfl
theorem f54.s0.lok (K : Nat) : LoopsOK Try.prog 94 0 (f54.lp K) f54.s0.b := loops_ok (by
  have h : loopsIn (f54.lp K) f54.s0.b = [(2, f54.s2.b)] := by kernel_rfl
  rw [h]
  intro p hp
  simp only [List.mem_cons, List.not_mem_nil, or_false] at hp
  rcases hp with rfl
  · exact ⟨_, rfl, (f54.s2.ok K)⟩)
theorem f54.s0.ok (K : Nat) : SummOK Try.prog 94 0 (summOf (iter (f54.s0 K) K) f54.s0.inX f54.s0.des) f54.s0.b :=
  loop_ok mix tys_ok (f54.tabOK K) (h := f54.s0.h) (ho := f54.s0.ho) (shp := f54.s0.shp) (inX := f54.s0.inX) (des := f54.s0.des) (out := f54.s0.out) (inY := f54.s0.inY) (fuel := 400)
    (by intro st x h; unfold f54.s0.inX at h; split at h <;> simp at h; subst h; rfl)
    (by intro e st y h; unfold f54.s0.inY at h; split at h <;> simp at h <;> subst h <;> rfl)
    f54.s0.desOK (f54.s0.lok K) (f54.s0 K) (f54.s0.eq K) K
theorem f54.s4.eq (K : Nat) (rec : f54.Ty1 → Option (List Int)) (x : f54.Ty1) : f54.s4 K rec x = roundL (getA tys) (tabSp (f54.tab K)) 94 0 (f54.lp K) 400 f54.s4.b f54.s4.h f54.s4.ho f54.s4.shp f54.s4.inX f54.s4.inY rec x := by kernel_rfl
theorem f54.s4.lok (K : Nat) : LoopsOK Try.prog 94 0 (f54.lp K) f54.s4.b := loops_ok (by
  have h : loopsIn (f54.lp K) f54.s4.b = [] := by kernel_rfl
  rw [h]; simp)
theorem f54.s4.ok (K : Nat) : SummOK Try.prog 94 0 (summOf (iter (f54.s4 K) K) f54.s4.inX f54.s4.des) f54.s4.b :=
  loop_ok mix tys_ok (f54.tabOK K) (h := f54.s4.h) (ho := f54.s4.ho) (shp := f54.s4.shp) (inX := f54.s4.inX) (des := f54.s4.des) (out := f54.s4.out) (inY := f54.s4.inY) (fuel := 400)
    (by intro st x h; unfold f54.s4.inX at h; split at h <;> simp at h; subst h; rfl)
    (by intro e st y h; unfold f54.s4.inY at h; split at h <;> simp at h <;> subst h <;> rfl)
    f54.s4.desOK (f54.s4.lok K) (f54.s4 K) (f54.s4.eq K) K
theorem f54.loops (K : Nat) : LoopsOK Try.prog 94 0 (f54.lp K) f54.c := loops_ok (by
  have h : loopsIn (f54.lp K) f54.c = [(0, f54.s0.b), (2, f54.s2.b), (4, f54.s4.b)] := by kernel_rfl
  rw [h]
  intro p hp
  simp only [List.mem_cons, List.not_mem_nil, or_false] at hp
  rcases hp with rfl | rfl | rfl
  · exact ⟨_, rfl, (f54.s0.ok K)⟩
  · exact ⟨_, rfl, (f54.s2.ok K)⟩
  · exact ⟨_, rfl, (f54.s4.ok K)⟩)
def f54.T (K : Nat) (a0 : List Int) (a1 : List Int) (a2 : List Int) : Option (f54.Ty5) :=
  (f65.F K ()).bind fun y1 =>
  bif (eqL 4 a2 y1 && true) then
    some ([0, 0, 0, 0], 1)
  else
    (f66.F K a2).bind fun y3 =>
    bif (decide (y3 ≤ 64)) then
      (iter (f54.s0 K) K (0, 2, 0, a2, [0, 0, 0, 0], (spl (spl [] 0 4 a1) 4 4 a0))).bind fun y18 =>
      (f33.F K y18.1).bind fun y19 =>
      some (y19, 0)
    else
      (f65.F K ()).bind fun y20 =>
      (f33.F K 1).bind fun y21 =>
      (f67.F K (y20, y21)).bind fun y22 =>
      (f36.F K (a0, a2)).bind fun y23 =>
      (f36.F K (y22.1, a2)).bind fun y24 =>
      (f33.F K 1).bind fun y25 =>
      (f82.F K (y24.2.1, y25, a2)).bind fun y26 =>
      (f66.F K a1).bind fun y27 =>
      (iter (f54.s4 K) K (y27, 0, a1, a2, y23.2.1, y26)).bind fun y35 =>
      some (y35, 0)
def f54.F (K : Nat) (x : f54.Ty3) : Option (f54.Ty5) := f54.T K x.1 x.2.1 x.2.2
def f54.av (x : f54.Ty3) : List VV := [.agg [.ints .u64 4 x.1], .agg [.ints .u64 4 x.2.1], .agg [.ints .u64 4 x.2.2]]
def f54.bl (_x : f54.Ty3) : List (Nat × Blk) := []
def f54.inA : VS → Option (f54.Ty3)
  | ⟨[(0, .agg [.ints .u64 4 a0]), (1, .agg [.ints .u64 4 a1]), (2, .agg [.ints .u64 4 a2])], [], 0⟩ => some (a0, a1, a2)
  | _ => none
def f54.o0 (y : f54.Ty5) : VS := ⟨[(0, .tup [.agg [.ints .u64 4 y.1], .int .i64 y.2])], [], 0⟩
def f54.des : ∀ α : Type, (f54.Ty5) → (VS → Option α) → Option α := (dv1 f54.o0)
def f54.out : f54.Ty5 → VS := f54.o0
def f54.inR : VS → Option (f54.Ty5)
  | ⟨[(0, .tup [.agg [.ints .u64 4 y_0], .int .i64 y_1])], [], 0⟩ => some (y_0, y_1)
  | _ => none
noncomputable def f54.E (K : Nat) : Entry := genE 0 f54.inA (f54.F K) f54.des
theorem f54.eq (K : Nat) (x : f54.Ty3) : f54.F K x = xrun (getA tys) (tabSp (f54.tab K)) Try.f54.ntmps 0 (f54.lp K) 400 f54.c ⟨initL 0 (f54.av x), f54.bl x, 0⟩ (contF (getA tys) 0 Try.f54.results.toList f54.inR) := by kernel_rfl
theorem f54.ok (K : Nat) : EntryOK Try.prog 54 (f54.E K) :=
  gen_ok mix tys_ok (f54.tabOK K) Try.func54 (by kernel_rfl : Try.f54.body = some f54.c) (by kernel_rfl) (f54.loops K) (av := f54.av) (bl := f54.bl) (out := f54.out) (fuel := 400)
    (by intro s x h; unfold f54.inA at h; split at h <;> simp at h; subst h; rfl) (fun _ => Nat.le_of_ble_eq_true rfl)
    (by intro s y h; unfold f54.inR at h; split at h <;> simp at h <;> subst h <;> rfl) (fun _ _ _ => rfl) (f54.eq K)
end Go.Proofs

namespace Go.Proofs
open Go.VM
theorem mod_step (a t w M : Nat) : (a % M * t + w) % M = (a * t + w) % M := by
  rw [Nat.add_mod, Nat.mul_mod, Nat.mod_mod, ← Nat.mul_mod, ← Nat.add_mod]
theorem two_rows (H L : Nat) : spl (spl [] 0 4 (num H)) 4 4 (num L) = num H ++ num L := rfl
theorem f54.words (X M l : Nat) (hX : X < 2 ^ 256) (hM : 0 < M) (hM64 : M < 18446744073709551616) (hl : l < M) (t z b3 : _) (i : Nat) :
    iter (f54.s2 100000) 100000 ((l : Int), t, (i : Int), 0, num M, z, num X, b3) = some ((((l * 2 ^ 256 + X) % M : Nat) : Int), t, (i : Int), num M, z, b3) := by
  have key := iter_for (stp := f54.s2 100000) (N := 4) (fun j => ((((l * 2 ^ (64 * j) + X / 2 ^ (64 * (4 - j))) % M : Nat) : Int), t, (i : Int), (j : Int), num M, z, num X, b3))
    (y := some ((((l * 2 ^ 256 + X) % M : Nat) : Int), t, (i : Int), num M, z, b3)) (fun j hj rec => by
      simp only [f54.s2, f54.s2t]
      have w1 : IntKind.wrap .i64 (3 - (j : Int)) = ((3 - j : Nat) : Int) := by rw [wrap_i _ (by omega) (by omega)]; omega
      have w2 : IntKind.wrap .i64 ((j : Int) + 1) = ((j + 1 : Nat) : Int) := by rw [wrap_i _ (by omega) (by omega)]; rfl
      have h4 : decide ((0 : Int) ≤ ((3 - j : Nat) : Int) ∧ ((3 - j : Nat) : Int) < 4) = true := inR_nat (n := 4) (by omega)
      have hw : X / 2 ^ (64 * (3 - j)) % 2 ^ 64 < 18446744073709551616 := Nat.mod_lt _ (by decide)
      rw [decide_eq_true (show (j : Int) < 4 by omega), cond_t, w1, w2, h4, cond_t, Int.toNat_natCast, getD_words (show 3 - j < 4 by omega), word0 M hM64,
        f81.spec 100000 _ _ M hM64 (Nat.mod_lt _ hM) hw (by decide), bind_s, mod_step]
      have e1 : X / 2 ^ (64 * (3 - j)) = X / 2 ^ (64 * (4 - j)) * 18446744073709551616 + X / 2 ^ (64 * (3 - j)) % 2 ^ 64 := by
        have h := Nat.mod_add_div (X / 2 ^ (64 * (3 - j))) (2 ^ 64)
        rw [Nat.div_div_eq_div_mul, ← Nat.pow_add, show 64 * (3 - j) + 64 = 64 * (4 - j) by omega] at h
        omega
      have e2 : l * 2 ^ (64 * (j + 1)) = l * 2 ^ (64 * j) * 18446744073709551616 := by
        rw [show 64 * (j + 1) = 64 * j + 64 by omega, Nat.pow_add, ← Nat.mul_assoc]
      rw [show 4 - (j + 1) = 3 - j by omega, e2]
      conv => rhs; rw [e1]
      rw [Nat.add_mul, Nat.add_assoc]) (fun rec => by
      simp only [f54.s2, f54.s2t]
      rw [decide_eq_false (show ¬ ((4 : Nat) : Int) < 4 by decide), cond_f, Nat.sub_self, Nat.mul_zero, Nat.pow_zero, Nat.div_one]) (show 4 < 100000 by decide)
  simp only [Nat.mul_zero, Nat.pow_zero, Nat.mul_one, Nat.sub_zero] at key
  rw [show 64 * 4 = 256 from rfl, Nat.div_eq_of_lt hX, Nat.add_zero, Nat.mod_eq_of_lt hl] at key
  exact key
def wideSo (H L M i : Nat) : Nat := if i = 0 then 0 else if i = 1 then H % M else (H * 2 ^ 256 + L) % M
theorem wideSo0 (H L M : Nat) : wideSo H L M 0 = 0 := if_pos rfl
theorem wideSo1 (H L M : Nat) : wideSo H L M 1 = H % M := by unfold wideSo; rw [if_neg (by decide), if_pos rfl]
theorem wideSo2 (H L M : Nat) : wideSo H L M 2 = (H * 2 ^ 256 + L) % M := by unfold wideSo; rw [if_neg (by decide), if_neg (by decide)]
theorem f54.small (H L M : Nat) (hH : H < 2 ^ 256) (hL : L < 2 ^ 256) (hM : 0 < M) (hM64 : M < 18446744073709551616) (z : _) :
    iter (f54.s0 100000) 100000 (0, 2, 0, num M, z, num H ++ num L) = some ((((H * 2 ^ 256 + L) % M : Nat) : Int), z) := by
  have key := iter_for (stp := f54.s0 100000) (N := 2) (fun i => ((wideSo H L M i : Int), (2 : Int), (i : Int), num M, z, num H ++ num L))
    (y := some ((((H * 2 ^ 256 + L) % M : Nat) : Int), z)) (fun i hi rec => by
      have hi2 : i = 0 ∨ i = 1 := by omega
      have wi : IntKind.wrap .i64 ((i : Int) + 1) = ((i + 1 : Nat) : Int) := by rw [wrap_i _ (by omega) (by omega)]; rfl
      simp only [f54.s0, f54.s0t]
      rw [decide_eq_true (show (i : Int) < 2 by omega), cond_t, decide_eq_true (show 0 ≤ (i : Int) ∧ (i : Int) < 2 by omega), cond_t]
      rcases hi2 with rfl | rfl
      · have hrow : List.take 4 (List.drop (Int.toNat ((0 : Nat) : Int) * 4) (num H ++ num L)) = num H := rfl
        have e := f54.words H M 0 hH hM hM64 hM 2 z (num H ++ num L) 0
        rw [Nat.zero_mul, Nat.zero_add] at e
        rw [hrow, wideSo0, e, bind_s]
        simp only []
        rw [wi, wideSo1]
      · have hrow : List.take 4 (List.drop (Int.toNat ((1 : Nat) : Int) * 4) (num H ++ num L)) = num L := rfl
        have e := f54.words L M (H % M) hL hM hM64 (Nat.mod_lt _ hM) 2 z (num H ++ num L) 1
        rw [hrow, wideSo1, e, bind_s, mod_step]
        simp only []
        rw [wi, wideSo2]) (fun rec => by
      simp only [f54.s0, f54.s0t]
      rw [decide_eq_false (show ¬ ((2 : Nat) : Int) < 2 by decide), cond_f, wideSo2]) (show 2 < 100000 by decide)
  rw [wideSo0] at key
  exact key
theorem f54.bits (H L M : Nat) (hH : H < 2 ^ 256) (hM : 0 < M) (hM' : M < 2 ^ 256) (_hL : L < 2 ^ 256) :
    iter (f54.s4 100000) 100000 (((blen H : Nat) : Int), 0, num H, num M, num (L % M), num (2 ^ 256 % M)) = some (num ((H * 2 ^ 256 + L) % M)) := by
  have hb := blen_256 hH
  have key := iter_for (stp := f54.s4 100000) (N := blen H) (fun i => (((blen H : Nat) : Int), (i : Int), num H, num M, num ((H % 2 ^ i * 2 ^ 256 + L) % M), num (2 ^ (256 + i) % M)))
    (y := some (num ((H * 2 ^ 256 + L) % M))) (fun i hi rec => by
      simp only [f54.s4, f54.s4t]
      have w2 : IntKind.wrap .i64 ((i : Int) + 1) = ((i + 1 : Nat) : Int) := by rw [wrap_i _ (by omega) (by omega)]; rfl
      have hs : num ((2 ^ (256 + i) % M + 2 ^ (256 + i) % M) % M) = num (2 ^ (256 + (i + 1)) % M) := by
        rw [← Nat.add_mod, show 2 ^ (256 + (i + 1)) = 2 ^ (256 + i) + 2 ^ (256 + i) by rw [show 256 + (i + 1) = (256 + i) + 1 from rfl, Nat.pow_succ, Nat.mul_two]]
      have hl := Nat.mod_lt (2 ^ (256 + i)) hM
      have hr := Nat.mod_lt (H % 2 ^ i * 2 ^ 256 + L) hM
      have hbit : H % 2 ^ (i + 1) = H % 2 ^ i + 2 ^ i * (H / 2 ^ i % 2) := by rw [Nat.pow_succ, Nat.mod_mul]
      rw [decide_eq_true (show (i : Int) < ((blen H : Nat) : Int) by omega), cond_t, f83.all H i (by omega), mod_self_of hH, bind_s, w2, f82.spec _ _ M hl hl hM', bind_s, hs, hbit]
      rcases Nat.mod_two_eq_zero_or_one (H / 2 ^ i) with h | h
      · rw [h, show (((0 : Nat) : Int) == 1) = false from rfl, cond_f, Nat.mul_zero, Nat.add_zero (H % 2 ^ i)]
      · rw [h, show (((1 : Nat) : Int) == 1) = true from rfl, cond_t, f82.spec _ _ M hr hl hM', bind_s, ← Nat.add_mod, Nat.mul_one]
        have e : (H % 2 ^ i + 2 ^ i) * 2 ^ 256 + L = H % 2 ^ i * 2 ^ 256 + L + 2 ^ (256 + i) := by
          rw [Nat.add_mul (H % 2 ^ i) (2 ^ i) (2 ^ 256), Nat.pow_add 2 256 i, Nat.mul_comm (2 ^ 256) (2 ^ i)]
          omega
        rw [e, bind_s]) (fun rec => by
      simp only [f54.s4, f54.s4t]
      rw [decide_eq_false (Int.lt_irrefl _), cond_f, Nat.mod_eq_of_lt (blen_lt H)]) (show blen H < 100000 by omega)
  simp only [Nat.pow_zero, Nat.mod_one, Nat.zero_mul, Nat.zero_add, Nat.add_zero] at key
  exact key
theorem f54.zero (H L : Nat) : f54.F 100000 (num L, num H, num 0) = some (num 0, 1) := by
  simp only [f54.F, f54.T, f65.spec, bind_s, eqL_num, decide_true, Bool.and_true, cond_t]
  rfl
theorem f54.spec (L H M : Nat) (hL : L < 2 ^ 256) (hH : H < 2 ^ 256) (hM : M < 2 ^ 256) (h0 : 0 < M) : f54.F 100000 (num L, num H, num M) = some (num ((H * 2 ^ 256 + L) % M), 0) := by
  have mM := mod_self_of hM
  have hz : decide (M = 0 % 2 ^ 256) = false := decide_eq_false (fun h => by rw [Nat.zero_mod] at h; omega)
  have lM := blen_lt M
  simp only [f54.F, f54.T, f65.spec, bind_s, eqL_num, mM, hz, Bool.and_true, cond_f, f66.all, two_rows]
  by_cases h : blen M ≤ 64
  · have hM64 : M < 2 ^ 64 := Nat.lt_of_lt_of_le lM (Nat.pow_le_pow_right (by decide) h)
    have hr : (H * 2 ^ 256 + L) % M < 18446744073709551616 := Nat.lt_trans (Nat.mod_lt _ h0) hM64
    rw [decide_eq_true (show ((blen M : Nat) : Int) ≤ 64 by omega), cond_t, f54.small H L M hH hL h0 hM64, bind_s, f33.nat _ _ hr, bind_s]
  · obtain ⟨gM, _⟩ := blen_ge (x := M) (by omega)
    have hM64 : 2 ^ 64 ≤ M := Nat.le_trans (Nat.pow_le_pow_right (by decide) (by omega)) gM
    have e1 : (0 : Nat) % 2 ^ 256 + 2 ^ 256 - 1 % 2 ^ 256 = 2 ^ 256 - 1 := rfl
    have hp : (2 ^ 256 - 1 : Nat) < 2 ^ 256 := by decide
    have e2 : ((2 ^ 256 - 1) % M + 1) % M = 2 ^ 256 % M := by
      have h1 : (1 : Nat) % M = 1 := Nat.mod_eq_of_lt (by omega)
      have h2 : ((2 ^ 256 - 1) % M + 1 % M) % M = 2 ^ 256 % M := by rw [← Nat.add_mod]
      rwa [h1] at h2
    rw [decide_eq_false (show ¬ ((blen M : Nat) : Int) ≤ 64 by omega), cond_f]
    simp only [f33.one, bind_s, f67.all, e1]
    rw [f36.spec L M hL hM h0, bind_s, f36.spec _ M hp hM h0, bind_s, f82.spec _ 1 M (Nat.mod_lt _ h0) (by omega) hM, bind_s, e2, mod_self_of hH, f54.bits H L M hH h0 hM hL, bind_s]
end Go.Proofs

namespace Go.Proofs
open Go.VM
def Sh.cut (name : List Int) (ps : List (List Int)) : List Int := Sh.frame name ++ be 4 ps.length ++ ps.flatMap Sh.frame
def Sh.sha (name : List Int) (ps : List (List Int)) : List Int := Sh.sum (Sh.cut name ps)
theorem Sh.rep0 : Sh.Rep [] [0, 0, 0, 0, 0, 0, 0, 0, 0, 0, 0, 0, 0, 0, 0, 0, 0, 0, 0, 0, 0, 0, 0, 0, 0, 0, 0, 0, 0, 0, 0, 0, 0, 0, 0, 0, 0, 0, 0, 0, 0, 0, 0, 0, 0, 0, 0, 0, 0, 0, 0, 0, 0, 0, 0, 0, 0, 0, 0, 0, 0, 0, 0, 0] 0 Sh.init :=
  ⟨rfl, by intro x hx; simp only [List.mem_cons, List.not_mem_nil, or_false, or_self] at hx; omega, rfl, rfl, rfl⟩
theorem sha_length (name : List Int) (ps : List (List Int)) : (Sh.sha name ps).length = 32 := digest_length _
theorem sha_octets (name : List Int) (ps : List (List Int)) : octets (Sh.sha name ps) := digest_octets _
def Sh.number (Q : Nat) (name : List Int) (ps : List (List Int)) : Nat := (tv (Sh.sha name (ps ++ [[0]])) * 2 ^ 256 + tv (Sh.sha name (ps ++ [[1]]))) % Q
end Go.Proofs

namespace Go.Proofs
open Go.VM
abbrev f49.Ty0 := List Int × Int × Int × List Int
def f49.T (_K : Nat)  : Option (f49.Ty0) :=
  some ([0, 0, 0, 0, 0, 0, 0, 0, 0, 0, 0, 0, 0, 0, 0, 0, 0, 0, 0, 0, 0, 0, 0, 0, 0, 0, 0, 0, 0, 0, 0, 0, 0, 0, 0, 0, 0, 0, 0, 0, 0, 0, 0, 0, 0, 0, 0, 0, 0, 0, 0, 0, 0, 0, 0, 0, 0, 0, 0, 0, 0, 0, 0, 0], 0, 0, [1779033703, 3144134277, 1013904242, 2773480762, 1359893119, 2600822924, 528734635, 1541459225])
def f49.F (K : Nat) (_x : Unit) : Option (f49.Ty0) := f49.T K
def f49.av (_x : Unit) : List VV := []
def f49.bl (_x : Unit) : List (Nat × Blk) := []
def f49.inA : VS → Option (Unit)
  | ⟨[], [], 0⟩ => some ()
  | _ => none
def f49.o0 (y : f49.Ty0) : VS := ⟨[(0, .ptr 0 0)], [(0, ([.ptr 1 0, .ints .u8 64 y.1, .int .i64 y.2.1, .int .u64 y.2.2.1], 117, .norm)), (1, ([.ints .u32 8 y.2.2.2], 113, .norm))], 2⟩
def f49.inR : VS → Option (f49.Ty0)
  | ⟨[(0, .ptr 0 0)], [(0, ([.ptr 1 0, .ints .u8 64 z0_0, .int .i64 z0_1, .int .u64 z0_2], 117, .norm)), (1, ([.ints .u32 8 z1], 113, .norm))], 2⟩ => some (z0_0, z0_1, z0_2, z1)
  | _ => none
noncomputable def f49.E (K : Nat) : Entry := genE 0 f49.inA (f49.F K) (dv1 f49.o0)
theorem f49.ok (K : Nat) : EntryOK Try.prog 49 (f49.E K) := gen_ok mix tys_ok (tab_ok ( tab_nil)) Try.func49 (c := bodyOf Try.f49) (by kernel_rfl) (by kernel_rfl) (loops_none (lp := lpNone) (by kernel_rfl)) (av := f49.av) (bl := f49.bl) (inR := f49.inR) (out := f49.o0) (fuel := 400)
  (by intro s x h; unfold f49.inA at h; split at h <;> simp at h; rfl) (fun _ => Nat.le_of_ble_eq_true rfl)
  (by intro s y h; unfold f49.inR at h; split at h <;> simp at h <;> subst h <;> rfl) (fun _ _ _ => rfl) (fun _ => by kernel_rfl)
end Go.Proofs

namespace Go.Proofs
open Go.VM
abbrev f30.Ty0 := List Int × Nat × List Int
abbrev f30.Ty1 := Nat × Nat × List Int
def f30.T (K : Nat) (a0 : Nat) (m0_0 : Nat) (m0_1 : List Int) : Option (f30.Ty0) :=
  (f49.F K ()).bind fun y1 =>
  bif ((Nat.ble (0 + a0) m0_0 && true) && true) then
    (f57.F K (y1.1, y1.2.1, y1.2.2.1, a0, y1.2.2.2, a0, (subI m0_1 0 a0))).bind fun y2 =>
    (f51.F K (y2.1, y2.2.1, y2.2.2.1, y2.2.2.2.2.2.2)).bind fun y3 =>
    some (y3.1, m0_0, m0_1)
  else
    none
def f30.F (K : Nat) (x : f30.Ty1) : Option (f30.Ty0) := f30.T K x.1 x.2.1 x.2.2
def f30.av (x : f30.Ty1) : List VV := [.vw true 0 0 x.1 1]
def f30.bl (x : f30.Ty1) : List (Nat × Blk) := [(0, ([.ints .u8 x.2.1 x.2.2], 0, .ro))]
def f30.inA : VS → Option (f30.Ty1)
  | ⟨[(0, .vw true 0 0 a0 1)], [(0, ([.ints .u8 m0_0 m0_1], 0, .ro))], 2⟩ => some (a0, m0_0, m0_1)
  | _ => none
def f30.o0 (y : f30.Ty0) : VS := ⟨[(0, .agg [.ints .u8 32 y.1])], [(0, ([.ints .u8 y.2.1 y.2.2], 0, .ro))], 2⟩
def f30.inR : VS → Option (f30.Ty0)
  | ⟨[(0, .agg [.ints .u8 32 y])], [(0, ([.ints .u8 z0_0 z0_1], 0, .ro))], 2⟩ => some (y, z0_0, z0_1)
  | _ => none
noncomputable def f30.E (K : Nat) : Entry := genE 2 f30.inA (f30.F K) (dv1 f30.o0)
theorem f30.ok (K : Nat) : EntryOK Try.prog 30 (f30.E K) := gen_ok mix tys_ok (sp := tabSp [(49, (f49.E K)), (57, (rowsE 1 .u8 (f57.E K))), (51, (f51.E K))]) (tab_ok ((tab_cons (f49.ok K) (tab_cons (rows_ok (f57.ok K)) (tab_cons (f51.ok K) tab_nil))))) Try.func30 (c := bodyOf Try.f30) (by kernel_rfl) (by kernel_rfl) (loops_none (lp := lpNone) (by kernel_rfl)) (av := f30.av) (bl := f30.bl) (inR := f30.inR) (out := f30.o0) (fuel := 400)
  (by intro s x h; unfold f30.inA at h; split at h <;> simp at h; subst h; rfl) (fun _ => Nat.le_of_ble_eq_true rfl)
  (by intro s y h; unfold f30.inR at h; split at h <;> simp at h <;> subst h <;> rfl) (fun _ _ _ => rfl) (fun _ => by kernel_rfl)
end Go.Proofs

namespace Go.Proofs
open Go.VM
end Go.Proofs

namespace Go.Proofs
open Go.VM
end Go.Proofs

namespace Go.Proofs
open Go.VM
def Sh.key (k : List Int) : List Int := padT (if 64 < k.length then Sh.sum k else k) 64
end Go.Proofs

namespace Go.Proofs
open Go.VM
end Go.Proofs

namespace Go.Proofs
open Go.VM
end Go.Proofs

namespace Go.Proofs
open Go.VM
theorem take_next {l : List Int} {i : Nat} (h : i < l.length) : l.take i ++ [l.getD i 0] = l.take (i + 1) := by
  rw [List.take_add_one, List.getElem?_eq_getElem h]; simp [List.getD_eq_getElem?_getD, h]
end Go.Proofs

namespace Go.Proofs
open Go.VM
def Rf.round (x : Int) (n : Nat) : Int := bits .or .u32 (shiftI .shr .u32 x (n : Int)) (shiftI .shl .u32 x ((32 - n : Nat) : Int))
def Rf.s0 (x : Int) : Int := bits .xor .u32 (bits .xor .u32 (Rf.round x 7) (Rf.round x 18)) (Int.fdiv x (2 ^ 3))
def Rf.s1 (x : Int) : Int := bits .xor .u32 (bits .xor .u32 (Rf.round x 17) (Rf.round x 19)) (Int.fdiv x (2 ^ 10))
def Rf.w (b : List Int) : Nat → Int
  | t => if t < 16 then IntKind.wrap .u32 ((tv (subI b (4 * t) 4) : Nat) : Int)
    else if h : 16 ≤ t then IntKind.wrap .u32 ((IntKind.wrap .u32 ((IntKind.wrap .u32 (Rf.w b (t - 16) + Rf.w b (t - 7))) + Rf.s0 (Rf.w b (t - 15)))) + Rf.s1 (Rf.w b (t - 2)))
    else 0
termination_by t => t
def Rf.step (b : List Int) (t : Nat) (l : List Int) : List Int :=
  let a := List.getD l 0 0
  let e := List.getD l 4 0
  let t1 := IntKind.wrap .u32 ((IntKind.wrap .u32 ((IntKind.wrap .u32 ((IntKind.wrap .u32 ((List.getD l 7 0) + (bits .xor .u32 (bits .xor .u32 (Rf.round e 6) (Rf.round e 11)) (Rf.round e 25)))) + (bits .xor .u32 (bits .and .u32 e (List.getD l 5 0)) (bits .and .u32 (bits .xor .u32 4294967295 e) (List.getD l 6 0))))) + (List.getD Sh.consts t 0))) + Rf.w b t)
  [IntKind.wrap .u32 (t1 + (IntKind.wrap .u32 ((bits .xor .u32 (bits .xor .u32 (Rf.round a 2) (Rf.round a 13)) (Rf.round a 22)) + (bits .or .u32 (bits .or .u32 (bits .and .u32 a (List.getD l 1 0)) (bits .and .u32 a (List.getD l 2 0))) (bits .and .u32 (List.getD l 1 0) (List.getD l 2 0)))))), a, List.getD l 1 0, List.getD l 2 0, IntKind.wrap .u32 (List.getD l 3 0 + t1), e, List.getD l 5 0, List.getD l 6 0]
def Rf.rounds (s b : List Int) : Nat → List Int
  | 0 => s
  | t + 1 => Rf.step b t (Rf.rounds s b t)
end Go.Proofs

namespace Go.Proofs
open Go.VM
end Go.Proofs

namespace Go.Proofs
open Go.VM
end Go.Proofs

namespace Go.Proofs
open Go.VM
end Go.Proofs

namespace Go.Proofs
open Go.VM
def Rf.tab (b : List Int) (i : Nat) : List Int := (List.range 64).map fun k => if k < i then Rf.w b k else 0
end Go.Proofs

namespace Go.Proofs
open Go.VM
end Go.Proofs

namespace Go.Proofs
open Go.VM
end Go.Proofs

namespace Go.Proofs
open Go.VM
end Go.Proofs

namespace Go.Proofs
open Go.VM
end Go.Proofs

namespace Go.Proofs
open Go.VM
end Go.Proofs

namespace Go.Proofs
open Go.VM
end Go.Proofs

namespace Go.Proofs
open Go.VM
theorem eqL_refl (n : Nat) (l : List Int) : eqL n l l = true := by simp [eqL]
end Go.Proofs

namespace Go.Proofs
open Go.VM
abbrev f78.Ty0 := Int × Nat × List Int
abbrev f78.Ty1 := Nat × Nat × List Int
def f78.T (_K : Nat) (a0 : Nat) (m0_0 : Nat) (m0_1 : List Int) : Option (f78.Ty0) :=
  some (((a0 : Nat) : Int), m0_0, m0_1)
def f78.F (K : Nat) (x : f78.Ty1) : Option (f78.Ty0) := f78.T K x.1 x.2.1 x.2.2
def f78.av (x : f78.Ty1) : List VV := [.vw true 0 0 x.1 1]
def f78.bl (x : f78.Ty1) : List (Nat × Blk) := [(0, ([.ints .u8 x.2.1 x.2.2], 0, .ro))]
def f78.inA : VS → Option (f78.Ty1)
  | ⟨[(0, .vw true 0 0 a0 1)], [(0, ([.ints .u8 m0_0 m0_1], 0, .ro))], 2⟩ => some (a0, m0_0, m0_1)
  | _ => none
def f78.o0 (y : f78.Ty0) : VS := ⟨[(0, .int .i64 y.1)], [(0, ([.ints .u8 y.2.1 y.2.2], 0, .ro))], 2⟩
def f78.inR : VS → Option (f78.Ty0)
  | ⟨[(0, .int .i64 y)], [(0, ([.ints .u8 z0_0 z0_1], 0, .ro))], 2⟩ => some (y, z0_0, z0_1)
  | _ => none
noncomputable def f78.E (K : Nat) : Entry := genE 2 f78.inA (f78.F K) (dv1 f78.o0)
theorem f78.ok (K : Nat) : EntryOK Try.prog 78 (f78.E K) := gen_ok mix tys_ok (tab_ok ( tab_nil)) Try.func78 (c := bodyOf Try.f78) (by kernel_rfl) (by kernel_rfl) (loops_none (lp := lpNone) (by kernel_rfl)) (av := f78.av) (bl := f78.bl) (inR := f78.inR) (out := f78.o0) (fuel := 400)
  (by intro s x h; unfold f78.inA at h; split at h <;> simp at h; subst h; rfl) (fun _ => Nat.le_of_ble_eq_true rfl)
  (by intro s y h; unfold f78.inR at h; split at h <;> simp at h <;> subst h <;> rfl) (fun _ _ _ => rfl) (fun _ => by kernel_rfl)
end Go.Proofs

namespace Go.Proofs
open Go.VM
abbrev f46.Ty0 := Nat × Int × Int × List Ent
abbrev f46.Ty1 := Int × List Ent
abbrev f46.Ty2 := Nat × List Ent
noncomputable def f46.c : Code := bodyOf Try.f46
def f46.s0t (K : Nat) (rec : f46.Ty0 → Option (f46.Ty1)) (t0 : Nat) (t3 : Int) (t4 : Int) (b0 : List Ent) : Option (f46.Ty1) :=
  bif (decide (t4 < ((t0 : Nat) : Int))) then
    bif (decide (t3 ≤ 1048576)) then
      bif decide (0 ≤ t4 ∧ t4 < ((t0 : Nat) : Int)) then
        let v5 := 0 + (Int.toNat t4)
        bif Nat.blt v5 (List.length b0) then
          let v6 := (entAt b0 v5).1
          bif ((Nat.ble (0 + v6) ((entAt b0 v5).1) && true) && true) then
            (f78.F K (v6, v6, (subI ((entAt b0 v5).2.2) 0 v6))).bind fun y9 =>
            rec (t0, (IntKind.wrap .i64 (t3 + y9.1)), (IntKind.wrap .i64 (t4 + 1)), b0)
          else
            none
        else
          none
      else
        none
    else
      some (t3, b0)
  else
    some (t3, b0)
def f46.s0 (K : Nat) (rec : f46.Ty0 → Option (f46.Ty1)) (x : f46.Ty0) : Option (f46.Ty1) := f46.s0t K rec x.1 x.2.1 x.2.2.1 x.2.2.2
noncomputable def f46.s0.b : Code := (findLoop 0 f46.c).getD .skip
def f46.s0.h : Hint := { lv := [0, 3, 4] }
def f46.s0.ho : Hint := { lv := [3] }
def f46.s0.shp (x : f46.Ty0) : VS := ⟨[(0, .vw true 0 0 x.1 1), (3, .int .i64 x.2.1), (4, .int .i64 x.2.2.1)], [(0, ([], 0, .rr false 2 x.2.2.2))], 3⟩
def f46.s0.inX : VS → Option (f46.Ty0)
  | ⟨[(0, .vw true 0 0 t0 1), (3, .int .i64 t3), (4, .int .i64 t4)], [(0, ([], 0, .rr false 2 b0))], 3⟩ => some (t0, t3, t4, b0)
  | _ => none
def f46.s0.o0 (y : f46.Ty1) : VS := ⟨[(3, .int .i64 y.1)], [(0, ([], 0, .rr false 2 y.2))], 3⟩
def f46.s0.des : ∀ α : Type, (f46.Ty1) → (Ex → VS → Option α) → Option α := (des1 (.exit 0) f46.s0.o0)
def f46.s0.out : f46.Ty1 → Ex × VS := (fun y => (.exit 0, f46.s0.o0 y))
theorem f46.s0.desOK : ∀ α y (k : Ex → VS → Option α), f46.s0.des α y k = k (f46.s0.out y).1 (f46.s0.out y).2 := (fun _ _ _ => rfl)
def f46.s0.inY : Ex → VS → Option (f46.Ty1)
  | .exit 0, ⟨[(3, .int .i64 t3)], [(0, ([], 0, .rr false 2 b0))], 3⟩ => some (t3, b0)
  | _, _ => none
def f46.lp (K : Nat) : Nat → Option (Hint × Summ) := tabLp [(0, f46.s0.h, summOf (iter (f46.s0 K) K) f46.s0.inX f46.s0.des)]
noncomputable def f46.tab (K : Nat) : List (Nat × Entry) := [(78, (viewE [(0, .u8)] (f78.E K)))]
theorem f46.tabOK (K : Nat) : SpecOK Try.prog (tabSp (f46.tab K)) := tab_ok ((tab_cons (view_ok (f78.ok K)) tab_nil))
theorem f46.s0.eq (K : Nat) (rec : f46.Ty0 → Option (f46.Ty1)) (x : f46.Ty0) : f46.s0 K rec x = roundL (getA tys) (tabSp (f46.tab K)) 25 3 (f46.lp K) 400 f46.s0.b f46.s0.h f46.s0.ho f46.s0.shp f46.s0.inX f46.s0.inY rec x := by kernel_rfl
theorem f46.s0.lok (K : Nat) : LoopsOK Try.prog 25 3 (f46.lp K) f46.s0.b := loops_ok (by
  have h : loopsIn (f46.lp K) f46.s0.b = [] := by kernel_rfl
  rw [h]; simp)
theorem f46.s0.ok (K : Nat) : SummOK Try.prog 25 3 (summOf (iter (f46.s0 K) K) f46.s0.inX f46.s0.des) f46.s0.b :=
  loop_ok mix tys_ok (f46.tabOK K) (h := f46.s0.h) (ho := f46.s0.ho) (shp := f46.s0.shp) (inX := f46.s0.inX) (des := f46.s0.des) (out := f46.s0.out) (inY := f46.s0.inY) (fuel := 400)
    (by intro st x h; unfold f46.s0.inX at h; split at h <;> simp at h; subst h; rfl)
    (by intro e st y h; unfold f46.s0.inY at h; split at h <;> simp at h <;> subst h <;> rfl)
    f46.s0.desOK (f46.s0.lok K) (f46.s0 K) (f46.s0.eq K) K
theorem f46.loops (K : Nat) : LoopsOK Try.prog 25 3 (f46.lp K) f46.c := loops_ok (by
  have h : loopsIn (f46.lp K) f46.c = [(0, f46.s0.b)] := by kernel_rfl
  rw [h]
  intro p hp
  simp only [List.mem_cons, List.not_mem_nil, or_false] at hp
  rcases hp with rfl
  · exact ⟨_, rfl, (f46.s0.ok K)⟩)
def f46.T (K : Nat) (a0 : Nat) (m0 : List Ent) : Option (f46.Ty1) :=
  (iter (f46.s0 K) K (a0, ((a0 : Nat) : Int), 0, m0)).bind fun y12 =>
  some (y12.1, y12.2)
def f46.F (K : Nat) (x : f46.Ty2) : Option (f46.Ty1) := f46.T K x.1 x.2
def f46.av (x : f46.Ty2) : List VV := [.vw true 0 0 x.1 1]
def f46.bl (x : f46.Ty2) : List (Nat × Blk) := [(0, ([], 0, .rr false 2 x.2))]
def f46.inA : VS → Option (f46.Ty2)
  | ⟨[(0, .vw true 0 0 a0 1)], [(0, ([], 0, .rr false 2 m0))], 3⟩ => some (a0, m0)
  | _ => none
def f46.o0 (y : f46.Ty1) : VS := ⟨[(0, .int .i64 y.1)], [(0, ([], 0, .rr false 2 y.2))], 3⟩
def f46.des : ∀ α : Type, (f46.Ty1) → (VS → Option α) → Option α := (dv1 f46.o0)
def f46.out : f46.Ty1 → VS := f46.o0
def f46.inR : VS → Option (f46.Ty1)
  | ⟨[(0, .int .i64 y)], [(0, ([], 0, .rr false 2 z0))], 3⟩ => some (y, z0)
  | _ => none
noncomputable def f46.E (K : Nat) : Entry := genE 3 f46.inA (f46.F K) f46.des
theorem f46.eq (K : Nat) (x : f46.Ty2) : f46.F K x = xrun (getA tys) (tabSp (f46.tab K)) Try.f46.ntmps 3 (f46.lp K) 400 f46.c ⟨initL 0 (f46.av x), f46.bl x, 3⟩ (contF (getA tys) 3 Try.f46.results.toList f46.inR) := by kernel_rfl
theorem f46.ok (K : Nat) : EntryOK Try.prog 46 (f46.E K) :=
  gen_ok mix tys_ok (f46.tabOK K) Try.func46 (by kernel_rfl : Try.f46.body = some f46.c) (by kernel_rfl) (f46.loops K) (av := f46.av) (bl := f46.bl) (out := f46.out) (fuel := 400)
    (by intro s x h; unfold f46.inA at h; split at h <;> simp at h; subst h; rfl) (fun _ => Nat.le_of_ble_eq_true rfl)
    (by intro s y h; unfold f46.inR at h; split at h <;> simp at h <;> subst h <;> rfl) (fun _ _ _ => rfl) (f46.eq K)
end Go.Proofs

namespace Go.Proofs
open Go.VM
end Go.Proofs

namespace Go.Proofs
open Go.VM
end Go.Proofs

namespace Go.Proofs
open Go.VM
end Go.Proofs

namespace Go.Proofs
open Go.VM
end Go.Proofs

namespace Go.Proofs
open Go.VM
def Rs.sh (e : Ent) : List Int := subI e.2.2 0 e.1
def Rs.ok (b : Nat) (ll : List Ent) : Prop := ∀ e ∈ ll, e.1 ≤ b ∧ octets (Rs.sh e)
def Rs.ents (ps : List (List Int)) : List Ent := ps.map fun l => (l.length, l.length, l)
def Rs.tot (ll : List Ent) : Nat := (ll.map (·.1)).sum
theorem Rs.sh_length (e : Ent) : (Rs.sh e).length = e.1 := subI_length _ _ _
theorem Rs.at_get {ll : List Ent} {i : Nat} (h : i < ll.length) : entAt ll i = ll[i] := by
  rw [entAt, List.getD_eq_getElem?_getD, List.getElem?_eq_getElem h]; rfl
theorem Rs.at_mem {ll : List Ent} {i : Nat} (h : i < ll.length) : entAt ll i ∈ ll := by
  rw [Rs.at_get h]; exact List.getElem_mem _
theorem Rs.take_next {ll : List Ent} {i : Nat} (h : i < ll.length) : ll.take (i + 1) = ll.take i ++ [entAt ll i] := by
  rw [List.take_add_one, List.getElem?_eq_getElem h, Rs.at_get h]; rfl
theorem Rs.tot_next {ll : List Ent} {i : Nat} (h : i < ll.length) : Rs.tot (ll.take (i + 1)) = Rs.tot (ll.take i) + (entAt ll i).1 := by
  rw [Rs.take_next h]; simp [Rs.tot]
theorem Rs.tot_mem {ll : List Ent} {e : Ent} (h : e ∈ ll) : e.1 ≤ Rs.tot ll := by
  induction ll with
  | nil => cases h
  | cons a l ih =>
    simp only [Rs.tot, List.map_cons, List.sum_cons] at ih ⊢
    rcases List.mem_cons.1 h with rfl | h
    · omega
    · have := ih h; omega
theorem Rs.ents_length (ps : List (List Int)) : (Rs.ents ps).length = ps.length := by simp [Rs.ents]
theorem Rs.ents_sh {ps : List (List Int)} {e : Ent} (h : e ∈ Rs.ents ps) : Rs.sh e ∈ ps ∧ e.2.2 = Rs.sh e := by
  obtain ⟨l, hl, rfl⟩ := List.mem_map.1 h
  have : Rs.sh (l.length, l.length, l) = l := subI_self l rfl
  rw [this]
  exact ⟨hl, rfl⟩
theorem Rs.ents_ok {ps : List (List Int)} {b : Nat} (h : ∀ p ∈ ps, octets p) (hb : ∀ e ∈ Rs.ents ps, e.1 ≤ b) : Rs.ok b (Rs.ents ps) := fun e he => ⟨hb e he, h _ (Rs.ents_sh he).1⟩
theorem Rs.blt {a b : Nat} (h : a < b) : Nat.blt a b = true := by simpa [Nat.blt_eq] using h
theorem f46.spec (K N : Nat) (ll : List Ent) (hN : ll.length = N) (hb : ∀ e ∈ ll, e.1 ≤ 140737488355328) (h60 : N ≤ 1000) (hK : N < K) : ∃ z, f46.F K (N, ll) = some (z, ll) ∧ (z ≤ 20000 → z = ((N + Rs.tot ll : Nat) : Int)) := by
  obtain ⟨y, hy, hI⟩ := iter_inv (stp := f46.s0 K) (fun m x => ∃ i, i ≤ N ∧ m = N - i ∧ N + Rs.tot (ll.take i) ≤ 1048576 + 140737488355328 ∧ x = (N, ((N + Rs.tot (ll.take i) : Nat) : Int), (i : Int), ll)) (fun y => y.2 = ll ∧ (y.1 ≤ 20000 → y.1 = ((N + Rs.tot ll : Nat) : Int))) (by
    rintro m x ⟨i, hi, rfl, hs, rfl⟩
    by_cases h : i < N
    · by_cases h2 : ((N + Rs.tot (ll.take i) : Nat) : Int) ≤ 1048576
      · right
        have hm := Rs.at_mem (ll := ll) (i := i) (by omega)
        have hb' := hb _ hm
        have ht := Rs.tot_next (ll := ll) (i := i) (by omega)
        refine ⟨_, N - (i + 1), by omega, ⟨i + 1, by omega, rfl, by omega, rfl⟩, fun rec => ?_⟩
        simp only [f46.s0, f46.s0t]
        rw [decide_eq_true (show (i : Int) < ((N : Nat) : Int) by omega), cond_t, decide_eq_true h2, cond_t, decide_eq_true (show (0 : Int) ≤ (i : Int) ∧ (i : Int) < ((N : Nat) : Int) by omega), cond_t, Int.toNat_natCast, Nat.zero_add, Rs.blt (show i < ll.length by omega), cond_t, Nat.zero_add, ble_true (Nat.le_refl _), Bool.and_self, Bool.and_self, cond_t]
        rw [show f78.F K ((entAt ll i).1, (entAt ll i).1, subI (entAt ll i).2.2 0 (entAt ll i).1) = some ((((entAt ll i).1 : Nat) : Int), (entAt ll i).1, subI (entAt ll i).2.2 0 (entAt ll i).1) from rfl, bind_s]
        simp only []
        rw [wrap_i _ (by omega) (by omega), wrap_i _ (by omega) (by omega), ht]
        congr 3
        omega
      · left
        refine ⟨(((N + Rs.tot (ll.take i) : Nat) : Int), ll), ⟨rfl, fun h3 => by simp only at h3; omega⟩, fun rec => ?_⟩
        simp only [f46.s0, f46.s0t]
        rw [decide_eq_true (show (i : Int) < ((N : Nat) : Int) by omega), cond_t, decide_eq_false h2, cond_f]
    · have hiN : i = N := by omega
      subst hiN
      left
      refine ⟨(((i + Rs.tot (ll.take i) : Nat) : Int), ll), ⟨rfl, fun _ => ?_⟩, fun rec => ?_⟩
      · simp only []
        rw [List.take_of_length_le (by omega)]
      · simp only [f46.s0, f46.s0t]
        rw [decide_eq_false (show ¬ (i : Int) < ((i : Nat) : Int) by omega), cond_f]) N _ ⟨0, Nat.zero_le _, rfl, by simp [Rs.tot]; omega, rfl⟩ K hK
  refine ⟨y.1, ?_, hy.2⟩
  simp only [f46.F, f46.T]
  rw [show ((N : Nat) : Int) = ((N + Rs.tot (ll.take 0) : Nat) : Int) by simp [Rs.tot]]
  rw [show iter (f46.s0 K) K (N, ((N + Rs.tot (ll.take 0) : Nat) : Int), 0, ll) = _ from hI, bind_s, ← hy.1]
end Go.Proofs

namespace Go.Proofs
open Go.VM
end Go.Proofs

namespace Go.Proofs
open Go.VM
end Go.Proofs

namespace Go.Proofs
open Go.VM
end Go.Proofs

namespace Go.Proofs
open Go.VM
end Go.Proofs

namespace Go.Proofs
open Go.VM
end Go.Proofs

namespace Go.Proofs
open Go.VM
end Go.Proofs

namespace Go.Proofs
open Go.VM
end Go.Proofs

namespace Go.Proofs
open Go.VM
end Go.Proofs

namespace Go.Proofs
open Go.VM
end Go.Proofs

namespace Go.Proofs
open Go.VM
end Go.Proofs

namespace Go.Proofs
open Go.VM
end Go.Proofs

namespace Go.Proofs
open Go.VM
end Go.Proofs

namespace Go.Proofs
open Go.VM
end Go.Proofs

namespace Go.Proofs
open Go.VM
end Go.Proofs

namespace Go.Proofs
open Go.VM
end Go.Proofs

namespace Go.Proofs
open Go.VM
end Go.Proofs

namespace Go.Proofs
open Go.VM
abbrev f24v1.Ty0 := Nat × Int × Int × List Ent × List Int × List Int × Int × Int × List Int
abbrev f24v1.Ty1 := List Ent × List Int × List Int × Int × Int × List Int
abbrev f24v1.Ty2 := ByteArray × Nat × List Ent
abbrev f24v1.Ty3 := List Int × List Ent
noncomputable def f24v1.c : Code := bodyOf Try.f24
def f24v1.s0t (K : Nat) (rec : f24v1.Ty0 → Option (f24v1.Ty1)) (t19 : Nat) (t20 : Int) (t21 : Int) (b0 : List Ent) (b3 : List Int) (b4_0 : List Int) (b4_1 : Int) (b4_2 : Int) (b5 : List Int) : Option (f24v1.Ty1) :=
  bif (decide (t21 < t20)) then
    bif decide (0 ≤ t21 ∧ t21 < ((t19 : Nat) : Int)) then
      let v11 := 0 + (Int.toNat t21)
      bif Nat.blt v11 (List.length b0) then
        let v12 := (entAt b0 v11).1
        bif ((Nat.ble (0 + v12) ((entAt b0 v11).1) && true) && true) then
          (f58.F K (0, v12, 0, [], v12, (subI ((entAt b0 v11).2.2) 0 v12))).bind fun y15 =>
          bif ((Nat.ble (0 + y15.1) y15.2.2.2.2.2.1 && true) && true) then
            (f57.F K (b4_0, b4_1, b4_2, y15.1, b5, y15.1, (subI y15.2.2.2.2.2.2 0 y15.1))).bind fun y16 =>
            rec (t19, t20, (IntKind.wrap .i64 (t21 + 1)), b0, b3, y16.1, y16.2.1, y16.2.2.1, y16.2.2.2.2.2.2)
          else
            none
        else
          none
      else
        none
    else
      none
  else
    some (b0, b3, b4_0, b4_1, b4_2, b5)
def f24v1.s0 (K : Nat) (rec : f24v1.Ty0 → Option (f24v1.Ty1)) (x : f24v1.Ty0) : Option (f24v1.Ty1) := f24v1.s0t K rec x.1 x.2.1 x.2.2.1 x.2.2.2.1 x.2.2.2.2.1 x.2.2.2.2.2.1 x.2.2.2.2.2.2.1 x.2.2.2.2.2.2.2.1 x.2.2.2.2.2.2.2.2
noncomputable def f24v1.s0.b : Code := (findLoop 0 f24v1.c).getD .skip
def f24v1.s0.h : Hint := { lv := [4, 5, 19, 20, 21] }
def f24v1.s0.ho : Hint := { lv := [4, 5] }
def f24v1.s0.shp (x : f24v1.Ty0) : VS := ⟨[(4, .ptr 3 0), (5, .ptr 4 0), (19, .vw true 0 0 x.1 1), (20, .int .i64 x.2.1), (21, .int .i64 x.2.2.1)], [(0, ([], 0, .rr false 2 x.2.2.2.1)), (3, ([.ints .u8 32 x.2.2.2.2.1], 29, .norm)), (4, ([.ptr 5 0, .ints .u8 64 x.2.2.2.2.2.1, .int .i64 x.2.2.2.2.2.2.1, .int .u64 x.2.2.2.2.2.2.2.1], 117, .norm)), (5, ([.ints .u32 8 x.2.2.2.2.2.2.2.2], 113, .norm))], 6⟩
def f24v1.s0.inX : VS → Option (f24v1.Ty0)
  | ⟨[(4, .ptr 3 0), (5, .ptr 4 0), (19, .vw true 0 0 t19 1), (20, .int .i64 t20), (21, .int .i64 t21)], [(0, ([], 0, .rr false 2 b0)), (3, ([.ints .u8 32 b3], 29, .norm)), (4, ([.ptr 5 0, .ints .u8 64 b4_0, .int .i64 b4_1, .int .u64 b4_2], 117, .norm)), (5, ([.ints .u32 8 b5], 113, .norm))], 6⟩ => some (t19, t20, t21, b0, b3, b4_0, b4_1, b4_2, b5)
  | _ => none
def f24v1.s0.o0 (y : f24v1.Ty1) : VS := ⟨[(4, .ptr 3 0), (5, .ptr 4 0)], [(0, ([], 0, .rr false 2 y.1)), (3, ([.ints .u8 32 y.2.1], 29, .norm)), (4, ([.ptr 5 0, .ints .u8 64 y.2.2.1, .int .i64 y.2.2.2.1, .int .u64 y.2.2.2.2.1], 117, .norm)), (5, ([.ints .u32 8 y.2.2.2.2.2], 113, .norm))], 6⟩
def f24v1.s0.des : ∀ α : Type, (f24v1.Ty1) → (Ex → VS → Option α) → Option α := (des1 (.exit 0) f24v1.s0.o0)
def f24v1.s0.out : f24v1.Ty1 → Ex × VS := (fun y => (.exit 0, f24v1.s0.o0 y))
theorem f24v1.s0.desOK : ∀ α y (k : Ex → VS → Option α), f24v1.s0.des α y k = k (f24v1.s0.out y).1 (f24v1.s0.out y).2 := (fun _ _ _ => rfl)
def f24v1.s0.inY : Ex → VS → Option (f24v1.Ty1)
  | .exit 0, ⟨[(4, .ptr 3 0), (5, .ptr 4 0)], [(0, ([], 0, .rr false 2 b0)), (3, ([.ints .u8 32 b3], 29, .norm)), (4, ([.ptr 5 0, .ints .u8 64 b4_0, .int .i64 b4_1, .int .u64 b4_2], 117, .norm)), (5, ([.ints .u32 8 b5], 113, .norm))], 6⟩ => some (b0, b3, b4_0, b4_1, b4_2, b5)
  | _, _ => none
def f24v1.lp (K : Nat) : Nat → Option (Hint × Summ) := tabLp [(0, f24v1.s0.h, summOf (iter (f24v1.s0 K) K) f24v1.s0.inX f24v1.s0.des)]
noncomputable def f24v1.tab (K : Nat) : List (Nat × Entry) := [(49, (f49.E K)), (58, (viewE [(0, .u8), (1, .u8)] (f58.E K))), (59, (viewE [(0, .u8)] (f59.E K))), (57, (orF (fitR 1 .u8 (fitE 8 f57v2.inA)) (rowsE 1 .u8 (f57v2.E K)) (rowsE 1 .u8 (f57.E K)))), (51, (f51.E K))]
theorem f24v1.tabOK (K : Nat) : SpecOK Try.prog (tabSp (f24v1.tab K)) := tab_ok ((tab_cons (f49.ok K) (tab_cons (view_ok (f58.ok K)) (tab_cons (view_ok (f59.ok K)) (tab_cons (orF_ok (rows_ok (f57v2.ok K)) (rows_ok (f57.ok K))) (tab_cons (f51.ok K) tab_nil))))))
theorem f24v1.s0.eq (K : Nat) (rec : f24v1.Ty0 → Option (f24v1.Ty1)) (x : f24v1.Ty0) : f24v1.s0 K rec x = roundL (getA tys) (tabSp (f24v1.tab K)) 33 3 (f24v1.lp K) 400 f24v1.s0.b f24v1.s0.h f24v1.s0.ho f24v1.s0.shp f24v1.s0.inX f24v1.s0.inY rec x := by kernel_rfl
theorem f24v1.s0.lok (K : Nat) : LoopsOK Try.prog 33 3 (f24v1.lp K) f24v1.s0.b := loops_ok (by
  have h : loopsIn (f24v1.lp K) f24v1.s0.b = [] := by kernel_rfl
  rw [h]; simp)
theorem f24v1.s0.ok (K : Nat) : SummOK Try.prog 33 3 (summOf (iter (f24v1.s0 K) K) f24v1.s0.inX f24v1.s0.des) f24v1.s0.b :=
  loop_ok mix tys_ok (f24v1.tabOK K) (h := f24v1.s0.h) (ho := f24v1.s0.ho) (shp := f24v1.s0.shp) (inX := f24v1.s0.inX) (des := f24v1.s0.des) (out := f24v1.s0.out) (inY := f24v1.s0.inY) (fuel := 400)
    (by intro st x h; unfold f24v1.s0.inX at h; split at h <;> simp at h; subst h; rfl)
    (by intro e st y h; unfold f24v1.s0.inY at h; split at h <;> simp at h <;> subst h <;> rfl)
    f24v1.s0.desOK (f24v1.s0.lok K) (f24v1.s0 K) (f24v1.s0.eq K) K
theorem f24v1.loops (K : Nat) : LoopsOK Try.prog 33 3 (f24v1.lp K) f24v1.c := loops_ok (by
  have h : loopsIn (f24v1.lp K) f24v1.c = [(0, f24v1.s0.b)] := by kernel_rfl
  rw [h]
  intro p hp
  simp only [List.mem_cons, List.not_mem_nil, or_false] at hp
  rcases hp with rfl
  · exact ⟨_, rfl, (f24v1.s0.ok K)⟩)
def f24v1.T (K : Nat) (a0 : ByteArray) (a1 : Nat) (m0 : List Ent) : Option (f24v1.Ty3) :=
  (f49.F K ()).bind fun y1 =>
  let v2 := ByteArray.size a0
  bif ((Nat.ble (0 + v2) (ByteArray.size a0) && true) && true) then
    (f58.F K (0, v2, 0, [], v2, (subI (strL a0) 0 v2))).bind fun y4 =>
    (f59.F K (0, (IntKind.wrap .u64 ((a1 : Nat) : Int)), 4, 0, [])).bind fun y7 =>
    bif ((Nat.ble (0 + y4.1) y4.2.2.2.2.2.1 && true) && ((Nat.ble (0 + y7.1) y7.2.2.2.2.1 && (Nat.ble y7.1 y7.2.1)) && true)) then
      (f57v2.F K (y1.1, y1.2.1, y1.2.2.1, y4.1, y7.1, y1.2.2.2, y4.1, (subI y4.2.2.2.2.2.2 0 y4.1), y7.1, (subI y7.2.2.2.2.2 0 y7.1))).bind fun y8 =>
      (iter (f24v1.s0 K) K (a1, ((a1 : Nat) : Int), 0, m0, [0, 0, 0, 0, 0, 0, 0, 0, 0, 0, 0, 0, 0, 0, 0, 0, 0, 0, 0, 0, 0, 0, 0, 0, 0, 0, 0, 0, 0, 0, 0, 0], y8.1, y8.2.1, y8.2.2.1, y8.2.2.2.2.2.2.2.2.2)).bind fun y18 =>
      (f51.F K (y18.2.2.1, y18.2.2.2.1, y18.2.2.2.2.1, y18.2.2.2.2.2)).bind fun y19 =>
      some (y19.1, y18.1)
    else
      none
  else
    none
def f24v1.F (K : Nat) (x : f24v1.Ty2) : Option (f24v1.Ty3) := f24v1.T K x.1 x.2.1 x.2.2
def f24v1.av (x : f24v1.Ty2) : List VV := [.str x.1, .vw true 0 0 x.2.1 1]
def f24v1.bl (x : f24v1.Ty2) : List (Nat × Blk) := [(0, ([], 0, .rr false 2 x.2.2))]
def f24v1.inA : VS → Option (f24v1.Ty2)
  | ⟨[(0, .str a0), (1, .vw true 0 0 a1 1)], [(0, ([], 0, .rr false 2 m0))], 3⟩ => some (a0, a1, m0)
  | _ => none
def f24v1.o0 (y : f24v1.Ty3) : VS := ⟨[(0, .agg [.ints .u8 32 y.1])], [(0, ([], 0, .rr false 2 y.2))], 3⟩
def f24v1.des : ∀ α : Type, (f24v1.Ty3) → (VS → Option α) → Option α := (dv1 f24v1.o0)
def f24v1.out : f24v1.Ty3 → VS := f24v1.o0
def f24v1.inR : VS → Option (f24v1.Ty3)
  | ⟨[(0, .agg [.ints .u8 32 y])], [(0, ([], 0, .rr false 2 z0))], 3⟩ => some (y, z0)
  | _ => none
noncomputable def f24v1.E (K : Nat) : Entry := genE 3 f24v1.inA (f24v1.F K) f24v1.des
theorem f24v1.eq (K : Nat) (x : f24v1.Ty2) : f24v1.F K x = xrun (getA tys) (tabSp (f24v1.tab K)) Try.f24.ntmps 3 (f24v1.lp K) 400 f24v1.c ⟨initL 0 (f24v1.av x), f24v1.bl x, 3⟩ (contF (getA tys) 3 Try.f24.results.toList f24v1.inR) := by kernel_rfl
theorem f24v1.ok (K : Nat) : EntryOK Try.prog 24 (f24v1.E K) :=
  gen_ok mix tys_ok (f24v1.tabOK K) Try.func24 (by kernel_rfl : Try.f24.body = some f24v1.c) (by kernel_rfl) (f24v1.loops K) (av := f24v1.av) (bl := f24v1.bl) (out := f24v1.out) (fuel := 400)
    (by intro s x h; unfold f24v1.inA at h; split at h <;> simp at h; subst h; rfl) (fun _ => Nat.le_of_ble_eq_true rfl)
    (by intro s y h; unfold f24v1.inR at h; split at h <;> simp at h <;> subst h <;> rfl) (fun _ _ _ => rfl) (f24v1.eq K)
end Go.Proofs

namespace Go.Proofs
open Go.VM
abbrev f53v2.Ty0 := List Int × ByteArray × Nat × Nat × Nat × List Ent
abbrev f53v2.Ty1 := Int × ByteArray × Nat × Nat × Nat × List Ent
def f53v2.T (K : Nat) (a0 : Int) (m0 : ByteArray) (m1_0 : Nat) (m1_1 : Nat) (m2_0 : Nat) (m2_1 : List Ent) : Option (f53v2.Ty0) :=
  bif ((Nat.ble m1_0 (List.length m2_1) && (Nat.ble (m1_0 + 1) m1_1)) && (Nat.ble m1_1 m2_0)) then
    let v1 := ((List.take m1_0 m2_1) ++ ([(1, 1, [a0])] : List Ent) : List Ent)
    bif (Nat.ble (m1_0 + 1) (List.length v1) && (Nat.ble (m1_0 + 1) m1_1)) then
      (f24v1.F K (m0, (m1_0 + 1), (List.take (m1_0 + 1) v1))).bind fun y2 =>
      (f31.F K (32, 32, (subI y2.1 0 32))).bind fun y3 =>
      some (y3.1, m0, m1_0, m1_1, m2_0, v1)
    else
      none
  else
    none
def f53v2.F (K : Nat) (x : f53v2.Ty1) : Option (f53v2.Ty0) := f53v2.T K x.1 x.2.1 x.2.2.1 x.2.2.2.1 x.2.2.2.2.1 x.2.2.2.2.2
def f53v2.av (x : f53v2.Ty1) : List VV := [.int .u8 x.1, .ptr 0 0, .ptr 1 0]
def f53v2.bl (x : f53v2.Ty1) : List (Nat × Blk) := [(0, ([.str x.2.1], 9, .norm)), (1, ([.sl 2 0 x.2.2.1 x.2.2.2.1], 23, .norm)), (2, ([], 22, .rm x.2.2.2.2.1 false 3 x.2.2.2.2.2))]
def f53v2.inA : VS → Option (f53v2.Ty1)
  | ⟨[(0, .int .u8 a0), (1, .ptr 0 0), (2, .ptr 1 0)], [(0, ([.str m0], 9, .norm)), (1, ([.sl 2 0 m1_0 m1_1], 23, .norm)), (2, ([], 22, .rm m2_0 false 3 m2_1))], 4⟩ => some (a0, m0, m1_0, m1_1, m2_0, m2_1)
  | _ => none
def f53v2.o0 (y : f53v2.Ty0) : VS := ⟨[(0, .agg [.ints .u64 4 y.1])], [(0, ([.str y.2.1], 9, .norm)), (1, ([.sl 2 0 y.2.2.1 y.2.2.2.1], 23, .norm)), (2, ([], 22, .rm y.2.2.2.2.1 false 4 y.2.2.2.2.2))], 5⟩
def f53v2.inR : VS → Option (f53v2.Ty0)
  | ⟨[(0, .agg [.ints .u64 4 y])], [(0, ([.str z0], 9, .norm)), (1, ([.sl 2 0 z1_0 z1_1], 23, .norm)), (2, ([], 22, .rm z2_0 false 4 z2_1))], 5⟩ => some (y, z0, z1_0, z1_1, z2_0, z2_1)
  | _ => none
noncomputable def f53v2.E (K : Nat) : Entry := genE 4 f53v2.inA (f53v2.F K) (dv1 f53v2.o0)
theorem f53v2.ok (K : Nat) : EntryOK Try.prog 53 (f53v2.E K) := gen_ok mix tys_ok (sp := tabSp [(24, (rwE 1 (f24v1.E K))), (31, (viewE [(0, .u8)] (f31.E K)))]) (tab_ok ((tab_cons (rw_ok (f24v1.ok K)) (tab_cons (view_ok (f31.ok K)) tab_nil)))) Try.func53 (c := bodyOf Try.f53) (by kernel_rfl) (by kernel_rfl) (loops_none (lp := lpNone) (by kernel_rfl)) (av := f53v2.av) (bl := f53v2.bl) (inR := f53v2.inR) (out := f53v2.o0) (fuel := 400)
  (by intro s x h; unfold f53v2.inA at h; split at h <;> simp at h; subst h; rfl) (fun _ => Nat.le_of_ble_eq_true rfl)
  (by intro s y h; unfold f53v2.inR at h; split at h <;> simp at h <;> subst h <;> rfl) (fun _ _ _ => rfl) (fun _ => by kernel_rfl)
end Go.Proofs

namespace Go.Proofs
open Go.VM
abbrev f22v1.Ty0 := List Int × ByteArray × Nat × List Ent
abbrev f22v1.Ty1 := List Int × Int × List Ent
def f22v1.T (K : Nat) (a0 : List Int) (a1 : ByteArray) (a2 : Nat) (m0 : List Ent) : Option (f22v1.Ty1) :=
  let v1 := ((a2 : Nat) : Int)
  let v3 := IntKind.wrap .i64 (((a2 : Nat) : Int) + 1)
  bif lenOK v1 v3 24 then
    let v4 := Int.toNat v1
    let v7 := (List.replicate (Int.toNat v1) (0, 0, []) : List Ent)
    bif (Nat.beq a2 (List.length m0) && (Nat.ble v4 (List.length v7))) then
      (f53v2.F K (1, a1, v4, (Int.toNat v3), (Int.toNat v3), ((List.take (Nat.min a2 v4) m0) ++ (List.drop (Nat.min a2 v4) v7) : List Ent))).bind fun y10 =>
      (f53v2.F K (0, y10.2.1, y10.2.2.1, y10.2.2.2.1, y10.2.2.2.2.1, y10.2.2.2.2.2)).bind fun y11 =>
      (f54.F K (y10.1, y11.1, a0)).bind fun y12 =>
      some (y12.1, y12.2, m0)
    else
      none
  else
    none
def f22v1.F (K : Nat) (x : f22v1.Ty0) : Option (f22v1.Ty1) := f22v1.T K x.1 x.2.1 x.2.2.1 x.2.2.2
def f22v1.av (x : f22v1.Ty0) : List VV := [.agg [.ints .u64 4 x.1], .str x.2.1, .vw true 0 0 x.2.2.1 1]
def f22v1.bl (x : f22v1.Ty0) : List (Nat × Blk) := [(0, ([], 0, .rr false 2 x.2.2.2))]
def f22v1.inA : VS → Option (f22v1.Ty0)
  | ⟨[(0, .agg [.ints .u64 4 a0]), (1, .str a1), (2, .vw true 0 0 a2 1)], [(0, ([], 0, .rr false 2 m0))], 3⟩ => some (a0, a1, a2, m0)
  | _ => none
def f22v1.o0 (y : f22v1.Ty1) : VS := ⟨[(0, .tup [.agg [.ints .u64 4 y.1], .int .i64 y.2.1])], [(0, ([], 0, .rr false 2 y.2.2))], 3⟩
def f22v1.inR : VS → Option (f22v1.Ty1)
  | ⟨[(0, .tup [.agg [.ints .u64 4 y_0], .int .i64 y_1])], [(0, ([], 0, .rr false 2 z0))], 3⟩ => some (y_0, y_1, z0)
  | _ => none
noncomputable def f22v1.E (K : Nat) : Entry := genE 3 f22v1.inA (f22v1.F K) (dv1 f22v1.o0)
theorem f22v1.ok (K : Nat) : EntryOK Try.prog 22 (f22v1.E K) := gen_ok mix tys_ok (tab_ok ((tab_cons (f53v2.ok K) (tab_cons (f54.ok K) tab_nil)))) Try.func22 (c := bodyOf Try.f22) (by kernel_rfl) (by kernel_rfl) (loops_none (lp := lpNone) (by kernel_rfl)) (av := f22v1.av) (bl := f22v1.bl) (inR := f22v1.inR) (out := f22v1.o0) (fuel := 400)
  (by intro s x h; unfold f22v1.inA at h; split at h <;> simp at h; subst h; rfl) (fun _ => Nat.le_of_ble_eq_true rfl)
  (by intro s y h; unfold f22v1.inR at h; split at h <;> simp at h <;> subst h <;> rfl) (fun _ _ _ => rfl) (fun _ => by kernel_rfl)
end Go.Proofs

namespace Go.Proofs
open Go.VM
end Go.Proofs

namespace Go.Proofs
open Go.VM
end Go.Proofs

namespace Go.Proofs
open Go.VM
end Go.Proofs

namespace Go.Proofs
open Go.VM
abbrev f21.Ty0 := ByteArray × Nat × List Ent
def f21.T (K : Nat) (a0 : ByteArray) (a1 : Nat) (m0 : List Ent) : Option (Bool × List Ent) :=
  bif (decide (((ByteArray.size a0 : Nat) : Int) > 5000)) then
    some (true, m0)
  else
    bif (decide (((a1 : Nat) : Int) > 200)) then
      some (true, m0)
    else
      bif Nat.beq a1 (List.length m0) then
        (f46.F K (a1, m0)).bind fun y5 =>
        some ((decide (y5.1 > 20000)), m0)
      else
        none
def f21.F (K : Nat) (x : f21.Ty0) : Option (Bool × List Ent) := f21.T K x.1 x.2.1 x.2.2
def f21.av (x : f21.Ty0) : List VV := [.str x.1, .vw true 0 0 x.2.1 1]
def f21.bl (x : f21.Ty0) : List (Nat × Blk) := [(0, ([], 0, .rr false 2 x.2.2))]
def f21.inA : VS → Option (f21.Ty0)
  | ⟨[(0, .str a0), (1, .vw true 0 0 a1 1)], [(0, ([], 0, .rr false 2 m0))], 3⟩ => some (a0, a1, m0)
  | _ => none
def f21.o0 (y : Bool × List Ent) : VS := ⟨[(0, .bool y.1)], [(0, ([], 0, .rr false 2 y.2))], 3⟩
def f21.inR : VS → Option (Bool × List Ent)
  | ⟨[(0, .bool y)], [(0, ([], 0, .rr false 2 z0))], 3⟩ => some (y, z0)
  | _ => none
noncomputable def f21.E (K : Nat) : Entry := genE 3 f21.inA (f21.F K) (dv1 f21.o0)
theorem f21.ok (K : Nat) : EntryOK Try.prog 21 (f21.E K) := gen_ok mix tys_ok (sp := tabSp [(46, (rwE 0 (f46.E K)))]) (tab_ok ((tab_cons (rw_ok (f46.ok K)) tab_nil))) Try.func21 (c := bodyOf Try.f21) (by kernel_rfl) (by kernel_rfl) (loops_none (lp := lpNone) (by kernel_rfl)) (av := f21.av) (bl := f21.bl) (inR := f21.inR) (out := f21.o0) (fuel := 400)
  (by intro s x h; unfold f21.inA at h; split at h <;> simp at h; subst h; rfl) (fun _ => Nat.le_of_ble_eq_true rfl)
  (by intro s y h; unfold f21.inR at h; split at h <;> simp at h <;> subst h <;> rfl) (fun _ _ _ => rfl) (fun _ => by kernel_rfl)
end Go.Proofs

namespace Go.Proofs
open Go.VM
def Rs.fcat (ll : List Ent) : List Int := ll.flatMap fun e => Sh.frame (Rs.sh e)
def Rs.shs (ll : List Ent) : List (List Int) := ll.map Rs.sh
theorem Rs.fcat_next {ll : List Ent} {i : Nat} (h : i < ll.length) : Rs.fcat (ll.take (i + 1)) = Rs.fcat (ll.take i) ++ Sh.frame (Rs.sh (entAt ll i)) := by
  rw [Rs.take_next h]; simp [Rs.fcat]
theorem Rs.fcat_cut (name : List Int) (ll : List Ent) : Sh.cut name (Rs.shs ll) = Sh.frame name ++ be 4 ll.length ++ Rs.fcat ll := by
  simp [Sh.cut, Rs.shs, Rs.fcat, List.flatMap_map]
theorem Rs.shs_snoc (ll : List Ent) (x : Int) : Rs.shs (ll ++ [(1, 1, [x])]) = Rs.shs ll ++ [[x]] := by
  simp [Rs.shs, Rs.sh, subI, List.range, List.range.loop]
theorem Rs.ok_snoc {b : Nat} {ll : List Ent} (h : Rs.ok b ll) (hb : 1 ≤ b) {x : Int} (hx : 0 ≤ x ∧ x < 256) : Rs.ok b (ll ++ [(1, 1, [x])]) := by
  intro e he
  rcases List.mem_append.1 he with he | he
  · exact h e he
  · simp only [List.mem_singleton] at he
    subst he
    refine ⟨hb, fun y hy => ?_⟩
    simp [Rs.sh, subI, List.range, List.range.loop] at hy
    omega
theorem f58.none (K n : Nat) (l : List Int) (hl : l.length = n) (hn : n ≤ 1000000000) : f58.F K (0, n, 0, [], n, l) = some (4 + n, 0, [], n, l, 4 + n, Sh.frame l) := by
  have := f58.spec K 0 n [] l rfl hl (by omega) (by omega)
  rw [Nat.zero_add, List.nil_append] at this
  exact this
theorem f24v1.parts (K N : Nat) (ll : List Ent) (hN : ll.length = N) {b : Nat} (ho : Rs.ok b ll) (hb : b ≤ 1000000000) (hNb : N ≤ 1000000) (hK : N < K) (hK2 : 68 + b < K) (z32 m b0 s0 : List Int) (h0 : Int) (R : Sh.Rep m b0 h0 s0) :
    ∃ b' h' s', iter (f24v1.s0 K) K (N, ((N : Nat) : Int), 0, ll, z32, b0, h0, ((m.length % 18446744073709551616 : Nat) : Int), s0) = some (ll, z32, b', h', (((m ++ Rs.fcat ll).length % 18446744073709551616 : Nat) : Int), s') ∧ Sh.Rep (m ++ Rs.fcat ll) b' h' s' := by
  obtain ⟨y, ⟨b', h', s', hy, R'⟩, hI⟩ := iter_inv (stp := f24v1.s0 K) (fun j x => ∃ i b' h' s', i ≤ N ∧ j = N - i ∧ Sh.Rep (m ++ Rs.fcat (ll.take i)) b' h' s' ∧ x = (N, ((N : Nat) : Int), (i : Int), ll, z32, b', h', (((m ++ Rs.fcat (ll.take i)).length % 18446744073709551616 : Nat) : Int), s'))
    (fun y => ∃ b' h' s', y = (ll, z32, b', h', (((m ++ Rs.fcat ll).length % 18446744073709551616 : Nat) : Int), s') ∧ Sh.Rep (m ++ Rs.fcat ll) b' h' s') (by
    rintro j x ⟨i, b1, h1, s1, hi, rfl, R1, rfl⟩
    by_cases h : i < N
    · right
      have hi' : i < ll.length := by omega
      obtain ⟨hb1, ho1⟩ := ho _ (Rs.at_mem hi')
      have hfl : (Sh.frame (Rs.sh (entAt ll i))).length = 4 + (entAt ll i).1 := by rw [frame_length, Rs.sh_length]
      obtain ⟨b2, h2, s2, e2, R2⟩ := f57.spec K _ (4 + (entAt ll i).1) (Sh.frame (Rs.sh (entAt ll i))) hfl (frame_octets ho1) (by omega) _ _ _ R1 (by omega)
      rw [List.append_assoc, ← Rs.fcat_next hi'] at e2 R2
      refine ⟨_, N - (i + 1), by omega, ⟨i + 1, b2, h2, s2, by omega, rfl, R2, rfl⟩, fun rec => ?_⟩
      simp only [f24v1.s0, f24v1.s0t]
      rw [decide_eq_true (show (i : Int) < ((N : Nat) : Int) by omega), cond_t, decide_eq_true (show (0 : Int) ≤ (i : Int) ∧ (i : Int) < ((N : Nat) : Int) by omega), cond_t, Int.toNat_natCast, Nat.zero_add, Rs.blt hi', cond_t, Nat.zero_add, ble_true (Nat.le_refl _), Bool.and_self, Bool.and_self, cond_t]
      rw [show f58.F K (0, (entAt ll i).1, 0, [], (entAt ll i).1, subI (entAt ll i).2.2 0 (entAt ll i).1) = _ from f58.none K (entAt ll i).1 (Rs.sh (entAt ll i)) (Rs.sh_length _) (by omega), bind_s]
      simp only []
      rw [Nat.zero_add, ble_true (Nat.le_refl _), Bool.and_self, Bool.and_self, cond_t, subI_self _ hfl, e2, bind_s]
      simp only []
      rw [wrap_i _ (by omega) (by omega)]
      rfl
    · left
      have hiN : i = N := by omega
      subst hiN
      rw [List.take_of_length_le (show ll.length ≤ i by omega)] at R1 ⊢
      refine ⟨_, ⟨b1, h1, s1, rfl, R1⟩, fun rec => ?_⟩
      simp only [f24v1.s0, f24v1.s0t]
      rw [decide_eq_false (show ¬ (i : Int) < ((i : Nat) : Int) by omega), cond_f]) N _ ⟨0, b0, h0, s0, Nat.zero_le _, rfl, by simpa [Rs.fcat] using R, rfl⟩ K hK
  refine ⟨b', h', s', ?_, R'⟩
  rw [← hy, ← hI]
  simp [Rs.fcat]
theorem f24v1.spec (K N : Nat) (name : ByteArray) (ll : List Ent) (hs : name.size ≤ 1000000) (hN : ll.length = N) {b : Nat} (ho : Rs.ok b ll) (hb : b ≤ 1000000000) (hNb : N ≤ 1000000) (hK : 400 + name.size + N + b < K) :
    f24v1.F K (name, N, ll) = some (Sh.sha (strL name) (Rs.shs ll), ll) := by
  have hnl := strL_length name
  have hno := strL_octets name
  simp only [f24v1.F, f24v1.T]
  rw [show f49.F K () = some ([0, 0, 0, 0, 0, 0, 0, 0, 0, 0, 0, 0, 0, 0, 0, 0, 0, 0, 0, 0, 0, 0, 0, 0, 0, 0, 0, 0, 0, 0, 0, 0, 0, 0, 0, 0, 0, 0, 0, 0, 0, 0, 0, 0, 0, 0, 0, 0, 0, 0, 0, 0, 0, 0, 0, 0, 0, 0, 0, 0, 0, 0, 0, 0], 0, 0, Sh.init) from rfl, bind_s, Nat.zero_add, ble_true (Nat.le_refl name.size), Bool.and_self, Bool.and_self, cond_t, subI_self _ hnl, f58.none K name.size _ hnl (by omega), bind_s, wrap_u _ (by omega) (by omega)]
  have a1 : f59.F K (0, ((N : Nat) : Int), 4, 0, []) = some (4, 4, 0, [], 4, [] ++ be 4 N) := f59.spec K 0 4 N [] rfl (by omega) (by omega) (by omega)
  rw [List.nil_append] at a1
  rw [a1, bind_s]
  simp only []
  have hf := frame_length (strL name)
  rw [hnl] at hf
  rw [Nat.zero_add, Nat.zero_add, ble_true (Nat.le_refl (4 + name.size)), ble_true (Nat.le_refl 4), Bool.and_self, Bool.and_self, Bool.and_self, cond_t, subI_self _ hf, subI_self _ (be_length 4 N)]
  obtain ⟨B, H, S, c0, R⟩ := f57v2.spec K [] (4 + name.size) (Sh.frame (strL name)) 4 (be 4 N) hf (frame_octets hno) (by omega) (be_length _ _) (be_octets _ _) (by omega) _ _ _ Sh.rep0 (by omega)
  rw [show f57v2.F K ([0, 0, 0, 0, 0, 0, 0, 0, 0, 0, 0, 0, 0, 0, 0, 0, 0, 0, 0, 0, 0, 0, 0, 0, 0, 0, 0, 0, 0, 0, 0, 0, 0, 0, 0, 0, 0, 0, 0, 0, 0, 0, 0, 0, 0, 0, 0, 0, 0, 0, 0, 0, 0, 0, 0, 0, 0, 0, 0, 0, 0, 0, 0, 0], 0, 0, 4 + name.size, 4, Sh.init, 4 + name.size, Sh.frame (strL name), 4, be 4 N) = _ from c0, bind_s]
  simp only []
  rw [List.nil_append] at R ⊢
  obtain ⟨b2, h2, s2, e2, R2⟩ := f24v1.parts K N ll hN ho hb hNb (by omega) (by omega) [0, 0, 0, 0, 0, 0, 0, 0, 0, 0, 0, 0, 0, 0, 0, 0, 0, 0, 0, 0, 0, 0, 0, 0, 0, 0, 0, 0, 0, 0, 0, 0] _ _ _ _ R
  rw [e2, bind_s]
  simp only []
  rw [f51.spec K _ _ _ _ R2 (by omega), bind_s]
  simp only []
  rw [← hN, ← Rs.fcat_cut, ← Sh.sha]
theorem f53v2.spec (K N : Nat) (name : ByteArray) (x : Int) (ll L2 : List Ent) (hs : name.size ≤ 1000000) (hx : 0 ≤ x ∧ x < 256) (hN : ll.length = N) (hL : L2.take N = ll) {b : Nat} (ho : Rs.ok b ll) (h1 : 1 ≤ b) (hb : b ≤ 1000000000) (hNb : N ≤ 100000) (hK : 500 + name.size + N + b < K) :
    f53v2.F K (x, name, N, N + 1, N + 1, L2) = some (num (tv (Sh.sha (strL name) (Rs.shs ll ++ [[x]]))), name, N, N + 1, N + 1, ll ++ [(1, 1, [x])]) := by
  have hle : N ≤ L2.length := by
    have := congrArg List.length hL
    rw [List.length_take, hN] at this
    omega
  have hl1 : (ll ++ [((1, 1, [x]) : Ent)]).length = N + 1 := by rw [List.length_append, hN]; rfl
  simp only [f53v2.F, f53v2.T]
  rw [ble_true hle, ble_true (Nat.le_refl (N + 1)), Bool.and_self, Bool.and_self, cond_t, hL, hl1, ble_true (Nat.le_refl (N + 1)), Bool.and_self, cond_t, List.take_of_length_le (Nat.le_of_eq hl1), f24v1.spec K (N + 1) name _ hs hl1 (Rs.ok_snoc ho h1 hx) hb (by omega) (by omega), bind_s]
  simp only []
  rw [subI_self _ (sha_length _ _), f31.spec K _ (sha_length _ _) (sha_octets _ _) (by omega), bind_s, Rs.shs_snoc]
theorem f22v1.spec (N M : Nat) (name : ByteArray) (ll : List Ent) (hs : name.size ≤ 10000) (hM : M < 2 ^ 256) (hN : ll.length = N) {b : Nat} (ho : Rs.ok b ll) (h1 : 1 ≤ b) (hb : b ≤ 50000) (hNb : N ≤ 1000) :
    f22v1.F 100000 (num M, name, N, ll) = some (if M = 0 then num 0 else num (Sh.number M (strL name) (Rs.shs ll)), if M = 0 then 1 else 0, ll) := by
  have b1 := tv_lt 32 _ (sha_length (strL name) (Rs.shs ll ++ [[1]])) (sha_octets _ _)
  have b2 := tv_lt 32 _ (sha_length (strL name) (Rs.shs ll ++ [[0]])) (sha_octets _ _)
  simp only [f22v1.F, f22v1.T]
  rw [wrap_i _ (by omega) (by omega), show ((N : Nat) : Int) + 1 = ((N + 1 : Nat) : Int) by omega]
  have hl' : lenOK ((N : Nat) : Int) ((N + 1 : Nat) : Int) 24 = true := by
    simp only [lenOK, Int.toNat_natCast]
    rw [decide_eq_true (show (0 : Int) ≤ ((N : Nat) : Int) ∧ ((N : Nat) : Int) ≤ ((N + 1 : Nat) : Int) by omega), fitB_true (by omega), fitB_true (by omega)]; rfl
  have hd : List.take (Nat.min N N) ll ++ List.drop (Nat.min N N) (List.replicate N ((0, 0, []) : Ent)) = ll := by
    rw [show Nat.min N N = N from Nat.min_self N, List.take_of_length_le (by omega), List.drop_of_length_le (by simp), List.append_nil]
  have hrl : (List.replicate N ((0, 0, []) : Ent)).length = N := by simp
  rw [hl', cond_t, Int.toNat_natCast, Int.toNat_natCast, show Nat.beq N (List.length ll) = true by rw [hN]; exact Nat.beq_refl N, hrl, ble_true (Nat.le_refl N), Bool.and_self, cond_t, hd]
  rw [f53v2.spec 100000 N name 1 ll ll (by omega) (by omega) hN (List.take_of_length_le (by omega)) ho h1 (by omega) (by omega) (by omega), bind_s]
  simp only []
  rw [f53v2.spec 100000 N name 0 ll _ (by omega) (by omega) hN (by rw [List.take_append_of_le_length (by omega), List.take_of_length_le (by omega)]) ho h1 (by omega) (by omega) (by omega), bind_s]
  simp only []
  by_cases h0 : M = 0
  · subst h0
    rw [f54.zero, bind_s, if_pos rfl, if_pos rfl]
  · rw [f54.spec _ _ M b1 b2 hM (by omega), bind_s, if_neg h0, if_neg h0]
    simp only [Sh.number]
end Go.Proofs

namespace Go.Proofs
open Go.VM
def f26.k0 : ByteArray := ByteArray.mk #[120]
def f26.T (K : Nat)  : Option (Bool) :=
  (f33.F K 1).bind fun y1 =>
  (f22v1.F K (y1, f26.k0, 0, ([] : List Ent))).bind fun y2 =>
  (f33.F K 0).bind fun y3 =>
  (f22v1.F K (y3, f26.k0, 0, ([] : List Ent))).bind fun y4 =>
  (f24v1.F K (f26.k0, 2, ([(1, 1, [97]), (2, 2, [98, 99])] : List Ent))).bind fun y5 =>
  (f30.F K (20, 20, [0, 0, 0, 1, 120, 0, 0, 0, 2, 0, 0, 0, 1, 97, 0, 0, 0, 2, 98, 99])).bind fun y6 =>
  bif (eqL 32 y5.1 y6.1 && true) then
    (f33.F K 0).bind fun y8 =>
    bif (eqL 4 y2.1 y8 && true) then
      bif (y2.2.1 == 0) then
        some (y4.2.1 == 1)
      else
        some false
    else
      some false
  else
    some false
def f26.F (K : Nat) (_x : Unit) : Option (Bool) := f26.T K
def f26.av (_x : Unit) : List VV := []
def f26.bl (_x : Unit) : List (Nat × Blk) := []
def f26.inA : VS → Option (Unit)
  | ⟨[], [], 0⟩ => some ()
  | _ => none
def f26.o0 (y : Bool) : VS := ⟨[(0, .bool y)], [], 0⟩
def f26.inR : VS → Option (Bool)
  | ⟨[(0, .bool y)], [], 0⟩ => some y
  | _ => none
noncomputable def f26.E (K : Nat) : Entry := genE 0 f26.inA (f26.F K) (dv1 f26.o0)
theorem f26.ok (K : Nat) : EntryOK Try.prog 26 (f26.E K) := gen_ok mix tys_ok (sp := tabSp [(33, (f33.E K)), (22, (rwE 2 (f22v1.E K))), (24, (rwE 1 (f24v1.E K))), (30, (viewE [(0, .u8)] (f30.E K)))]) (tab_ok ((tab_cons (f33.ok K) (tab_cons (rw_ok (f22v1.ok K)) (tab_cons (rw_ok (f24v1.ok K)) (tab_cons (view_ok (f30.ok K)) tab_nil)))))) Try.func26 (c := bodyOf Try.f26) (by kernel_rfl) (by kernel_rfl) (loops_none (lp := lpNone) (by kernel_rfl)) (av := f26.av) (bl := f26.bl) (inR := f26.inR) (out := f26.o0) (fuel := 400)
  (by intro s x h; unfold f26.inA at h; split at h <;> simp at h; rfl) (fun _ => Nat.le_of_ble_eq_true rfl)
  (by intro s y h; unfold f26.inR at h; split at h <;> simp at h <;> subst h <;> rfl) (fun _ _ _ => rfl) (fun _ => by kernel_rfl)
end Go.Proofs

namespace Go.Proofs
open Go.VM
end Go.Proofs

namespace Go.Proofs
open Go.VM
end Go.Proofs

namespace Go.Proofs
open Go.VM
theorem f21.spec (K N : Nat) (name : ByteArray) (ll : List Ent) (hN : ll.length = N) (hb : ∀ e ∈ ll, e.1 ≤ 140737488355328) (hK : 1000 < K) : ∃ g, f21.F K (name, N, ll) = some (g, ll) ∧ (g = false → name.size ≤ 5000 ∧ N ≤ 200 ∧ Rs.tot ll ≤ 20000) := by
  simp only [f21.F, f21.T]
  by_cases h0 : name.size > 5000
  · exact ⟨true, by rw [decide_eq_true (show ((name.size : Nat) : Int) > 5000 by omega), cond_t], fun h => by cases h⟩
  rw [decide_eq_false (show ¬ ((name.size : Nat) : Int) > 5000 by omega), cond_f]
  by_cases h : N > 200
  · exact ⟨true, by rw [decide_eq_true (show ((N : Nat) : Int) > 200 by omega), cond_t], fun h => by cases h⟩
  · obtain ⟨z, h1, h2⟩ := f46.spec K N ll hN hb (by omega) (by omega)
    refine ⟨decide (z > 20000), ?_, fun h3 => ?_⟩
    · rw [decide_eq_false (show ¬ ((N : Nat) : Int) > 200 by omega), cond_f, show Nat.beq N (List.length ll) = true by rw [hN]; exact Nat.beq_refl N, cond_t, h1, bind_s]
    · have := h2 (by have := of_decide_eq_false h3; omega)
      have := of_decide_eq_false h3
      omega
theorem f26.holds : f26.F 100000 () = some true := by decide +kernel
end Go.Proofs

namespace Go.Proofs
open Go.VM
end Go.Proofs

namespace Go.Proofs
open Go.VM
abbrev f7.Ty0 := ByteArray × Nat × Int × List Ent
abbrev f7.Ty1 := Bool × List Ent
def f7.T (K : Nat) (a0 : ByteArray) (a1 : Nat) (a2 : Int) (m0 : List Ent) : Option (f7.Ty1) :=
  (f26.F K ()).bind fun y1 =>
  bif !y1 then
    (f26.F K ()).bind fun y2 =>
    some (y2, m0)
  else
    bif Nat.beq a1 (List.length m0) then
      (f21.F K (a0, a1, m0)).bind fun y3 =>
      bif y3.1 then
        (f26.F K ()).bind fun y4 =>
        some (y4, m0)
      else
        bif (a2 == 0) then
          (f26.F K ()).bind fun y5 =>
          some (y5, m0)
        else
          bif (Nat.beq a1 (List.length m0) && (fitB (a1 * 24))) then
            bif (Nat.ble a1 (List.length m0) && (fitB ((a1 + 1) * 24))) then
              let v6 := ((List.take a1 m0) ++ ([(1, 1, [1])] : List Ent) : List Ent)
              bif Nat.beq (a1 + 1) (List.length v6) then
                (f24v1.F K (a0, (a1 + 1), v6)).bind fun y7 =>
                (f31.F K (32, 32, (subI y7.1 0 32))).bind fun y8 =>
                (f33.F K 1).bind fun y9 =>
                (f32.F K (y9, (IntKind.wrap .i64 a2))).bind fun y11 =>
                bif Nat.beq a1 (List.length m0) then
                  (f22v1.F K (y11, a0, a1, m0)).bind fun y12 =>
                  (f32.F K (y8.1, (IntKind.wrap .i64 (256 - (IntKind.wrap .i64 a2))))).bind fun y15 =>
                  (f32.F K (y15, (IntKind.wrap .i64 ((IntKind.wrap .i64 a2) - 256)))).bind fun y18 =>
                  bif (y8.2.1 == 0) then
                    bif (y12.2.1 == 0) then
                      some ((eqL 4 y12.1 y18 && true), m0)
                    else
                      some (false, m0)
                  else
                    some (false, m0)
                else
                  none
              else
                none
            else
              none
          else
            none
    else
      none
def f7.F (K : Nat) (x : f7.Ty0) : Option (f7.Ty1) := f7.T K x.1 x.2.1 x.2.2.1 x.2.2.2
def f7.av (x : f7.Ty0) : List VV := [.str x.1, .vw true 0 0 x.2.1 1, .int .u8 x.2.2.1]
def f7.bl (x : f7.Ty0) : List (Nat × Blk) := [(0, ([], 0, .rr false 2 x.2.2.2))]
def f7.inA : VS → Option (f7.Ty0)
  | ⟨[(0, .str a0), (1, .vw true 0 0 a1 1), (2, .int .u8 a2)], [(0, ([], 0, .rr false 2 m0))], 3⟩ => some (a0, a1, a2, m0)
  | _ => none
def f7.o0 (y : f7.Ty1) : VS := ⟨[(0, .bool y.1)], [(0, ([], 0, .rr false 2 y.2))], 3⟩
def f7.inR : VS → Option (f7.Ty1)
  | ⟨[(0, .bool y)], [(0, ([], 0, .rr false 2 z0))], 3⟩ => some (y, z0)
  | _ => none
noncomputable def f7.E (K : Nat) : Entry := genE 3 f7.inA (f7.F K) (dv1 f7.o0)
theorem f7.ok (K : Nat) : EntryOK Try.prog 7 (f7.E K) := gen_ok mix tys_ok (sp := tabSp [(26, (f26.E K)), (21, (rwE 1 (f21.E K))), (24, (rwE 1 (f24v1.E K))), (31, (viewE [(0, .u8)] (f31.E K))), (33, (f33.E K)), (32, (f32.E K)), (22, (rwE 2 (f22v1.E K)))]) (tab_ok ((tab_cons (f26.ok K) (tab_cons (rw_ok (f21.ok K)) (tab_cons (rw_ok (f24v1.ok K)) (tab_cons (view_ok (f31.ok K)) (tab_cons (f33.ok K) (tab_cons (f32.ok K) (tab_cons (rw_ok (f22v1.ok K)) tab_nil))))))))) Try.func7 (c := bodyOf Try.f7) (by kernel_rfl) (by kernel_rfl) (loops_none (lp := lpNone) (by kernel_rfl)) (av := f7.av) (bl := f7.bl) (inR := f7.inR) (out := f7.o0) (fuel := 400)
  (by intro s x h; unfold f7.inA at h; split at h <;> simp at h; subst h; rfl) (fun _ => Nat.le_of_ble_eq_true rfl)
  (by intro s y h; unfold f7.inR at h; split at h <;> simp at h <;> subst h <;> rfl) (fun _ _ _ => rfl) (fun _ => by kernel_rfl)
end Go.Proofs

namespace Go.Proofs
open Go.VM
theorem low_bits (H L n k : Nat) (h : n + k = 256) : (H * 2 ^ 256 + L) % 2 ^ n = L * 2 ^ k % 2 ^ 256 / 2 ^ k := by
  have e : 2 ^ 256 = 2 ^ n * 2 ^ k := by rw [← Nat.pow_add, h]
  rw [e, Nat.mul_mod_mul_right, Nat.mul_div_cancel _ (Nat.two_pow_pos k), Nat.mul_comm H, Nat.mul_assoc, Nat.mul_add_mod]
theorem f7.holds (name : ByteArray) (_hs : name.size ≤ maxLen) (ps : List (List Int)) (po : ∀ p ∈ ps, octets p) (pb : ∀ p ∈ ps, p.length ≤ 140737488351232) (z : Int) (hz : 0 ≤ z ∧ z < 256) :
    f7.F 100000 (name, ps.length, z, Rs.ents ps) = some (true, Rs.ents ps) := by
  obtain ⟨n, rfl⟩ : ∃ n : Nat, z = (n : Int) := ⟨z.toNat, by omega⟩
  generalize hpn : ps.length = N
  have hN : (Rs.ents ps).length = N := by rw [Rs.ents_length, hpn]
  have hb : ∀ e ∈ Rs.ents ps, e.1 ≤ 140737488355328 := fun e he => by
    have := pb _ (Rs.ents_sh he).1
    rw [Rs.sh_length] at this; omega
  have hq : Nat.beq N (List.length (Rs.ents ps)) = true := by rw [hN]; exact Nat.beq_refl N
  simp only [f7.F, f7.T]
  rw [f26.holds, bind_s, Bool.not_true, cond_f]
  obtain ⟨g, hg, hg2⟩ := f21.spec 100000 N name (Rs.ents ps) hN hb (by omega)
  rw [hq, cond_t, hg, bind_s]
  simp only []
  cases g with
  | true => rw [cond_t, bind_s]
  | false =>
  obtain ⟨hn, h60, ht⟩ := hg2 rfl
  rw [cond_f]
  have hb2 : ∀ e ∈ Rs.ents ps, e.1 ≤ 20000 := fun e he => Nat.le_trans (Rs.tot_mem he) ht
  have ho : Rs.ok 20000 (Rs.ents ps) := Rs.ents_ok po hb2
  by_cases h0 : n = 0
  · subst h0
    rw [show (((0 : Nat) : Int) == 0) = true from rfl, cond_t, bind_s]
  rw [show (((n : Nat) : Int) == 0) = false from by simp; omega, cond_f]
  have hl1 : (Rs.ents ps ++ [((1, 1, [1]) : Ent)]).length = N + 1 := by rw [List.length_append, hN]; rfl
  have bL := tv_lt 32 _ (sha_length (strL name) (Rs.shs (Rs.ents ps) ++ [[1]])) (sha_octets _ _)
  have hbL : tv (Sh.sha (strL name) (Rs.shs (Rs.ents ps) ++ [[1]])) < 2 ^ 256 := by omega
  have hp : 2 ^ n < 2 ^ 256 := Nat.pow_lt_pow_right (by omega) (by omega)
  have hp0 := Nat.two_pow_pos n
  rw [fitB_true (by omega), Bool.and_self, cond_t, hN, ble_true (Nat.le_refl N), fitB_true (by omega), Bool.and_self, cond_t, List.take_of_length_le (Nat.le_of_eq hN), hl1, Nat.beq_refl, cond_t, f24v1.spec 100000 (N + 1) name _ (by omega) hl1 (Rs.ok_snoc ho (by omega) (by omega)) (by omega) (by omega) (by omega), bind_s]
  simp only []
  rw [subI_self _ (sha_length _ _), f31.spec 100000 _ (sha_length _ _) (sha_octets _ _) (by omega), bind_s, f33.one, bind_s, wrap_i _ (by omega) (by omega), f32.up 100000 1 n (by decide) (by omega), bind_s, cond_t, Nat.one_mul, f22v1.spec N (2 ^ n) name _ (by omega) hp hN ho (by omega) (by omega) (by omega), bind_s]
  simp only []
  rw [Rs.shs_snoc, wrap_i _ (by omega) (by omega), show (256 : Int) - (n : Int) = ((256 - n : Nat) : Int) by omega, f32.up 100000 _ (256 - n) hbL (by omega), bind_s, wrap_i _ (by omega) (by omega), show (n : Int) - 256 = -((256 - n : Nat) : Int) by omega, f32.downA, bind_s, if_neg (by omega), if_neg (by omega), Sh.number, low_bits _ _ n (256 - n) (by omega), eqL_refl]
  rfl
end Go.Proofs
