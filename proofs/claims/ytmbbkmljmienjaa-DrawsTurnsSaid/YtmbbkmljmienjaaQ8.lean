/- Plain laws: lemmas that hold with no condition but those that each states. -/
import Derived.Test.YtmbbkmljmienjaaQ7
import Derived.Test.YtmbbkmljmienjaaQ2
namespace Go.Proofs
open Go.VM
theorem shl_nat (x k : Nat) (h : k ≤ 64) : shiftI .shl .u64 (x : Int) (k : Int) = ((x * 2 ^ k % 2 ^ 64 : Nat) : Int) := by
  show IntKind.wrap .u64 ((x : Int) * 2 ^ (min (Int.toNat (k : Int)) 64)) = _
  rw [Int.toNat_natCast, Nat.min_eq_left h, show (x : Int) * 2 ^ k = ((x * 2 ^ k : Nat) : Int) by simp, wrap_nat]
theorem f98.spec (K x : Nat) (hx : x < 18446744073709551616) : f98.F K (x : Int) = some ((64 - blen x : Nat) : Int) := by
  have h : blen x ≤ 64 := blen_le (k := 64) hx
  simp only [f98.F, f98.T, f104.spec K x hx, bind_s]
  rw [wrap_i _ (by omega) (by omega)]
  congr 1; omega
theorem wrap_left (u u1 q Y : Nat) (hq : q * Y ≤ u * 4294967296 + u1) (hr : u * 4294967296 + u1 - q * Y < 18446744073709551616) :
    IntKind.wrap .u64 (IntKind.wrap .u64 (IntKind.wrap .u64 ((u : Int) * 4294967296) + (u1 : Int)) - IntKind.wrap .u64 ((q : Int) * (Y : Int))) = ((u * 4294967296 + u1 - q * Y : Nat) : Int) := by
  have e : (q : Int) * (Y : Int) = ((q * Y : Nat) : Int) := by simp
  rw [e]
  simp only [wrap_emod]
  omega
theorem low_mask (x : Nat) (h : x < 18446744073709551616) : bits .and .u64 (x : Int) 4294967295 = ((x % 4294967296 : Nat) : Int) := and_mask32 x h
theorem fdiv32 (x : Nat) : Int.fdiv (x : Int) (2 ^ 32) = ((x / 4294967296 : Nat) : Int) := fdiv_nat x 32
theorem mod_eq_sub (u v : Nat) : u - u / v * v = u % v := by
  have := Nat.mod_add_div u v
  rw [Nat.mul_comm] at this
  omega
theorem f81.spec (K hi lo y : Nat) (hy : y < 18446744073709551616) (hhi : hi < y) (hlo : lo < 18446744073709551616) (hK : 1 < K) :
    f81.F K ((hi : Int), (lo : Int), (y : Int)) = some ((((hi * 18446744073709551616 + lo) / y : Nat) : Int), (((hi * 18446744073709551616 + lo) % y : Nat) : Int)) := by
  have hy0 : 0 < y := by omega
  simp only [f81.F, f81.T]
  have c1 : ((y : Int) == 0) = false := by simp; omega
  have c3 : decide ((y : Int) ≠ 0) = true := decide_eq_true (by omega)
  rw [c1, decide_eq_false (show ¬ (y : Int) ≤ (hi : Int) by omega), c3]
  simp only [cond_t, cond_f]
  by_cases h0 : hi = 0
  · subst h0
    rw [show (((0 : Nat) : Int) == 0) = true from rfl, cond_t, tdiv_nat, tmod_nat, wrap_nat, Nat.zero_mul, Nat.zero_add, Nat.mod_eq_of_lt (Nat.lt_of_le_of_lt (Nat.div_le_self _ _) hlo)]
  · have c4 : ((hi : Int) == 0) = false := by simp; omega
    rw [c4, cond_f, f98.spec K y hy, bind_s]
    obtain ⟨gy, py⟩ := blen_ge (x := y) (by omega)
    have hb : blen y ≤ 64 := blen_le (k := 64) hy
    have ly := blen_lt y
    obtain ⟨s, hs⟩ : ∃ s, s = 64 - blen y := ⟨_, rfl⟩
    rw [← hs]
    have hs63 : s ≤ 63 := by omega
    have w5 : IntKind.wrap .u64 (s : Int) = (s : Int) := wrap_u _ (by omega) (by omega)
    have w10 : IntKind.wrap .u64 (64 - (s : Int)) = ((64 - s : Nat) : Int) := by rw [wrap_u _ (by omega) (by omega)]; omega
    have d1 : decide (0 ≤ (s : Int)) = true := decide_eq_true (by omega)
    have d2 : decide (0 ≤ ((64 - s : Nat) : Int)) = true := decide_eq_true (by omega)
    have p2 := Nat.two_pow_pos s
    have e64 : 18446744073709551616 = 2 ^ (64 - s) * 2 ^ s := by rw [← Nat.pow_add, show 64 - s + s = 64 by omega]
    have hYlt : y * 2 ^ s < 18446744073709551616 := by
      have h1 : y * 2 ^ s < 2 ^ blen y * 2 ^ s := Nat.mul_lt_mul_of_pos_right ly p2
      rw [← Nat.pow_add, show blen y + s = 64 by omega] at h1
      exact h1
    have hYge : 9223372036854775808 ≤ y * 2 ^ s := by
      have h1 : 2 ^ (blen y - 1) * 2 ^ s ≤ y * 2 ^ s := Nat.mul_le_mul_right _ gy
      rw [← Nat.pow_add, show blen y - 1 + s = 63 by omega] at h1
      exact h1
    have hl1 : lo / 2 ^ (64 - s) < 2 ^ s := by rw [Nat.div_lt_iff_lt_mul (Nat.two_pow_pos _), Nat.mul_comm, ← e64]; exact hlo
    have hu : hi * 2 ^ s + lo / 2 ^ (64 - s) < y * 2 ^ s := by
      have : (hi + 1) * 2 ^ s ≤ y * 2 ^ s := Nat.mul_le_mul_right _ hhi
      rw [Nat.succ_mul] at this
      omega
    have hh1 : hi * 2 ^ s < 18446744073709551616 := Nat.lt_of_le_of_lt (Nat.le_add_right _ _) (Nat.lt_trans hu hYlt)
    have hh2 : lo / 2 ^ (64 - s) < 18446744073709551616 := Nat.lt_of_le_of_lt (Nat.le_add_left _ _) (Nat.lt_trans hu hYlt)
    have hor : bits .or .u64 (shiftI .shl .u64 (hi : Int) (s : Int)) (shiftI .shr .u64 (lo : Int) ((64 - s : Nat) : Int)) = ((hi * 2 ^ s + lo / 2 ^ (64 - s) : Nat) : Int) := by
      rw [shl_nat hi s (by omega), shr_nat lo (64 - s) (by omega), show (2 : Nat) ^ 64 = 18446744073709551616 from rfl, Nat.mod_eq_of_lt hh1, bits_or_u64_nat _ _ hh1 hh2]
      congr 1
      rw [← Nat.shiftLeft_eq, ← Nat.shiftLeft_add_eq_or_of_lt hl1]
    have hlow : lo * 2 ^ s = lo / 2 ^ (64 - s) * 18446744073709551616 + lo * 2 ^ s % 18446744073709551616 := by
      have h1 : lo * 2 ^ s / 18446744073709551616 = lo / 2 ^ (64 - s) := by rw [e64, Nat.mul_div_mul_right _ _ p2]
      have h2 := Nat.mod_add_div (lo * 2 ^ s) 18446744073709551616
      rw [h1, Nat.mul_comm 18446744073709551616] at h2
      omega
    rw [w5, w10, d1, d2, hor, shl_nat y s (by omega), shl_nat lo s (by omega), show (2 : Nat) ^ 64 = 18446744073709551616 from rfl, Nat.mod_eq_of_lt hYlt]
    simp only [cond_t]
    have hw : lo * 2 ^ s % 18446744073709551616 < 18446744073709551616 := Nat.mod_lt _ (by decide)
    rw [low_mask _ hYlt, low_mask _ hw, fdiv32, fdiv32]
    have hN : (hi * 18446744073709551616 + lo) * 2 ^ s = (hi * 2 ^ s + lo / 2 ^ (64 - s)) * 18446744073709551616 + lo * 2 ^ s % 18446744073709551616 := by
      rw [Nat.add_mul, hlow, Nat.add_mul, Nat.mul_assoc, Nat.mul_comm 18446744073709551616, ← Nat.mul_assoc]
      omega
    have hfin : (hi * 18446744073709551616 + lo) / y = (hi * 18446744073709551616 + lo) * 2 ^ s / (y * 2 ^ s) ∧ (hi * 18446744073709551616 + lo) % y * 2 ^ s = (hi * 18446744073709551616 + lo) * 2 ^ s % (y * 2 ^ s) :=
      ⟨(Nat.mul_div_mul_right _ _ p2).symm, (Nat.mul_mod_mul_right _ _ _).symm⟩
    obtain ⟨N, hNN⟩ : ∃ N, N = hi * 18446744073709551616 + lo := ⟨_, rfl⟩
    obtain ⟨u, huu⟩ : ∃ u, u = hi * 2 ^ s + lo / 2 ^ (64 - s) := ⟨_, rfl⟩
    obtain ⟨l, hll⟩ : ∃ l, l = lo * 2 ^ s % 18446744073709551616 := ⟨_, rfl⟩
    obtain ⟨Y, hYY⟩ : ∃ Y, Y = y * 2 ^ s := ⟨_, rfl⟩
    rw [← hNN, ← huu, ← hll] at hN
    rw [← hNN, ← hYY] at hfin
    rw [← huu, ← hYY] at hu
    rw [← hYY] at hYlt hYge
    rw [← hll] at hw
    rw [← hNN, ← huu, ← hll, ← hYY]
    clear hNN huu hll hYY hlow hl1 hor hh1 hh2
    obtain ⟨y1, hy1⟩ : ∃ y1, y1 = Y / 4294967296 := ⟨_, rfl⟩
    obtain ⟨y0', hy0'⟩ : ∃ y0, y0 = Y % 4294967296 := ⟨_, rfl⟩
    obtain ⟨u1, hu1⟩ : ∃ u1, u1 = l / 4294967296 := ⟨_, rfl⟩
    obtain ⟨u0, hu0⟩ : ∃ u0, u0 = l % 4294967296 := ⟨_, rfl⟩
    rw [← hy1, ← hy0', ← hu1, ← hu0]
    have b1 : 2147483648 ≤ y1 := by omega
    have b2 : y1 < 4294967296 := by omega
    have b3 : y0' < 4294967296 := by omega
    have b4 : Y = y1 * 4294967296 + y0' := by omega
    have b5 : u1 < 4294967296 := by omega
    have b6 : u0 < 4294967296 := by omega
    have step : ∀ v : Nat, v < Y → IntKind.wrap .u64 (Int.tdiv (v : Int) (y1 : Int)) = ((v / y1 : Nat) : Int) ∧ IntKind.wrap .u64 ((v : Int) - IntKind.wrap .u64 (((v / y1 : Nat) : Int) * (y1 : Int))) = ((v % y1 : Nat) : Int) := by
      intro v hv
      have h1 : v / y1 ≤ v := Nat.div_le_self _ _
      have h2 : v / y1 * y1 ≤ v := Nat.div_mul_le_self _ _
      have h3 := mod_eq_sub v y1
      refine ⟨by rw [tdiv_nat, wrap_nat, Nat.mod_eq_of_lt (by omega)], ?_⟩
      rw [show ((v / y1 : Nat) : Int) * (y1 : Int) = ((v / y1 * y1 : Nat) : Int) by simp, wrap_nat, Nat.mod_eq_of_lt (by omega), wrap_u _ (by omega) (by omega)]
      omega
    have dy : decide ((y1 : Int) ≠ 0) = true := decide_eq_true (by omega)
    rw [dy]
    simp only [cond_t]
    rw [(step u hu).1, (step u hu).2, f81.loop0 K K Y y1 y0' u u1 (s : Int) (u0 : Int) b4 b1 b2 b3 hu b5 hK, bind_s]
    have hY0 : 0 < Y := by omega
    have m1 := Nat.mod_lt (u * 4294967296 + u1) hY0
    have q1 : (u * 4294967296 + u1) / Y * Y ≤ u * 4294967296 + u1 := Nat.div_mul_le_self _ _
    have r1 := mod_eq_sub (u * 4294967296 + u1) Y
    have hq1 : (u * 4294967296 + u1) / Y < 4294967296 := by have := guess_lt (y1 := y1) (y0 := y0') (u := u) (u1 := u1) (by omega) (by omega) b5; rwa [← b4] at this
    have d1' := Nat.mod_add_div (u * 4294967296 + u1) Y
    generalize (u * 4294967296 + u1) / Y = Q1 at *
    have wl := wrap_left u u1 Q1 Y q1 (by omega)
    simp only [dy, cond_t]
    rw [wl, r1]
    generalize (u * 4294967296 + u1) % Y = R1 at *
    rw [(step R1 m1).1, (step R1 m1).2, f81.loop2 K K Y y1 y0' R1 u0 (s : Int) (Q1 : Int) b4 b1 b2 b3 m1 b6 hK, bind_s]
    have m2 := Nat.mod_lt (R1 * 4294967296 + u0) hY0
    have q2 : (R1 * 4294967296 + u0) / Y * Y ≤ R1 * 4294967296 + u0 := Nat.div_mul_le_self _ _
    have r2 := mod_eq_sub (R1 * 4294967296 + u0) Y
    have hq2 : (R1 * 4294967296 + u0) / Y < 4294967296 := by have := guess_lt (y1 := y1) (y0 := y0') (u := R1) (u1 := u0) (by omega) (by omega) b6; rwa [← b4] at this
    have d2' := Nat.mod_add_div (R1 * 4294967296 + u0) Y
    generalize (R1 * 4294967296 + u0) / Y = Q0 at *
    have wl2 := wrap_left R1 u0 Q0 Y q2 (by omega)
    simp only [d1, cond_t]
    rw [wl2, r2]
    generalize (R1 * 4294967296 + u0) % Y = R0 at *
    have hdiv : N * 2 ^ s = R0 + Y * (Q1 * 4294967296 + Q0) := by
      rw [hN, Nat.mul_add, ← Nat.mul_assoc]
      omega
    obtain ⟨g1, g2⟩ := div_mod_of hdiv m2
    rw [hfin.1, g1, shr_nat R0 s (by omega)]
    have hrem : N % y = R0 / 2 ^ s := by
      have := hfin.2
      rw [g2] at this
      rw [← this, Nat.mul_div_cancel _ p2]
    rw [hrem, wrap_u ((Q1 : Int) * 4294967296) (by omega) (by omega), wrap_u _ (by omega) (by omega)]
    rfl
end Go.Proofs

namespace Go.Proofs
open Go.VM
abbrev f54.Ty0 := Int × Int × Int × Int × List Int × List Int × List Int × List Int
abbrev f54.Ty1 := Int × Int × List Int × List Int × List Int × List Int
abbrev f54.Ty2 := Int × Int × Int × List Int × List Int × List Int
abbrev f54.Ty3 := List Int × List Int × List Int
abbrev f54.Ty4 := Int × List Int
abbrev f54.Ty5 := List Int × Int
noncomputable def f54.c : Code := bodyOf Try.f54
def f54.s2t (K : Nat) (rec : f54.Ty0 → Option (f54.Ty2)) (t8 : Int) (t28 : Int) (t29 : Int) (t33 : Int) (b0 : List Int) (b1 : List Int) (b2 : List Int) (b3 : List Int) : Option (f54.Ty2) :=
  bif (decide (t33 < 4)) then
    let v10 := IntKind.wrap .i64 (3 - t33)
    bif decide (0 ≤ v10 ∧ v10 < 4) then
      (f81.F K (t8, (List.getD b2 (Int.toNat v10) 0), (List.getD b0 0 0))).bind fun y14 =>
      rec (y14.2, t28, t29, (IntKind.wrap .i64 (t33 + 1)), b0, b1, b2, b3)
    else
      none
  else
    some (t8, t28, t29, b0, b1, b3)
def f54.s2 (K : Nat) (rec : f54.Ty0 → Option (f54.Ty2)) (x : f54.Ty0) : Option (f54.Ty2) := f54.s2t K rec x.1 x.2.1 x.2.2.1 x.2.2.2.1 x.2.2.2.2.1 x.2.2.2.2.2.1 x.2.2.2.2.2.2.1 x.2.2.2.2.2.2.2
noncomputable def f54.s2.b : Code := (findLoop 2 f54.c).getD .skip
def f54.s2.h : Hint := { lv := [5, 6, 8, 10, 27, 28, 29, 33] }
def f54.s2.ho : Hint := { lv := [5, 6, 8, 27, 28, 29] }
def f54.s2.shp (x : f54.Ty0) : VS := ⟨[(5, .ptr 0 0), (6, .ptr 1 0), (8, .int .u64 x.1), (10, .ptr 2 0), (27, .sl 3 0 2 2), (28, .int .i64 x.2.1), (29, .int .i64 x.2.2.1), (33, .int .i64 x.2.2.2.1)], [(0, ([.ints .u64 4 x.2.2.2.2.1], 39, .norm)), (1, ([.ints .u64 4 x.2.2.2.2.2.1], 39, .norm)), (2, ([.ints .u64 4 x.2.2.2.2.2.2.1], 39, .norm)), (3, ([.ints .u64 8 x.2.2.2.2.2.2.2], 39, .norm))], 4⟩
def f54.s2.inX : VS → Option (f54.Ty0)
  | ⟨[(5, .ptr 0 0), (6, .ptr 1 0), (8, .int .u64 t8), (10, .ptr 2 0), (27, .sl 3 0 2 2), (28, .int .i64 t28), (29, .int .i64 t29), (33, .int .i64 t33)], [(0, ([.ints .u64 4 b0], 39, .norm)), (1, ([.ints .u64 4 b1], 39, .norm)), (2, ([.ints .u64 4 b2], 39, .norm)), (3, ([.ints .u64 8 b3], 39, .norm))], 4⟩ => some (t8, t28, t29, t33, b0, b1, b2, b3)
  | _ => none
def f54.s2.o0 (y : f54.Ty2) : VS := ⟨[(5, .ptr 0 0), (6, .ptr 1 0), (8, .int .u64 y.1), (27, .sl 2 0 2 2), (28, .int .i64 y.2.1), (29, .int .i64 y.2.2.1)], [(0, ([.ints .u64 4 y.2.2.2.1], 39, .norm)), (1, ([.ints .u64 4 y.2.2.2.2.1], 39, .norm)), (2, ([.ints .u64 8 y.2.2.2.2.2], 39, .norm))], 3⟩
def f54.s2.des : ∀ α : Type, (f54.Ty2) → (Ex → VS → Option α) → Option α := (des1 (.exit 2) f54.s2.o0)
def f54.s2.out : f54.Ty2 → Ex × VS := (fun y => (.exit 2, f54.s2.o0 y))
theorem f54.s2.desOK : ∀ α y (k : Ex → VS → Option α), f54.s2.des α y k = k (f54.s2.out y).1 (f54.s2.out y).2 := (fun _ _ _ => rfl)
def f54.s2.inY : Ex → VS → Option (f54.Ty2)
  | .exit 2, ⟨[(5, .ptr 0 0), (6, .ptr 1 0), (8, .int .u64 t8), (27, .sl 2 0 2 2), (28, .int .i64 t28), (29, .int .i64 t29)], [(0, ([.ints .u64 4 b0], 39, .norm)), (1, ([.ints .u64 4 b1], 39, .norm)), (2, ([.ints .u64 8 b2], 39, .norm))], 3⟩ => some (t8, t28, t29, b0, b1, b2)
  | _, _ => none
def f54.s0t (K : Nat) (rec : f54.Ty2 → Option (f54.Ty4)) (t8 : Int) (t28 : Int) (t29 : Int) (b0 : List Int) (b1 : List Int) (b2 : List Int) : Option (f54.Ty4) :=
  bif (decide (t29 < t28)) then
    bif decide (0 ≤ t29 ∧ t29 < 2) then
      (iter (f54.s2 K) K (t8, t28, t29, 0, b0, b1, (List.take 4 (List.drop ((Int.toNat t29) * 4) b2)), b2)).bind fun y16 =>
      rec (y16.1, y16.2.1, (IntKind.wrap .i64 (y16.2.2.1 + 1)), y16.2.2.2.1, y16.2.2.2.2.1, y16.2.2.2.2.2)
    else
      none
  else
    some (t8, b1)
def f54.s0 (K : Nat) (rec : f54.Ty2 → Option (f54.Ty4)) (x : f54.Ty2) : Option (f54.Ty4) := f54.s0t K rec x.1 x.2.1 x.2.2.1 x.2.2.2.1 x.2.2.2.2.1 x.2.2.2.2.2
noncomputable def f54.s0.b : Code := (findLoop 0 f54.c).getD .skip
def f54.s0.h : Hint := { lv := [5, 6, 8, 27, 28, 29] }
def f54.s0.ho : Hint := { lv := [6, 8] }
def f54.s0.shp (x : f54.Ty2) : VS := ⟨[(5, .ptr 0 0), (6, .ptr 1 0), (8, .int .u64 x.1), (27, .sl 2 0 2 2), (28, .int .i64 x.2.1), (29, .int .i64 x.2.2.1)], [(0, ([.ints .u64 4 x.2.2.2.1], 39, .norm)), (1, ([.ints .u64 4 x.2.2.2.2.1], 39, .norm)), (2, ([.ints .u64 8 x.2.2.2.2.2], 39, .norm))], 3⟩
def f54.s0.inX : VS → Option (f54.Ty2)
  | ⟨[(5, .ptr 0 0), (6, .ptr 1 0), (8, .int .u64 t8), (27, .sl 2 0 2 2), (28, .int .i64 t28), (29, .int .i64 t29)], [(0, ([.ints .u64 4 b0], 39, .norm)), (1, ([.ints .u64 4 b1], 39, .norm)), (2, ([.ints .u64 8 b2], 39, .norm))], 3⟩ => some (t8, t28, t29, b0, b1, b2)
  | _ => none
def f54.s0.o0 (y : f54.Ty4) : VS := ⟨[(6, .ptr 0 0), (8, .int .u64 y.1)], [(0, ([.ints .u64 4 y.2], 39, .norm))], 1⟩
def f54.s0.des : ∀ α : Type, (f54.Ty4) → (Ex → VS → Option α) → Option α := (des1 (.exit 0) f54.s0.o0)
def f54.s0.out : f54.Ty4 → Ex × VS := (fun y => (.exit 0, f54.s0.o0 y))
theorem f54.s0.desOK : ∀ α y (k : Ex → VS → Option α), f54.s0.des α y k = k (f54.s0.out y).1 (f54.s0.out y).2 := (fun _ _ _ => rfl)
def f54.s0.inY : Ex → VS → Option (f54.Ty4)
  | .exit 0, ⟨[(6, .ptr 0 0), (8, .int .u64 t8)], [(0, ([.ints .u64 4 b0], 39, .norm))], 1⟩ => some (t8, b0)
  | _, _ => none
def f54.s4t (K : Nat) (rec : f54.Ty1 → Option (List Int)) (t76 : Int) (t77 : Int) (b0 : List Int) (b1 : List Int) (b2 : List Int) (b3 : List Int) : Option (List Int) :=
  bif (decide (t77 < t76)) then
    (f83.F K (b0, t77)).bind fun y29 =>
    bif (y29 == 1) then
      (f82.F K (b2, b3, b1)).bind fun y30 =>
      (f82.F K (b3, b3, b1)).bind fun y31 =>
      rec (t76, (IntKind.wrap .i64 (t77 + 1)), b0, b1, y30, y31)
    else
      (f82.F K (b3, b3, b1)).bind fun y33 =>
      rec (t76, (IntKind.wrap .i64 (t77 + 1)), b0, b1, b2, y33)
  else
    some b2
def f54.s4 (K : Nat) (rec : f54.Ty1 → Option (List Int)) (x : f54.Ty1) : Option (List Int) := f54.s4t K rec x.1 x.2.1 x.2.2.1 x.2.2.2.1 x.2.2.2.2.1 x.2.2.2.2.2
noncomputable def f54.s4.b : Code := (findLoop 4 f54.c).getD .skip
def f54.s4.h : Hint := { lv := [4, 5, 6, 15, 76, 77] }
def f54.s4.ho : Hint := { lv := [6] }
def f54.s4.shp (x : f54.Ty1) : VS := ⟨[(4, .ptr 0 0), (5, .ptr 1 0), (6, .ptr 2 0), (15, .ptr 3 0), (76, .int .i64 x.1), (77, .int .i64 x.2.1)], [(0, ([.ints .u64 4 x.2.2.1], 39, .norm)), (1, ([.ints .u64 4 x.2.2.2.1], 39, .norm)), (2, ([.ints .u64 4 x.2.2.2.2.1], 39, .norm)), (3, ([.ints .u64 4 x.2.2.2.2.2], 39, .norm))], 4⟩
def f54.s4.inX : VS → Option (f54.Ty1)
  | ⟨[(4, .ptr 0 0), (5, .ptr 1 0), (6, .ptr 2 0), (15, .ptr 3 0), (76, .int .i64 t76), (77, .int .i64 t77)], [(0, ([.ints .u64 4 b0], 39, .norm)), (1, ([.ints .u64 4 b1], 39, .norm)), (2, ([.ints .u64 4 b2], 39, .norm)), (3, ([.ints .u64 4 b3], 39, .norm))], 4⟩ => some (t76, t77, b0, b1, b2, b3)
  | _ => none
def f54.s4.o0 (y : List Int) : VS := ⟨[(6, .ptr 0 0)], [(0, ([.ints .u64 4 y], 39, .norm))], 1⟩
def f54.s4.des : ∀ α : Type, (List Int) → (Ex → VS → Option α) → Option α := (des1 (.exit 4) f54.s4.o0)
def f54.s4.out : List Int → Ex × VS := (fun y => (.exit 4, f54.s4.o0 y))
theorem f54.s4.desOK : ∀ α y (k : Ex → VS → Option α), f54.s4.des α y k = k (f54.s4.out y).1 (f54.s4.out y).2 := (fun _ _ _ => rfl)
def f54.s4.inY : Ex → VS → Option (List Int)
  | .exit 4, ⟨[(6, .ptr 0 0)], [(0, ([.ints .u64 4 b0], 39, .norm))], 1⟩ => some b0
  | _, _ => none
def f54.lp (K : Nat) : Nat → Option (Hint × Summ) := tabLp [(2, f54.s2.h, summOf (iter (f54.s2 K) K) f54.s2.inX f54.s2.des), (0, f54.s0.h, summOf (iter (f54.s0 K) K) f54.s0.inX f54.s0.des), (4, f54.s4.h, summOf (iter (f54.s4 K) K) f54.s4.inX f54.s4.des)]
noncomputable def f54.tab (K : Nat) : List (Nat × Entry) := [(65, (f65.E K)), (66, (f66.E K)), (81, (f81.E K)), (33, (f33.E K)), (67, (f67.E K)), (36, (f36.E K)), (82, (f82.E K)), (83, (f83.E K))]
theorem f54.tabOK (K : Nat) : SpecOK Try.prog (tabSp (f54.tab K)) := tab_ok ((tab_cons (f65.ok K) (tab_cons (f66.ok K) (tab_cons (f81.ok K) (tab_cons (f33.ok K) (tab_cons (f67.ok K) (tab_cons (f36.ok K) (tab_cons (f82.ok K) (tab_cons (f83.ok K) tab_nil)))))))))
theorem f54.s2.eq (K : Nat) (rec : f54.Ty0 → Option (f54.Ty2)) (x : f54.Ty0) : f54.s2 K rec x = roundL (getA tys) (tabSp (f54.tab K)) 94 0 (f54.lp K) 400 f54.s2.b f54.s2.h f54.s2.ho f54.s2.shp f54.s2.inX f54.s2.inY rec x := by kernel_rfl
theorem f54.s2.lok (K : Nat) : LoopsOK Try.prog 94 0 (f54.lp K) f54.s2.b := loops_ok (by
  have h : loopsIn (f54.lp K) f54.s2.b = [] := by kernel_rfl
  rw [h]; simp)
theorem f54.s2.ok (K : Nat) : SummOK Try.prog 94 0 (summOf (iter (f54.s2 K) K) f54.s2.inX f54.s2.des) f54.s2.b :=
  loop_ok mix tys_ok (f54.tabOK K) (h := f54.s2.h) (ho := f54.s2.ho) (shp := f54.s2.shp) (inX := f54.s2.inX) (des := f54.s2.des) (out := f54.s2.out) (inY := f54.s2.inY) (fuel := 400)
    (by intro st x h; unfold f54.s2.inX at h; split at h <;> simp at h; subst h; rfl)
    (by intro e st y h; unfold f54.s2.inY at h; split at h <;> simp at h <;> subst h <;> rfl)
    f54.s2.desOK (f54.s2.lok K) (f54.s2 K) (f54.s2.eq K) K
theorem f54.s0.eq (K : Nat) (rec : f54.Ty2 → Option (f54.Ty4)) (x : f54.Ty2) : f54.s0 K rec x = roundL (getA tys) (tabSp (f54.tab K)) 94 0 (f54.lp K) 400 f54.s0.b f54.s0.h f54.s0.ho f54.s0.shp f54.s0.inX f54.s0.inY rec x := by kernel_rfl
theorem f54.s0.lok (K : Nat) : LoopsOK Try.prog 94 0 (f54.lp K) f54.s0.b := loops_ok (by
  have h : loopsIn (f54.lp K) f54.s0.b = [(2, f54.s2.b)] := by kernel_rfl
  rw [h]
  intro p hp
  simp only [List.mem_cons, List.not_mem_nil, or_false] at hp
  rcases hp with rfl
  · exact ⟨_, rfl, (f54.s2.ok K)⟩)
theorem f54.s0.ok (K : Nat) : SummOK Try.prog 94 0 (summOf (iter (f54.s0 K) K) f54.s0.inX f54.s0.des) f54.s0.b :=
  loop_ok mix tys_ok (f54.tabOK K) (h := f54.s0.h) (ho := f54.s0.ho) (shp := f54.s0.shp) (inX := f54.s0.inX) (des := f54.s0.des) (out := f54.s0.out) (inY := f54.s0.inY) (fuel := 400)
    (by intro st x h; unfold f54.s0.inX at h; split at h <;> simp at h; subst h; rfl)
    (by intro e st y h; unfold f54.s0.inY at h; split at h <;> simp at h <;> subst h <;> rfl)
    f54.s0.desOK (f54.s0.lok K) (f54.s0 K) (f54.s0.eq K) K
theorem f54.s4.eq (K : Nat) (rec : f54.Ty1 → Option (List Int)) (x : f54.Ty1) : f54.s4 K rec x = roundL (getA tys) (tabSp (f54.tab K)) 94 0 (f54.lp K) 400 f54.s4.b f54.s4.h f54.s4.ho f54.s4.shp f54.s4.inX f54.s4.inY rec x := by kernel_rfl
theorem f54.s4.lok (K : Nat) : LoopsOK Try.prog 94 0 (f54.lp K) f54.s4.b := loops_ok (by
  have h : loopsIn (f54.lp K) f54.s4.b = [] := by kernel_rfl
  rw [h]; simp)
theorem f54.s4.ok (K : Nat) : SummOK Try.prog 94 0 (summOf (iter (f54.s4 K) K) f54.s4.inX f54.s4.des) f54.s4.b :=
  loop_ok mix tys_ok (f54.tabOK K) (h := f54.s4.h) (ho := f54.s4.ho) (shp := f54.s4.shp) (inX := f54.s4.inX) (des := f54.s4.des) (out := f54.s4.out) (inY := f54.s4.inY) (fuel := 400)
    (by intro st x h; unfold f54.s4.inX at h; split at h <;> simp at h; subst h; rfl)
    (by intro e st y h; unfold f54.s4.inY at h; split at h <;> simp at h <;> subst h <;> rfl)
    f54.s4.desOK (f54.s4.lok K) (f54.s4 K) (f54.s4.eq K) K
theorem f54.loops (K : Nat) : LoopsOK Try.prog 94 0 (f54.lp K) f54.c := loops_ok (by
  have h : loopsIn (f54.lp K) f54.c = [(0, f54.s0.b), (2, f54.s2.b), (4, f54.s4.b)] := by kernel_rfl
  rw [h]
  intro p hp
  simp only [List.mem_cons, List.not_mem_nil, or_false] at hp
  rcases hp with rfl | rfl | rfl
  · exact ⟨_, rfl, (f54.s0.ok K)⟩
  · exact ⟨_, rfl, (f54.s2.ok K)⟩
  · exact ⟨_, rfl, (f54.s4.ok K)⟩)
def f54.T (K : Nat) (a0 : List Int) (a1 : List Int) (a2 : List Int) : Option (f54.Ty5) :=
  (f65.F K ()).bind fun y1 =>
  bif (eqL 4 a2 y1 && true) then
    some ([0, 0, 0, 0], 1)
  else
    (f66.F K a2).bind fun y3 =>
    bif (decide (y3 ≤ 64)) then
      (iter (f54.s0 K) K (0, 2, 0, a2, [0, 0, 0, 0], (spl (spl [] 0 4 a1) 4 4 a0))).bind fun y18 =>
      (f33.F K y18.1).bind fun y19 =>
      some (y19, 0)
    else
      (f65.F K ()).bind fun y20 =>
      (f33.F K 1).bind fun y21 =>
      (f67.F K (y20, y21)).bind fun y22 =>
      (f36.F K (a0, a2)).bind fun y23 =>
      (f36.F K (y22.1, a2)).bind fun y24 =>
      (f33.F K 1).bind fun y25 =>
      (f82.F K (y24.2.1, y25, a2)).bind fun y26 =>
      (f66.F K a1).bind fun y27 =>
      (iter (f54.s4 K) K (y27, 0, a1, a2, y23.2.1, y26)).bind fun y35 =>
      some (y35, 0)
def f54.F (K : Nat) (x : f54.Ty3) : Option (f54.Ty5) := f54.T K x.1 x.2.1 x.2.2
def f54.av (x : f54.Ty3) : List VV := [.agg [.ints .u64 4 x.1], .agg [.ints .u64 4 x.2.1], .agg [.ints .u64 4 x.2.2]]
def f54.bl (_x : f54.Ty3) : List (Nat × Blk) := []
def f54.inA : VS → Option (f54.Ty3)
  | ⟨[(0, .agg [.ints .u64 4 a0]), (1, .agg [.ints .u64 4 a1]), (2, .agg [.ints .u64 4 a2])], [], 0⟩ => some (a0, a1, a2)
  | _ => none
def f54.o0 (y : f54.Ty5) : VS := ⟨[(0, .tup [.agg [.ints .u64 4 y.1], .int .i64 y.2])], [], 0⟩
def f54.des : ∀ α : Type, (f54.Ty5) → (VS → Option α) → Option α := (dv1 f54.o0)
def f54.out : f54.Ty5 → VS := f54.o0
def f54.inR : VS → Option (f54.Ty5)
  | ⟨[(0, .tup [.agg [.ints .u64 4 y_0], .int .i64 y_1])], [], 0⟩ => some (y_0, y_1)
  | _ => none
noncomputable def f54.E (K : Nat) : Entry := genE 0 f54.inA (f54.F K) f54.des
theorem f54.eq (K : Nat) (x : f54.Ty3) : f54.F K x = xrun (getA tys) (tabSp (f54.tab K)) Try.f54.ntmps 0 (f54.lp K) 400 f54.c ⟨initL 0 (f54.av x), f54.bl x, 0⟩ (contF (getA tys) 0 Try.f54.results.toList f54.inR) := by kernel_rfl
theorem f54.ok (K : Nat) : EntryOK Try.prog 54 (f54.E K) :=
  gen_ok mix tys_ok (f54.tabOK K) Try.func54 (by kernel_rfl : Try.f54.body = some f54.c) (by kernel_rfl) (f54.loops K) (av := f54.av) (bl := f54.bl) (out := f54.out) (fuel := 400)
    (by intro s x h; unfold f54.inA at h; split at h <;> simp at h; subst h; rfl) (fun _ => Nat.le_of_ble_eq_true rfl)
    (by intro s y h; unfold f54.inR at h; split at h <;> simp at h <;> subst h <;> rfl) (fun _ _ _ => rfl) (f54.eq K)
end Go.Proofs

namespace Go.Proofs
open Go.VM
theorem mod_step (a t w M : Nat) : (a % M * t + w) % M = (a * t + w) % M := by
  rw [Nat.add_mod, Nat.mul_mod, Nat.mod_mod, ← Nat.mul_mod, ← Nat.add_mod]
theorem two_rows (H L : Nat) : spl (spl [] 0 4 (num H)) 4 4 (num L) = num H ++ num L := rfl
theorem f54.words (X M l : Nat) (hX : X < 2 ^ 256) (hM : 0 < M) (hM64 : M < 18446744073709551616) (hl : l < M) (t z b3 : _) (i : Nat) :
    iter (f54.s2 100000) 100000 ((l : Int), t, (i : Int), 0, num M, z, num X, b3) = some ((((l * 2 ^ 256 + X) % M : Nat) : Int), t, (i : Int), num M, z, b3) := by
  have key := iter_for (stp := f54.s2 100000) (N := 4) (fun j => ((((l * 2 ^ (64 * j) + X / 2 ^ (64 * (4 - j))) % M : Nat) : Int), t, (i : Int), (j : Int), num M, z, num X, b3))
    (y := some ((((l * 2 ^ 256 + X) % M : Nat) : Int), t, (i : Int), num M, z, b3)) (fun j hj rec => by
      simp only [f54.s2, f54.s2t]
      have w1 : IntKind.wrap .i64 (3 - (j : Int)) = ((3 - j : Nat) : Int) := by rw [wrap_i _ (by omega) (by omega)]; omega
      have w2 : IntKind.wrap .i64 ((j : Int) + 1) = ((j + 1 : Nat) : Int) := by rw [wrap_i _ (by omega) (by omega)]; rfl
      have h4 : decide ((0 : Int) ≤ ((3 - j : Nat) : Int) ∧ ((3 - j : Nat) : Int) < 4) = true := inR_nat (n := 4) (by omega)
      have hw : X / 2 ^ (64 * (3 - j)) % 2 ^ 64 < 18446744073709551616 := Nat.mod_lt _ (by decide)
      rw [decide_eq_true (show (j : Int) < 4 by omega), cond_t, w1, w2, h4, cond_t, Int.toNat_natCast, getD_words (show 3 - j < 4 by omega), word0 M hM64,
        f81.spec 100000 _ _ M hM64 (Nat.mod_lt _ hM) hw (by decide), bind_s, mod_step]
      have e1 : X / 2 ^ (64 * (3 - j)) = X / 2 ^ (64 * (4 - j)) * 18446744073709551616 + X / 2 ^ (64 * (3 - j)) % 2 ^ 64 := by
        have h := Nat.mod_add_div (X / 2 ^ (64 * (3 - j))) (2 ^ 64)
        rw [Nat.div_div_eq_div_mul, ← Nat.pow_add, show 64 * (3 - j) + 64 = 64 * (4 - j) by omega] at h
        omega
      have e2 : l * 2 ^ (64 * (j + 1)) = l * 2 ^ (64 * j) * 18446744073709551616 := by
        rw [show 64 * (j + 1) = 64 * j + 64 by omega, Nat.pow_add, ← Nat.mul_assoc]
      rw [show 4 - (j + 1) = 3 - j by omega, e2]
      conv => rhs; rw [e1]
      rw [Nat.add_mul, Nat.add_assoc]) (fun rec => by
      simp only [f54.s2, f54.s2t]
      rw [decide_eq_false (show ¬ ((4 : Nat) : Int) < 4 by decide), cond_f, Nat.sub_self, Nat.mul_zero, Nat.pow_zero, Nat.div_one]) (show 4 < 100000 by decide)
  simp only [Nat.mul_zero, Nat.pow_zero, Nat.mul_one, Nat.sub_zero] at key
  rw [show 64 * 4 = 256 from rfl, Nat.div_eq_of_lt hX, Nat.add_zero, Nat.mod_eq_of_lt hl] at key
  exact key
def wideSo (H L M i : Nat) : Nat := if i = 0 then 0 else if i = 1 then H % M else (H * 2 ^ 256 + L) % M
theorem wideSo0 (H L M : Nat) : wideSo H L M 0 = 0 := if_pos rfl
theorem wideSo1 (H L M : Nat) : wideSo H L M 1 = H % M := by unfold wideSo; rw [if_neg (by decide), if_pos rfl]
theorem wideSo2 (H L M : Nat) : wideSo H L M 2 = (H * 2 ^ 256 + L) % M := by unfold wideSo; rw [if_neg (by decide), if_neg (by decide)]
theorem f54.small (H L M : Nat) (hH : H < 2 ^ 256) (hL : L < 2 ^ 256) (hM : 0 < M) (hM64 : M < 18446744073709551616) (z : _) :
    iter (f54.s0 100000) 100000 (0, 2, 0, num M, z, num H ++ num L) = some ((((H * 2 ^ 256 + L) % M : Nat) : Int), z) := by
  have key := iter_for (stp := f54.s0 100000) (N := 2) (fun i => ((wideSo H L M i : Int), (2 : Int), (i : Int), num M, z, num H ++ num L))
    (y := some ((((H * 2 ^ 256 + L) % M : Nat) : Int), z)) (fun i hi rec => by
      have hi2 : i = 0 ∨ i = 1 := by omega
      have wi : IntKind.wrap .i64 ((i : Int) + 1) = ((i + 1 : Nat) : Int) := by rw [wrap_i _ (by omega) (by omega)]; rfl
      simp only [f54.s0, f54.s0t]
      rw [decide_eq_true (show (i : Int) < 2 by omega), cond_t, decide_eq_true (show 0 ≤ (i : Int) ∧ (i : Int) < 2 by omega), cond_t]
      rcases hi2 with rfl | rfl
      · have hrow : List.take 4 (List.drop (Int.toNat ((0 : Nat) : Int) * 4) (num H ++ num L)) = num H := rfl
        have e := f54.words H M 0 hH hM hM64 hM 2 z (num H ++ num L) 0
        rw [Nat.zero_mul, Nat.zero_add] at e
        rw [hrow, wideSo0, e, bind_s]
        simp only []
        rw [wi, wideSo1]
      · have hrow : List.take 4 (List.drop (Int.toNat ((1 : Nat) : Int) * 4) (num H ++ num L)) = num L := rfl
        have e := f54.words L M (H % M) hL hM hM64 (Nat.mod_lt _ hM) 2 z (num H ++ num L) 1
        rw [hrow, wideSo1, e, bind_s, mod_step]
        simp only []
        rw [wi, wideSo2]) (fun rec => by
      simp only [f54.s0, f54.s0t]
      rw [decide_eq_false (show ¬ ((2 : Nat) : Int) < 2 by decide), cond_f, wideSo2]) (show 2 < 100000 by decide)
  rw [wideSo0] at key
  exact key
theorem f54.bits (H L M : Nat) (hH : H < 2 ^ 256) (hM : 0 < M) (hM' : M < 2 ^ 256) (_hL : L < 2 ^ 256) :
    iter (f54.s4 100000) 100000 (((blen H : Nat) : Int), 0, num H, num M, num (L % M), num (2 ^ 256 % M)) = some (num ((H * 2 ^ 256 + L) % M)) := by
  have hb := blen_256 hH
  have key := iter_for (stp := f54.s4 100000) (N := blen H) (fun i => (((blen H : Nat) : Int), (i : Int), num H, num M, num ((H % 2 ^ i * 2 ^ 256 + L) % M), num (2 ^ (256 + i) % M)))
    (y := some (num ((H * 2 ^ 256 + L) % M))) (fun i hi rec => by
      simp only [f54.s4, f54.s4t]
      have w2 : IntKind.wrap .i64 ((i : Int) + 1) = ((i + 1 : Nat) : Int) := by rw [wrap_i _ (by omega) (by omega)]; rfl
      have hs : num ((2 ^ (256 + i) % M + 2 ^ (256 + i) % M) % M) = num (2 ^ (256 + (i + 1)) % M) := by
        rw [← Nat.add_mod, show 2 ^ (256 + (i + 1)) = 2 ^ (256 + i) + 2 ^ (256 + i) by rw [show 256 + (i + 1) = (256 + i) + 1 from rfl, Nat.pow_succ, Nat.mul_two]]
      have hl := Nat.mod_lt (2 ^ (256 + i)) hM
      have hr := Nat.mod_lt (H % 2 ^ i * 2 ^ 256 + L) hM
      have hbit : H % 2 ^ (i + 1) = H % 2 ^ i + 2 ^ i * (H / 2 ^ i % 2) := by rw [Nat.pow_succ, Nat.mod_mul]
      rw [decide_eq_true (show (i : Int) < ((blen H : Nat) : Int) by omega), cond_t, f83.all H i (by omega), mod_self_of hH, bind_s, w2, f82.spec _ _ M hl hl hM', bind_s, hs, hbit]
      rcases Nat.mod_two_eq_zero_or_one (H / 2 ^ i) with h | h
      · rw [h, show (((0 : Nat) : Int) == 1) = false from rfl, cond_f, Nat.mul_zero, Nat.add_zero (H % 2 ^ i)]
      · rw [h, show (((1 : Nat) : Int) == 1) = true from rfl, cond_t, f82.spec _ _ M hr hl hM', bind_s, ← Nat.add_mod, Nat.mul_one]
        have e : (H % 2 ^ i + 2 ^ i) * 2 ^ 256 + L = H % 2 ^ i * 2 ^ 256 + L + 2 ^ (256 + i) := by
          rw [Nat.add_mul (H % 2 ^ i) (2 ^ i) (2 ^ 256), Nat.pow_add 2 256 i, Nat.mul_comm (2 ^ 256) (2 ^ i)]
          omega
        rw [e, bind_s]) (fun rec => by
      simp only [f54.s4, f54.s4t]
      rw [decide_eq_false (Int.lt_irrefl _), cond_f, Nat.mod_eq_of_lt (blen_lt H)]) (show blen H < 100000 by omega)
  simp only [Nat.pow_zero, Nat.mod_one, Nat.zero_mul, Nat.zero_add, Nat.add_zero] at key
  exact key
theorem f54.spec (L H M : Nat) (hL : L < 2 ^ 256) (hH : H < 2 ^ 256) (hM : M < 2 ^ 256) (h0 : 0 < M) : f54.F 100000 (num L, num H, num M) = some (num ((H * 2 ^ 256 + L) % M), 0) := by
  have mM := mod_self_of hM
  have hz : decide (M = 0 % 2 ^ 256) = false := decide_eq_false (fun h => by rw [Nat.zero_mod] at h; omega)
  have lM := blen_lt M
  simp only [f54.F, f54.T, f65.spec, bind_s, eqL_num, mM, hz, Bool.and_true, cond_f, f66.all, two_rows]
  by_cases h : blen M ≤ 64
  · have hM64 : M < 2 ^ 64 := Nat.lt_of_lt_of_le lM (Nat.pow_le_pow_right (by decide) h)
    have hr : (H * 2 ^ 256 + L) % M < 18446744073709551616 := Nat.lt_trans (Nat.mod_lt _ h0) hM64
    rw [decide_eq_true (show ((blen M : Nat) : Int) ≤ 64 by omega), cond_t, f54.small H L M hH hL h0 hM64, bind_s, f33.nat _ _ hr, bind_s]
  · obtain ⟨gM, _⟩ := blen_ge (x := M) (by omega)
    have hM64 : 2 ^ 64 ≤ M := Nat.le_trans (Nat.pow_le_pow_right (by decide) (by omega)) gM
    have e1 : (0 : Nat) % 2 ^ 256 + 2 ^ 256 - 1 % 2 ^ 256 = 2 ^ 256 - 1 := rfl
    have hp : (2 ^ 256 - 1 : Nat) < 2 ^ 256 := by decide
    have e2 : ((2 ^ 256 - 1) % M + 1) % M = 2 ^ 256 % M := by
      have h1 : (1 : Nat) % M = 1 := Nat.mod_eq_of_lt (by omega)
      have h2 : ((2 ^ 256 - 1) % M + 1 % M) % M = 2 ^ 256 % M := by rw [← Nat.add_mod]
      rwa [h1] at h2
    rw [decide_eq_false (show ¬ ((blen M : Nat) : Int) ≤ 64 by omega), cond_f]
    simp only [f33.one, bind_s, f67.all, e1]
    rw [f36.spec L M hL hM h0, bind_s, f36.spec _ M hp hM h0, bind_s, f82.spec _ 1 M (Nat.mod_lt _ h0) (by omega) hM, bind_s, e2, mod_self_of hH, f54.bits H L M hH h0 hM hL, bind_s]
end Go.Proofs

namespace Go.Proofs
open Go.VM
def Sh.cut (name : List Int) (ps : List (List Int)) : List Int := Sh.frame name ++ be 4 ps.length ++ ps.flatMap Sh.frame
def Sh.sha (name : List Int) (ps : List (List Int)) : List Int := Sh.sum (Sh.cut name ps)
theorem Sh.rep0 : Sh.Rep [] [0, 0, 0, 0, 0, 0, 0, 0, 0, 0, 0, 0, 0, 0, 0, 0, 0, 0, 0, 0, 0, 0, 0, 0, 0, 0, 0, 0, 0, 0, 0, 0, 0, 0, 0, 0, 0, 0, 0, 0, 0, 0, 0, 0, 0, 0, 0, 0, 0, 0, 0, 0, 0, 0, 0, 0, 0, 0, 0, 0, 0, 0, 0, 0] 0 Sh.init :=
  ⟨rfl, by intro x hx; simp only [List.mem_cons, List.not_mem_nil, or_false, or_self] at hx; omega, rfl, rfl, rfl⟩
theorem sha_length (name : List Int) (ps : List (List Int)) : (Sh.sha name ps).length = 32 := digest_length _
theorem sha_octets (name : List Int) (ps : List (List Int)) : octets (Sh.sha name ps) := digest_octets _
def Sh.number (Q : Nat) (name : List Int) (ps : List (List Int)) : Nat := (tv (Sh.sha name (ps ++ [[0]])) * 2 ^ 256 + tv (Sh.sha name (ps ++ [[1]]))) % Q
end Go.Proofs

namespace Go.Proofs
open Go.VM
abbrev f49.Ty0 := List Int × Int × Int × List Int
def f49.T (_K : Nat)  : Option (f49.Ty0) :=
  some ([0, 0, 0, 0, 0, 0, 0, 0, 0, 0, 0, 0, 0, 0, 0, 0, 0, 0, 0, 0, 0, 0, 0, 0, 0, 0, 0, 0, 0, 0, 0, 0, 0, 0, 0, 0, 0, 0, 0, 0, 0, 0, 0, 0, 0, 0, 0, 0, 0, 0, 0, 0, 0, 0, 0, 0, 0, 0, 0, 0, 0, 0, 0, 0], 0, 0, [1779033703, 3144134277, 1013904242, 2773480762, 1359893119, 2600822924, 528734635, 1541459225])
def f49.F (K : Nat) (_x : Unit) : Option (f49.Ty0) := f49.T K
def f49.av (_x : Unit) : List VV := []
def f49.bl (_x : Unit) : List (Nat × Blk) := []
def f49.inA : VS → Option (Unit)
  | ⟨[], [], 0⟩ => some ()
  | _ => none
def f49.o0 (y : f49.Ty0) : VS := ⟨[(0, .ptr 0 0)], [(0, ([.ptr 1 0, .ints .u8 64 y.1, .int .i64 y.2.1, .int .u64 y.2.2.1], 117, .norm)), (1, ([.ints .u32 8 y.2.2.2], 113, .norm))], 2⟩
def f49.inR : VS → Option (f49.Ty0)
  | ⟨[(0, .ptr 0 0)], [(0, ([.ptr 1 0, .ints .u8 64 z0_0, .int .i64 z0_1, .int .u64 z0_2], 117, .norm)), (1, ([.ints .u32 8 z1], 113, .norm))], 2⟩ => some (z0_0, z0_1, z0_2, z1)
  | _ => none
noncomputable def f49.E (K : Nat) : Entry := genE 0 f49.inA (f49.F K) (dv1 f49.o0)
theorem f49.ok (K : Nat) : EntryOK Try.prog 49 (f49.E K) := gen_ok mix tys_ok (tab_ok ( tab_nil)) Try.func49 (c := bodyOf Try.f49) (by kernel_rfl) (by kernel_rfl) (loops_none (lp := lpNone) (by kernel_rfl)) (av := f49.av) (bl := f49.bl) (inR := f49.inR) (out := f49.o0) (fuel := 400)
  (by intro s x h; unfold f49.inA at h; split at h <;> simp at h; rfl) (fun _ => Nat.le_of_ble_eq_true rfl)
  (by intro s y h; unfold f49.inR at h; split at h <;> simp at h <;> subst h <;> rfl) (fun _ _ _ => rfl) (fun _ => by kernel_rfl)
end Go.Proofs

namespace Go.Proofs
open Go.VM
abbrev f30.Ty0 := List Int × Nat × List Int
abbrev f30.Ty1 := Nat × Nat × List Int
def f30.T (K : Nat) (a0 : Nat) (m0_0 : Nat) (m0_1 : List Int) : Option (f30.Ty0) :=
  (f49.F K ()).bind fun y1 =>
  bif ((Nat.ble (0 + a0) m0_0 && true) && true) then
    (f57.F K (y1.1, y1.2.1, y1.2.2.1, a0, y1.2.2.2, a0, (subI m0_1 0 a0))).bind fun y2 =>
    (f51.F K (y2.1, y2.2.1, y2.2.2.1, y2.2.2.2.2.2.2)).bind fun y3 =>
    some (y3.1, m0_0, m0_1)
  else
    none
def f30.F (K : Nat) (x : f30.Ty1) : Option (f30.Ty0) := f30.T K x.1 x.2.1 x.2.2
def f30.av (x : f30.Ty1) : List VV := [.vw true 0 0 x.1 1]
def f30.bl (x : f30.Ty1) : List (Nat × Blk) := [(0, ([.ints .u8 x.2.1 x.2.2], 0, .ro))]
def f30.inA : VS → Option (f30.Ty1)
  | ⟨[(0, .vw true 0 0 a0 1)], [(0, ([.ints .u8 m0_0 m0_1], 0, .ro))], 2⟩ => some (a0, m0_0, m0_1)
  | _ => none
def f30.o0 (y : f30.Ty0) : VS := ⟨[(0, .agg [.ints .u8 32 y.1])], [(0, ([.ints .u8 y.2.1 y.2.2], 0, .ro))], 2⟩
def f30.inR : VS → Option (f30.Ty0)
  | ⟨[(0, .agg [.ints .u8 32 y])], [(0, ([.ints .u8 z0_0 z0_1], 0, .ro))], 2⟩ => some (y, z0_0, z0_1)
  | _ => none
noncomputable def f30.E (K : Nat) : Entry := genE 2 f30.inA (f30.F K) (dv1 f30.o0)
theorem f30.ok (K : Nat) : EntryOK Try.prog 30 (f30.E K) := gen_ok mix tys_ok (sp := tabSp [(49, (f49.E K)), (57, (rowsE 1 .u8 (f57.E K))), (51, (f51.E K))]) (tab_ok ((tab_cons (f49.ok K) (tab_cons (rows_ok (f57.ok K)) (tab_cons (f51.ok K) tab_nil))))) Try.func30 (c := bodyOf Try.f30) (by kernel_rfl) (by kernel_rfl) (loops_none (lp := lpNone) (by kernel_rfl)) (av := f30.av) (bl := f30.bl) (inR := f30.inR) (out := f30.o0) (fuel := 400)
  (by intro s x h; unfold f30.inA at h; split at h <;> simp at h; subst h; rfl) (fun _ => Nat.le_of_ble_eq_true rfl)
  (by intro s y h; unfold f30.inR at h; split at h <;> simp at h <;> subst h <;> rfl) (fun _ _ _ => rfl) (fun _ => by kernel_rfl)
end Go.Proofs

namespace Go.Proofs
open Go.VM
abbrev f50.Ty0 := Int × List Int × Int × Int × Nat × List Int × List Int
abbrev f50.Ty1 := Nat × List Int × Int × Int × Nat × List Int × List Int
def f50.T (K : Nat) (a1 : Nat) (m0_0 : List Int) (m0_1 : Int) (m0_2 : Int) (m1_0 : Nat) (m1_1 : List Int) (m3 : List Int) : Option (f50.Ty0) :=
  bif ((Nat.ble (0 + a1) m1_0 && true) && true) then
    (f57.F K (m0_0, m0_1, m0_2, a1, m3, a1, (subI m1_1 0 a1))).bind fun y1 =>
    some (0, y1.1, y1.2.1, y1.2.2.1, m1_0, m1_1, y1.2.2.2.2.2.2)
  else
    none
def f50.F (K : Nat) (x : f50.Ty1) : Option (f50.Ty0) := f50.T K x.1 x.2.1 x.2.2.1 x.2.2.2.1 x.2.2.2.2.1 x.2.2.2.2.2.1 x.2.2.2.2.2.2
def f50.av (x : f50.Ty1) : List VV := [.ptr 0 0, .vw true 1 0 x.1 2]
def f50.bl (x : f50.Ty1) : List (Nat × Blk) := [(0, ([.ptr 3 0, .ints .u8 64 x.2.1, .int .i64 x.2.2.1, .int .u64 x.2.2.2.1], 117, .norm)), (1, ([.ints .u8 x.2.2.2.2.1 x.2.2.2.2.2.1], 0, .ro)), (3, ([.ints .u32 8 x.2.2.2.2.2.2], 113, .norm))]
def f50.inA : VS → Option (f50.Ty1)
  | ⟨[(0, .ptr 0 0), (1, .vw true 1 0 a1 2)], [(0, ([.ptr 3 0, .ints .u8 64 m0_0, .int .i64 m0_1, .int .u64 m0_2], 117, .norm)), (1, ([.ints .u8 m1_0 m1_1], 0, .ro)), (3, ([.ints .u32 8 m3], 113, .norm))], 4⟩ => some (a1, m0_0, m0_1, m0_2, m1_0, m1_1, m3)
  | _ => none
def f50.o0 (y : f50.Ty0) : VS := ⟨[(0, .int .i64 y.1)], [(0, ([.ptr 4 0, .ints .u8 64 y.2.1, .int .i64 y.2.2.1, .int .u64 y.2.2.2.1], 117, .norm)), (1, ([.ints .u8 y.2.2.2.2.1 y.2.2.2.2.2.1], 0, .ro)), (3, ([], 113, .dead)), (4, ([.ints .u32 8 y.2.2.2.2.2.2], 113, .norm))], 5⟩
def f50.inR : VS → Option (f50.Ty0)
  | ⟨[(0, .int .i64 y)], [(0, ([.ptr 4 0, .ints .u8 64 z0_0, .int .i64 z0_1, .int .u64 z0_2], 117, .norm)), (1, ([.ints .u8 z1_0 z1_1], 0, .ro)), (3, ([], 113, .dead)), (4, ([.ints .u32 8 z4], 113, .norm))], 5⟩ => some (y, z0_0, z0_1, z0_2, z1_0, z1_1, z4)
  | _ => none
noncomputable def f50.E (K : Nat) : Entry := genE 4 f50.inA (f50.F K) (dv1 f50.o0)
theorem f50.ok (K : Nat) : EntryOK Try.prog 50 (f50.E K) := gen_ok mix tys_ok (sp := tabSp [(57, (rowsE 1 .u8 (f57.E K)))]) (tab_ok ((tab_cons (rows_ok (f57.ok K)) tab_nil))) Try.func50 (c := bodyOf Try.f50) (by kernel_rfl) (by kernel_rfl) (loops_none (lp := lpNone) (by kernel_rfl)) (av := f50.av) (bl := f50.bl) (inR := f50.inR) (out := f50.o0) (fuel := 400)
  (by intro s x h; unfold f50.inA at h; split at h <;> simp at h; subst h; rfl) (fun _ => Nat.le_of_ble_eq_true rfl)
  (by intro s y h; unfold f50.inR at h; split at h <;> simp at h <;> subst h <;> rfl) (fun _ _ _ => rfl) (fun _ => by kernel_rfl)
end Go.Proofs

namespace Go.Proofs
open Go.VM
abbrev f48.Ty0 := Int × Int × List Int × List Int
abbrev f48.Ty1 := List Int × List Int
abbrev f48.Ty2 := Int × List Int
noncomputable def f48.c : Code := bodyOf Try.f48
def f48.s0t (_K : Nat) (rec : f48.Ty0 → Option (f48.Ty1)) (t0 : Int) (t7 : Int) (b0 : List Int) (b1 : List Int) : Option (f48.Ty1) :=
  bif (decide (t7 < 64)) then
    bif decide (0 ≤ t7 ∧ t7 < 64) then
      bif decide (0 ≤ t7 ∧ t7 < 64) then
        rec (t0, (IntKind.wrap .i64 (t7 + 1)), b0, (setD b1 (Int.toNat t7) (bits .xor .u8 (List.getD b1 (Int.toNat t7) 0) t0)))
      else
        none
    else
      none
  else
    some (b0, b1)
def f48.s0 (K : Nat) (rec : f48.Ty0 → Option (f48.Ty1)) (x : f48.Ty0) : Option (f48.Ty1) := f48.s0t K rec x.1 x.2.1 x.2.2.1 x.2.2.2
noncomputable def f48.s0.b : Code := (findLoop 0 f48.c).getD .skip
def f48.s0.h : Hint := { lv := [0, 4, 7] }
def f48.s0.ho : Hint := { lv := [4] }
def f48.s0.shp (x : f48.Ty0) : VS := ⟨[(0, .int .u8 x.1), (4, .ptr 1 0), (7, .int .i64 x.2.1)], [(0, ([.ints .u8 64 x.2.2.1], 75, .norm)), (1, ([.ints .u8 64 x.2.2.2], 75, .norm))], 2⟩
def f48.s0.inX : VS → Option (f48.Ty0)
  | ⟨[(0, .int .u8 t0), (4, .ptr 1 0), (7, .int .i64 t7)], [(0, ([.ints .u8 64 b0], 75, .norm)), (1, ([.ints .u8 64 b1], 75, .norm))], 2⟩ => some (t0, t7, b0, b1)
  | _ => none
def f48.s0.o0 (y : f48.Ty1) : VS := ⟨[(4, .ptr 1 0)], [(0, ([.ints .u8 64 y.1], 75, .norm)), (1, ([.ints .u8 64 y.2], 75, .norm))], 2⟩
def f48.s0.des : ∀ α : Type, (f48.Ty1) → (Ex → VS → Option α) → Option α := (des1 (.exit 0) f48.s0.o0)
def f48.s0.out : f48.Ty1 → Ex × VS := (fun y => (.exit 0, f48.s0.o0 y))
theorem f48.s0.desOK : ∀ α y (k : Ex → VS → Option α), f48.s0.des α y k = k (f48.s0.out y).1 (f48.s0.out y).2 := (fun _ _ _ => rfl)
def f48.s0.inY : Ex → VS → Option (f48.Ty1)
  | .exit 0, ⟨[(4, .ptr 1 0)], [(0, ([.ints .u8 64 b0], 75, .norm)), (1, ([.ints .u8 64 b1], 75, .norm))], 2⟩ => some (b0, b1)
  | _, _ => none
def f48.lp (K : Nat) : Nat → Option (Hint × Summ) := tabLp [(0, f48.s0.h, summOf (iter (f48.s0 K) K) f48.s0.inX f48.s0.des)]
noncomputable def f48.tab (_K : Nat) : List (Nat × Entry) := []
theorem f48.tabOK (K : Nat) : SpecOK Try.prog (tabSp (f48.tab K)) := tab_ok ( tab_nil)
theorem f48.s0.eq (K : Nat) (rec : f48.Ty0 → Option (f48.Ty1)) (x : f48.Ty0) : f48.s0 K rec x = roundL (getA tys) (tabSp (f48.tab K)) 18 1 (f48.lp K) 400 f48.s0.b f48.s0.h f48.s0.ho f48.s0.shp f48.s0.inX f48.s0.inY rec x := by kernel_rfl
theorem f48.s0.lok (K : Nat) : LoopsOK Try.prog 18 1 (f48.lp K) f48.s0.b := loops_ok (by
  have h : loopsIn (f48.lp K) f48.s0.b = [] := by kernel_rfl
  rw [h]; simp)
theorem f48.s0.ok (K : Nat) : SummOK Try.prog 18 1 (summOf (iter (f48.s0 K) K) f48.s0.inX f48.s0.des) f48.s0.b :=
  loop_ok mix tys_ok (f48.tabOK K) (h := f48.s0.h) (ho := f48.s0.ho) (shp := f48.s0.shp) (inX := f48.s0.inX) (des := f48.s0.des) (out := f48.s0.out) (inY := f48.s0.inY) (fuel := 400)
    (by intro st x h; unfold f48.s0.inX at h; split at h <;> simp at h; subst h; rfl)
    (by intro e st y h; unfold f48.s0.inY at h; split at h <;> simp at h <;> subst h <;> rfl)
    f48.s0.desOK (f48.s0.lok K) (f48.s0 K) (f48.s0.eq K) K
theorem f48.loops (K : Nat) : LoopsOK Try.prog 18 1 (f48.lp K) f48.c := loops_ok (by
  have h : loopsIn (f48.lp K) f48.c = [(0, f48.s0.b)] := by kernel_rfl
  rw [h]
  intro p hp
  simp only [List.mem_cons, List.not_mem_nil, or_false] at hp
  rcases hp with rfl
  · exact ⟨_, rfl, (f48.s0.ok K)⟩)
def f48.T (K : Nat) (a0 : Int) (m0 : List Int) : Option (f48.Ty1) :=
  (iter (f48.s0 K) K (a0, 0, m0, m0)).bind fun y8 =>
  some (y8.1, y8.2)
def f48.F (K : Nat) (x : f48.Ty2) : Option (f48.Ty1) := f48.T K x.1 x.2
def f48.av (x : f48.Ty2) : List VV := [.int .u8 x.1, .ptr 0 0]
def f48.bl (x : f48.Ty2) : List (Nat × Blk) := [(0, ([.ints .u8 64 x.2], 75, .norm))]
def f48.inA : VS → Option (f48.Ty2)
  | ⟨[(0, .int .u8 a0), (1, .ptr 0 0)], [(0, ([.ints .u8 64 m0], 75, .norm))], 1⟩ => some (a0, m0)
  | _ => none
def f48.o0 (y : f48.Ty1) : VS := ⟨[(0, .sl 1 0 64 64)], [(0, ([.ints .u8 64 y.1], 75, .norm)), (1, ([.ints .u8 64 y.2], 75, .norm))], 2⟩
def f48.des : ∀ α : Type, (f48.Ty1) → (VS → Option α) → Option α := (dv1 f48.o0)
def f48.out : f48.Ty1 → VS := f48.o0
def f48.inR : VS → Option (f48.Ty1)
  | ⟨[(0, .sl 1 0 64 64)], [(0, ([.ints .u8 64 z0], 75, .norm)), (1, ([.ints .u8 64 z1], 75, .norm))], 2⟩ => some (z0, z1)
  | _ => none
noncomputable def f48.E (K : Nat) : Entry := genE 1 f48.inA (f48.F K) f48.des
theorem f48.eq (K : Nat) (x : f48.Ty2) : f48.F K x = xrun (getA tys) (tabSp (f48.tab K)) Try.f48.ntmps 1 (f48.lp K) 400 f48.c ⟨initL 0 (f48.av x), f48.bl x, 1⟩ (contF (getA tys) 1 Try.f48.results.toList f48.inR) := by kernel_rfl
theorem f48.ok (K : Nat) : EntryOK Try.prog 48 (f48.E K) :=
  gen_ok mix tys_ok (f48.tabOK K) Try.func48 (by kernel_rfl : Try.f48.body = some f48.c) (by kernel_rfl) (f48.loops K) (av := f48.av) (bl := f48.bl) (out := f48.out) (fuel := 400)
    (by intro s x h; unfold f48.inA at h; split at h <;> simp at h; subst h; rfl) (fun _ => Nat.le_of_ble_eq_true rfl)
    (by intro s y h; unfold f48.inR at h; split at h <;> simp at h <;> subst h <;> rfl) (fun _ _ _ => rfl) (f48.eq K)
end Go.Proofs

namespace Go.Proofs
open Go.VM
abbrev f15.Ty0 := List Int × Nat × List Int × Nat × Nat × Nat × List Int × Nat × List Int
abbrev f15.Ty1 := Nat × Nat × List Int × Nat × Nat × Nat × List Int × Nat × List Int
def f15.T (K : Nat) (a0 : Nat) (m0_0 : Nat) (m0_1 : List Int) (m2_0 : Nat) (m2_1 : Nat) (m4_0 : Nat) (m4_1 : List Int) (m6_0 : Nat) (m6_1 : List Int) : Option (f15.Ty0) :=
  bif (decide (((a0 : Nat) : Int) > 64)) then
    bif ((Nat.ble (0 + a0) m0_0 && true) && true) then
      (f30.F K (a0, a0, (subI m0_1 0 a0))).bind fun y3 =>
      (f49.F K ()).bind fun y5 =>
      (f49.F K ()).bind fun y6 =>
      (f48.F K (54, (spl [0, 0, 0, 0, 0, 0, 0, 0, 0, 0, 0, 0, 0, 0, 0, 0, 0, 0, 0, 0, 0, 0, 0, 0, 0, 0, 0, 0, 0, 0, 0, 0, 0, 0, 0, 0, 0, 0, 0, 0, 0, 0, 0, 0, 0, 0, 0, 0, 0, 0, 0, 0, 0, 0, 0, 0, 0, 0, 0, 0, 0, 0, 0, 0] 0 32 (subI y3.1 0 32)))).bind fun y7 =>
      (f50.F K (64, y5.1, y5.2.1, y5.2.2.1, 64, (subI y7.2 0 64), y5.2.2.2)).bind fun y8 =>
      bif ((Nat.ble (0 + m2_0) m4_0 && true) && true) then
        (f50.F K (m2_0, y8.2.1, y8.2.2.1, y8.2.2.2.1, m2_0, (subI m4_1 0 m2_0), y8.2.2.2.2.2.2)).bind fun y9 =>
        bif ((Nat.ble (0 + m2_1) m6_0 && true) && true) then
          (f50.F K (m2_1, y9.2.1, y9.2.2.1, y9.2.2.2.1, m2_1, (subI m6_1 0 m2_1), y9.2.2.2.2.2.2)).bind fun y10 =>
          (f51.F K (y10.2.1, y10.2.2.1, y10.2.2.2.1, y10.2.2.2.2.2.2)).bind fun y11 =>
          (f48.F K (92, y7.1)).bind fun y12 =>
          (f50.F K (64, y6.1, y6.2.1, y6.2.2.1, 64, (subI y12.2 0 64), y6.2.2.2)).bind fun y13 =>
          (f50.F K (32, y13.2.1, y13.2.2.1, y13.2.2.2.1, 32, (subI y11.1 0 32), y13.2.2.2.2.2.2)).bind fun y14 =>
          (f51.F K (y14.2.1, y14.2.2.1, y14.2.2.2.1, y14.2.2.2.2.2.2)).bind fun y15 =>
          some (y15.1, m0_0, m0_1, m2_0, m2_1, m4_0, m4_1, m6_0, m6_1)
        else
          none
      else
        none
    else
      none
  else
    bif ((Nat.ble (0 + a0) m0_0 && true) && (Nat.beq a0 a0)) then
      (f49.F K ()).bind fun y18 =>
      (f49.F K ()).bind fun y19 =>
      (f48.F K (54, (spl [0, 0, 0, 0, 0, 0, 0, 0, 0, 0, 0, 0, 0, 0, 0, 0, 0, 0, 0, 0, 0, 0, 0, 0, 0, 0, 0, 0, 0, 0, 0, 0, 0, 0, 0, 0, 0, 0, 0, 0, 0, 0, 0, 0, 0, 0, 0, 0, 0, 0, 0, 0, 0, 0, 0, 0, 0, 0, 0, 0, 0, 0, 0, 0] 0 (Nat.min a0 64) (subI m0_1 0 a0)))).bind fun y20 =>
      (f50.F K (64, y18.1, y18.2.1, y18.2.2.1, 64, (subI y20.2 0 64), y18.2.2.2)).bind fun y21 =>
      bif ((Nat.ble (0 + m2_0) m4_0 && true) && true) then
        (f50.F K (m2_0, y21.2.1, y21.2.2.1, y21.2.2.2.1, m2_0, (subI m4_1 0 m2_0), y21.2.2.2.2.2.2)).bind fun y22 =>
        bif ((Nat.ble (0 + m2_1) m6_0 && true) && true) then
          (f50.F K (m2_1, y22.2.1, y22.2.2.1, y22.2.2.2.1, m2_1, (subI m6_1 0 m2_1), y22.2.2.2.2.2.2)).bind fun y23 =>
          (f51.F K (y23.2.1, y23.2.2.1, y23.2.2.2.1, y23.2.2.2.2.2.2)).bind fun y24 =>
          (f48.F K (92, y20.1)).bind fun y25 =>
          (f50.F K (64, y19.1, y19.2.1, y19.2.2.1, 64, (subI y25.2 0 64), y19.2.2.2)).bind fun y26 =>
          (f50.F K (32, y26.2.1, y26.2.2.1, y26.2.2.2.1, 32, (subI y24.1 0 32), y26.2.2.2.2.2.2)).bind fun y27 =>
          (f51.F K (y27.2.1, y27.2.2.1, y27.2.2.2.1, y27.2.2.2.2.2.2)).bind fun y28 =>
          some (y28.1, m0_0, m0_1, m2_0, m2_1, m4_0, m4_1, m6_0, m6_1)
        else
          none
      else
        none
    else
      none
def f15.F (K : Nat) (x : f15.Ty1) : Option (f15.Ty0) := f15.T K x.1 x.2.1 x.2.2.1 x.2.2.2.1 x.2.2.2.2.1 x.2.2.2.2.2.1 x.2.2.2.2.2.2.1 x.2.2.2.2.2.2.2.1 x.2.2.2.2.2.2.2.2
def f15.av (x : f15.Ty1) : List VV := [.vw true 0 0 x.1 1, .vw true 2 0 2 3]
def f15.bl (x : f15.Ty1) : List (Nat × Blk) := [(0, ([.ints .u8 x.2.1 x.2.2.1], 0, .ro)), (2, ([.vw true 4 0 x.2.2.2.1 5, .vw true 6 0 x.2.2.2.2.1 7], 0, .ro)), (4, ([.ints .u8 x.2.2.2.2.2.1 x.2.2.2.2.2.2.1], 0, .ro)), (6, ([.ints .u8 x.2.2.2.2.2.2.2.1 x.2.2.2.2.2.2.2.2], 0, .ro))]
def f15.inA : VS → Option (f15.Ty1)
  | ⟨[(0, .vw true 0 0 a0 1), (1, .vw true 2 0 2 3)], [(0, ([.ints .u8 m0_0 m0_1], 0, .ro)), (2, ([.vw true 4 0 m2_0 5, .vw true 6 0 m2_1 7], 0, .ro)), (4, ([.ints .u8 m4_0 m4_1], 0, .ro)), (6, ([.ints .u8 m6_0 m6_1], 0, .ro))], 8⟩ => some (a0, m0_0, m0_1, m2_0, m2_1, m4_0, m4_1, m6_0, m6_1)
  | _ => none
def f15.o0 (y : f15.Ty0) : VS := ⟨[(0, .agg [.ints .u8 32 y.1])], [(0, ([.ints .u8 y.2.1 y.2.2.1], 0, .ro)), (2, ([.vw true 4 0 y.2.2.2.1 5, .vw true 6 0 y.2.2.2.2.1 7], 0, .ro)), (4, ([.ints .u8 y.2.2.2.2.2.1 y.2.2.2.2.2.2.1], 0, .ro)), (6, ([.ints .u8 y.2.2.2.2.2.2.2.1 y.2.2.2.2.2.2.2.2], 0, .ro))], 8⟩
def f15.inR : VS → Option (f15.Ty0)
  | ⟨[(0, .agg [.ints .u8 32 y])], [(0, ([.ints .u8 z0_0 z0_1], 0, .ro)), (2, ([.vw true 4 0 z2_0 5, .vw true 6 0 z2_1 7], 0, .ro)), (4, ([.ints .u8 z4_0 z4_1], 0, .ro)), (6, ([.ints .u8 z6_0 z6_1], 0, .ro))], 8⟩ => some (y, z0_0, z0_1, z2_0, z2_1, z4_0, z4_1, z6_0, z6_1)
  | _ => none
noncomputable def f15.E (K : Nat) : Entry := genE 8 f15.inA (f15.F K) (dv1 f15.o0)
theorem f15.ok (K : Nat) : EntryOK Try.prog 15 (f15.E K) := gen_ok mix tys_ok (sp := tabSp [(30, (viewE [(0, .u8)] (f30.E K))), (49, (f49.E K)), (48, (f48.E K)), (50, (viewE [(1, .u8)] (f50.E K))), (51, (f51.E K))]) (tab_ok ((tab_cons (view_ok (f30.ok K)) (tab_cons (f49.ok K) (tab_cons (f48.ok K) (tab_cons (view_ok (f50.ok K)) (tab_cons (f51.ok K) tab_nil))))))) Try.func15 (c := bodyOf Try.f15) (by kernel_rfl) (by kernel_rfl) (loops_none (lp := lpNone) (by kernel_rfl)) (av := f15.av) (bl := f15.bl) (inR := f15.inR) (out := f15.o0) (fuel := 400)
  (by intro s x h; unfold f15.inA at h; split at h <;> simp at h; subst h; rfl) (fun _ => Nat.le_of_ble_eq_true rfl)
  (by intro s y h; unfold f15.inR at h; split at h <;> simp at h <;> subst h <;> rfl) (fun _ _ _ => rfl) (fun _ => by kernel_rfl)
end Go.Proofs

namespace Go.Proofs
open Go.VM
theorem sum_length (m : List Int) : (Sh.sum m).length = 32 := digest_length _
theorem sum_octets (m : List Int) : octets (Sh.sum m) := digest_octets _
theorem f30.spec (K n : Nat) (m : List Int) (hm : m.length = n) (ho : octets m) (hn : n ≤ 1000000000000) (hK : 300 + n < K) : f30.F K (n, n, m) = some (Sh.sum m, n, m) := by
  simp only [f30.F, f30.T]
  rw [show f49.F K () = some ([0, 0, 0, 0, 0, 0, 0, 0, 0, 0, 0, 0, 0, 0, 0, 0, 0, 0, 0, 0, 0, 0, 0, 0, 0, 0, 0, 0, 0, 0, 0, 0, 0, 0, 0, 0, 0, 0, 0, 0, 0, 0, 0, 0, 0, 0, 0, 0, 0, 0, 0, 0, 0, 0, 0, 0, 0, 0, 0, 0, 0, 0, 0, 0], 0, 0, Sh.init) from rfl, bind_s]
  simp only []
  rw [Nat.zero_add, ble_true (Nat.le_refl n), Bool.and_self, Bool.and_self, cond_t, subI_self _ hm]
  obtain ⟨b', h', s', e, R⟩ := f57.spec K [] n m hm ho hn _ _ _ Sh.rep0 (by omega)
  rw [show f57.F K ([0, 0, 0, 0, 0, 0, 0, 0, 0, 0, 0, 0, 0, 0, 0, 0, 0, 0, 0, 0, 0, 0, 0, 0, 0, 0, 0, 0, 0, 0, 0, 0, 0, 0, 0, 0, 0, 0, 0, 0, 0, 0, 0, 0, 0, 0, 0, 0, 0, 0, 0, 0, 0, 0, 0, 0, 0, 0, 0, 0, 0, 0, 0, 0], 0, 0, n, Sh.init, n, m) = _ from e, bind_s]
  simp only []
  rw [f51.spec K _ _ _ _ R (by omega), bind_s]
  rfl
theorem f50.spec (K : Nat) (m : List Int) (n : Nat) (l : List Int) (hl : l.length = n) (ho : octets l) (hn : n ≤ 1000000000000) (b s : List Int) (h : Int) (R : Sh.Rep m b h s) (hK : 64 + n < K) :
    ∃ b' h' s', f50.F K (n, b, h, ((m.length % 18446744073709551616 : Nat) : Int), n, l, s) = some (0, b', h', (((m ++ l).length % 18446744073709551616 : Nat) : Int), n, l, s') ∧ Sh.Rep (m ++ l) b' h' s' := by
  obtain ⟨b', h', s', e, R'⟩ := f57.spec K m n l hl ho hn b s h R hK
  refine ⟨b', h', s', ?_, R'⟩
  simp only [f50.F, f50.T]
  rw [Nat.zero_add, ble_true (Nat.le_refl n), Bool.and_self, Bool.and_self, cond_t, subI_self _ hl, e, bind_s]
theorem list_getD {l m : List Int} (h : l.length = m.length) (g : ∀ i, i < l.length → l.getD i 0 = m.getD i 0) : l = m := by
  apply List.ext_getElem h
  intro i h1 h2
  have := g i h1
  simpa [List.getD_eq_getElem?_getD, h1, h2] using this
def Sh.xr (by' : Int) (k : List Int) : List Int := k.map fun x => bits .xor .u8 x by'
theorem wrap8 (z : Int) : IntKind.wrap .u8 z = z % 256 := by simp [IntKind.wrap, IntKind.signed, IntKind.bits]
theorem xor_octet (x y : Int) : 0 ≤ bits .xor .u8 x y ∧ bits .xor .u8 x y < 256 := by
  show 0 ≤ IntKind.wrap .u8 _ ∧ IntKind.wrap .u8 _ < 256
  rw [wrap8]
  omega
theorem xr_length (y : Int) (k : List Int) : (Sh.xr y k).length = k.length := by simp [Sh.xr]
theorem xr_octets (y : Int) (k : List Int) : octets (Sh.xr y k) := by
  intro x hx
  obtain ⟨z, _, rfl⟩ := List.mem_map.1 hx
  exact xor_octet z y
theorem f48.spec (K : Nat) (y : Int) (k : List Int) (hk : k.length = 64) (hK : 64 < K) : f48.F K (y, k) = some (k, Sh.xr y k) := by
  have := iter_for (stp := f48.s0 K) (N := 64) (fun i => (y, (i : Int), k, Sh.xr y (k.take i) ++ k.drop i)) (y := some (k, Sh.xr y k)) ?_ ?_ hK
  · simp only [f48.F, f48.T]
    rw [show iter (f48.s0 K) K (y, 0, k, k) = _ from this, bind_s]
  · intro i hi rec
    simp only [f48.s0, f48.s0t]
    have hd : List.getD (Sh.xr y (k.take i) ++ k.drop i) i 0 = k.getD i 0 := by
      rw [List.getD_eq_getElem?_getD, List.getElem?_append_right (by rw [xr_length, List.length_take]; omega), xr_length, List.length_take, List.getElem?_drop, List.getD_eq_getElem?_getD]
      congr 2; omega
    rw [decide_eq_true (show (i : Int) < 64 by omega), cond_t, decide_eq_true (show (0 : Int) ≤ (i : Int) ∧ (i : Int) < 64 by omega), cond_t, cond_t, Int.toNat_natCast, hd, wrap_i _ (by omega) (by omega), setD_eq_set _ _ _ (by rw [List.length_append, xr_length, List.length_take, List.length_drop]; omega)]
    congr 4
    have e1 : k.drop i = k.getD i 0 :: k.drop (i + 1) := by
      rw [List.drop_eq_getElem_cons (by omega)]; simp [List.getD_eq_getElem?_getD, show i < k.length by omega]
    have e2 : k.take (i + 1) = k.take i ++ [k.getD i 0] := by
      rw [List.take_add_one, List.getElem?_eq_getElem (by omega)]; simp [List.getD_eq_getElem?_getD, show i < k.length by omega]
    rw [e2, e1, List.set_append, if_neg (by rw [xr_length, List.length_take]; omega)]
    have e3 : i - (Sh.xr y (k.take i)).length = 0 := by rw [xr_length, List.length_take]; omega
    rw [e3]
    simp [Sh.xr]
  · intro rec
    simp only [f48.s0, f48.s0t]
    rw [decide_eq_false (show ¬ (((64 : Nat) : Int)) < 64 by omega), cond_f, List.take_of_length_le (by omega), List.drop_of_length_le (by omega), List.append_nil]
def Sh.key (k : List Int) : List Int := padT (if 64 < k.length then Sh.sum k else k) 64
def Sh.mac (k m : List Int) : List Int := Sh.sum (Sh.xr 92 (Sh.key k) ++ Sh.sum (Sh.xr 54 (Sh.key k) ++ m))
theorem mac_length (k m : List Int) : (Sh.mac k m).length = 32 := sum_length _
theorem mac_octets (k m : List Int) : octets (Sh.mac k m) := sum_octets _
theorem spl_key (k : List Int) (n : Nat) (hk : k.length = n) (hn : n ≤ 64) :
    spl [0, 0, 0, 0, 0, 0, 0, 0, 0, 0, 0, 0, 0, 0, 0, 0, 0, 0, 0, 0, 0, 0, 0, 0, 0, 0, 0, 0, 0, 0, 0, 0, 0, 0, 0, 0, 0, 0, 0, 0, 0, 0, 0, 0, 0, 0, 0, 0, 0, 0, 0, 0, 0, 0, 0, 0, 0, 0, 0, 0, 0, 0, 0, 0] 0 n k = padT k 64 := by
  have hz : ([0, 0, 0, 0, 0, 0, 0, 0, 0, 0, 0, 0, 0, 0, 0, 0, 0, 0, 0, 0, 0, 0, 0, 0, 0, 0, 0, 0, 0, 0, 0, 0, 0, 0, 0, 0, 0, 0, 0, 0, 0, 0, 0, 0, 0, 0, 0, 0, 0, 0, 0, 0, 0, 0, 0, 0, 0, 0, 0, 0, 0, 0, 0, 0] : List Int) = List.replicate 64 0 := rfl
  rw [hz]
  refine list_getD (by simp [spl, padT]; omega) fun i hi => ?_
  have hi' : i < 64 := by simp [spl, padT] at hi; omega
  rw [getD_spl, getD_padT, if_pos hi']
  rw [if_neg (by omega)]
  by_cases h : i < n
  · rw [if_pos (by omega), Nat.sub_zero]
  · rw [if_neg (by omega)]
    simp only [List.getD_eq_getElem?_getD]
    rw [List.getElem?_eq_none (show k.length ≤ i by omega), List.getElem?_replicate, if_pos hi']
    rfl
theorem f15.spec (K n : Nat) (k : List Int) (p0 : Nat) (l0 : List Int) (p1 : Nat) (l1 : List Int) (hk : k.length = n) (hko : octets k) (hn : n ≤ 1000000000) (e0 : l0.length = p0) (o0 : octets l0) (z0 : p0 ≤ 1000000000) (e1 : l1.length = p1) (o1 : octets l1) (z1 : p1 ≤ 1000000000) (hK : 400 + n + p0 + p1 < K) :
    f15.F K (n, n, k, p0, p1, p0, l0, p1, l1) = some (Sh.mac k (l0 ++ l1), n, k, p0, p1, p0, l0, p1, l1) := by
  have h42 : f49.F K () = some ([0, 0, 0, 0, 0, 0, 0, 0, 0, 0, 0, 0, 0, 0, 0, 0, 0, 0, 0, 0, 0, 0, 0, 0, 0, 0, 0, 0, 0, 0, 0, 0, 0, 0, 0, 0, 0, 0, 0, 0, 0, 0, 0, 0, 0, 0, 0, 0, 0, 0, 0, 0, 0, 0, 0, 0, 0, 0, 0, 0, 0, 0, 0, 0], 0, 0, Sh.init) := rfl
  simp only [f15.F, f15.T]
  by_cases h : 64 < n
  · rw [decide_eq_true (show ((n : Nat) : Int) > 64 by omega), cond_t, Nat.zero_add, ble_true (Nat.le_refl n), Bool.and_self, Bool.and_self, cond_t, subI_self _ hk, f30.spec K n k hk hko (by omega) (by omega), bind_s, h42, bind_s, bind_s]
    simp only []
    rw [subI_self _ (sum_length k), spl_key _ 32 (sum_length k) (by omega)]
    rw [f48.spec K 54 (padT (Sh.sum k) 64) (padT_length _ _) (by omega), bind_s]
    simp only []
    rw [subI_self _ (show (Sh.xr 54 (padT (Sh.sum k) 64)).length = 64 by rw [xr_length, padT_length])]
    obtain ⟨b1, h1, s1, E1, R1⟩ := f50.spec K [] 64 (Sh.xr 54 (padT (Sh.sum k) 64)) (by rw [xr_length, padT_length]) (xr_octets _ _) (by omega) _ _ _ Sh.rep0 (by omega)
    rw [show f50.F K (64, [0, 0, 0, 0, 0, 0, 0, 0, 0, 0, 0, 0, 0, 0, 0, 0, 0, 0, 0, 0, 0, 0, 0, 0, 0, 0, 0, 0, 0, 0, 0, 0, 0, 0, 0, 0, 0, 0, 0, 0, 0, 0, 0, 0, 0, 0, 0, 0, 0, 0, 0, 0, 0, 0, 0, 0, 0, 0, 0, 0, 0, 0, 0, 0], 0, 0, 64, Sh.xr 54 (padT (Sh.sum k) 64), Sh.init) = _ from E1, bind_s]
    simp only []
    rw [Nat.zero_add, ble_true (Nat.le_refl p0), Bool.and_self, Bool.and_self, cond_t, subI_self _ e0]
    obtain ⟨c0, h2_0, s2_0, g0, S0⟩ := f50.spec K _ p0 l0 e0 o0 (by omega) _ _ _ R1 (by omega)
    rw [g0, bind_s]
    simp only []
    rw [Nat.zero_add, ble_true (Nat.le_refl p1), Bool.and_self, Bool.and_self, cond_t, subI_self _ e1]
    obtain ⟨c1, h2_1, s2_1, g1, S1⟩ := f50.spec K _ p1 l1 e1 o1 (by omega) _ _ _ S0 (by omega)
    rw [g1, bind_s]
    simp only []
    rw [f51.spec K _ _ _ _ S1 (by omega), bind_s]
    simp only []
    rw [f48.spec K 92 (padT (Sh.sum k) 64) (padT_length _ _) (by omega), bind_s]
    simp only []
    rw [subI_self _ (show (Sh.xr 92 (padT (Sh.sum k) 64)).length = 64 by rw [xr_length, padT_length])]
    obtain ⟨b3, h3, s3, E3, R3⟩ := f50.spec K [] 64 (Sh.xr 92 (padT (Sh.sum k) 64)) (by rw [xr_length, padT_length]) (xr_octets _ _) (by omega) _ _ _ Sh.rep0 (by omega)
    rw [show f50.F K (64, [0, 0, 0, 0, 0, 0, 0, 0, 0, 0, 0, 0, 0, 0, 0, 0, 0, 0, 0, 0, 0, 0, 0, 0, 0, 0, 0, 0, 0, 0, 0, 0, 0, 0, 0, 0, 0, 0, 0, 0, 0, 0, 0, 0, 0, 0, 0, 0, 0, 0, 0, 0, 0, 0, 0, 0, 0, 0, 0, 0, 0, 0, 0, 0], 0, 0, 64, Sh.xr 92 (padT (Sh.sum k) 64), Sh.init) = _ from E3, bind_s]
    simp only []
    rw [subI_self _ (sum_length _)]
    obtain ⟨b4, h4, s4, E4, R4⟩ := f50.spec K _ 32 _ (sum_length ([] ++ Sh.xr 54 (padT (Sh.sum k) 64) ++ l0 ++ l1)) (sum_octets _) (by omega) _ _ _ R3 (by omega)
    rw [E4, bind_s]
    simp only []
    rw [f51.spec K _ _ _ _ R4 (by omega), bind_s]
    simp only [Sh.mac, Sh.key, if_pos (show 64 < k.length by omega), List.nil_append, List.append_assoc]
  · rw [decide_eq_false (show ¬ ((n : Nat) : Int) > 64 by omega), cond_f, Nat.zero_add, ble_true (Nat.le_refl n), show Nat.beq n n = true from by simp, Bool.and_self, Bool.and_self, cond_t, h42, bind_s, bind_s]
    simp only []
    rw [subI_self _ hk, show Nat.min n 64 = n from Nat.min_eq_left (by omega), spl_key _ n hk (by omega)]
    rw [f48.spec K 54 (padT k 64) (padT_length _ _) (by omega), bind_s]
    simp only []
    rw [subI_self _ (show (Sh.xr 54 (padT k 64)).length = 64 by rw [xr_length, padT_length])]
    obtain ⟨b1, h1, s1, E1, R1⟩ := f50.spec K [] 64 (Sh.xr 54 (padT k 64)) (by rw [xr_length, padT_length]) (xr_octets _ _) (by omega) _ _ _ Sh.rep0 (by omega)
    rw [show f50.F K (64, [0, 0, 0, 0, 0, 0, 0, 0, 0, 0, 0, 0, 0, 0, 0, 0, 0, 0, 0, 0, 0, 0, 0, 0, 0, 0, 0, 0, 0, 0, 0, 0, 0, 0, 0, 0, 0, 0, 0, 0, 0, 0, 0, 0, 0, 0, 0, 0, 0, 0, 0, 0, 0, 0, 0, 0, 0, 0, 0, 0, 0, 0, 0, 0], 0, 0, 64, Sh.xr 54 (padT k 64), Sh.init) = _ from E1, bind_s]
    simp only []
    rw [Nat.zero_add, ble_true (Nat.le_refl p0), Bool.and_self, Bool.and_self, cond_t, subI_self _ e0]
    obtain ⟨c0, h2_0, s2_0, g0, S0⟩ := f50.spec K _ p0 l0 e0 o0 (by omega) _ _ _ R1 (by omega)
    rw [g0, bind_s]
    simp only []
    rw [Nat.zero_add, ble_true (Nat.le_refl p1), Bool.and_self, Bool.and_self, cond_t, subI_self _ e1]
    obtain ⟨c1, h2_1, s2_1, g1, S1⟩ := f50.spec K _ p1 l1 e1 o1 (by omega) _ _ _ S0 (by omega)
    rw [g1, bind_s]
    simp only []
    rw [f51.spec K _ _ _ _ S1 (by omega), bind_s]
    simp only []
    rw [f48.spec K 92 (padT k 64) (padT_length _ _) (by omega), bind_s]
    simp only []
    rw [subI_self _ (show (Sh.xr 92 (padT k 64)).length = 64 by rw [xr_length, padT_length])]
    obtain ⟨b3, h3, s3, E3, R3⟩ := f50.spec K [] 64 (Sh.xr 92 (padT k 64)) (by rw [xr_length, padT_length]) (xr_octets _ _) (by omega) _ _ _ Sh.rep0 (by omega)
    rw [show f50.F K (64, [0, 0, 0, 0, 0, 0, 0, 0, 0, 0, 0, 0, 0, 0, 0, 0, 0, 0, 0, 0, 0, 0, 0, 0, 0, 0, 0, 0, 0, 0, 0, 0, 0, 0, 0, 0, 0, 0, 0, 0, 0, 0, 0, 0, 0, 0, 0, 0, 0, 0, 0, 0, 0, 0, 0, 0, 0, 0, 0, 0, 0, 0, 0, 0], 0, 0, 64, Sh.xr 92 (padT k 64), Sh.init) = _ from E3, bind_s]
    simp only []
    rw [subI_self _ (sum_length _)]
    obtain ⟨b4, h4, s4, E4, R4⟩ := f50.spec K _ 32 _ (sum_length ([] ++ Sh.xr 54 (padT k 64) ++ l0 ++ l1)) (sum_octets _) (by omega) _ _ _ R3 (by omega)
    rw [E4, bind_s]
    simp only []
    rw [f51.spec K _ _ _ _ R4 (by omega), bind_s]
    simp only [Sh.mac, Sh.key, if_neg (show ¬ 64 < k.length by omega), List.nil_append, List.append_assoc]
end Go.Proofs

namespace Go.Proofs
open Go.VM
abbrev f38.Ty0 := Int × Int × List Int
def f38.T (_K : Nat) (a0 : List Int) : Option (f38.Ty0) :=
  some (0, 1, a0)
def f38.F (K : Nat) (x : List Int) : Option (f38.Ty0) := f38.T K x
def f38.av (x : List Int) : List VV := [.agg [.ints .u8 32 x]]
def f38.bl (_x : List Int) : List (Nat × Blk) := []
def f38.inA : VS → Option (List Int)
  | ⟨[(0, .agg [.ints .u8 32 a0])], [], 0⟩ => some a0
  | _ => none
def f38.o0 (y : f38.Ty0) : VS := ⟨[(0, .ptr 0 0)], [(0, ([.int .u64 y.1, .int .i64 y.2.1, .ints .u8 32 y.2.2], 102, .norm))], 1⟩
def f38.inR : VS → Option (f38.Ty0)
  | ⟨[(0, .ptr 0 0)], [(0, ([.int .u64 z0_0, .int .i64 z0_1, .ints .u8 32 z0_2], 102, .norm))], 1⟩ => some (z0_0, z0_1, z0_2)
  | _ => none
noncomputable def f38.E (K : Nat) : Entry := genE 0 f38.inA (f38.F K) (dv1 f38.o0)
theorem f38.ok (K : Nat) : EntryOK Try.prog 38 (f38.E K) := gen_ok mix tys_ok (tab_ok ( tab_nil)) Try.func38 (c := bodyOf Try.f38) (by kernel_rfl) (by kernel_rfl) (loops_none (lp := lpNone) (by kernel_rfl)) (av := f38.av) (bl := f38.bl) (inR := f38.inR) (out := f38.o0) (fuel := 400)
  (by intro s x h; unfold f38.inA at h; split at h <;> simp at h; subst h; rfl) (fun _ => Nat.le_of_ble_eq_true rfl)
  (by intro s y h; unfold f38.inR at h; split at h <;> simp at h <;> subst h <;> rfl) (fun _ _ _ => rfl) (fun _ => by kernel_rfl)
end Go.Proofs

namespace Go.Proofs
open Go.VM
abbrev f68.Ty0 := Bool × Int × Int × List Int
abbrev f68.Ty1 := Int × Int × List Int
def f68.T (_K : Nat) (m0_0 : Int) (m0_1 : Int) (m0_2 : List Int) : Option (f68.Ty0) :=
  some ((m0_1 == 1), m0_0, m0_1, m0_2)
def f68.F (K : Nat) (x : f68.Ty1) : Option (f68.Ty0) := f68.T K x.1 x.2.1 x.2.2
def f68.av (_x : f68.Ty1) : List VV := [.ptr 0 0]
def f68.bl (x : f68.Ty1) : List (Nat × Blk) := [(0, ([.int .u64 x.1, .int .i64 x.2.1, .ints .u8 32 x.2.2], 102, .norm))]
def f68.inA : VS → Option (f68.Ty1)
  | ⟨[(0, .ptr 0 0)], [(0, ([.int .u64 m0_0, .int .i64 m0_1, .ints .u8 32 m0_2], 102, .norm))], 1⟩ => some (m0_0, m0_1, m0_2)
  | _ => none
def f68.o0 (y : f68.Ty0) : VS := ⟨[(0, .bool y.1)], [(0, ([.int .u64 y.2.1, .int .i64 y.2.2.1, .ints .u8 32 y.2.2.2], 102, .norm))], 1⟩
def f68.inR : VS → Option (f68.Ty0)
  | ⟨[(0, .bool y)], [(0, ([.int .u64 z0_0, .int .i64 z0_1, .ints .u8 32 z0_2], 102, .norm))], 1⟩ => some (y, z0_0, z0_1, z0_2)
  | _ => none
noncomputable def f68.E (K : Nat) : Entry := genE 1 f68.inA (f68.F K) (dv1 f68.o0)
theorem f68.ok (K : Nat) : EntryOK Try.prog 68 (f68.E K) := gen_ok mix tys_ok (tab_ok ( tab_nil)) Try.func68 (c := bodyOf Try.f68) (by kernel_rfl) (by kernel_rfl) (loops_none (lp := lpNone) (by kernel_rfl)) (av := f68.av) (bl := f68.bl) (inR := f68.inR) (out := f68.o0) (fuel := 400)
  (by intro s x h; unfold f68.inA at h; split at h <;> simp at h; subst h; rfl) (fun _ => Nat.le_of_ble_eq_true rfl)
  (by intro s y h; unfold f68.inR at h; split at h <;> simp at h <;> subst h <;> rfl) (fun _ _ _ => rfl) (fun _ => by kernel_rfl)
end Go.Proofs

namespace Go.Proofs
open Go.VM
abbrev f77.Ty0 := Int × Int × Int × List Int
abbrev f77.Ty1 := Int × Int × List Int
def f77.T (_K : Nat) (m0_0 : Int) (m0_1 : Int) (m0_2 : List Int) : Option (f77.Ty0) :=
  some (m0_0, m0_0, m0_1, m0_2)
def f77.F (K : Nat) (x : f77.Ty1) : Option (f77.Ty0) := f77.T K x.1 x.2.1 x.2.2
def f77.av (_x : f77.Ty1) : List VV := [.ptr 0 0]
def f77.bl (x : f77.Ty1) : List (Nat × Blk) := [(0, ([.int .u64 x.1, .int .i64 x.2.1, .ints .u8 32 x.2.2], 102, .norm))]
def f77.inA : VS → Option (f77.Ty1)
  | ⟨[(0, .ptr 0 0)], [(0, ([.int .u64 m0_0, .int .i64 m0_1, .ints .u8 32 m0_2], 102, .norm))], 1⟩ => some (m0_0, m0_1, m0_2)
  | _ => none
def f77.o0 (y : f77.Ty0) : VS := ⟨[(0, .int .u64 y.1)], [(0, ([.int .u64 y.2.1, .int .i64 y.2.2.1, .ints .u8 32 y.2.2.2], 102, .norm))], 1⟩
def f77.inR : VS → Option (f77.Ty0)
  | ⟨[(0, .int .u64 y)], [(0, ([.int .u64 z0_0, .int .i64 z0_1, .ints .u8 32 z0_2], 102, .norm))], 1⟩ => some (y, z0_0, z0_1, z0_2)
  | _ => none
noncomputable def f77.E (K : Nat) : Entry := genE 1 f77.inA (f77.F K) (dv1 f77.o0)
theorem f77.ok (K : Nat) : EntryOK Try.prog 77 (f77.E K) := gen_ok mix tys_ok (tab_ok ( tab_nil)) Try.func77 (c := bodyOf Try.f77) (by kernel_rfl) (by kernel_rfl) (loops_none (lp := lpNone) (by kernel_rfl)) (av := f77.av) (bl := f77.bl) (inR := f77.inR) (out := f77.o0) (fuel := 400)
  (by intro s x h; unfold f77.inA at h; split at h <;> simp at h; subst h; rfl) (fun _ => Nat.le_of_ble_eq_true rfl)
  (by intro s y h; unfold f77.inR at h; split at h <;> simp at h <;> subst h <;> rfl) (fun _ _ _ => rfl) (fun _ => by kernel_rfl)
end Go.Proofs

namespace Go.Proofs
open Go.VM
abbrev f76.Ty0 := Int × Int × Int × List Int
abbrev f76.Ty1 := Int × Int × List Int
def f76.T (K : Nat) (m0_0 : Int) (m0_1 : Int) (m0_2 : List Int) : Option (f76.Ty0) :=
  (f68.F K (m0_0, m0_1, m0_2)).bind fun y1 =>
  bif !y1.1 then
    some (0, y1.2.1, y1.2.2.1, y1.2.2.2)
  else
    (f77.F K (y1.2.1, y1.2.2.1, y1.2.2.2)).bind fun y2 =>
    some (y2.1, y2.2.1, y2.2.2.1, y2.2.2.2)
def f76.F (K : Nat) (x : f76.Ty1) : Option (f76.Ty0) := f76.T K x.1 x.2.1 x.2.2
def f76.av (_x : f76.Ty1) : List VV := [.ptr 0 0, .fn 77 []]
def f76.bl (x : f76.Ty1) : List (Nat × Blk) := [(0, ([.int .u64 x.1, .int .i64 x.2.1, .ints .u8 32 x.2.2], 102, .norm))]
def f76.inA : VS → Option (f76.Ty1)
  | ⟨[(0, .ptr 0 0), (1, .fn 77 [])], [(0, ([.int .u64 m0_0, .int .i64 m0_1, .ints .u8 32 m0_2], 102, .norm))], 1⟩ => some (m0_0, m0_1, m0_2)
  | _ => none
def f76.o0 (y : f76.Ty0) : VS := ⟨[(0, .int .u64 y.1)], [(0, ([.int .u64 y.2.1, .int .i64 y.2.2.1, .ints .u8 32 y.2.2.2], 102, .norm))], 1⟩
def f76.inR : VS → Option (f76.Ty0)
  | ⟨[(0, .int .u64 y)], [(0, ([.int .u64 z0_0, .int .i64 z0_1, .ints .u8 32 z0_2], 102, .norm))], 1⟩ => some (y, z0_0, z0_1, z0_2)
  | _ => none
noncomputable def f76.E (K : Nat) : Entry := genE 1 f76.inA (f76.F K) (dv1 f76.o0)
theorem f76.ok (K : Nat) : EntryOK Try.prog 76 (f76.E K) := gen_ok mix tys_ok (tab_ok ((tab_cons (f68.ok K) (tab_cons (f77.ok K) tab_nil)))) Try.func76 (c := bodyOf Try.f76) (by kernel_rfl) (by kernel_rfl) (loops_none (lp := lpNone) (by kernel_rfl)) (av := f76.av) (bl := f76.bl) (inR := f76.inR) (out := f76.o0) (fuel := 400)
  (by intro s x h; unfold f76.inA at h; split at h <;> simp at h; subst h; rfl) (fun _ => Nat.le_of_ble_eq_true rfl)
  (by intro s y h; unfold f76.inR at h; split at h <;> simp at h <;> subst h <;> rfl) (fun _ _ _ => rfl) (fun _ => by kernel_rfl)
end Go.Proofs

namespace Go.Proofs
open Go.VM
abbrev f44.Ty0 := Int × Int × Int × List Int
abbrev f44.Ty1 := Int × Int × List Int
def f44.T (K : Nat) (m0_0 : Int) (m0_1 : Int) (m0_2 : List Int) : Option (f44.Ty0) :=
  (f76.F K (m0_0, m0_1, m0_2)).bind fun y1 =>
  some (y1.1, y1.2.1, y1.2.2.1, y1.2.2.2)
def f44.F (K : Nat) (x : f44.Ty1) : Option (f44.Ty0) := f44.T K x.1 x.2.1 x.2.2
def f44.av (_x : f44.Ty1) : List VV := [.ptr 0 0]
def f44.bl (x : f44.Ty1) : List (Nat × Blk) := [(0, ([.int .u64 x.1, .int .i64 x.2.1, .ints .u8 32 x.2.2], 102, .norm))]
def f44.inA : VS → Option (f44.Ty1)
  | ⟨[(0, .ptr 0 0)], [(0, ([.int .u64 m0_0, .int .i64 m0_1, .ints .u8 32 m0_2], 102, .norm))], 1⟩ => some (m0_0, m0_1, m0_2)
  | _ => none
def f44.o0 (y : f44.Ty0) : VS := ⟨[(0, .int .u64 y.1)], [(0, ([.int .u64 y.2.1, .int .i64 y.2.2.1, .ints .u8 32 y.2.2.2], 102, .norm))], 1⟩
def f44.inR : VS → Option (f44.Ty0)
  | ⟨[(0, .int .u64 y)], [(0, ([.int .u64 z0_0, .int .i64 z0_1, .ints .u8 32 z0_2], 102, .norm))], 1⟩ => some (y, z0_0, z0_1, z0_2)
  | _ => none
noncomputable def f44.E (K : Nat) : Entry := genE 1 f44.inA (f44.F K) (dv1 f44.o0)
theorem f44.ok (K : Nat) : EntryOK Try.prog 44 (f44.E K) := gen_ok mix tys_ok (tab_ok ((tab_cons (f76.ok K) tab_nil))) Try.func44 (c := bodyOf Try.f44) (by kernel_rfl) (by kernel_rfl) (loops_none (lp := lpNone) (by kernel_rfl)) (av := f44.av) (bl := f44.bl) (inR := f44.inR) (out := f44.o0) (fuel := 400)
  (by intro s x h; unfold f44.inA at h; split at h <;> simp at h; subst h; rfl) (fun _ => Nat.le_of_ble_eq_true rfl)
  (by intro s y h; unfold f44.inR at h; split at h <;> simp at h <;> subst h <;> rfl) (fun _ _ _ => rfl) (fun _ => by kernel_rfl)
end Go.Proofs

namespace Go.Proofs
open Go.VM
abbrev f69.Ty0 := List Int × Int × Int × List Int
abbrev f69.Ty1 := Int × Int × List Int
def f69.T (K : Nat) (m0_0 : Int) (m0_1 : Int) (m0_2 : List Int) : Option (f69.Ty0) :=
  (f59.F K (0, m0_0, 8, 0, [])).bind fun y2 =>
  bif ((Nat.ble (0 + y2.1) y2.2.2.2.2.1 && (Nat.ble y2.1 y2.2.1)) && true) then
    (f15.F K (32, 32, (subI m0_2 0 32), 4, y2.1, 4, [100, 114, 97, 119], y2.1, (subI y2.2.2.2.2.2 0 y2.1))).bind fun y3 =>
    some (y3.1, (IntKind.wrap .u64 (m0_0 + 1)), m0_1, m0_2)
  else
    none
def f69.F (K : Nat) (x : f69.Ty1) : Option (f69.Ty0) := f69.T K x.1 x.2.1 x.2.2
def f69.av (_x : f69.Ty1) : List VV := [.ptr 0 0]
def f69.bl (x : f69.Ty1) : List (Nat × Blk) := [(0, ([.int .u64 x.1, .int .i64 x.2.1, .ints .u8 32 x.2.2], 102, .norm))]
def f69.inA : VS → Option (f69.Ty1)
  | ⟨[(0, .ptr 0 0)], [(0, ([.int .u64 m0_0, .int .i64 m0_1, .ints .u8 32 m0_2], 102, .norm))], 1⟩ => some (m0_0, m0_1, m0_2)
  | _ => none
def f69.o0 (y : f69.Ty0) : VS := ⟨[(0, .agg [.ints .u8 32 y.1])], [(0, ([.int .u64 y.2.1, .int .i64 y.2.2.1, .ints .u8 32 y.2.2.2], 102, .norm))], 1⟩
def f69.inR : VS → Option (f69.Ty0)
  | ⟨[(0, .agg [.ints .u8 32 y])], [(0, ([.int .u64 z0_0, .int .i64 z0_1, .ints .u8 32 z0_2], 102, .norm))], 1⟩ => some (y, z0_0, z0_1, z0_2)
  | _ => none
noncomputable def f69.E (K : Nat) : Entry := genE 1 f69.inA (f69.F K) (dv1 f69.o0)
theorem f69.ok (K : Nat) : EntryOK Try.prog 69 (f69.E K) := gen_ok mix tys_ok (sp := tabSp [(59, (viewE [(0, .u8)] (f59.E K))), (15, (rowsE 1 .u8 (viewE [(0, .u8)] (f15.E K))))]) (tab_ok ((tab_cons (view_ok (f59.ok K)) (tab_cons (rows_ok (view_ok (f15.ok K))) tab_nil)))) Try.func69 (c := bodyOf Try.f69) (by kernel_rfl) (by kernel_rfl) (loops_none (lp := lpNone) (by kernel_rfl)) (av := f69.av) (bl := f69.bl) (inR := f69.inR) (out := f69.o0) (fuel := 400)
  (by intro s x h; unfold f69.inA at h; split at h <;> simp at h; subst h; rfl) (fun _ => Nat.le_of_ble_eq_true rfl)
  (by intro s y h; unfold f69.inR at h; split at h <;> simp at h <;> subst h <;> rfl) (fun _ _ _ => rfl) (fun _ => by kernel_rfl)
end Go.Proofs

namespace Go.Proofs
open Go.VM
abbrev f74.Ty0 := List Int × Int × Int × List Int
abbrev f74.Ty1 := Int × Int × List Int
def f74.T (K : Nat) (m0_0 : Int) (m0_1 : Int) (m0_2 : List Int) : Option (f74.Ty0) :=
  (f68.F K (m0_0, m0_1, m0_2)).bind fun y1 =>
  bif !y1.1 then
    some ([0, 0, 0, 0, 0, 0, 0, 0, 0, 0, 0, 0, 0, 0, 0, 0, 0, 0, 0, 0, 0, 0, 0, 0, 0, 0, 0, 0, 0, 0, 0, 0], y1.2.1, y1.2.2.1, y1.2.2.2)
  else
    (f69.F K (y1.2.1, y1.2.2.1, y1.2.2.2)).bind fun y2 =>
    some (y2.1, y2.2.1, y2.2.2.1, y2.2.2.2)
def f74.F (K : Nat) (x : f74.Ty1) : Option (f74.Ty0) := f74.T K x.1 x.2.1 x.2.2
def f74.av (_x : f74.Ty1) : List VV := [.ptr 0 0, .fn 69 []]
def f74.bl (x : f74.Ty1) : List (Nat × Blk) := [(0, ([.int .u64 x.1, .int .i64 x.2.1, .ints .u8 32 x.2.2], 102, .norm))]
def f74.inA : VS → Option (f74.Ty1)
  | ⟨[(0, .ptr 0 0), (1, .fn 69 [])], [(0, ([.int .u64 m0_0, .int .i64 m0_1, .ints .u8 32 m0_2], 102, .norm))], 1⟩ => some (m0_0, m0_1, m0_2)
  | _ => none
def f74.o0 (y : f74.Ty0) : VS := ⟨[(0, .agg [.ints .u8 32 y.1])], [(0, ([.int .u64 y.2.1, .int .i64 y.2.2.1, .ints .u8 32 y.2.2.2], 102, .norm))], 1⟩
def f74.inR : VS → Option (f74.Ty0)
  | ⟨[(0, .agg [.ints .u8 32 y])], [(0, ([.int .u64 z0_0, .int .i64 z0_1, .ints .u8 32 z0_2], 102, .norm))], 1⟩ => some (y, z0_0, z0_1, z0_2)
  | _ => none
noncomputable def f74.E (K : Nat) : Entry := genE 1 f74.inA (f74.F K) (dv1 f74.o0)
theorem f74.ok (K : Nat) : EntryOK Try.prog 74 (f74.E K) := gen_ok mix tys_ok (tab_ok ((tab_cons (f68.ok K) (tab_cons (f69.ok K) tab_nil)))) Try.func74 (c := bodyOf Try.f74) (by kernel_rfl) (by kernel_rfl) (loops_none (lp := lpNone) (by kernel_rfl)) (av := f74.av) (bl := f74.bl) (inR := f74.inR) (out := f74.o0) (fuel := 400)
  (by intro s x h; unfold f74.inA at h; split at h <;> simp at h; subst h; rfl) (fun _ => Nat.le_of_ble_eq_true rfl)
  (by intro s y h; unfold f74.inR at h; split at h <;> simp at h <;> subst h <;> rfl) (fun _ _ _ => rfl) (fun _ => by kernel_rfl)
end Go.Proofs

namespace Go.Proofs
open Go.VM
abbrev f42.Ty0 := List Int × Int × Int × List Int
abbrev f42.Ty1 := Int × Int × List Int
def f42.T (K : Nat) (m0_0 : Int) (m0_1 : Int) (m0_2 : List Int) : Option (f42.Ty0) :=
  (f74.F K (m0_0, m0_1, m0_2)).bind fun y1 =>
  some (y1.1, y1.2.1, y1.2.2.1, y1.2.2.2)
def f42.F (K : Nat) (x : f42.Ty1) : Option (f42.Ty0) := f42.T K x.1 x.2.1 x.2.2
def f42.av (_x : f42.Ty1) : List VV := [.ptr 0 0]
def f42.bl (x : f42.Ty1) : List (Nat × Blk) := [(0, ([.int .u64 x.1, .int .i64 x.2.1, .ints .u8 32 x.2.2], 102, .norm))]
def f42.inA : VS → Option (f42.Ty1)
  | ⟨[(0, .ptr 0 0)], [(0, ([.int .u64 m0_0, .int .i64 m0_1, .ints .u8 32 m0_2], 102, .norm))], 1⟩ => some (m0_0, m0_1, m0_2)
  | _ => none
def f42.o0 (y : f42.Ty0) : VS := ⟨[(0, .agg [.ints .u8 32 y.1])], [(0, ([.int .u64 y.2.1, .int .i64 y.2.2.1, .ints .u8 32 y.2.2.2], 102, .norm))], 1⟩
def f42.inR : VS → Option (f42.Ty0)
  | ⟨[(0, .agg [.ints .u8 32 y])], [(0, ([.int .u64 z0_0, .int .i64 z0_1, .ints .u8 32 z0_2], 102, .norm))], 1⟩ => some (y, z0_0, z0_1, z0_2)
  | _ => none
noncomputable def f42.E (K : Nat) : Entry := genE 1 f42.inA (f42.F K) (dv1 f42.o0)
theorem f42.ok (K : Nat) : EntryOK Try.prog 42 (f42.E K) := gen_ok mix tys_ok (tab_ok ((tab_cons (f74.ok K) tab_nil))) Try.func42 (c := bodyOf Try.f42) (by kernel_rfl) (by kernel_rfl) (loops_none (lp := lpNone) (by kernel_rfl)) (av := f42.av) (bl := f42.bl) (inR := f42.inR) (out := f42.o0) (fuel := 400)
  (by intro s x h; unfold f42.inA at h; split at h <;> simp at h; subst h; rfl) (fun _ => Nat.le_of_ble_eq_true rfl)
  (by intro s y h; unfold f42.inR at h; split at h <;> simp at h <;> subst h <;> rfl) (fun _ _ _ => rfl) (fun _ => by kernel_rfl)
end Go.Proofs

namespace Go.Proofs
open Go.VM
abbrev f24.Ty0 := ByteArray × Nat × Nat × Nat × List Int × Nat × List Int
abbrev f24.Ty1 := List Int × Nat × Nat × Nat × List Int × Nat × List Int
def f24.T (K : Nat) (a0 : ByteArray) (m0_0 : Nat) (m0_1 : Nat) (m2_0 : Nat) (m2_1 : List Int) (m4_0 : Nat) (m4_1 : List Int) : Option (f24.Ty1) :=
  (f49.F K ()).bind fun y1 =>
  let v2 := ByteArray.size a0
  bif ((Nat.ble (0 + v2) (ByteArray.size a0) && true) && true) then
    (f58.F K (0, v2, 0, [], v2, (subI (strL a0) 0 v2))).bind fun y4 =>
    (f59.F K (0, 2, 4, 0, [])).bind fun y5 =>
    bif ((Nat.ble (0 + y4.1) y4.2.2.2.2.2.1 && true) && ((Nat.ble (0 + y5.1) y5.2.2.2.2.1 && (Nat.ble y5.1 y5.2.1)) && true)) then
      (f57v2.F K (y1.1, y1.2.1, y1.2.2.1, y4.1, y5.1, y1.2.2.2, y4.1, (subI y4.2.2.2.2.2.2 0 y4.1), y5.1, (subI y5.2.2.2.2.2 0 y5.1))).bind fun y6 =>
      bif ((Nat.ble (0 + m0_0) m2_0 && true) && true) then
        (f58.F K (0, m0_0, 0, [], m0_0, (subI m2_1 0 m0_0))).bind fun y7 =>
        bif ((Nat.ble (0 + y7.1) y7.2.2.2.2.2.1 && true) && true) then
          (f57.F K (y6.1, y6.2.1, y6.2.2.1, y7.1, y6.2.2.2.2.2.2.2.2.2, y7.1, (subI y7.2.2.2.2.2.2 0 y7.1))).bind fun y8 =>
          bif ((Nat.ble (0 + m0_1) m4_0 && true) && true) then
            (f58.F K (0, m0_1, 0, [], m0_1, (subI m4_1 0 m0_1))).bind fun y9 =>
            bif ((Nat.ble (0 + y9.1) y9.2.2.2.2.2.1 && true) && true) then
              (f57.F K (y8.1, y8.2.1, y8.2.2.1, y9.1, y8.2.2.2.2.2.2, y9.1, (subI y9.2.2.2.2.2.2 0 y9.1))).bind fun y10 =>
              (f51.F K (y10.1, y10.2.1, y10.2.2.1, y10.2.2.2.2.2.2)).bind fun y11 =>
              some (y11.1, m0_0, m0_1, m2_0, m2_1, m4_0, m4_1)
            else
              none
          else
            none
        else
          none
      else
        none
    else
      none
  else
    none
def f24.F (K : Nat) (x : f24.Ty0) : Option (f24.Ty1) := f24.T K x.1 x.2.1 x.2.2.1 x.2.2.2.1 x.2.2.2.2.1 x.2.2.2.2.2.1 x.2.2.2.2.2.2
def f24.av (x : f24.Ty0) : List VV := [.str x.1, .vw true 0 0 2 1]
def f24.bl (x : f24.Ty0) : List (Nat × Blk) := [(0, ([.vw true 2 0 x.2.1 3, .vw true 4 0 x.2.2.1 5], 0, .ro)), (2, ([.ints .u8 x.2.2.2.1 x.2.2.2.2.1], 0, .ro)), (4, ([.ints .u8 x.2.2.2.2.2.1 x.2.2.2.2.2.2], 0, .ro))]
def f24.inA : VS → Option (f24.Ty0)
  | ⟨[(0, .str a0), (1, .vw true 0 0 2 1)], [(0, ([.vw true 2 0 m0_0 3, .vw true 4 0 m0_1 5], 0, .ro)), (2, ([.ints .u8 m2_0 m2_1], 0, .ro)), (4, ([.ints .u8 m4_0 m4_1], 0, .ro))], 6⟩ => some (a0, m0_0, m0_1, m2_0, m2_1, m4_0, m4_1)
  | _ => none
def f24.o0 (y : f24.Ty1) : VS := ⟨[(0, .agg [.ints .u8 32 y.1])], [(0, ([.vw true 2 0 y.2.1 3, .vw true 4 0 y.2.2.1 5], 0, .ro)), (2, ([.ints .u8 y.2.2.2.1 y.2.2.2.2.1], 0, .ro)), (4, ([.ints .u8 y.2.2.2.2.2.1 y.2.2.2.2.2.2], 0, .ro))], 6⟩
def f24.inR : VS → Option (f24.Ty1)
  | ⟨[(0, .agg [.ints .u8 32 y])], [(0, ([.vw true 2 0 z0_0 3, .vw true 4 0 z0_1 5], 0, .ro)), (2, ([.ints .u8 z2_0 z2_1], 0, .ro)), (4, ([.ints .u8 z4_0 z4_1], 0, .ro))], 6⟩ => some (y, z0_0, z0_1, z2_0, z2_1, z4_0, z4_1)
  | _ => none
noncomputable def f24.E (K : Nat) : Entry := genE 6 f24.inA (f24.F K) (dv1 f24.o0)
theorem f24.ok (K : Nat) : EntryOK Try.prog 24 (f24.E K) := gen_ok mix tys_ok (sp := tabSp [(49, (f49.E K)), (58, (viewE [(0, .u8), (1, .u8)] (f58.E K))), (59, (viewE [(0, .u8)] (f59.E K))), (57, (orF (fitR 1 .u8 (fitE 8 f57v2.inA)) (rowsE 1 .u8 (f57v2.E K)) (rowsE 1 .u8 (f57.E K)))), (51, (f51.E K))]) (tab_ok ((tab_cons (f49.ok K) (tab_cons (view_ok (f58.ok K)) (tab_cons (view_ok (f59.ok K)) (tab_cons (orF_ok (rows_ok (f57v2.ok K)) (rows_ok (f57.ok K))) (tab_cons (f51.ok K) tab_nil))))))) Try.func24 (c := bodyOf Try.f24) (by kernel_rfl) (by kernel_rfl) (loops_none (lp := lpNone) (by kernel_rfl)) (av := f24.av) (bl := f24.bl) (inR := f24.inR) (out := f24.o0) (fuel := 400)
  (by intro s x h; unfold f24.inA at h; split at h <;> simp at h; subst h; rfl) (fun _ => Nat.le_of_ble_eq_true rfl)
  (by intro s y h; unfold f24.inR at h; split at h <;> simp at h <;> subst h <;> rfl) (fun _ _ _ => rfl) (fun _ => by kernel_rfl)
end Go.Proofs

namespace Go.Proofs
open Go.VM
abbrev f53.Ty0 := List Int × ByteArray × Nat × Nat × List Int × List Int
abbrev f53.Ty1 := Int × ByteArray × Nat × Nat × List Int
def f53.T (K : Nat) (a0 : Int) (m0 : ByteArray) (m2 : Nat) (m3_0 : Nat) (m3_1 : List Int) : Option (f53.Ty0) :=
  bif ((Nat.ble (0 + m2) m3_0 && true) && true) then
    (f24.F K (m0, m2, 1, m2, (subI m3_1 0 m2), 1, [a0])).bind fun y1 =>
    (f31.F K (32, 32, (subI y1.1 0 32))).bind fun y2 =>
    some (y2.1, m0, m2, m3_0, m3_1, [a0])
  else
    none
def f53.F (K : Nat) (x : f53.Ty1) : Option (f53.Ty0) := f53.T K x.1 x.2.1 x.2.2.1 x.2.2.2.1 x.2.2.2.2
def f53.av (x : f53.Ty1) : List VV := [.int .u8 x.1, .ptr 0 0, .ptr 1 0]
def f53.bl (x : f53.Ty1) : List (Nat × Blk) := [(0, ([.str x.2.1], 9, .norm)), (1, ([.sl 2 0 1 2], 23, .norm)), (2, ([.vw true 3 0 x.2.2.1 4, .raw (.slice none 0 0)], 22, .norm)), (3, ([.ints .u8 x.2.2.2.1 x.2.2.2.2], 0, .ro))]
def f53.inA : VS → Option (f53.Ty1)
  | ⟨[(0, .int .u8 a0), (1, .ptr 0 0), (2, .ptr 1 0)], [(0, ([.str m0], 9, .norm)), (1, ([.sl 2 0 1 2], 23, .norm)), (2, ([.vw true 3 0 m2 4, .raw (.slice none 0 0)], 22, .norm)), (3, ([.ints .u8 m3_0 m3_1], 0, .ro))], 5⟩ => some (a0, m0, m2, m3_0, m3_1)
  | _ => none
def f53.o0 (y : f53.Ty0) : VS := ⟨[(0, .agg [.ints .u64 4 y.1])], [(0, ([.str y.2.1], 9, .norm)), (1, ([.sl 2 0 1 2], 23, .norm)), (2, ([.vw true 3 0 y.2.2.1 4, .sl 5 0 1 1], 22, .norm)), (3, ([.ints .u8 y.2.2.2.1 y.2.2.2.2.1], 0, .ro)), (5, ([.ints .u8 1 y.2.2.2.2.2], 5, .norm))], 6⟩
def f53.inR : VS → Option (f53.Ty0)
  | ⟨[(0, .agg [.ints .u64 4 y])], [(0, ([.str z0], 9, .norm)), (1, ([.sl 2 0 1 2], 23, .norm)), (2, ([.vw true 3 0 z2 4, .sl 5 0 1 1], 22, .norm)), (3, ([.ints .u8 z3_0 z3_1], 0, .ro)), (5, ([.ints .u8 1 z5], 5, .norm))], 6⟩ => some (y, z0, z2, z3_0, z3_1, z5)
  | _ => none
noncomputable def f53.E (K : Nat) : Entry := genE 5 f53.inA (f53.F K) (dv1 f53.o0)
theorem f53.ok (K : Nat) : EntryOK Try.prog 53 (f53.E K) := gen_ok mix tys_ok (sp := tabSp [(24, (rowsE 1 .u8 (f24.E K))), (31, (viewE [(0, .u8)] (f31.E K)))]) (tab_ok ((tab_cons (rows_ok (f24.ok K)) (tab_cons (view_ok (f31.ok K)) tab_nil)))) Try.func53 (c := bodyOf Try.f53) (by kernel_rfl) (by kernel_rfl) (loops_none (lp := lpNone) (by kernel_rfl)) (av := f53.av) (bl := f53.bl) (inR := f53.inR) (out := f53.o0) (fuel := 400)
  (by intro s x h; unfold f53.inA at h; split at h <;> simp at h; subst h; rfl) (fun _ => Nat.le_of_ble_eq_true rfl)
  (by intro s y h; unfold f53.inR at h; split at h <;> simp at h <;> subst h <;> rfl) (fun _ _ _ => rfl) (fun _ => by kernel_rfl)
end Go.Proofs

namespace Go.Proofs
open Go.VM
abbrev f53v1.Ty0 := List Int × ByteArray × Nat × Nat × List Int × List Int × List Int
abbrev f53v1.Ty1 := Int × ByteArray × Nat × Nat × List Int × List Int
def f53v1.T (K : Nat) (a0 : Int) (m0 : ByteArray) (m2 : Nat) (m3_0 : Nat) (m3_1 : List Int) (m5 : List Int) : Option (f53v1.Ty0) :=
  bif ((Nat.ble (0 + m2) m3_0 && true) && true) then
    (f24.F K (m0, m2, 1, m2, (subI m3_1 0 m2), 1, [a0])).bind fun y1 =>
    (f31.F K (32, 32, (subI y1.1 0 32))).bind fun y2 =>
    some (y2.1, m0, m2, m3_0, m3_1, m5, [a0])
  else
    none
def f53v1.F (K : Nat) (x : f53v1.Ty1) : Option (f53v1.Ty0) := f53v1.T K x.1 x.2.1 x.2.2.1 x.2.2.2.1 x.2.2.2.2.1 x.2.2.2.2.2
def f53v1.av (x : f53v1.Ty1) : List VV := [.int .u8 x.1, .ptr 0 0, .ptr 1 0]
def f53v1.bl (x : f53v1.Ty1) : List (Nat × Blk) := [(0, ([.str x.2.1], 9, .norm)), (1, ([.sl 2 0 1 2], 23, .norm)), (2, ([.vw true 3 0 x.2.2.1 4, .sl 5 0 1 1], 22, .norm)), (3, ([.ints .u8 x.2.2.2.1 x.2.2.2.2.1], 0, .ro)), (5, ([.ints .u8 1 x.2.2.2.2.2], 5, .norm))]
def f53v1.inA : VS → Option (f53v1.Ty1)
  | ⟨[(0, .int .u8 a0), (1, .ptr 0 0), (2, .ptr 1 0)], [(0, ([.str m0], 9, .norm)), (1, ([.sl 2 0 1 2], 23, .norm)), (2, ([.vw true 3 0 m2 4, .sl 5 0 1 1], 22, .norm)), (3, ([.ints .u8 m3_0 m3_1], 0, .ro)), (5, ([.ints .u8 1 m5], 5, .norm))], 6⟩ => some (a0, m0, m2, m3_0, m3_1, m5)
  | _ => none
def f53v1.o0 (y : f53v1.Ty0) : VS := ⟨[(0, .agg [.ints .u64 4 y.1])], [(0, ([.str y.2.1], 9, .norm)), (1, ([.sl 2 0 1 2], 23, .norm)), (2, ([.vw true 3 0 y.2.2.1 4, .sl 6 0 1 1], 22, .norm)), (3, ([.ints .u8 y.2.2.2.1 y.2.2.2.2.1], 0, .ro)), (5, ([.ints .u8 1 y.2.2.2.2.2.1], 5, .norm)), (6, ([.ints .u8 1 y.2.2.2.2.2.2], 5, .norm))], 7⟩
def f53v1.inR : VS → Option (f53v1.Ty0)
  | ⟨[(0, .agg [.ints .u64 4 y])], [(0, ([.str z0], 9, .norm)), (1, ([.sl 2 0 1 2], 23, .norm)), (2, ([.vw true 3 0 z2 4, .sl 6 0 1 1], 22, .norm)), (3, ([.ints .u8 z3_0 z3_1], 0, .ro)), (5, ([.ints .u8 1 z5], 5, .norm)), (6, ([.ints .u8 1 z6], 5, .norm))], 7⟩ => some (y, z0, z2, z3_0, z3_1, z5, z6)
  | _ => none
noncomputable def f53v1.E (K : Nat) : Entry := genE 6 f53v1.inA (f53v1.F K) (dv1 f53v1.o0)
theorem f53v1.ok (K : Nat) : EntryOK Try.prog 53 (f53v1.E K) := gen_ok mix tys_ok (sp := tabSp [(24, (rowsE 1 .u8 (f24.E K))), (31, (viewE [(0, .u8)] (f31.E K)))]) (tab_ok ((tab_cons (rows_ok (f24.ok K)) (tab_cons (view_ok (f31.ok K)) tab_nil)))) Try.func53 (c := bodyOf Try.f53) (by kernel_rfl) (by kernel_rfl) (loops_none (lp := lpNone) (by kernel_rfl)) (av := f53v1.av) (bl := f53v1.bl) (inR := f53v1.inR) (out := f53v1.o0) (fuel := 400)
  (by intro s x h; unfold f53v1.inA at h; split at h <;> simp at h; subst h; rfl) (fun _ => Nat.le_of_ble_eq_true rfl)
  (by intro s y h; unfold f53v1.inR at h; split at h <;> simp at h <;> subst h <;> rfl) (fun _ _ _ => rfl) (fun _ => by kernel_rfl)
end Go.Proofs

namespace Go.Proofs
open Go.VM
abbrev f22.Ty0 := List Int × ByteArray × Nat × Nat × List Int
abbrev f22.Ty1 := List Int × Int × Nat × Nat × List Int
def f22.T (K : Nat) (a0 : List Int) (a1 : ByteArray) (m0 : Nat) (m2_0 : Nat) (m2_1 : List Int) : Option (f22.Ty1) :=
  (f53.F K (1, a1, m0, m2_0, m2_1)).bind fun y1 =>
  (f53v1.F K (0, y1.2.1, y1.2.2.1, m2_0, m2_1, y1.2.2.2.2.2)).bind fun y2 =>
  (f54.F K (y1.1, y2.1, a0)).bind fun y3 =>
  some (y3.1, y3.2, m0, m2_0, m2_1)
def f22.F (K : Nat) (x : f22.Ty0) : Option (f22.Ty1) := f22.T K x.1 x.2.1 x.2.2.1 x.2.2.2.1 x.2.2.2.2
def f22.av (x : f22.Ty0) : List VV := [.agg [.ints .u64 4 x.1], .str x.2.1, .vw true 0 0 1 1]
def f22.bl (x : f22.Ty0) : List (Nat × Blk) := [(0, ([.vw true 2 0 x.2.2.1 3], 0, .ro)), (2, ([.ints .u8 x.2.2.2.1 x.2.2.2.2], 0, .ro))]
def f22.inA : VS → Option (f22.Ty0)
  | ⟨[(0, .agg [.ints .u64 4 a0]), (1, .str a1), (2, .vw true 0 0 1 1)], [(0, ([.vw true 2 0 m0 3], 0, .ro)), (2, ([.ints .u8 m2_0 m2_1], 0, .ro))], 4⟩ => some (a0, a1, m0, m2_0, m2_1)
  | _ => none
def f22.o0 (y : f22.Ty1) : VS := ⟨[(0, .tup [.agg [.ints .u64 4 y.1], .int .i64 y.2.1])], [(0, ([.vw true 2 0 y.2.2.1 3], 0, .ro)), (2, ([.ints .u8 y.2.2.2.1 y.2.2.2.2], 0, .ro))], 4⟩
def f22.inR : VS → Option (f22.Ty1)
  | ⟨[(0, .tup [.agg [.ints .u64 4 y_0], .int .i64 y_1])], [(0, ([.vw true 2 0 z0 3], 0, .ro)), (2, ([.ints .u8 z2_0 z2_1], 0, .ro))], 4⟩ => some (y_0, y_1, z0, z2_0, z2_1)
  | _ => none
noncomputable def f22.E (K : Nat) : Entry := genE 4 f22.inA (f22.F K) (dv1 f22.o0)
theorem f22.ok (K : Nat) : EntryOK Try.prog 22 (f22.E K) := gen_ok mix tys_ok (sp := tabSp [(53, (orF (fitE 5 f53.inA) (f53.E K) (f53v1.E K))), (54, (f54.E K))]) (tab_ok ((tab_cons (orF_ok (f53.ok K) (f53v1.ok K)) (tab_cons (f54.ok K) tab_nil)))) Try.func22 (c := bodyOf Try.f22) (by kernel_rfl) (by kernel_rfl) (loops_none (lp := lpNone) (by kernel_rfl)) (av := f22.av) (bl := f22.bl) (inR := f22.inR) (out := f22.o0) (fuel := 400)
  (by intro s x h; unfold f22.inA at h; split at h <;> simp at h; subst h; rfl) (fun _ => Nat.le_of_ble_eq_true rfl)
  (by intro s y h; unfold f22.inR at h; split at h <;> simp at h <;> subst h <;> rfl) (fun _ _ _ => rfl) (fun _ => by kernel_rfl)
end Go.Proofs

namespace Go.Proofs
open Go.VM
abbrev f40.Ty0 := List Int × List Int × List Int × Int × Int × List Int
abbrev f40.Ty1 := List Int × Int × Int × Int × List Int
def f40.k0 : ByteArray := ByteArray.mk #[101, 120, 112, 111, 110, 101, 110, 116]
def f40.T (K : Nat) (_a1_0 : List Int) (a1_1 : List Int) (_a1_2 : List Int) (m0_0 : Int) (m0_1 : Int) (m0_2 : List Int) : Option (f40.Ty1) :=
  (f68.F K (m0_0, m0_1, m0_2)).bind fun y1 =>
  bif !y1.1 then
    some ([0, 0, 0, 0], 2, y1.2.1, y1.2.2.1, y1.2.2.2)
  else
    (f33.F K 3).bind fun y2 =>
    (f35.F K (a1_1, y2)).bind fun y3 =>
    bif (decide (y3 < 0)) then
      some ([0, 0, 0, 0], 1, y1.2.1, y1.2.2.1, y1.2.2.2)
    else
      (f69.F K (y1.2.1, y1.2.2.1, y1.2.2.2)).bind fun y5 =>
      (f33.F K 1).bind fun y6 =>
      (f67.F K (a1_1, y6)).bind fun y7 =>
      (f22.F K (y7.1, f40.k0, 32, 32, (subI y5.1 0 32))).bind fun y8 =>
      (f33.F K 1).bind fun y9 =>
      (f70.F K (y8.1, y9)).bind fun y10 =>
      some (y10.1, 0, y5.2.1, y5.2.2.1, y5.2.2.2)
def f40.F (K : Nat) (x : f40.Ty0) : Option (f40.Ty1) := f40.T K x.1 x.2.1 x.2.2.1 x.2.2.2.1 x.2.2.2.2.1 x.2.2.2.2.2
def f40.av (x : f40.Ty0) : List VV := [.ptr 0 0, .agg [.ints .u64 4 x.1, .ints .u64 4 x.2.1, .ints .u64 4 x.2.2.1]]
def f40.bl (x : f40.Ty0) : List (Nat × Blk) := [(0, ([.int .u64 x.2.2.2.1, .int .i64 x.2.2.2.2.1, .ints .u8 32 x.2.2.2.2.2], 102, .norm))]
def f40.inA : VS → Option (f40.Ty0)
  | ⟨[(0, .ptr 0 0), (1, .agg [.ints .u64 4 a1_0, .ints .u64 4 a1_1, .ints .u64 4 a1_2])], [(0, ([.int .u64 m0_0, .int .i64 m0_1, .ints .u8 32 m0_2], 102, .norm))], 1⟩ => some (a1_0, a1_1, a1_2, m0_0, m0_1, m0_2)
  | _ => none
def f40.o0 (y : f40.Ty1) : VS := ⟨[(0, .tup [.agg [.ints .u64 4 y.1], .int .i64 y.2.1])], [(0, ([.int .u64 y.2.2.1, .int .i64 y.2.2.2.1, .ints .u8 32 y.2.2.2.2], 102, .norm))], 1⟩
def f40.inR : VS → Option (f40.Ty1)
  | ⟨[(0, .tup [.agg [.ints .u64 4 y_0], .int .i64 y_1])], [(0, ([.int .u64 z0_0, .int .i64 z0_1, .ints .u8 32 z0_2], 102, .norm))], 1⟩ => some (y_0, y_1, z0_0, z0_1, z0_2)
  | _ => none
noncomputable def f40.E (K : Nat) : Entry := genE 1 f40.inA (f40.F K) (dv1 f40.o0)
theorem f40.ok (K : Nat) : EntryOK Try.prog 40 (f40.E K) := gen_ok mix tys_ok (sp := tabSp [(68, (f68.E K)), (33, (f33.E K)), (35, (f35.E K)), (69, (f69.E K)), (67, (f67.E K)), (22, (rowsE 2 .u8 (f22.E K))), (70, (f70.E K))]) (tab_ok ((tab_cons (f68.ok K) (tab_cons (f33.ok K) (tab_cons (f35.ok K) (tab_cons (f69.ok K) (tab_cons (f67.ok K) (tab_cons (rows_ok (f22.ok K)) (tab_cons (f70.ok K) tab_nil))))))))) Try.func40 (c := bodyOf Try.f40) (by kernel_rfl) (by kernel_rfl) (loops_none (lp := lpNone) (by kernel_rfl)) (av := f40.av) (bl := f40.bl) (inR := f40.inR) (out := f40.o0) (fuel := 400)
  (by intro s x h; unfold f40.inA at h; split at h <;> simp at h; subst h; rfl) (fun _ => Nat.le_of_ble_eq_true rfl)
  (by intro s y h; unfold f40.inR at h; split at h <;> simp at h <;> subst h <;> rfl) (fun _ _ _ => rfl) (fun _ => by kernel_rfl)
end Go.Proofs

namespace Go.Proofs
open Go.VM
abbrev f40v1.Ty0 := List Int × List Int × List Int
def f40v1.T (_K : Nat) (_a1_0 : List Int) (_a1_1 : List Int) (_a1_2 : List Int) : Option (List Int × Int) :=
  some ([0, 0, 0, 0], 2)
def f40v1.F (K : Nat) (x : f40v1.Ty0) : Option (List Int × Int) := f40v1.T K x.1 x.2.1 x.2.2
def f40v1.av (x : f40v1.Ty0) : List VV := [.raw (.pointer none), .agg [.ints .u64 4 x.1, .ints .u64 4 x.2.1, .ints .u64 4 x.2.2]]
def f40v1.bl (_x : f40v1.Ty0) : List (Nat × Blk) := []
def f40v1.inA : VS → Option (f40v1.Ty0)
  | ⟨[(0, .raw (.pointer none)), (1, .agg [.ints .u64 4 a1_0, .ints .u64 4 a1_1, .ints .u64 4 a1_2])], [], 0⟩ => some (a1_0, a1_1, a1_2)
  | _ => none
def f40v1.o0 (y : List Int × Int) : VS := ⟨[(0, .tup [.agg [.ints .u64 4 y.1], .int .i64 y.2])], [], 0⟩
def f40v1.inR : VS → Option (List Int × Int)
  | ⟨[(0, .tup [.agg [.ints .u64 4 y_0], .int .i64 y_1])], [], 0⟩ => some (y_0, y_1)
  | _ => none
noncomputable def f40v1.E (K : Nat) : Entry := genE 0 f40v1.inA (f40v1.F K) (dv1 f40v1.o0)
theorem f40v1.ok (K : Nat) : EntryOK Try.prog 40 (f40v1.E K) := gen_ok mix tys_ok (tab_ok ( tab_nil)) Try.func40 (c := bodyOf Try.f40) (by kernel_rfl) (by kernel_rfl) (loops_none (lp := lpNone) (by kernel_rfl)) (av := f40v1.av) (bl := f40v1.bl) (inR := f40v1.inR) (out := f40v1.o0) (fuel := 400)
  (by intro s x h; unfold f40v1.inA at h; split at h <;> simp at h; subst h; rfl) (fun _ => Nat.le_of_ble_eq_true rfl)
  (by intro s y h; unfold f40v1.inR at h; split at h <;> simp at h <;> subst h <;> rfl) (fun _ _ _ => rfl) (fun _ => by kernel_rfl)
end Go.Proofs

namespace Go.Proofs
open Go.VM
def f76v1.T (_K : Nat)  : Option (Int) :=
  some (0)
def f76v1.F (K : Nat) (_x : Unit) : Option (Int) := f76v1.T K
def f76v1.av (_x : Unit) : List VV := [.raw (.pointer none), .fn 77 []]
def f76v1.bl (_x : Unit) : List (Nat × Blk) := []
def f76v1.inA : VS → Option (Unit)
  | ⟨[(0, .raw (.pointer none)), (1, .fn 77 [])], [], 0⟩ => some ()
  | _ => none
def f76v1.o0 (y : Int) : VS := ⟨[(0, .int .u64 y)], [], 0⟩
def f76v1.inR : VS → Option (Int)
  | ⟨[(0, .int .u64 y)], [], 0⟩ => some y
  | _ => none
noncomputable def f76v1.E (K : Nat) : Entry := genE 0 f76v1.inA (f76v1.F K) (dv1 f76v1.o0)
theorem f76v1.ok (K : Nat) : EntryOK Try.prog 76 (f76v1.E K) := gen_ok mix tys_ok (tab_ok ( tab_nil)) Try.func76 (c := bodyOf Try.f76) (by kernel_rfl) (by kernel_rfl) (loops_none (lp := lpNone) (by kernel_rfl)) (av := f76v1.av) (bl := f76v1.bl) (inR := f76v1.inR) (out := f76v1.o0) (fuel := 400)
  (by intro s x h; unfold f76v1.inA at h; split at h <;> simp at h; rfl) (fun _ => Nat.le_of_ble_eq_true rfl)
  (by intro s y h; unfold f76v1.inR at h; split at h <;> simp at h <;> subst h <;> rfl) (fun _ _ _ => rfl) (fun _ => by kernel_rfl)
end Go.Proofs

namespace Go.Proofs
open Go.VM
def f44v1.T (K : Nat)  : Option (Int) :=
  (f76v1.F K ()).bind fun y1 =>
  some y1
def f44v1.F (K : Nat) (_x : Unit) : Option (Int) := f44v1.T K
def f44v1.av (_x : Unit) : List VV := [.raw (.pointer none)]
def f44v1.bl (_x : Unit) : List (Nat × Blk) := []
def f44v1.inA : VS → Option (Unit)
  | ⟨[(0, .raw (.pointer none))], [], 0⟩ => some ()
  | _ => none
def f44v1.o0 (y : Int) : VS := ⟨[(0, .int .u64 y)], [], 0⟩
def f44v1.inR : VS → Option (Int)
  | ⟨[(0, .int .u64 y)], [], 0⟩ => some y
  | _ => none
noncomputable def f44v1.E (K : Nat) : Entry := genE 0 f44v1.inA (f44v1.F K) (dv1 f44v1.o0)
theorem f44v1.ok (K : Nat) : EntryOK Try.prog 44 (f44v1.E K) := gen_ok mix tys_ok (tab_ok ((tab_cons (f76v1.ok K) tab_nil))) Try.func44 (c := bodyOf Try.f44) (by kernel_rfl) (by kernel_rfl) (loops_none (lp := lpNone) (by kernel_rfl)) (av := f44v1.av) (bl := f44v1.bl) (inR := f44v1.inR) (out := f44v1.o0) (fuel := 400)
  (by intro s x h; unfold f44v1.inA at h; split at h <;> simp at h; rfl) (fun _ => Nat.le_of_ble_eq_true rfl)
  (by intro s y h; unfold f44v1.inR at h; split at h <;> simp at h <;> subst h <;> rfl) (fun _ _ _ => rfl) (fun _ => by kernel_rfl)
end Go.Proofs

namespace Go.Proofs
open Go.VM
def f37.T (K : Nat)  : Option (Bool) :=
  (f38.F K [0, 0, 0, 0, 0, 0, 0, 0, 0, 0, 0, 0, 0, 0, 0, 0, 0, 0, 0, 0, 0, 0, 0, 0, 0, 0, 0, 0, 0, 0, 0, 0]).bind fun y1 =>
  (f44.F K (y1.1, y1.2.1, y1.2.2)).bind fun y2 =>
  (f42.F K (y2.2.1, y2.2.2.1, y2.2.2.2)).bind fun y3 =>
  (f44.F K (y3.2.1, y3.2.2.1, y3.2.2.2)).bind fun y4 =>
  (f40.F K ([0, 0, 0, 0], [2, 0, 0, 0], [0, 0, 0, 0], y4.2.1, y4.2.2.1, y4.2.2.2)).bind fun y5 =>
  (f44.F K (y5.2.2.1, y5.2.2.2.1, y5.2.2.2.2)).bind fun y6 =>
  (f40.F K ([0, 0, 0, 0], [3, 0, 0, 0], [0, 0, 0, 0], y6.2.1, y6.2.2.1, y6.2.2.2)).bind fun y7 =>
  (f40v1.F K ([0, 0, 0, 0], [0, 0, 0, 0], [0, 0, 0, 0])).bind fun y8 =>
  bif (y2.1 == 0) then
    bif (y4.1 == 1) then
      bif (y5.2.1 == 1) then
        bif (y6.1 == 1) then
          bif (y7.2.1 == 0) then
            (f33.F K 1).bind fun y11 =>
            bif (eqL 4 y7.1 y11 && true) then
              bif (!(eqL 32 y3.1 [0, 0, 0, 0, 0, 0, 0, 0, 0, 0, 0, 0, 0, 0, 0, 0, 0, 0, 0, 0, 0, 0, 0, 0, 0, 0, 0, 0, 0, 0, 0, 0] && true)) then
                bif (y8.2 == 2) then
                  (f44v1.F K ()).bind fun y14 =>
                  some (y14 == 0)
                else
                  some false
              else
                some false
            else
              (f33.F K 2).bind fun y15 =>
              bif (eqL 4 y7.1 y15 && true) then
                bif (!(eqL 32 y3.1 [0, 0, 0, 0, 0, 0, 0, 0, 0, 0, 0, 0, 0, 0, 0, 0, 0, 0, 0, 0, 0, 0, 0, 0, 0, 0, 0, 0, 0, 0, 0, 0] && true)) then
                  bif (y8.2 == 2) then
                    (f44v1.F K ()).bind fun y18 =>
                    some (y18 == 0)
                  else
                    some false
                else
                  some false
              else
                some false
          else
            some false
        else
          some false
      else
        some false
    else
      some false
  else
    some false
def f37.F (K : Nat) (_x : Unit) : Option (Bool) := f37.T K
def f37.av (_x : Unit) : List VV := []
def f37.bl (_x : Unit) : List (Nat × Blk) := []
def f37.inA : VS → Option (Unit)
  | ⟨[], [], 0⟩ => some ()
  | _ => none
def f37.o0 (y : Bool) : VS := ⟨[(0, .bool y)], [], 0⟩
def f37.inR : VS → Option (Bool)
  | ⟨[(0, .bool y)], [], 0⟩ => some y
  | _ => none
noncomputable def f37.E (K : Nat) : Entry := genE 0 f37.inA (f37.F K) (dv1 f37.o0)
theorem f37.ok (K : Nat) : EntryOK Try.prog 37 (f37.E K) := gen_ok mix tys_ok (sp := tabSp [(38, (f38.E K)), (44, (orF (fitE 1 f44.inA) (f44.E K) (f44v1.E K))), (42, (f42.E K)), (40, (orF (fitE 1 f40.inA) (f40.E K) (f40v1.E K))), (33, (f33.E K))]) (tab_ok ((tab_cons (f38.ok K) (tab_cons (orF_ok (f44.ok K) (f44v1.ok K)) (tab_cons (f42.ok K) (tab_cons (orF_ok (f40.ok K) (f40v1.ok K)) (tab_cons (f33.ok K) tab_nil))))))) Try.func37 (c := bodyOf Try.f37) (by kernel_rfl) (by kernel_rfl) (loops_none (lp := lpNone) (by kernel_rfl)) (av := f37.av) (bl := f37.bl) (inR := f37.inR) (out := f37.o0) (fuel := 400)
  (by intro s x h; unfold f37.inA at h; split at h <;> simp at h; rfl) (fun _ => Nat.le_of_ble_eq_true rfl)
  (by intro s y h; unfold f37.inR at h; split at h <;> simp at h <;> subst h <;> rfl) (fun _ _ _ => rfl) (fun _ => by kernel_rfl)
end Go.Proofs

namespace Go.Proofs
open Go.VM
set_option maxRecDepth 1000000 in
theorem f37.holds : f37.F 100000 () = some true := by decide +kernel
def Dr.sum (s : List Int) (n : Nat) : List Int := Sh.mac s ([100, 114, 97, 119] ++ be 8 n)
theorem f68.spec (K : Nat) (a b : Int) (s : List Int) : f68.F K (a, b, s) = some (b == 1, a, b, s) := rfl
theorem f69.spec (K n : Nat) (s : List Int) (hs : s.length = 32) (ho : octets s) (hn : n < 18446744073709551616) (hK : 1000 < K) :
    f69.F K ((n : Int), 1, s) = some (Dr.sum s n, (((n + 1) % 18446744073709551616 : Nat) : Int), 1, s) := by
  simp only [f69.F, f69.T]
  have e1 := f59.spec K 0 8 n [] rfl hn (by omega) (by omega)
  rw [List.nil_append, Nat.zero_add] at e1
  rw [show ((8 : Int)) = ((8 : Nat) : Int) from rfl, e1, bind_s]
  simp only []
  rw [Nat.zero_add, ble_true (Nat.le_refl 8), Bool.and_self, Bool.and_self, cond_t, subI_self _ hs, subI_self _ (be_length 8 n),
    f15.spec K 32 s 4 [100, 114, 97, 119] 8 (be 8 n) hs ho (by omega) rfl (by intro x hx; simp only [List.mem_cons, List.not_mem_nil, or_false] at hx; omega) (by omega) (be_length _ _) (be_octets _ _) (by omega) (by omega), bind_s]
  simp only []
  rw [show ((n : Int)) + 1 = ((n + 1 : Nat) : Int) by omega, wrap_nat, Dr.sum]
theorem f42.spec (K n : Nat) (s : List Int) (hs : s.length = 32) (ho : octets s) (hn : n < 18446744073709551616) (hK : 1000 < K) :
    f42.F K ((n : Int), 1, s) = some (Dr.sum s n, (((n + 1) % 18446744073709551616 : Nat) : Int), 1, s) := by
  simp only [f42.F, f42.T, f74.F, f74.T]
  rw [f68.spec, bind_s]
  simp only []
  rw [show ((1 : Int) == 1) = true from rfl, Bool.not_true, cond_f, f69.spec K n s hs ho hn hK, bind_s, bind_s]
theorem f44.spec (K : Nat) (n : Int) (s : List Int) : f44.F K (n, 1, s) = some (n, n, 1, s) := rfl
end Go.Proofs

namespace Go.Proofs
open Go.VM
theorem eqL_refl (n : Nat) (l : List Int) : eqL n l l = true := by simp [eqL]
def up64 (n : Nat) : Nat := (n + 1) % 18446744073709551616
theorem f42.next (K n : Nat) (s : List Int) (hs : s.length = 32) (ho : octets s) (hn : n < 18446744073709551616) (hK : 1000 < K) :
    f42.F K ((n : Int), 1, s) = some (Dr.sum s n, ((up64 n : Nat) : Int), 1, s) := f42.spec K n s hs ho hn hK
end Go.Proofs

namespace Go.Proofs
open Go.VM
end Go.Proofs

namespace Go.Proofs
open Go.VM
end Go.Proofs

namespace Go.Proofs
open Go.VM
theorem f24.spec (K : Nat) (name : ByteArray) (n0 : Nat) (l0 : List Int) (n1 : Nat) (l1 : List Int) (hs : name.size ≤ 1000000000) (e0 : l0.length = n0) (o0 : octets l0) (z0 : n0 ≤ 1000000000) (e1 : l1.length = n1) (o1 : octets l1) (z1 : n1 ≤ 1000000000) (hK : 200 + name.size < K) (k0 : 68 + n0 < K) (k1 : 68 + n1 < K) :
    f24.F K (name, n0, n1, n0, l0, n1, l1) = some (Sh.sha (strL name) [l0, l1], n0, n1, n0, l0, n1, l1) := by
  have hnl := strL_length name
  have hno := strL_octets name
  simp only [f24.F, f24.T]
  rw [show f49.F K () = some ([0, 0, 0, 0, 0, 0, 0, 0, 0, 0, 0, 0, 0, 0, 0, 0, 0, 0, 0, 0, 0, 0, 0, 0, 0, 0, 0, 0, 0, 0, 0, 0, 0, 0, 0, 0, 0, 0, 0, 0, 0, 0, 0, 0, 0, 0, 0, 0, 0, 0, 0, 0, 0, 0, 0, 0, 0, 0, 0, 0, 0, 0, 0, 0], 0, 0, Sh.init) from rfl, bind_s]
  have a0 : f58.F K (0, name.size, 0, [], name.size, strL name) = some (0 + 4 + name.size, 0, [], name.size, strL name, 0 + 4 + name.size, [] ++ Sh.frame (strL name)) := f58.spec K 0 name.size [] (strL name) rfl hnl (by omega) (by omega)
  have a1 : f59.F K (0, ((2 : Nat) : Int), ((4 : Nat) : Int), 0, []) = some (4, 4, 0, [], 4, [] ++ be 4 2) := f59.spec K 0 4 2 [] rfl (by omega) (by omega) (by omega)
  rw [Nat.zero_add, List.nil_append] at a0
  rw [List.nil_append] at a1
  rw [Nat.zero_add, ble_true (Nat.le_refl name.size), Bool.and_self, Bool.and_self, cond_t, subI_self _ hnl, a0, bind_s, show ((2 : Int)) = ((2 : Nat) : Int) from rfl, show ((4 : Int)) = ((4 : Nat) : Int) from rfl, a1, bind_s]
  simp only []
  have hf := frame_length (strL name)
  rw [hnl] at hf
  rw [Nat.zero_add, Nat.zero_add, ble_true (Nat.le_refl (4 + name.size)), ble_true (Nat.le_refl 4), Bool.and_self, Bool.and_self, Bool.and_self, cond_t, subI_self _ hf, subI_self _ (be_length 4 2)]
  obtain ⟨B, H, S, c0, R⟩ := f57v2.spec K [] (4 + name.size) (Sh.frame (strL name)) 4 (be 4 2) hf (frame_octets hno) (by omega) (be_length _ _) (be_octets _ _) (by omega) _ _ _ Sh.rep0 (by omega)
  rw [show f57v2.F K ([0, 0, 0, 0, 0, 0, 0, 0, 0, 0, 0, 0, 0, 0, 0, 0, 0, 0, 0, 0, 0, 0, 0, 0, 0, 0, 0, 0, 0, 0, 0, 0, 0, 0, 0, 0, 0, 0, 0, 0, 0, 0, 0, 0, 0, 0, 0, 0, 0, 0, 0, 0, 0, 0, 0, 0, 0, 0, 0, 0, 0, 0, 0, 0], 0, 0, 4 + name.size, 4, Sh.init, 4 + name.size, Sh.frame (strL name), 4, be 4 2) = _ from c0, bind_s]
  simp only []
  have g0 : f58.F K (0, n0, 0, [], n0, l0) = some (4 + n0, 0, [], n0, l0, 4 + n0, Sh.frame l0) := by
    have := f58.spec K 0 n0 [] l0 rfl e0 (by omega) (by omega)
    rw [Nat.zero_add, List.nil_append] at this
    exact this
  have f0_ : (Sh.frame l0).length = 4 + n0 := by rw [frame_length, e0]
  rw [Nat.zero_add, ble_true (Nat.le_refl n0), Bool.and_self, Bool.and_self, cond_t, subI_self _ e0, g0, bind_s]
  simp only []
  rw [Nat.zero_add, ble_true (Nat.le_refl (4 + n0)), Bool.and_self, Bool.and_self, cond_t, subI_self _ f0_]
  obtain ⟨B0, H0, S0, c0_, R0⟩ := f57.spec K ([] ++ Sh.frame (strL name) ++ be 4 2) (4 + n0) (Sh.frame l0) f0_ (frame_octets o0) (by omega) _ _ _ R (by omega)
  rw [c0_, bind_s]
  simp only []
  have g1 : f58.F K (0, n1, 0, [], n1, l1) = some (4 + n1, 0, [], n1, l1, 4 + n1, Sh.frame l1) := by
    have := f58.spec K 0 n1 [] l1 rfl e1 (by omega) (by omega)
    rw [Nat.zero_add, List.nil_append] at this
    exact this
  have f1_ : (Sh.frame l1).length = 4 + n1 := by rw [frame_length, e1]
  rw [Nat.zero_add, ble_true (Nat.le_refl n1), Bool.and_self, Bool.and_self, cond_t, subI_self _ e1, g1, bind_s]
  simp only []
  rw [Nat.zero_add, ble_true (Nat.le_refl (4 + n1)), Bool.and_self, Bool.and_self, cond_t, subI_self _ f1_]
  obtain ⟨B1, H1, S1, c1_, R1⟩ := f57.spec K ([] ++ Sh.frame (strL name) ++ be 4 2 ++ Sh.frame l0) (4 + n1) (Sh.frame l1) f1_ (frame_octets o1) (by omega) _ _ _ R0 (by omega)
  rw [c1_, bind_s]
  simp only []
  rw [f51.spec K _ _ _ _ R1 (by omega), bind_s]
  simp only []
  have hM : [] ++ Sh.frame (strL name) ++ be 4 2 ++ Sh.frame l0 ++ Sh.frame l1 = Sh.cut (strL name) [l0, l1] := by
    simp only [Sh.cut, List.nil_append, List.length_cons, List.length_nil, List.flatMap_cons, List.flatMap_nil, List.append_nil, List.append_assoc]
  rw [hM, ← Sh.sha]
theorem f53.spec (K : Nat) (name : ByteArray) (x : Int) (n0 : Nat) (l0 : List Int)  (hs : name.size ≤ 1000) (hx : 0 ≤ x ∧ x < 256) (e0 : l0.length = n0) (o0 : octets l0) (z0 : n0 ≤ 1000) (hK : 10000 < K) :
    f53.F K (x, name, n0, n0, l0) = some (num (tv (Sh.sha (strL name) [l0, [x]])), name, n0, n0, l0, [x]) := by
  simp only [f53.F, f53.T]
  rw [Nat.zero_add, ble_true (Nat.le_refl n0), Bool.and_self, Bool.and_self, cond_t, subI_self _ e0]
  rw [f24.spec K name n0 l0 1 [x] (by omega) e0 o0 (by omega) rfl (by intro y hy; simp only [List.mem_singleton] at hy; omega) (by omega) (by omega) (by omega) (by omega), bind_s]
  simp only []
  rw [subI_self _ (sha_length _ _), f31.spec K _ (sha_length _ _) (sha_octets _ _) (by omega), bind_s]
theorem f53v1.spec (K : Nat) (name : ByteArray) (x : Int) (n0 : Nat) (l0 : List Int) (w : List Int) (hs : name.size ≤ 1000) (hx : 0 ≤ x ∧ x < 256) (e0 : l0.length = n0) (o0 : octets l0) (z0 : n0 ≤ 1000) (hK : 10000 < K) :
    f53v1.F K (x, name, n0, n0, l0, w) = some (num (tv (Sh.sha (strL name) [l0, [x]])), name, n0, n0, l0, w, [x]) := by
  simp only [f53v1.F, f53v1.T]
  rw [Nat.zero_add, ble_true (Nat.le_refl n0), Bool.and_self, Bool.and_self, cond_t, subI_self _ e0]
  rw [f24.spec K name n0 l0 1 [x] (by omega) e0 o0 (by omega) rfl (by intro y hy; simp only [List.mem_singleton] at hy; omega) (by omega) (by omega) (by omega) (by omega), bind_s]
  simp only []
  rw [subI_self _ (sha_length _ _), f31.spec K _ (sha_length _ _) (sha_octets _ _) (by omega), bind_s]
theorem f22.spec (Q : Nat) (name : ByteArray) (n0 : Nat) (l0 : List Int) (hs : name.size ≤ 1000) (hQ : Q < 2 ^ 256) (h0 : 0 < Q) (e0 : l0.length = n0) (o0 : octets l0) (z0 : n0 ≤ 1000) :
    f22.F 100000 (num Q, name, n0, n0, l0) = some (num (Sh.number Q (strL name) [l0]), 0, n0, n0, l0) := by
  have b1 := tv_lt 32 _ (sha_length (strL name) [l0, [1]]) (sha_octets _ _)
  have b2 := tv_lt 32 _ (sha_length (strL name) [l0, [0]]) (sha_octets _ _)
  simp only [f22.F, f22.T]
  rw [f53.spec 100000 name 1 n0 l0 hs (by omega) e0 o0 z0 (by omega), bind_s]
  simp only []
  rw [f53v1.spec 100000 name 0 n0 l0 _ hs (by omega) e0 o0 z0 (by omega), bind_s]
  simp only []
  rw [f54.spec _ _ Q b1 b2 hQ h0, bind_s]
  simp only [Sh.number, List.cons_append, List.nil_append]
end Go.Proofs

namespace Go.Proofs
open Go.VM
def Dr.num (Q : Nat) (s : List Int) (n : Nat) : Nat := Sh.number (Q - 1) (strL f40.k0) [Dr.sum s n] + 1
theorem dr_lt {Q : Nat} (h : 3 ≤ Q) (s : List Int) (n : Nat) : Dr.num Q s n < Q := by
  have : Sh.number (Q - 1) (strL f40.k0) [Dr.sum s n] < Q - 1 := Nat.mod_lt _ (by omega)
  unfold Dr.num; omega
theorem f40.spec (p g : List Int) (Q : Nat) (hQ : Q < 2 ^ 256) (h : 3 ≤ Q) (n : Nat) (hn : n < 18446744073709551616) (s : List Int) (hs : s.length = 32) (so : octets s) :
    f40.F 100000 (p, num Q, g, (n : Int), 1, s) = some (num (Dr.num Q s n), 0, ((up64 n : Nat) : Int), 1, s) := by
  have hlt := dr_lt h s n
  simp only [f40.F, f40.T]
  rw [f68.spec, bind_s]
  simp only []
  have hc : ¬ cmp Q 3 < 0 := by
    unfold cmp; split <;> (try split) <;> omega
  rw [show ((1 : Int) == 1) = true from rfl, Bool.not_true, cond_f, show f33.F 100000 3 = some (num 3) from f33.spec 100000 3 (by omega), bind_s, f35.spec 100000 Q 3 hQ (by decide) (by omega), bind_s, decide_eq_false hc, cond_f,
    f69.spec 100000 n s hs so hn (by omega), bind_s, show f33.F 100000 1 = some (num 1) from f33.spec 100000 1 (by omega), bind_s, f67.spec 100000 Q 1 hQ (by decide) (by omega), bind_s]
  simp only []
  have e1 : num (Q + 2 ^ 256 - 1) = num (Q - 1) := by
    rw [← num_mod (Q + 2 ^ 256 - 1), show Q + 2 ^ 256 - 1 = (Q - 1) + 2 ^ 256 by omega, Nat.add_mod_right, num_mod]
  rw [e1, subI_self (Dr.sum s n) (show (Dr.sum s n).length = 32 from mac_length _ _), f22.spec (Q - 1) f40.k0 32 _ (by decide) (by omega) (by omega) (show (Dr.sum s n).length = 32 from mac_length _ _) (show octets (Dr.sum s n) from mac_octets _ _) (by omega), bind_s]
  simp only []
  rw [bind_s, f70.spec 100000 _ 1 (by omega), bind_s]
  rfl
end Go.Proofs

namespace Go.Proofs
open Go.VM
abbrev f10.Ty0 := Nat × Int × List Int × List Int × List Int × List Int × Int × Int × List Int × Int × Int × List Int
abbrev f10.Ty1 := Bool × List Int × Int × Int × List Int × Int × Int × List Int
abbrev f10.Ty2 := List Int × List Int × List Int × List Int × Nat × List Int
abbrev f10.Ty3 := List Int × Int × Int × List Int × Int × Int × List Int
abbrev f10.Ty4 := Bool × List Int
noncomputable def f10.c : Code := bodyOf Try.f10
def f10.s0t (K : Nat) (rec : f10.Ty0 → Option ((f10.Ty1) ⊕ (f10.Ty3))) (t2 : Nat) (t9 : Int) (b0 : List Int) (b2_0 : List Int) (b2_1 : List Int) (b2_2 : List Int) (b3_0 : Int) (b3_1 : Int) (b3_2 : List Int) (b4_0 : Int) (b4_1 : Int) (b4_2 : List Int) : Option ((f10.Ty1) ⊕ (f10.Ty3)) :=
  bif (decide (t9 < ((t2 : Nat) : Int))) then
    (f42.F K (b3_0, b3_1, b3_2)).bind fun y12 =>
    bif decide (0 ≤ t9 ∧ t9 < ((t2 : Nat) : Int)) then
      let v13 := 0 + (Int.toNat t9)
      bif Nat.blt v13 (List.length b0) then
        bif !(List.getD b0 v13 0 != 0) then
          (f42.F K (b4_0, b4_1, b4_2)).bind fun y15 =>
          bif (!(eqL 32 y15.1 y12.1 && true)) then
            some (.inl (false, b0, y12.2.1, y12.2.2.1, y12.2.2.2, y15.2.1, y15.2.2.1, y15.2.2.2))
          else
            rec (t2, (IntKind.wrap .i64 (t9 + 1)), b0, b2_0, b2_1, b2_2, y12.2.1, y12.2.2.1, y12.2.2.2, y15.2.1, y15.2.2.1, y15.2.2.2)
        else
          (f40.F K (b2_0, b2_1, b2_2, b4_0, b4_1, b4_2)).bind fun y18 =>
          bif (y18.2.1 != 0) then
            some (.inl (false, b0, y12.2.1, y12.2.2.1, y12.2.2.2, y18.2.2.1, y18.2.2.2.1, y18.2.2.2.2))
          else
            rec (t2, (IntKind.wrap .i64 (t9 + 1)), b0, b2_0, b2_1, b2_2, y12.2.1, y12.2.2.1, y12.2.2.2, y18.2.2.1, y18.2.2.2.1, y18.2.2.2.2)
      else
        none
    else
      none
  else
    some (.inr (b0, b3_0, b3_1, b3_2, b4_0, b4_1, b4_2))
def f10.s0 (K : Nat) (rec : f10.Ty0 → Option ((f10.Ty1) ⊕ (f10.Ty3))) (x : f10.Ty0) : Option ((f10.Ty1) ⊕ (f10.Ty3)) := f10.s0t K rec x.1 x.2.1 x.2.2.1 x.2.2.2.1 x.2.2.2.2.1 x.2.2.2.2.2.1 x.2.2.2.2.2.2.1 x.2.2.2.2.2.2.2.1 x.2.2.2.2.2.2.2.2.1 x.2.2.2.2.2.2.2.2.2.1 x.2.2.2.2.2.2.2.2.2.2.1 x.2.2.2.2.2.2.2.2.2.2.2
noncomputable def f10.s0.b : Code := (findLoop 0 f10.c).getD .skip
def f10.s0.h : Hint := { lv := [2, 4, 7, 8, 9] }
def f10.s0.ho : Hint := { lv := [6, 7, 8] }
def f10.s0.shp (x : f10.Ty0) : VS := ⟨[(2, .vw true 0 0 x.1 1), (4, .ptr 2 0), (7, .ptr 3 0), (8, .ptr 4 0), (9, .int .i64 x.2.1)], [(0, ([], 0, .rb x.2.2.1)), (2, ([.ints .u64 4 x.2.2.2.1, .ints .u64 4 x.2.2.2.2.1, .ints .u64 4 x.2.2.2.2.2.1], 63, .norm)), (3, ([.int .u64 x.2.2.2.2.2.2.1, .int .i64 x.2.2.2.2.2.2.2.1, .ints .u8 32 x.2.2.2.2.2.2.2.2.1], 102, .norm)), (4, ([.int .u64 x.2.2.2.2.2.2.2.2.2.1, .int .i64 x.2.2.2.2.2.2.2.2.2.2.1, .ints .u8 32 x.2.2.2.2.2.2.2.2.2.2.2], 102, .norm))], 5⟩
def f10.s0.inX : VS → Option (f10.Ty0)
  | ⟨[(2, .vw true 0 0 t2 1), (4, .ptr 2 0), (7, .ptr 3 0), (8, .ptr 4 0), (9, .int .i64 t9)], [(0, ([], 0, .rb b0)), (2, ([.ints .u64 4 b2_0, .ints .u64 4 b2_1, .ints .u64 4 b2_2], 63, .norm)), (3, ([.int .u64 b3_0, .int .i64 b3_1, .ints .u8 32 b3_2], 102, .norm)), (4, ([.int .u64 b4_0, .int .i64 b4_1, .ints .u8 32 b4_2], 102, .norm))], 5⟩ => some (t2, t9, b0, b2_0, b2_1, b2_2, b3_0, b3_1, b3_2, b4_0, b4_1, b4_2)
  | _ => none
def f10.s0.o0 (y : f10.Ty1) : VS := ⟨[(6, .bool y.1), (7, .ptr 2 0), (8, .ptr 3 0)], [(0, ([], 0, .rb y.2.1)), (2, ([.int .u64 y.2.2.1, .int .i64 y.2.2.2.1, .ints .u8 32 y.2.2.2.2.1], 102, .norm)), (3, ([.int .u64 y.2.2.2.2.2.1, .int .i64 y.2.2.2.2.2.2.1, .ints .u8 32 y.2.2.2.2.2.2.2], 102, .norm))], 4⟩
def f10.s0.o1 (y : f10.Ty3) : VS := ⟨[(7, .ptr 2 0), (8, .ptr 3 0)], [(0, ([], 0, .rb y.1)), (2, ([.int .u64 y.2.1, .int .i64 y.2.2.1, .ints .u8 32 y.2.2.2.1], 102, .norm)), (3, ([.int .u64 y.2.2.2.2.1, .int .i64 y.2.2.2.2.2.1, .ints .u8 32 y.2.2.2.2.2.2], 102, .norm))], 4⟩
def f10.s0.des : ∀ α : Type, ((f10.Ty1) ⊕ (f10.Ty3)) → (Ex → VS → Option α) → Option α := (desA (des1 (.ret) f10.s0.o0) (des1 (.exit 0) f10.s0.o1))
def f10.s0.out : (f10.Ty1) ⊕ (f10.Ty3) → Ex × VS := (alt (fun y => (.ret, f10.s0.o0 y)) (fun y => (.exit 0, f10.s0.o1 y)))
theorem f10.s0.desOK : ∀ α y (k : Ex → VS → Option α), f10.s0.des α y k = k (f10.s0.out y).1 (f10.s0.out y).2 := (desA_ok (fun _ _ _ => rfl) (fun _ _ _ => rfl))
def f10.s0.inY : Ex → VS → Option ((f10.Ty1) ⊕ (f10.Ty3))
  | .ret, ⟨[(6, .bool t6), (7, .ptr 2 0), (8, .ptr 3 0)], [(0, ([], 0, .rb b0)), (2, ([.int .u64 b2_0, .int .i64 b2_1, .ints .u8 32 b2_2], 102, .norm)), (3, ([.int .u64 b3_0, .int .i64 b3_1, .ints .u8 32 b3_2], 102, .norm))], 4⟩ => some (.inl (t6, b0, b2_0, b2_1, b2_2, b3_0, b3_1, b3_2))
  | .exit 0, ⟨[(7, .ptr 2 0), (8, .ptr 3 0)], [(0, ([], 0, .rb b0)), (2, ([.int .u64 b2_0, .int .i64 b2_1, .ints .u8 32 b2_2], 102, .norm)), (3, ([.int .u64 b3_0, .int .i64 b3_1, .ints .u8 32 b3_2], 102, .norm))], 4⟩ => some (.inr (b0, b2_0, b2_1, b2_2, b3_0, b3_1, b3_2))
  | _, _ => none
def f10.lp (K : Nat) : Nat → Option (Hint × Summ) := tabLp [(0, f10.s0.h, summOf (iter (f10.s0 K) K) f10.s0.inX f10.s0.des)]
noncomputable def f10.tab (K : Nat) : List (Nat × Entry) := [(37, (f37.E K)), (33, (f33.E K)), (35, (f35.E K)), (38, (f38.E K)), (42, (f42.E K)), (40, (f40.E K)), (44, (f44.E K))]
theorem f10.tabOK (K : Nat) : SpecOK Try.prog (tabSp (f10.tab K)) := tab_ok ((tab_cons (f37.ok K) (tab_cons (f33.ok K) (tab_cons (f35.ok K) (tab_cons (f38.ok K) (tab_cons (f42.ok K) (tab_cons (f40.ok K) (tab_cons (f44.ok K) tab_nil))))))))
theorem f10.s0.eq (K : Nat) (rec : f10.Ty0 → Option ((f10.Ty1) ⊕ (f10.Ty3))) (x : f10.Ty0) : f10.s0 K rec x = roundL (getA tys) (tabSp (f10.tab K)) 68 2 (f10.lp K) 400 f10.s0.b f10.s0.h f10.s0.ho f10.s0.shp f10.s0.inX f10.s0.inY rec x := by kernel_rfl
theorem f10.s0.lok (K : Nat) : LoopsOK Try.prog 68 2 (f10.lp K) f10.s0.b := loops_ok (by
  have h : loopsIn (f10.lp K) f10.s0.b = [] := by kernel_rfl
  rw [h]; simp)
theorem f10.s0.ok (K : Nat) : SummOK Try.prog 68 2 (summOf (iter (f10.s0 K) K) f10.s0.inX f10.s0.des) f10.s0.b :=
  loop_ok mix tys_ok (f10.tabOK K) (h := f10.s0.h) (ho := f10.s0.ho) (shp := f10.s0.shp) (inX := f10.s0.inX) (des := f10.s0.des) (out := f10.s0.out) (inY := f10.s0.inY) (fuel := 400)
    (by intro st x h; unfold f10.s0.inX at h; split at h <;> simp at h; subst h; rfl)
    (by intro e st y h; unfold f10.s0.inY at h; split at h <;> simp at h <;> subst h <;> rfl)
    f10.s0.desOK (f10.s0.lok K) (f10.s0 K) (f10.s0.eq K) K
theorem f10.loops (K : Nat) : LoopsOK Try.prog 68 2 (f10.lp K) f10.c := loops_ok (by
  have h : loopsIn (f10.lp K) f10.c = [(0, f10.s0.b)] := by kernel_rfl
  rw [h]
  intro p hp
  simp only [List.mem_cons, List.not_mem_nil, or_false] at hp
  rcases hp with rfl
  · exact ⟨_, rfl, (f10.s0.ok K)⟩)
def f10.T (K : Nat) (a0 : List Int) (a1_0 : List Int) (a1_1 : List Int) (a1_2 : List Int) (a2 : Nat) (m0 : List Int) : Option (f10.Ty4) :=
  bif (decide (((a2 : Nat) : Int) > 100)) then
    (f37.F K ()).bind fun y3 =>
    some (y3, m0)
  else
    (f33.F K 3).bind fun y4 =>
    (f35.F K (a1_1, y4)).bind fun y5 =>
    bif (decide (y5 < 0)) then
      (f37.F K ()).bind fun y7 =>
      some (y7, m0)
    else
      (f38.F K a0).bind fun y8 =>
      (f38.F K a0).bind fun y9 =>
      (iter (f10.s0 K) K (a2, 0, m0, a1_0, a1_1, a1_2, y8.1, y8.2.1, y8.2.2, y9.1, y9.2.1, y9.2.2)).bind fun y21 =>
      alt (fun y22 =>
        some (y22.1, y22.2.1)) (fun y23 =>
        (f44.F K (y23.2.1, y23.2.2.1, y23.2.2.2.1)).bind fun y24 =>
        (f44.F K (y23.2.2.2.2.1, y23.2.2.2.2.2.1, y23.2.2.2.2.2.2)).bind fun y25 =>
        bif (y24.1 == y25.1) then
          (f42.F K (y24.2.1, y24.2.2.1, y24.2.2.2)).bind fun y27 =>
          (f42.F K (y25.2.1, y25.2.2.1, y25.2.2.2)).bind fun y28 =>
          bif (eqL 32 y27.1 y28.1 && true) then
            (f37.F K ()).bind fun y30 =>
            some (y30, y23.1)
          else
            some (false, y23.1)
        else
          some (false, y23.1)) y21
def f10.F (K : Nat) (x : f10.Ty2) : Option (f10.Ty4) := f10.T K x.1 x.2.1 x.2.2.1 x.2.2.2.1 x.2.2.2.2.1 x.2.2.2.2.2
def f10.av (x : f10.Ty2) : List VV := [.agg [.ints .u8 32 x.1], .agg [.ints .u64 4 x.2.1, .ints .u64 4 x.2.2.1, .ints .u64 4 x.2.2.2.1], .vw true 0 0 x.2.2.2.2.1 1]
def f10.bl (x : f10.Ty2) : List (Nat × Blk) := [(0, ([], 0, .rb x.2.2.2.2.2))]
def f10.inA : VS → Option (f10.Ty2)
  | ⟨[(0, .agg [.ints .u8 32 a0]), (1, .agg [.ints .u64 4 a1_0, .ints .u64 4 a1_1, .ints .u64 4 a1_2]), (2, .vw true 0 0 a2 1)], [(0, ([], 0, .rb m0))], 2⟩ => some (a0, a1_0, a1_1, a1_2, a2, m0)
  | _ => none
def f10.o0 (y : f10.Ty4) : VS := ⟨[(0, .bool y.1)], [(0, ([], 0, .rb y.2))], 2⟩
def f10.des : ∀ α : Type, (f10.Ty4) → (VS → Option α) → Option α := (dv1 f10.o0)
def f10.out : f10.Ty4 → VS := f10.o0
def f10.inR : VS → Option (f10.Ty4)
  | ⟨[(0, .bool y)], [(0, ([], 0, .rb z0))], 2⟩ => some (y, z0)
  | _ => none
noncomputable def f10.E (K : Nat) : Entry := genE 2 f10.inA (f10.F K) f10.des
theorem f10.eq (K : Nat) (x : f10.Ty2) : f10.F K x = xrun (getA tys) (tabSp (f10.tab K)) Try.f10.ntmps 2 (f10.lp K) 400 f10.c ⟨initL 0 (f10.av x), f10.bl x, 2⟩ (contF (getA tys) 2 Try.f10.results.toList f10.inR) := by kernel_rfl
theorem f10.ok (K : Nat) : EntryOK Try.prog 10 (f10.E K) :=
  gen_ok mix tys_ok (f10.tabOK K) Try.func10 (by kernel_rfl : Try.f10.body = some f10.c) (by kernel_rfl) (f10.loops K) (av := f10.av) (bl := f10.bl) (out := f10.out) (fuel := 400)
    (by intro s x h; unfold f10.inA at h; split at h <;> simp at h; subst h; rfl) (fun _ => Nat.le_of_ble_eq_true rfl)
    (by intro s y h; unfold f10.inR at h; split at h <;> simp at h <;> subst h <;> rfl) (fun _ _ _ => rfl) (f10.eq K)
end Go.Proofs

namespace Go.Proofs
open Go.VM
theorem up_one (i : Nat) (h : i < 1000) : up64 i = i + 1 := by rw [up64, Nat.mod_eq_of_lt (by omega)]
theorem cmp_three (Q : Nat) : decide (cmp Q 3 < 0) = decide (Q < 3) := by
  unfold cmp
  by_cases h : Q < 3
  · rw [if_neg (by omega), if_pos h, decide_eq_true h]; rfl
  · by_cases h2 : Q = 3
    · rw [if_pos h2, decide_eq_false h]; rfl
    · rw [if_neg h2, if_neg h, decide_eq_false h]; rfl
theorem f10.holds (s : List Int) (hs : s.length = 32 ∧ ∀ x ∈ s, 0 ≤ x ∧ x < 256) (P Q G : Nat) (_hP : P < 2 ^ 256) (hQ : Q < 2 ^ 256) (_hG : G < 2 ^ 256) (l : List Int) : f10.F 100000 (s, num P, num Q, num G, l.length, l) = some (true, l) := by
  simp only [f10.F, f10.T]
  by_cases h : 100 < l.length
  · rw [decide_eq_true (show ((l.length : Nat) : Int) > 100 by omega), cond_t, f37.holds, bind_s]
  have e3 : f33.F 100000 3 = some (num 3) := f33.spec 100000 3 (by omega)
  rw [decide_eq_false (show ¬ ((l.length : Nat) : Int) > 100 by omega), cond_f, e3, bind_s, f35.spec 100000 Q 3 hQ (by decide) (by omega), bind_s, cmp_three]
  by_cases hQ3 : Q < 3
  · rw [decide_eq_true hQ3, cond_t, f37.holds, bind_s]
  rw [decide_eq_false hQ3, cond_f, show f38.F 100000 s = some (0, 1, s) from rfl, bind_s, bind_s]
  simp only []
  have := iter_for (stp := f10.s0 100000) (N := l.length) (fun i => (l.length, (i : Int), l, num P, num Q, num G, (i : Int), (1 : Int), s, (i : Int), (1 : Int), s)) (y := some (.inr (l, ((l.length : Nat) : Int), 1, s, ((l.length : Nat) : Int), 1, s))) ?_ ?_ (show l.length < 100000 by omega)
  · rw [show iter (f10.s0 100000) 100000 (l.length, 0, l, num P, num Q, num G, 0, 1, s, 0, 1, s) = _ from this, bind_s, altr]
    simp only []
    rw [f44.spec, bind_s, bind_s]
    simp only []
    rw [beq_self_eq_true, cond_t, f42.next 100000 l.length s hs.1 hs.2 (by omega) (by omega), bind_s, bind_s]
    simp only []
    rw [eqL_refl, Bool.and_self, cond_t, f37.holds, bind_s]
  · intro i hi rec
    simp only [f10.s0, f10.s0t]
    have hnx := f42.next 100000 i s hs.1 hs.2 (by omega) (by omega)
    rw [up_one i (by omega)] at hnx
    have hex := f40.spec (num P) (num G) Q hQ (by omega) i (by omega) s hs.1 hs.2
    rw [up_one i (by omega)] at hex
    rw [decide_eq_true (show (i : Int) < ((l.length : Nat) : Int) by omega), cond_t, hnx, bind_s]
    simp only []
    rw [decide_eq_true (show (0 : Int) ≤ (i : Int) ∧ (i : Int) < ((l.length : Nat) : Int) by omega), cond_t, Int.toNat_natCast, Nat.zero_add, show Nat.blt i l.length = true by simp [Nat.blt_eq]; omega, cond_t]
    cases hc : (List.getD l i 0 != 0)
    · rw [Bool.not_false, cond_t, bind_s]
      simp only []
      rw [eqL_refl, Bool.and_self, Bool.not_true, cond_f, wrap_i _ (by omega) (by omega)]
      rfl
    · rw [Bool.not_true, cond_f, hex, bind_s]
      simp only []
      rw [show ((0 : Int) != 0) = false from rfl, cond_f, wrap_i _ (by omega) (by omega)]
      rfl
  · intro rec
    simp only [f10.s0, f10.s0t]
    rw [decide_eq_false (show ¬ ((l.length : Nat) : Int) < ((l.length : Nat) : Int) by omega), cond_f]
end Go.Proofs
