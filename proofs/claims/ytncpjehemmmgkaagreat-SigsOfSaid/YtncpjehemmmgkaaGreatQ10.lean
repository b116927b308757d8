/- Plain laws: lemmas that hold with no condition but those that each states. -/
import Derived.Test.YtncpjehemmmgkaaGreatQ2
import Derived.Test.YtncpjehemmmgkaaGreatQ9
import Derived.Test.YtncpjehemmmgkaaGreatQ3
import Derived.Test.YtncpjehemmmgkaaGreatQ8
namespace Go.Proofs
open Go.VM
namespace f24
abbrev Ty0 := List Int × List Int × List Int
def T (K : Nat) (a0 : List Int) (a1 : List Int) (a2 : List Int) : Option (List Int × Int) :=
 (f44.F K (a0, a1, a2)).bind fun y1 =>
 bif !y1 then
 some ([0, 0, 0, 0], 1)
 else
 (f46.F K (a0, a1)).bind fun y2 =>
 bif (y2.2 == 1) then
 (f30.F K (y2.1, a2)).bind fun y3 =>
 some (y3.1, 0)
 else
 (f29.F K (y2.1, a2)).bind fun y4 =>
 bif (decide (y4 ≥ 0)) then
 (f30.F K (y2.1, a2)).bind fun y6 =>
 some (y6.1, 0)
 else
 some (y2.1, 0)
def F (K : Nat) (x : Ty0) : Option (List Int × Int) := T K x.1 x.2.1 x.2.2
def av (x : Ty0) : List VV := [.agg [.ints .u64 4 x.1], .agg [.ints .u64 4 x.2.1], .agg [.ints .u64 4 x.2.2]]
def bl (_x : Ty0) : List (Nat × Blk) := []
def inA : VS → Option (Ty0)
 | ⟨[(0, .agg [.ints .u64 4 a0]), (1, .agg [.ints .u64 4 a1]), (2, .agg [.ints .u64 4 a2])], [], 0⟩ => some (a0, a1, a2)
 | _ => none
def o0 (y : List Int × Int) : VS := ⟨[(0, .tup [.agg [.ints .u64 4 y.1], .int .i64 y.2])], [], 0⟩
def inR : VS → Option (List Int × Int)
 | ⟨[(0, .tup [.agg [.ints .u64 4 y_0], .int .i64 y_1])], [], 0⟩ => some (y_0, y_1)
 | _ => none
noncomputable def E (K : Nat) : Entry := genE 0 inA (F K) (dv1 o0)
theorem ok (K : Nat) : EntryOK Tryz.prog 24 (E K) := gen_ok mix tys_ok (tab_ok ((tab_cons (f44.ok K) (tab_cons (f46.ok K) (tab_cons (f30.ok K) (tab_cons (f29.ok K) tab_nil)))))) Tryz.func24 (c := bodyOf Tryz.f24) (by kernel_rfl) (by kernel_rfl) (loops_none (lp := lpNone) (by kernel_rfl)) (av := av) (bl := bl) (inR := inR) (out := o0) (fuel := 400)
  (by intro s x h; unfold inA at h; split at h <;> simp at h; subst h; rfl) (fun _ => Nat.le_of_ble_eq_true rfl)
  (by intro s y h; unfold inR at h; split at h <;> simp at h <;> subst h <;> rfl) (fun _ _ _ => rfl) (fun _ => by kernel_rfl)
end f24
end Go.Proofs

namespace Go.Proofs
open Go.VM
theorem f53.one (K : Nat) : f53.F K 1 = some (num 1) := f53.spec K 1 (by decide)
theorem f44.spec (A B M : Nat) (hA : A < 2 ^ 256) (hB : B < 2 ^ 256) (hM : M < 2 ^ 256) : f44.F 100000 (num A, num B, num M) = some (may2 A B M) := by
  simp only [f44.F, f44.T, f53.one, bind_s, f29.spec 100000 M 1 hM (by decide) (by decide), f29.spec 100000 A M hA hM (by decide), f29.spec 100000 B M hB hM (by decide), cmp_gt, cmp_lt]
  unfold may2
  by_cases h1 : 1 < M
  · rw [decide_eq_true h1, cond_t, Bool.true_and]
    by_cases h2 : A < M
    · rw [decide_eq_true h2, cond_t, Bool.true_and]
    · rw [decide_eq_false h2, cond_f, Bool.false_and]
  · rw [decide_eq_false h1, cond_f, Bool.false_and, Bool.false_and]
theorem word_get (X : Nat) (hX : X < 2 ^ 64) : List.getD (num X) 0 0 = (X : Int) := by
  have : (num X).getD 0 0 = ((X / 2 ^ (64 * 0) % 2 ^ 64 : Nat) : Int) := getD_words (by decide)
  rw [this, Nat.mul_zero, Nat.pow_zero, Nat.div_one, Nat.mod_eq_of_lt hX]
theorem f45.spec (A B M : Nat) (hA : A < M) (hB : B < M) (hM : M < 2 ^ 256) : f45.F 100000 (num A, num B, num M) = some (num (A * B % M)) := by
  have hM0 : 0 < M := by omega
  simp only [f45.F, f45.T, f52.spec M hM, bind_s]
  by_cases h : M < 2 ^ 64
  · have hA' : A < 2 ^ 64 := by omega
    have hB' : B < 2 ^ 64 := by omega
    have hlt : A * B < 2 ^ 64 * M := Nat.lt_of_lt_of_le (Nat.mul_lt_mul'' hA hB) (Nat.mul_le_mul_right _ (by omega))
    have hh : A * B / 2 ^ 64 < M := Nat.div_lt_of_lt_mul hlt
    have e : A * B / 2 ^ 64 * 18446744073709551616 + A * B % 2 ^ 64 = A * B := by have := Nat.mod_add_div (A * B) (2 ^ 64); omega
    have hr := Nat.mod_lt (A * B) hM0
    rw [decide_eq_true h, cond_t, word_get A hA', word_get B hB', word_get M h, f69.spec 100000 A B hA' hB', bind_s]
    simp only []
    rw [f70.spec 100000 _ _ M h hh (Nat.mod_lt _ (by decide)) (by decide), bind_s]
    simp only []
    rw [e, f53.spec 100000 _ (by omega), bind_s]
  · have hP : A * B < 2 ^ 256 * 2 ^ 256 := Nat.mul_lt_mul'' (by omega) (by omega)
    have hh : A * B / 2 ^ 256 < 2 ^ 256 := Nat.div_lt_of_lt_mul hP
    have hl : A * B % 2 ^ 256 < 2 ^ 256 := Nat.mod_lt _ (Nat.two_pow_pos 256)
    have e : A * B / 2 ^ 256 * 2 ^ 256 + A * B % 2 ^ 256 = A * B := by have := Nat.mod_add_div (A * B) (2 ^ 256); rw [Nat.mul_comm (2 ^ 256)] at this; omega
    rw [decide_eq_false h, cond_f, f71.spec A B (by omega) (by omega), bind_s]
    simp only []
    rw [← num_mod (A * B), f66.spec _ _ M hl hh hM, if_neg (by omega), bind_s, e]
theorem f24.same (A B M : Nat) (hA : A < 2 ^ 256) (hB : B < 2 ^ 256) (hM : M < 2 ^ 256) : f24.F 100000 (num A, num B, num M) = f20.F 100000 (num A, num B, num M) := by
  rw [f20.spec A B M hA hB hM]
  simp only [f24.F, f24.T, f44.spec A B M hA hB hM, bind_s, num_zero]
  by_cases h : may2 A B M = true
  · obtain ⟨h1, h2, h3⟩ := may2_iff.1 h
    have hm := mod_once (S := A + B) (M := M) (by omega)
    rw [if_pos h, h, Bool.not_true, cond_f, f46.all, bind_s, mod_self_of hA, mod_self_of hB]
    simp only []
    by_cases ho : 2 ^ 256 ≤ A + B
    · have e2 : f30.F 100000 (num (A + B), num M) = some (num (A + B - M), ((if (A + B) % 2 ^ 256 < M then 1 else 0 : Nat) : Int)) := by
        rw [← num_mod (A + B), f30.spec 100000 _ _ (Nat.mod_lt _ (Nat.two_pow_pos 256)) hM (by decide), show (A + B) % 2 ^ 256 + 2 ^ 256 - M = A + B - M by omega]
      rw [show (A + B) / 2 ^ 256 = 1 by omega, show (((1 : Nat) : Int) == 1) = true from rfl, cond_t, e2, bind_s, hm, if_pos (show M ≤ A + B by omega)]
    · have hS : A + B < 2 ^ 256 := by omega
      rw [show (A + B) / 2 ^ 256 = 0 by omega, show (((0 : Nat) : Int) == 1) = false from rfl, cond_f, f29.spec 100000 _ _ hS hM (by decide), bind_s, cmp_ge]
      by_cases hge : M ≤ A + B
      · rw [decide_eq_true hge, cond_t, f30.spec 100000 _ _ hS hM (by decide), bind_s, hm, if_pos hge]
        simp only []
        rw [show A + B + 2 ^ 256 - M = A + B - M + 2 ^ 256 by omega, num_add_mod]
      · rw [decide_eq_false hge, cond_f, hm, if_neg hge]
  · rw [if_neg h]
    rw [Bool.not_eq_true] at h
    rw [h]; rfl
theorem f23.same (A B M : Nat) (hA : A < 2 ^ 256) (hB : B < 2 ^ 256) (hM : M < 2 ^ 256) : f23.F 100000 (num A, num B, num M) = f19.F 100000 (num A, num B, num M) := by
  rw [f19.spec A B M hA hB hM]
  simp only [f23.F, f23.T, f44.spec A B M hA hB hM, bind_s, num_zero]
  by_cases h : may2 A B M = true
  · obtain ⟨h1, h2, h3⟩ := may2_iff.1 h
    rw [if_pos h, h, Bool.not_true, cond_f, f45.spec A B M h2 h3 hM, bind_s]
  · rw [if_neg h]
    rw [Bool.not_eq_true] at h
    rw [h]; rfl
end Go.Proofs

namespace Go.Proofs
open Go.VM
theorem pow_top (A M N e : Nat) : A ^ (N / 2 ^ (e + 1)) % M * (A ^ (N / 2 ^ (e + 1)) % M) % M = A ^ (2 * (N / 2 ^ (e + 1))) % M := by
  rw [← Nat.mul_mod, ← Nat.pow_add, Nat.two_mul]
theorem div_top (N e : Nat) : N / 2 ^ e = 2 * (N / 2 ^ (e + 1)) + N / 2 ^ e % 2 := by
  have h1 : N / 2 ^ (e + 1) = N / 2 ^ e / 2 := by rw [Nat.div_div_eq_div_mul, Nat.pow_succ]
  rw [h1]
  omega
theorem f38.loop (A N M : Nat) (hN : N < 2 ^ 256) (hA : A < M) (h1 : 1 < M) (hM : M < 2 ^ 256) (z : List Int) :
    iter (f38.s0 100000) 100000 (((blen N : Nat) : Int) - 1, num A, num N, num M, z, num 1) = some (z, num (A ^ N % M)) := by
  have hb := blen_256 hN
  have hM0 : 0 < M := by omega
  have key := iter_for (stp := f38.s0 100000) (N := blen N) (fun j => (((blen N : Nat) : Int) - 1 - (j : Int), num A, num N, num M, z, num (A ^ (N / 2 ^ (blen N - j)) % M))) (y := some (z, num (A ^ N % M))) (fun j hj rec => by
      simp only [f38.s0, f38.s0t]
      obtain ⟨e, he⟩ : ∃ e, blen N - j = e + 1 := ⟨blen N - j - 1, by omega⟩
      have hx := Nat.mod_lt (A ^ (N / 2 ^ (e + 1))) hM0
      have hy := Nat.mod_lt (A ^ (2 * (N / 2 ^ (e + 1)))) hM0
      have w : IntKind.wrap .i64 (((blen N : Nat) : Int) - 1 - (j : Int) - 1) = ((blen N : Nat) : Int) - 1 - ((j + 1 : Nat) : Int) := by rw [wrap_i _ (by omega) (by omega)]; omega
      have hd := div_top N e
      rw [decide_eq_true (show ((blen N : Nat) : Int) - 1 - (j : Int) ≥ 0 by omega), cond_t, he, show blen N - (j + 1) = e by omega, f45.spec _ _ M hx hx hM, bind_s, pow_top, w, show ((blen N : Nat) : Int) - 1 - (j : Int) = (e : Int) by omega, f56.all N e hN, bind_s]
      rcases Nat.mod_two_eq_zero_or_one (N / 2 ^ e) with h | h
      · rw [h, show (((0 : Nat) : Int) == 1) = false from rfl, cond_f]
        rw [h, Nat.add_zero] at hd
        rw [← hd]
      · rw [h, show (((1 : Nat) : Int) == 1) = true from rfl, cond_t, f45.spec _ _ M hy hA hM, bind_s, Nat.mod_mul_mod, ← Nat.pow_succ]
        rw [h] at hd
        rw [show (2 * (N / 2 ^ (e + 1))).succ = N / 2 ^ e from hd.symm])
    (fun rec => by
      simp only [f38.s0, f38.s0t]
      rw [decide_eq_false (show ¬ ((blen N : Nat) : Int) - 1 - ((blen N : Nat) : Int) ≥ 0 by omega), cond_f, Nat.sub_self, Nat.pow_zero, Nat.div_one]) (show blen N < 100000 by omega)
  have hs : N / 2 ^ (blen N - 0) = 0 := by rw [Nat.sub_zero]; exact Nat.div_eq_of_lt (blen_lt N)
  simp only [hs, Nat.pow_zero, Nat.mod_eq_of_lt h1] at key
  have key' : iter (f38.s0 100000) 100000 (((blen N : Nat) : Int) - 1 - ((0 : Nat) : Int), num A, num N, num M, z, num 1) = some (z, num (A ^ N % M)) := key
  rwa [show ((blen N : Nat) : Int) - 1 - ((0 : Nat) : Int) = ((blen N : Nat) : Int) - 1 by omega] at key'
theorem bit_of (N e : Nat) : (bits .and .u64 (shiftI .shr .u64 ((N / 2 ^ (64 * (e / 64)) % 2 ^ 64 : Nat) : Int) ((e % 64 : Nat) : Int)) 1 == 1) = (((N / 2 ^ e % 2 : Nat) : Int) == 1) := by
  have hw := Nat.mod_lt (N / 2 ^ (64 * (e / 64))) (show 0 < 2 ^ 64 by decide)
  have hq : N / 2 ^ (64 * (e / 64)) % 2 ^ 64 / 2 ^ (e % 64) ≤ N / 2 ^ (64 * (e / 64)) % 2 ^ 64 := Nat.div_le_self _ _
  have hs : shiftI .shr .u64 ((N / 2 ^ (64 * (e / 64)) % 2 ^ 64 : Nat) : Int) ((e % 64 : Nat) : Int) = ((N / 2 ^ (64 * (e / 64)) % 2 ^ 64 / 2 ^ (e % 64) : Nat) : Int) := by
    simp only [shiftI, IntKind.bits, Int.toNat_natCast]
    rw [Nat.min_eq_left (by omega)]
    exact fdiv_nat _ _
  rw [hs, show (1 : Int) = ((1 : Nat) : Int) from rfl, bits_and_u64_nat _ 1 (by omega) (by decide), Nat.and_one_is_mod, word_bit]
theorem f54.spec (A N M : Nat) (hN : N < 2 ^ 256) (hA : A < M) (h1 : 1 < M) (hM : M < 18446744073709551616) : f54.F 100000 ((A : Int), num N, (M : Int)) = some ((A ^ N % M : Nat) : Int) := by
  have hb := blen_256 hN
  have hM0 : 0 < M := by omega
  have hmul : ∀ X Y : Nat, X < M → Y < M → ∃ h l : Nat, f69.F 100000 ((X : Int), (Y : Int)) = some ((h : Int), (l : Int)) ∧ f70.F 100000 ((h : Int), (l : Int), (M : Int)) = some (((X * Y / M : Nat) : Int), ((X * Y % M : Nat) : Int)) := by
    intro X Y hX hY
    have hlt : X * Y < 2 ^ 64 * M := Nat.lt_of_lt_of_le (Nat.mul_lt_mul'' hX hY) (Nat.mul_le_mul_right _ (by omega))
    have hh : X * Y / 2 ^ 64 < M := Nat.div_lt_of_lt_mul hlt
    have e : X * Y / 2 ^ 64 * 18446744073709551616 + X * Y % 2 ^ 64 = X * Y := by have := Nat.mod_add_div (X * Y) (2 ^ 64); omega
    refine ⟨_, _, f69.spec 100000 X Y (by omega) (by omega), ?_⟩
    rw [f70.spec 100000 _ _ M hM hh (Nat.mod_lt _ (by decide)) (by decide), e]
  have key := iter_for (stp := f54.s0 100000) (N := blen N) (fun j => ((A : Int), (M : Int), ((A ^ (N / 2 ^ (blen N - j)) % M : Nat) : Int), ((blen N : Nat) : Int) - 1 - (j : Int), num N)) (y := some ((A ^ N % M : Nat) : Int)) (fun j hj rec => by
      simp only [f54.s0, f54.s0t]
      obtain ⟨e, he⟩ : ∃ e, blen N - j = e + 1 := ⟨blen N - j - 1, by omega⟩
      have hx := Nat.mod_lt (A ^ (N / 2 ^ (e + 1))) hM0
      have hy := Nat.mod_lt (A ^ (2 * (N / 2 ^ (e + 1)))) hM0
      have w : IntKind.wrap .i64 (((blen N : Nat) : Int) - 1 - (j : Int) - 1) = ((blen N : Nat) : Int) - 1 - ((j + 1 : Nat) : Int) := by rw [wrap_i _ (by omega) (by omega)]; omega
      have hd := div_top N e
      have ek : ((blen N : Nat) : Int) - 1 - (j : Int) = (e : Int) := by omega
      have hq : e / 64 < 4 := by omega
      have e1 : List.getD (num N) (e / 64) 0 = ((N / 2 ^ (64 * (e / 64)) % 2 ^ 64 : Nat) : Int) := getD_words hq
      obtain ⟨h, l, m1, m2⟩ := hmul _ _ hx hx
      rw [decide_eq_true (show ((blen N : Nat) : Int) - 1 - (j : Int) ≥ 0 by omega), cond_t, he, show blen N - (j + 1) = e by omega, m1, bind_s]
      simp only []
      rw [m2, bind_s, pow_top, w, ek]
      simp only []
      rw [show Int.tdiv (e : Int) 64 = ((e / 64 : Nat) : Int) from tdiv_nat e 64, show Int.tmod (e : Int) 64 = ((e % 64 : Nat) : Int) from rfl, wrap_i _ (by omega) (by omega), decide_eq_true (show (0 : Int) ≤ ((e / 64 : Nat) : Int) ∧ ((e / 64 : Nat) : Int) < 4 by omega), cond_t,
        decide_eq_true (show (0 : Int) ≤ ((e % 64 : Nat) : Int) from Int.natCast_nonneg _), cond_t, Int.toNat_natCast, e1, bit_of]
      rcases Nat.mod_two_eq_zero_or_one (N / 2 ^ e) with hbit | hbit
      · rw [hbit, show (((0 : Nat) : Int) == 1) = false from rfl, cond_f]
        rw [hbit, Nat.add_zero] at hd
        rw [← hd]
      · obtain ⟨h', l', n1, n2⟩ := hmul _ _ hy hA
        rw [hbit, show (((1 : Nat) : Int) == 1) = true from rfl, cond_t, n1, bind_s]
        simp only []
        rw [n2, bind_s, Nat.mod_mul_mod, ← Nat.pow_succ]
        rw [hbit] at hd
        rw [show (2 * (N / 2 ^ (e + 1))).succ = N / 2 ^ e from hd.symm])
    (fun rec => by
      simp only [f54.s0, f54.s0t]
      rw [decide_eq_false (show ¬ ((blen N : Nat) : Int) - 1 - ((blen N : Nat) : Int) ≥ 0 by omega), cond_f, Nat.sub_self, Nat.pow_zero, Nat.div_one]) (show blen N < 100000 by omega)
  have hs : N / 2 ^ (blen N - 0) = 0 := by rw [Nat.sub_zero]; exact Nat.div_eq_of_lt (blen_lt N)
  simp only [hs, Nat.pow_zero] at key
  have key' : iter (f54.s0 100000) 100000 ((A : Int), (M : Int), ((1 % M : Nat) : Int), ((blen N : Nat) : Int) - 1, num N) = some ((A ^ N % M : Nat) : Int) := by
    have e0 : ((blen N : Nat) : Int) - 1 - ((0 : Nat) : Int) = ((blen N : Nat) : Int) - 1 := by omega
    rw [← e0]; exact key
  simp only [f54.F, f54.T]
  rw [decide_eq_true (show (M : Int) ≠ 0 by omega), cond_t, f55.spec 100000 N hN (by decide), bind_s, wrap_i _ (by omega) (by omega), show Int.tmod 1 (M : Int) = ((1 % M : Nat) : Int) from rfl, key', bind_s]
theorem f38.same (A N M : Nat) (hA : A < 2 ^ 256) (hN : N < 2 ^ 256) (hM : M < 2 ^ 256) : f38.F 100000 (num A, num N, num M) = f51.F 100000 (num A, num N, num M) := by
  have hb := blen_256 hN
  have em : may2 A A M = may1 A M := by unfold may2 may1; cases decide (1 < M) <;> cases decide (A < M) <;> rfl
  rw [f51.spec A N M hA hN hM]
  simp only [f38.F, f38.T, f44.spec A A M hA hA hM, em, bind_s, num_zero, f53.one]
  by_cases h : may1 A M = true
  · obtain ⟨h1, h2⟩ := may1_iff.1 h
    rw [if_pos h, h, Bool.not_true, cond_f, f52.spec M hM, bind_s]
    by_cases hw : M < 2 ^ 64
    · rw [decide_eq_true hw, cond_t, word_get A (by omega), word_get M hw, f54.spec A N M hN h2 h1 hw, bind_s, f53.spec 100000 _ (by have := Nat.mod_lt (A ^ N) (show 0 < M by omega); omega), bind_s]
    · rw [decide_eq_false hw, cond_f, f55.spec 100000 N hN (by decide), bind_s, wrap_i _ (by omega) (by omega), f38.loop A N M hN h2 h1 hM, bind_s]
  · rw [if_neg h]
    rw [Bool.not_eq_true] at h
    rw [h]; rfl
end Go.Proofs

namespace Go.Proofs
open Go.VM
end Go.Proofs

namespace Go.Proofs
open Go.VM
theorem num_one : ([1, 0, 0, 0] : List Int) = num 1 := rfl
theorem f37.spec (P A : Nat) (q g : List Int) (hP : P < 2 ^ 256) (hA : A < 2 ^ 256) : f37.F 100000 (num P, q, g, num A) = some (gin P A) := by
  simp only [f37.F, f37.T, num_one, num_zero, f29.spec 100000 P 1 hP (by decide) (by decide), f29.spec 100000 A P hA hP (by decide), bind_s, cmp_gt, cmp_lt, eqN A 0 hA (by decide), Bool.and_true]
  unfold gin
  by_cases h1 : 1 < P
  · rw [decide_eq_true h1, cond_t, Bool.true_and]
    by_cases h2 : A = 0
    · rw [decide_eq_true h2, Bool.not_true, cond_f, decide_eq_false (by omega), Bool.false_and]
    · rw [decide_eq_false h2, Bool.not_false, cond_t, decide_eq_true h2, Bool.true_and]
  · rw [decide_eq_false h1, cond_f, Bool.false_and]
theorem f31.spec (P A B : Nat) (q g : List Int) (hP : P < 2 ^ 256) (hA : A < 2 ^ 256) (hB : B < 2 ^ 256) :
    f31.F 100000 (num P, q, g, num A, num B) = some (if (gin P A && gin P B) = true then (num (A * B % P), 0) else (num 0, 1)) := by
  simp only [f31.F, f31.T, f37.spec P A q g hP hA, f37.spec P B q g hP hB, bind_s, num_zero]
  by_cases ha : gin P A = true
  · rw [ha, Bool.not_true, cond_f]
    by_cases hb : gin P B = true
    · obtain ⟨p1, _, p2⟩ := gin_iff.1 ha
      obtain ⟨_, _, p3⟩ := gin_iff.1 hb
      rw [hb, Bool.not_true, cond_f, f23.same A B P hA hB hP, f19.good p1 p2 p3 hP, bind_s]; rfl
    · rw [Bool.not_eq_true] at hb
      rw [hb]; rfl
  · rw [Bool.not_eq_true] at ha
    rw [ha]; rfl
theorem f17.spec (P A N : Nat) (q g : List Int) (hP : P < 2 ^ 256) (hA : A < 2 ^ 256) (hN : N < 2 ^ 256) :
    f17.F 100000 (num P, q, g, num A, num N) = some (if gin P A = true then (num (A ^ N % P), 0) else (num 0, 1)) := by
  simp only [f17.F, f17.T, f37.spec P A q g hP hA, bind_s, num_zero, f38.same A N P hA hN hP, f51.spec A N P hA hN hP]
  by_cases ha : gin P A = true
  · rw [if_pos ha, ha, Bool.not_true, cond_f, if_pos (gin_may ha)]
  · rw [if_neg ha]
    rw [Bool.not_eq_true] at ha
    rw [ha]; rfl
theorem f28.spec (P Q A : Nat) (g : List Int) (hP : P < 2 ^ 256) (hQ : Q < 2 ^ 256) (hA : A < 2 ^ 256) : f28.F 100000 (num P, num Q, g, num A) = some (gmem P Q A) := by
  simp only [f28.F, f28.T, f37.spec P A _ g hP hA, bind_s, num_one, f38.same A Q P hA hQ hP, f51.spec A Q P hA hQ hP]
  unfold gmem
  by_cases h : gin P A = true
  · obtain ⟨p1, _, p2⟩ := gin_iff.1 h
    have : A ^ Q % P < 2 ^ 256 := Nat.lt_trans (Nat.mod_lt _ (by omega)) hP
    rw [h, Bool.not_true, cond_f, if_pos (gin_may h)]
    simp only [beq_self_eq_true, cond_t, eqN _ 1 this (by decide), Bool.and_true, Bool.true_and]
  · rw [Bool.not_eq_true] at h
    rw [h]; rfl
theorem f15.spec (P Q G : Nat) (hP : P < 2 ^ 256) (hQ : Q < 2 ^ 256) (hG : G < 2 ^ 256) : f15.F 100000 (num P, num Q, num G) = some (gfine P Q G) := by
  simp only [f15.F, f15.T, num_one, f29.spec 100000 P 1 hP (by decide) (by decide), f29.spec 100000 Q 1 hQ (by decide) (by decide), bind_s, cmp_gt, f28.spec P Q G _ hP hQ hG, eqN G 1 hG (by decide), Bool.and_true]
  unfold gfine
  by_cases h0 : 1 < P
  · rw [decide_eq_true h0, cond_t]
    by_cases h1 : 1 < Q
    · rw [decide_eq_true h1, cond_t, Bool.true_and]
      by_cases hm : gmem P Q G = true
      · rw [hm, cond_t, Bool.and_true]
        by_cases h2 : G = 1
        · rw [decide_eq_true h2, decide_eq_false (by omega)]; rfl
        · rw [decide_eq_false h2, decide_eq_true h2]; rfl
      · rw [Bool.not_eq_true] at hm
        rw [hm, cond_f, Bool.and_false]
    · rw [decide_eq_false h1, cond_f, Bool.false_and]
  · have hm : gmem P Q G = false := by
      unfold gmem gin
      rw [decide_eq_false h0, Bool.false_and, Bool.false_and]
    rw [decide_eq_false h0, cond_f, hm, Bool.and_false, Bool.and_false]
end Go.Proofs

namespace Go.Proofs
open Go.VM
namespace f16
abbrev Ty0 := List Int × List Int × List Int × List Int
def T (K : Nat) (_a0_0 : List Int) (a0_1 : List Int) (_a0_2 : List Int) (a1 : List Int) : Option (Bool) :=
 bif (!(eqL 4 a1 [0, 0, 0, 0] && true)) then
 (f29.F K (a1, a0_1)).bind fun y2 =>
 some (decide (y2 < 0))
 else
 some false
def F (K : Nat) (x : Ty0) : Option (Bool) := T K x.1 x.2.1 x.2.2.1 x.2.2.2
def av (x : Ty0) : List VV := [.agg [.ints .u64 4 x.1, .ints .u64 4 x.2.1, .ints .u64 4 x.2.2.1], .agg [.ints .u64 4 x.2.2.2]]
def bl (_x : Ty0) : List (Nat × Blk) := []
def inA : VS → Option (Ty0)
 | ⟨[(0, .agg [.ints .u64 4 a0_0, .ints .u64 4 a0_1, .ints .u64 4 a0_2]), (1, .agg [.ints .u64 4 a1])], [], 0⟩ => some (a0_0, a0_1, a0_2, a1)
 | _ => none
def o0 (y : Bool) : VS := ⟨[(0, .bool y)], [], 0⟩
def inR : VS → Option (Bool)
 | ⟨[(0, .bool y)], [], 0⟩ => some y
 | _ => none
noncomputable def E (K : Nat) : Entry := genE 0 inA (F K) (dv1 o0)
theorem ok (K : Nat) : EntryOK Tryz.prog 16 (E K) := gen_ok mix tys_ok (tab_ok ((tab_cons (f29.ok K) tab_nil))) Tryz.func16 (c := bodyOf Tryz.f16) (by kernel_rfl) (by kernel_rfl) (loops_none (lp := lpNone) (by kernel_rfl)) (av := av) (bl := bl) (inR := inR) (out := o0) (fuel := 400)
  (by intro s x h; unfold inA at h; split at h <;> simp at h; subst h; rfl) (fun _ => Nat.le_of_ble_eq_true rfl)
  (by intro s y h; unfold inR at h; split at h <;> simp at h <;> subst h <;> rfl) (fun _ _ _ => rfl) (fun _ => by kernel_rfl)
end f16
end Go.Proofs

namespace Go.Proofs
open Go.VM
namespace f5
abbrev Ty0 := List Int × List Int × List Int × List Int
abbrev Ty1 := List Int × Int
def T (K : Nat) (a0_0 : List Int) (a0_1 : List Int) (a0_2 : List Int) (a1 : List Int) : Option (Ty1) :=
 (f15.F K (a0_0, a0_1, a0_2)).bind fun y1 =>
 bif !y1 then
 some ([0, 0, 0, 0], 1)
 else
 (f16.F K (a0_0, a0_1, a0_2, a1)).bind fun y2 =>
 bif !y2 then
 some ([0, 0, 0, 0], 1)
 else
 (f17.F K (a0_0, a0_1, a0_2, a0_2, a1)).bind fun y3 =>
 some (y3.1, y3.2)
def F (K : Nat) (x : Ty0) : Option (Ty1) := T K x.1 x.2.1 x.2.2.1 x.2.2.2
def av (x : Ty0) : List VV := [.agg [.ints .u64 4 x.1, .ints .u64 4 x.2.1, .ints .u64 4 x.2.2.1], .agg [.ints .u64 4 x.2.2.2]]
def bl (_x : Ty0) : List (Nat × Blk) := []
def inA : VS → Option (Ty0)
 | ⟨[(0, .agg [.ints .u64 4 a0_0, .ints .u64 4 a0_1, .ints .u64 4 a0_2]), (1, .agg [.ints .u64 4 a1])], [], 0⟩ => some (a0_0, a0_1, a0_2, a1)
 | _ => none
def o0 (y : Ty1) : VS := ⟨[(0, .tup [.agg [.ints .u64 4 y.1], .int .i64 y.2])], [], 0⟩
def inR : VS → Option (Ty1)
 | ⟨[(0, .tup [.agg [.ints .u64 4 y_0], .int .i64 y_1])], [], 0⟩ => some (y_0, y_1)
 | _ => none
noncomputable def E (K : Nat) : Entry := genE 0 inA (F K) (dv1 o0)
theorem ok (K : Nat) : EntryOK Tryz.prog 5 (E K) := gen_ok mix tys_ok (tab_ok ((tab_cons (f15.ok K) (tab_cons (f16.ok K) (tab_cons (f17.ok K) tab_nil))))) Tryz.func5 (c := bodyOf Tryz.f5) (by kernel_rfl) (by kernel_rfl) (loops_none (lp := lpNone) (by kernel_rfl)) (av := av) (bl := bl) (inR := inR) (out := o0) (fuel := 400)
  (by intro s x h; unfold inA at h; split at h <;> simp at h; subst h; rfl) (fun _ => Nat.le_of_ble_eq_true rfl)
  (by intro s y h; unfold inR at h; split at h <;> simp at h <;> subst h <;> rfl) (fun _ _ _ => rfl) (fun _ => by kernel_rfl)
end f5
end Go.Proofs

namespace Go.Proofs
open Go.VM
namespace f21
abbrev Ty0 := List Int × List Int × List Int × List Int × List Int
def k0 : ByteArray := ByteArray.mk #[100, 114, 97, 119]
def T (K : Nat) (_a0_0 : List Int) (a0_1 : List Int) (_a0_2 : List Int) (a1 : List Int) (a2 : List Int) : Option (List Int) :=
 (f43.F K (0, a1, 0, [])).bind fun y1 =>
 bif ((Nat.ble (0 + y1.1) y1.2.2.2.1 && true) && true) then
 (f42.F K (a0_1, k0, y1.1, 32, y1.1, (subI y1.2.2.2.2 0 y1.1), 32, (subI a2 0 32))).bind fun y2 =>
 bif (eqL 4 y2.1 [0, 0, 0, 0] && true) then
 some ([1, 0, 0, 0])
 else
 some y2.1
 else
 none
def F (K : Nat) (x : Ty0) : Option (List Int) := T K x.1 x.2.1 x.2.2.1 x.2.2.2.1 x.2.2.2.2
def av (x : Ty0) : List VV := [.agg [.ints .u64 4 x.1, .ints .u64 4 x.2.1, .ints .u64 4 x.2.2.1], .agg [.ints .u64 4 x.2.2.2.1], .agg [.ints .u8 32 x.2.2.2.2]]
def bl (_x : Ty0) : List (Nat × Blk) := []
def inA : VS → Option (Ty0)
 | ⟨[(0, .agg [.ints .u64 4 a0_0, .ints .u64 4 a0_1, .ints .u64 4 a0_2]), (1, .agg [.ints .u64 4 a1]), (2, .agg [.ints .u8 32 a2])], [], 0⟩ => some (a0_0, a0_1, a0_2, a1, a2)
 | _ => none
def o0 (y : List Int) : VS := ⟨[(0, .agg [.ints .u64 4 y])], [], 0⟩
def inR : VS → Option (List Int)
 | ⟨[(0, .agg [.ints .u64 4 y])], [], 0⟩ => some y
 | _ => none
noncomputable def E (K : Nat) : Entry := genE 0 inA (F K) (dv1 o0)
theorem ok (K : Nat) : EntryOK Tryz.prog 21 (E K) := gen_ok mix tys_ok (sp := tabSp [(43, (viewE [(0, .u8)] (f43.E K))), (42, (rowsE 2 .u8 (f42.E K)))]) (tab_ok ((tab_cons (view_ok (f43.ok K)) (tab_cons (rows_ok (f42.ok K)) tab_nil)))) Tryz.func21 (c := bodyOf Tryz.f21) (by kernel_rfl) (by kernel_rfl) (loops_none (lp := lpNone) (by kernel_rfl)) (av := av) (bl := bl) (inR := inR) (out := o0) (fuel := 400)
  (by intro s x h; unfold inA at h; split at h <;> simp at h; subst h; rfl) (fun _ => Nat.le_of_ble_eq_true rfl)
  (by intro s y h; unfold inR at h; split at h <;> simp at h <;> subst h <;> rfl) (fun _ _ _ => rfl) (fun _ => by kernel_rfl)
end f21
end Go.Proofs

namespace Go.Proofs
open Go.VM
namespace f22
abbrev Ty0 := List Int × List Int × List Int × List Int × List Int × List Int
def k0 : ByteArray := ByteArray.mk #[115, 105, 103, 110]
def T (K : Nat) (_a0_0 : List Int) (a0_1 : List Int) (_a0_2 : List Int) (a1 : List Int) (a2 : List Int) (a3 : List Int) : Option (List Int) :=
 (f43.F K (0, a1, 0, [])).bind fun y1 =>
 (f43.F K (0, a2, 0, [])).bind fun y2 =>
 bif ((Nat.ble (0 + y1.1) y1.2.2.2.1 && true) && ((Nat.ble (0 + y2.1) y2.2.2.2.1 && true) && true)) then
 (f42v1.F K (a0_1, k0, y1.1, y2.1, 32, y1.1, (subI y1.2.2.2.2 0 y1.1), y2.1, (subI y2.2.2.2.2 0 y2.1), 32, (subI a3 0 32))).bind fun y3 =>
 some y3.1
 else
 none
def F (K : Nat) (x : Ty0) : Option (List Int) := T K x.1 x.2.1 x.2.2.1 x.2.2.2.1 x.2.2.2.2.1 x.2.2.2.2.2
def av (x : Ty0) : List VV := [.agg [.ints .u64 4 x.1, .ints .u64 4 x.2.1, .ints .u64 4 x.2.2.1], .agg [.ints .u64 4 x.2.2.2.1], .agg [.ints .u64 4 x.2.2.2.2.1], .agg [.ints .u8 32 x.2.2.2.2.2]]
def bl (_x : Ty0) : List (Nat × Blk) := []
def inA : VS → Option (Ty0)
 | ⟨[(0, .agg [.ints .u64 4 a0_0, .ints .u64 4 a0_1, .ints .u64 4 a0_2]), (1, .agg [.ints .u64 4 a1]), (2, .agg [.ints .u64 4 a2]), (3, .agg [.ints .u8 32 a3])], [], 0⟩ => some (a0_0, a0_1, a0_2, a1, a2, a3)
 | _ => none
def o0 (y : List Int) : VS := ⟨[(0, .agg [.ints .u64 4 y])], [], 0⟩
def inR : VS → Option (List Int)
 | ⟨[(0, .agg [.ints .u64 4 y])], [], 0⟩ => some y
 | _ => none
noncomputable def E (K : Nat) : Entry := genE 0 inA (F K) (dv1 o0)
theorem ok (K : Nat) : EntryOK Tryz.prog 22 (E K) := gen_ok mix tys_ok (sp := tabSp [(43, (viewE [(0, .u8)] (f43.E K))), (42, (rowsE 2 .u8 (f42v1.E K)))]) (tab_ok ((tab_cons (view_ok (f43.ok K)) (tab_cons (rows_ok (f42v1.ok K)) tab_nil)))) Tryz.func22 (c := bodyOf Tryz.f22) (by kernel_rfl) (by kernel_rfl) (loops_none (lp := lpNone) (by kernel_rfl)) (av := av) (bl := bl) (inR := inR) (out := o0) (fuel := 400)
  (by intro s x h; unfold inA at h; split at h <;> simp at h; subst h; rfl) (fun _ => Nat.le_of_ble_eq_true rfl)
  (by intro s y h; unfold inR at h; split at h <;> simp at h <;> subst h <;> rfl) (fun _ _ _ => rfl) (fun _ => by kernel_rfl)
end f22
end Go.Proofs

namespace Go.Proofs
open Go.VM
namespace f7
abbrev Ty0 := List Int × List Int × List Int × List Int × List Int
abbrev Ty1 := List Int × List Int × Int
def T (K : Nat) (a0_0 : List Int) (a0_1 : List Int) (a0_2 : List Int) (a1 : List Int) (a2 : List Int) : Option (Ty1) :=
 (f5.F K (a0_0, a0_1, a0_2, a1)).bind fun y1 =>
 bif (y1.2 != 0) then
 some ([0, 0, 0, 0], [0, 0, 0, 0], y1.2)
 else
 (f21.F K (a0_0, a0_1, a0_2, a1, a2)).bind fun y2 =>
 (f17.F K (a0_0, a0_1, a0_2, a0_2, y2)).bind fun y3 =>
 (f22.F K (a0_0, a0_1, a0_2, y1.1, y3.1, a2)).bind fun y4 =>
 (f23.F K (a1, y4, a0_1)).bind fun y5 =>
 (f24.F K (y2, y5.1, a0_1)).bind fun y6 =>
 some (y4, y6.1, 0)
def F (K : Nat) (x : Ty0) : Option (Ty1) := T K x.1 x.2.1 x.2.2.1 x.2.2.2.1 x.2.2.2.2
def av (x : Ty0) : List VV := [.agg [.ints .u64 4 x.1, .ints .u64 4 x.2.1, .ints .u64 4 x.2.2.1], .agg [.ints .u64 4 x.2.2.2.1], .agg [.ints .u8 32 x.2.2.2.2]]
def bl (_x : Ty0) : List (Nat × Blk) := []
def inA : VS → Option (Ty0)
 | ⟨[(0, .agg [.ints .u64 4 a0_0, .ints .u64 4 a0_1, .ints .u64 4 a0_2]), (1, .agg [.ints .u64 4 a1]), (2, .agg [.ints .u8 32 a2])], [], 0⟩ => some (a0_0, a0_1, a0_2, a1, a2)
 | _ => none
def o0 (y : Ty1) : VS := ⟨[(0, .tup [.agg [.ints .u64 4 y.1, .ints .u64 4 y.2.1], .int .i64 y.2.2])], [], 0⟩
def inR : VS → Option (Ty1)
 | ⟨[(0, .tup [.agg [.ints .u64 4 y_0, .ints .u64 4 y_1], .int .i64 y_2])], [], 0⟩ => some (y_0, y_1, y_2)
 | _ => none
noncomputable def E (K : Nat) : Entry := genE 0 inA (F K) (dv1 o0)
theorem ok (K : Nat) : EntryOK Tryz.prog 7 (E K) := gen_ok mix tys_ok (tab_ok ((tab_cons (f5.ok K) (tab_cons (f21.ok K) (tab_cons (f17.ok K) (tab_cons (f22.ok K) (tab_cons (f23.ok K) (tab_cons (f24.ok K) tab_nil)))))))) Tryz.func7 (c := bodyOf Tryz.f7) (by kernel_rfl) (by kernel_rfl) (loops_none (lp := lpNone) (by kernel_rfl)) (av := av) (bl := bl) (inR := inR) (out := o0) (fuel := 400)
  (by intro s x h; unfold inA at h; split at h <;> simp at h; subst h; rfl) (fun _ => Nat.le_of_ble_eq_true rfl)
  (by intro s y h; unfold inR at h; split at h <;> simp at h <;> subst h <;> rfl) (fun _ _ _ => rfl) (fun _ => by kernel_rfl)
end f7
end Go.Proofs

namespace Go.Proofs
open Go.VM
namespace f9
abbrev Ty0 := List Int × List Int × List Int × List Int × List Int × List Int × List Int
def T (K : Nat) (a0_0 : List Int) (a0_1 : List Int) (a0_2 : List Int) (a1 : List Int) (a2 : List Int) (a3_0 : List Int) (a3_1 : List Int) : Option (Bool) :=
 (f15.F K (a0_0, a0_1, a0_2)).bind fun y1 =>
 bif !y1 then
 some false
 else
 (f28.F K (a0_0, a0_1, a0_2, a1)).bind fun y2 =>
 bif !y2 then
 some false
 else
 bif (eqL 4 a1 [1, 0, 0, 0] && true) then
 some false
 else
 (f29.F K (a3_0, a0_1)).bind fun y4 =>
 bif (decide (y4 ≥ 0)) then
 some false
 else
 (f29.F K (a3_1, a0_1)).bind fun y6 =>
 bif (decide (y6 ≥ 0)) then
 some false
 else
 (f30.F K (a0_1, a3_0)).bind fun y8 =>
 (f17.F K (a0_0, a0_1, a0_2, a0_2, a3_1)).bind fun y9 =>
 (f17.F K (a0_0, a0_1, a0_2, a1, y8.1)).bind fun y10 =>
 (f31.F K (a0_0, a0_1, a0_2, y9.1, y10.1)).bind fun y11 =>
 (f22.F K (a0_0, a0_1, a0_2, a1, y11.1, a2)).bind fun y12 =>
 some (eqL 4 y12 a3_0 && true)
def F (K : Nat) (x : Ty0) : Option (Bool) := T K x.1 x.2.1 x.2.2.1 x.2.2.2.1 x.2.2.2.2.1 x.2.2.2.2.2.1 x.2.2.2.2.2.2
def av (x : Ty0) : List VV := [.agg [.ints .u64 4 x.1, .ints .u64 4 x.2.1, .ints .u64 4 x.2.2.1], .agg [.ints .u64 4 x.2.2.2.1], .agg [.ints .u8 32 x.2.2.2.2.1], .agg [.ints .u64 4 x.2.2.2.2.2.1, .ints .u64 4 x.2.2.2.2.2.2]]
def bl (_x : Ty0) : List (Nat × Blk) := []
def inA : VS → Option (Ty0)
 | ⟨[(0, .agg [.ints .u64 4 a0_0, .ints .u64 4 a0_1, .ints .u64 4 a0_2]), (1, .agg [.ints .u64 4 a1]), (2, .agg [.ints .u8 32 a2]), (3, .agg [.ints .u64 4 a3_0, .ints .u64 4 a3_1])], [], 0⟩ => some (a0_0, a0_1, a0_2, a1, a2, a3_0, a3_1)
 | _ => none
def o0 (y : Bool) : VS := ⟨[(0, .bool y)], [], 0⟩
def inR : VS → Option (Bool)
 | ⟨[(0, .bool y)], [], 0⟩ => some y
 | _ => none
noncomputable def E (K : Nat) : Entry := genE 0 inA (F K) (dv1 o0)
theorem ok (K : Nat) : EntryOK Tryz.prog 9 (E K) := gen_ok mix tys_ok (tab_ok ((tab_cons (f15.ok K) (tab_cons (f28.ok K) (tab_cons (f29.ok K) (tab_cons (f30.ok K) (tab_cons (f17.ok K) (tab_cons (f31.ok K) (tab_cons (f22.ok K) tab_nil))))))))) Tryz.func9 (c := bodyOf Tryz.f9) (by kernel_rfl) (by kernel_rfl) (loops_none (lp := lpNone) (by kernel_rfl)) (av := av) (bl := bl) (inR := inR) (out := o0) (fuel := 400)
  (by intro s x h; unfold inA at h; split at h <;> simp at h; subst h; rfl) (fun _ => Nat.le_of_ble_eq_true rfl)
  (by intro s y h; unfold inR at h; split at h <;> simp at h <;> subst h <;> rfl) (fun _ _ _ => rfl) (fun _ => by kernel_rfl)
end f9
end Go.Proofs

namespace Go.Proofs
open Go.VM
namespace f3
abbrev Ty0 := List Int × List Int × List Int × List Int × List Int × List Int × List Int × List Int
def T (K : Nat) (a0_0 : List Int) (a0_1 : List Int) (a0_2 : List Int) (a0_3 : List Int) (a0_4 : List Int) (a0_5 : List Int) (a0_6 : List Int) (a0_7 : List Int) : Option (Bool) :=
 (f4.F K (a0_0, a0_1, a0_2, a0_3)).bind fun y1 =>
 (f5.F K (a0_0, a0_1, a0_2, a0_3)).bind fun y2 =>
 (f6.F K (a0_0, a0_1, a0_2, a0_3, a0_4)).bind fun y3 =>
 (f7.F K (a0_0, a0_1, a0_2, a0_3, a0_4)).bind fun y4 =>
 bif (eqL 4 y1.1 y2.1 && true) then
 bif (y1.2 == y2.2) then
 bif (eqL 4 y3.1 y4.1 && (eqL 4 y3.2.1 y4.2.1 && true)) then
 bif (y3.2.2 == y4.2.2) then
 (f8.F K (a0_0, a0_1, a0_2, y1.1, a0_4, y3.1, y3.2.1)).bind fun y9 =>
 (f9.F K (a0_0, a0_1, a0_2, y2.1, a0_4, y4.1, y4.2.1)).bind fun y10 =>
 bif (y9 == y10) then
 (f8.F K (a0_0, a0_1, a0_2, a0_5, a0_4, a0_6, a0_7)).bind fun y11 =>
 (f9.F K (a0_0, a0_1, a0_2, a0_5, a0_4, a0_6, a0_7)).bind fun y12 =>
 bif (y11 == y12) then
 (f10.F K ()).bind fun y14 =>
 some y14
 else
 some false
 else
 some false
 else
 some false
 else
 some false
 else
 some false
 else
 some false
def F (K : Nat) (x : Ty0) : Option (Bool) := T K x.1 x.2.1 x.2.2.1 x.2.2.2.1 x.2.2.2.2.1 x.2.2.2.2.2.1 x.2.2.2.2.2.2.1 x.2.2.2.2.2.2.2
def av (x : Ty0) : List VV := [.agg [.ints .u64 4 x.1, .ints .u64 4 x.2.1, .ints .u64 4 x.2.2.1, .ints .u64 4 x.2.2.2.1, .ints .u8 32 x.2.2.2.2.1, .ints .u64 4 x.2.2.2.2.2.1, .ints .u64 4 x.2.2.2.2.2.2.1, .ints .u64 4 x.2.2.2.2.2.2.2]]
def bl (_x : Ty0) : List (Nat × Blk) := []
def inA : VS → Option (Ty0)
 | ⟨[(0, .agg [.ints .u64 4 a0_0, .ints .u64 4 a0_1, .ints .u64 4 a0_2, .ints .u64 4 a0_3, .ints .u8 32 a0_4, .ints .u64 4 a0_5, .ints .u64 4 a0_6, .ints .u64 4 a0_7])], [], 0⟩ => some (a0_0, a0_1, a0_2, a0_3, a0_4, a0_5, a0_6, a0_7)
 | _ => none
def o0 (y : Bool) : VS := ⟨[(0, .bool y)], [], 0⟩
def inR : VS → Option (Bool)
 | ⟨[(0, .bool y)], [], 0⟩ => some y
 | _ => none
noncomputable def E (K : Nat) : Entry := genE 0 inA (F K) (dv1 o0)
theorem ok (K : Nat) : EntryOK Tryz.prog 3 (E K) := gen_ok mix tys_ok (tab_ok ((tab_cons (f4.ok K) (tab_cons (f5.ok K) (tab_cons (f6.ok K) (tab_cons (f7.ok K) (tab_cons (f8.ok K) (tab_cons (f9.ok K) (tab_cons (f10.ok K) tab_nil))))))))) Tryz.func3 (c := bodyOf Tryz.f3) (by kernel_rfl) (by kernel_rfl) (loops_none (lp := lpNone) (by kernel_rfl)) (av := av) (bl := bl) (inR := inR) (out := o0) (fuel := 400)
  (by intro s x h; unfold inA at h; split at h <;> simp at h; subst h; rfl) (fun _ => Nat.le_of_ble_eq_true rfl)
  (by intro s y h; unfold inR at h; split at h <;> simp at h <;> subst h <;> rfl) (fun _ _ _ => rfl) (fun _ => by kernel_rfl)
end f3
end Go.Proofs

namespace Go.Proofs
open Go.VM
theorem f43.none (A : Nat) : f43.F 100000 (0, num A, 0, []) = some (32, 0, [], 32, be 32 A) := by
  have := f43.spec 0 A [] rfl (by omega)
  rw [Nat.zero_add, List.nil_append] at this
  exact this
theorem f21.spec (Q M : Nat) (p g s : List Int) (hQ : Q < 2 ^ 256) (h0 : 0 < Q) (hl : s.length = 32) (ho : octets s) : f21.F 100000 (p, num Q, g, num M, s) = some (num (Sg.draw Q M s)) := by
  simp only [f21.F, f21.T]
  rw [f43.none, bind_s]
  dsimp only
  rw [Nat.zero_add, ble_true (Nat.le_refl 32), Bool.and_self, Bool.and_self, cond_t, subI_self _ (be_length _ _), subI_self _ hl, f42.spec Q f21.k0 32 _ 32 _ (by decide) hQ h0 (be_length _ _) (be_octets _ _) (by omega) hl ho (by omega), bind_s]
  dsimp only
  have hn := number_lt (Q := Q) (strL f21.k0) [be 32 M, s] h0
  rw [show ([0, 0, 0, 0] : List Int) = num 0 from rfl, eqN _ 0 (by omega) (by decide), Bool.and_true, Sg.draw, show f6.k0 = f21.k0 from rfl]
  by_cases h : Sh.number Q (strL f21.k0) [be 32 M, s] = 0
  · rw [decide_eq_true h, cond_t, if_pos h]; rfl
  · rw [decide_eq_false h, cond_f, if_neg h]
theorem f22.spec (Q A R : Nat) (p g s : List Int) (hQ : Q < 2 ^ 256) (h0 : 0 < Q) (hl : s.length = 32) (ho : octets s) : f22.F 100000 (p, num Q, g, num A, num R, s) = some (num (Sh.number Q (strL f22.k0) [be 32 A, be 32 R, s])) := by
  simp only [f22.F, f22.T]
  rw [f43.none, bind_s, f43.none, bind_s]
  dsimp only
  rw [Nat.zero_add, ble_true (Nat.le_refl 32), Bool.and_self, Bool.and_self, Bool.and_self, cond_t, subI_self _ (be_length _ _), subI_self _ (be_length _ _), subI_self _ hl, f42v1.spec Q f22.k0 32 _ 32 _ 32 _ (by decide) hQ h0 (be_length _ _) (be_octets _ _) (by omega) (be_length _ _) (be_octets _ _) (by omega) hl ho (by omega), bind_s]
theorem f16.spec (N Q : Nat) (p g : List Int) (hN : N < 2 ^ 256) (hQ : Q < 2 ^ 256) : f16.F 100000 (p, num Q, g, num N) = some (decide (N ≠ 0) && decide (N < Q)) := by
  simp only [f16.F, f16.T]
  rw [show ([0, 0, 0, 0] : List Int) = num 0 from rfl, eqN N 0 hN (by decide), Bool.and_true, f29.spec 100000 N Q hN hQ (by decide), bind_s, cmp_lt]
  by_cases h : N = 0
  · rw [decide_eq_true h, Bool.not_true, cond_f, decide_eq_false (by omega), Bool.false_and]
  · rw [decide_eq_false h, Bool.not_false, cond_t, decide_eq_true h, Bool.true_and]
theorem f5.spec (P Q G N : Nat) (hP : P < 2 ^ 256) (hQ : Q < 2 ^ 256) (hG : G < 2 ^ 256) (hN : N < 2 ^ 256) :
    f5.F 100000 (num P, num Q, num G, num N) = some (if gsec P Q G N = true then (num (G ^ N % P), 0) else (num 0, 1)) := by
  simp only [f5.F, f5.T]
  rw [f15.spec P Q G hP hQ hG, bind_s, f16.spec N Q _ _ hN hQ, bind_s, f17.spec P G N _ _ hP hG hN, bind_s]
  unfold gsec
  by_cases h : gfine P Q G = true
  · rw [h, Bool.not_true, cond_f, Bool.true_and]
    obtain ⟨_, _, hg⟩ := gfine_iff.1 h
    rw [if_pos (gmem_iff.1 hg).1]
    by_cases h2 : (decide (N ≠ 0) && decide (N < Q)) = true
    · rw [h2, Bool.not_true, cond_f, if_pos rfl]
    · rw [Bool.not_eq_true] at h2
      rw [h2]; rfl
  · rw [Bool.not_eq_true] at h
    rw [h]; rfl
theorem f7.spec (P Q G M : Nat) (s : List Int) (hP : P < 2 ^ 256) (hQ : Q < 2 ^ 256) (hG : G < 2 ^ 256) (hM : M < 2 ^ 256) (hl : s.length = 32) (ho : octets s) :
    f7.F 100000 (num P, num Q, num G, num M, s) = some (if gsec P Q G M = true then (num (Sg.c P Q G M s), num (Sg.y P Q G M s), 0) else (num 0, num 0, 1)) := by
  simp only [f7.F, f7.T]
  rw [f5.spec P Q G M hP hQ hG hM, bind_s]
  by_cases h : gsec P Q G M = true
  · obtain ⟨hf, hm0, hmQ⟩ := gsec_iff.1 h
    obtain ⟨hq1, _, hg⟩ := gfine_iff.1 hf
    obtain ⟨hin, _⟩ := gmem_iff.1 hg
    obtain ⟨hp1, _, _⟩ := gin_iff.1 hin
    rw [if_pos h, if_pos h]
    dsimp only
    have hd : Sg.draw Q M s < Q := by
      unfold Sg.draw
      split
      · omega
      · exact number_lt _ _ (by omega)
    have hc : Sg.c P Q G M s < Q := number_lt _ _ (by omega)
    rw [show ((0 : Int) != 0) = false from rfl, cond_f, f21.spec Q M _ _ s hQ (by omega) hl ho, bind_s, f17.spec P G _ _ _ hP hG (by omega), if_pos hin, bind_s]
    dsimp only
    rw [f22.spec Q _ _ _ _ s hQ (by omega) hl ho, bind_s, show Sh.number Q (strL f22.k0) [be 32 (G ^ M % P), be 32 (G ^ Sg.draw Q M s % P), s] = Sg.c P Q G M s from rfl, f23.same _ _ _ hM (by omega) hQ, f19.good hq1 hmQ hc hQ, bind_s]
    have hx : M * Sg.c P Q G M s % Q < Q := Nat.mod_lt _ (by omega)
    dsimp only
    rw [f24.same _ _ _ (by omega) (by omega) hQ, f20.good hq1 hd hx hQ, bind_s, Sg.y]
  · rw [if_neg h, if_neg h]
    rfl
theorem f9.spec (P Q G A C Y : Nat) (s : List Int) (hP : P < 2 ^ 256) (hQ : Q < 2 ^ 256) (hG : G < 2 ^ 256) (hA : A < 2 ^ 256) (hC : C < 2 ^ 256) (hY : Y < 2 ^ 256) (hl : s.length = 32) (ho : octets s) :
    f9.F 100000 (num P, num Q, num G, num A, s, num C, num Y) = some (Sg.check P Q G A s C Y) := by
  simp only [f9.F, f9.T]
  rw [f15.spec P Q G hP hQ hG, bind_s]
  unfold Sg.check
  by_cases h1 : gfine P Q G = true
  case neg => rw [Bool.not_eq_true] at h1; rw [h1, Bool.not_false, cond_t, Bool.false_and]
  obtain ⟨hq1, _, hg⟩ := gfine_iff.1 h1
  obtain ⟨hin, _⟩ := gmem_iff.1 hg
  obtain ⟨hp1, _, _⟩ := gin_iff.1 hin
  rw [h1, Bool.not_true, cond_f, f28.spec P Q A _ hP hQ hA, bind_s, Bool.true_and]
  by_cases h2 : gmem P Q A = true
  case neg => rw [Bool.not_eq_true] at h2; rw [h2, Bool.not_false, cond_t, Bool.false_and]
  have hinA := (gmem_iff.1 h2).1
  rw [h2, Bool.not_true, cond_f, Bool.true_and, show ([1, 0, 0, 0] : List Int) = num 1 from rfl, eqN A 1 hA (by decide), Bool.and_true]
  by_cases h3 : A = 1
  · rw [decide_eq_true h3, cond_t, decide_eq_false (by omega), Bool.false_and]
  rw [decide_eq_false h3, cond_f, decide_eq_true h3, Bool.true_and, f29.spec 100000 C Q hC hQ (by decide), bind_s, cmp_ge]
  by_cases h4 : C < Q
  case neg => rw [decide_eq_true (show Q ≤ C by omega), cond_t, decide_eq_false h4, Bool.false_and]
  rw [decide_eq_false (show ¬ Q ≤ C by omega), cond_f, f29.spec 100000 Y Q hY hQ (by decide), bind_s, cmp_ge, decide_eq_true h4, Bool.true_and]
  by_cases h5 : Y < Q
  case neg => rw [decide_eq_true (show Q ≤ Y by omega), cond_t, decide_eq_false h5, Bool.false_and]
  rw [decide_eq_false (show ¬ Q ≤ Y by omega), cond_f, decide_eq_true h5, Bool.true_and]
  have m : ∀ X, X % P < 2 ^ 256 := fun X => Nat.lt_trans (Nat.mod_lt _ (by omega)) hP
  have eq : num (Q + 2 ^ 256 - C) = num (Q - C) := by
    show words 64 4 _ = words 64 4 _
    rw [← words_mod 64 4 (Q + 2 ^ 256 - C), show (2 : Nat) ^ (64 * 4) = 2 ^ 256 from rfl, show Q + 2 ^ 256 - C = Q - C + 2 ^ 256 by omega, Nat.add_mod_right, Nat.mod_eq_of_lt (by omega)]
  rw [f30.spec 100000 Q C hQ hC (by decide), bind_s, f17.spec P G Y _ _ hP hG hY, bind_s]
  dsimp only
  rw [eq, f17.spec P A (Q - C) _ _ hP hA (by omega), bind_s, if_pos hin, if_pos hinA]
  dsimp only
  rw [f31.spec P _ _ _ _ hP (m _) (m _), bind_s]
  have eb : (if (gin P (G ^ Y % P) && gin P (A ^ (Q - C) % P)) = true then (num (G ^ Y % P * (A ^ (Q - C) % P) % P), (0 : Int)) else (num 0, 1)).1 = num (Sg.back P Q G A C Y) := by
    rw [Sg.back, if_pos hin, if_pos hinA]
    split <;> rfl
  rw [eb, f22.spec Q A _ _ _ s hQ (by omega) hl ho, bind_s]
  rw [eqN _ C (Nat.lt_trans (number_lt _ _ (by omega)) hQ) hC, Bool.and_true]
  rfl
theorem f3.holds (P Q G M A C Y : Nat) (s : List Int) (hP : P < 2 ^ 256) (hQ : Q < 2 ^ 256) (hG : G < 2 ^ 256) (hM : M < 2 ^ 256) (hs : s.length = 32 ∧ ∀ x ∈ s, 0 ≤ x ∧ x < 256) (hA : A < 2 ^ 256) (hC : C < 2 ^ 256) (hY : Y < 2 ^ 256) :
    f3.F 100000 (num P, num Q, num G, num M, s, num A, num C, num Y) = some true := by
  have ho : octets s := hs.2
  simp only [f3.F, f3.T]
  rw [f4.spec P Q G M hP hQ hG hM, bind_s, f5.spec P Q G M hP hQ hG hM, bind_s, f6.spec P Q G M s hP hQ hG hM hs.1 ho, bind_s, f7.spec P Q G M s hP hQ hG hM hs.1 ho, bind_s, f10.spec]
  obtain ⟨k, e, hk, hke⟩ : ∃ k e, k < 2 ^ 256 ∧ (if gsec P Q G M = true then (num (G ^ M % P), (0 : Int)) else (num 0, 1)) = (num k, e) := by
    by_cases h : gsec P Q G M = true
    · obtain ⟨hf, _⟩ := gsec_iff.1 h
      obtain ⟨_, _, hg⟩ := gfine_iff.1 hf
      obtain ⟨hp1, _, _⟩ := gin_iff.1 (gmem_iff.1 hg).1
      exact ⟨_, _, Nat.lt_trans (Nat.mod_lt _ (by omega)) hP, by rw [if_pos h]⟩
    · exact ⟨0, 1, by decide, by rw [if_neg h]⟩
  obtain ⟨c, y, e2, hc, hy, hce⟩ : ∃ c y e2, c < 2 ^ 256 ∧ y < 2 ^ 256 ∧ (if gsec P Q G M = true then (num (Sg.c P Q G M s), num (Sg.y P Q G M s), (0 : Int)) else (num 0, num 0, 1)) = (num c, num y, e2) := by
    by_cases h : gsec P Q G M = true
    · obtain ⟨h1, h2⟩ := sg_lt s h
      exact ⟨Sg.c P Q G M s, Sg.y P Q G M s, 0, by omega, by omega, by rw [if_pos h]⟩
    · exact ⟨0, 0, 1, by decide, by decide, by rw [if_neg h]⟩
  rw [hke, hce]
  dsimp only
  rw [eqN k k hk hk, eqN c c hc hc, eqN y y hy hy, decide_eq_true rfl, decide_eq_true rfl, decide_eq_true rfl, Bool.and_self, Bool.and_self, cond_t, beq_self_eq_true, cond_t, beq_self_eq_true, cond_t, cond_t,
    f8.spec P Q G k c y s hP hQ hG hk hc hy hs.1 ho, bind_s, f9.spec P Q G k c y s hP hQ hG hk hc hy hs.1 ho, bind_s, beq_self_eq_true, cond_t, f8.spec P Q G A C Y s hP hQ hG hA hC hY hs.1 ho, bind_s, f9.spec P Q G A C Y s hP hQ hG hA hC hY hs.1 ho, bind_s, beq_self_eq_true, cond_t]
  rfl
end Go.Proofs
