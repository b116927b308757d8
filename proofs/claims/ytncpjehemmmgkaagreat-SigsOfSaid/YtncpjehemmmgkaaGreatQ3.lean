/- Plain laws: lemmas that hold with no condition but those that each states. -/
import Derived.Test.YtncpjehemmmgkaaGreatQ2
namespace Go.VM
theorem word_of_mod (X w j i : Nat) (h : j < i) : X % 2 ^ (w * i) / 2 ^ (w * j) % 2 ^ w = X / 2 ^ (w * j) % 2 ^ w := by
  have e : 2 ^ (w * i) = 2 ^ (w * j) * (2 ^ w * 2 ^ (w * (i - j - 1))) := by
    rw [← Nat.pow_add, ← Nat.pow_add]; congr 1
    rw [← Nat.add_assoc, ← Nat.mul_succ, ← Nat.mul_add]; congr 1; omega
  rw [e, Nat.mod_mul_right_div_self, Nat.mod_mul_right_mod]
theorem put_word {w L v H i : Nat} (hL : L < 2 ^ (w * i)) (hv : v < 2 ^ w) (j : Nat) :
    (L + 2 ^ (w * i) * (v + 2 ^ w * H)) / 2 ^ (w * j) % 2 ^ w = if j = i then v else if j < i then L / 2 ^ (w * j) % 2 ^ w else H / 2 ^ (w * (j - i - 1)) % 2 ^ w := by
  have hp : 0 < 2 ^ (w * i) := Nat.two_pow_pos _
  rcases Nat.lt_trichotomy j i with h | h | h
  · rw [if_neg (by omega), if_pos h, ← word_of_mod _ w j i h, Nat.add_mul_mod_self_left, Nat.mod_eq_of_lt hL]
  · subst h
    rw [if_pos rfl, Nat.add_mul_div_left _ _ hp, Nat.div_eq_of_lt hL, Nat.zero_add, Nat.add_mul_mod_self_left, Nat.mod_eq_of_lt hv]
  · rw [if_neg (by omega), if_neg (by omega), show w * j = w * i + (w + w * (j - i - 1)) by
      rw [Nat.add_comm w, ← Nat.mul_succ, ← Nat.mul_add]; congr 1; omega, Nat.pow_add, ← Nat.div_div_eq_div_mul, Nat.add_mul_div_left _ _ hp, Nat.div_eq_of_lt hL, Nat.zero_add, Nat.pow_add, ← Nat.div_div_eq_div_mul,
      Nat.add_mul_div_left _ _ (Nat.two_pow_pos w), Nat.div_eq_of_lt hv, Nat.zero_add]
theorem split_word (w X i : Nat) : X = X % 2 ^ (w * i) + 2 ^ (w * i) * (X / 2 ^ (w * i) % 2 ^ w + 2 ^ w * (X / 2 ^ (w * (i + 1)))) := by
  have h1 := Nat.mod_add_div X (2 ^ (w * i))
  have h2 := Nat.mod_add_div (X / 2 ^ (w * i)) (2 ^ w)
  rw [Nat.mul_succ, Nat.pow_add, ← Nat.div_div_eq_div_mul, h2, h1]
theorem set_words (w n X i v : Nat) (hv : v < 2 ^ w) : vec n (fun j => if j = i then v else X / 2 ^ (w * j) % 2 ^ w) = words w n (X % 2 ^ (w * i) + 2 ^ (w * i) * (v + 2 ^ w * (X / 2 ^ (w * (i + 1))))) := by
  refine vec_congr fun j _ => ?_
  have hL := Nat.mod_lt X (Nat.two_pow_pos (w * i))
  rw [put_word hL hv]
  by_cases h : j = i
  · rw [if_pos h, if_pos h]
  · rw [if_neg h, if_neg h]
    conv => lhs; rw [split_word w X i]
    rw [put_word hL (Nat.mod_lt _ (Nat.two_pow_pos w)), if_neg h]
theorem take_drop_words (w n X i m : Nat) (h : i + m ≤ n) : List.take m (List.drop i (words w n X)) = words w m (X / 2 ^ (w * i)) := by
  refine ext_getD (by simp [words, vec]; omega) fun j hj => ?_
  have hj' : j < m := by simp [words, vec] at hj; omega
  rw [getD_words hj', Nat.div_div_eq_div_mul, ← Nat.pow_add, ← Nat.mul_add]
  have := getD_words (w := w) (A := X) (show i + j < n by omega)
  rw [← this]
  simp [List.getD, List.getElem?_drop, hj']
end Go.VM
namespace Go.Proofs
open Go.VM
theorem pow_double (a b c : Nat) (h : a + b = c) : 2 ^ a * 2 ^ b = 2 ^ c := by rw [← Nat.pow_add, h]
theorem f102.round (K at' n X : Nat) (ha : at' < 16) (hn : n ≤ 18446744065119617025) (h0 : 0 < n) (rec : _ → _) :
    f102.s0 K rec (at', n, words 32 16 X) = rec (((at' + 1 : Nat) : Int), (((n + X / 2 ^ (32 * at') % 2 ^ 32) / 2 ^ 32 : Nat) : Int),
      words 32 16 (X % 2 ^ (32 * at') + 2 ^ (32 * at') * ((n + X / 2 ^ (32 * at') % 2 ^ 32) % 2 ^ 32 + 2 ^ 32 * (X / 2 ^ (32 * (at' + 1)))))) := by
  simp only [f102.s0, f102.s0t]
  have h1 : decide ((n : Int) > 0) = true := decide_eq_true (by omega)
  have e1 : IntKind.wrap .i64 (Int.tdiv (at' : Int) 8) = ((at' / 8 : Nat) : Int) := by
    rw [show (8 : Int) = ((8 : Nat) : Int) from rfl, tdiv_nat, wrap_i _ (by omega) (by omega)]
  have e2 : Int.tmod (at' : Int) 8 = ((at' % 8 : Nat) : Int) := tmod_nat at' 8
  have h2 : decide ((0 : Int) ≤ ((at' / 8 : Nat) : Int) ∧ ((at' / 8 : Nat) : Int) < 2) = true := inR_nat (n := 2) (by omega)
  have h3 : decide ((0 : Int) ≤ ((at' % 8 : Nat) : Int) ∧ ((at' % 8 : Nat) : Int) < 8) = true := inR_nat (n := 8) (by omega)
  have hm : X / 2 ^ (32 * at') % 2 ^ 32 < 2 ^ 32 := Nat.mod_lt _ (by decide)
  rw [h1, e1, e2, h2, h3]
  simp only [cond_true, Int.toNat_natCast]
  rw [show at' / 8 * 8 + at' % 8 = at' by omega, getD_words ha]
  have e3 : IntKind.wrap .u64 ((n : Int) + ((X / 2 ^ (32 * at') % 2 ^ 32 : Nat) : Int)) = ((n + X / 2 ^ (32 * at') % 2 ^ 32 : Nat) : Int) := by
    rw [wrap_u _ (by omega) (by omega)]; omega
  rw [e3, and_mask32 _ (by omega), fdiv_nat, wrap_i _ (by omega) (by omega), show words 32 16 X = vec 16 (fun j => X / 2 ^ (32 * j) % 2 ^ 32) from rfl, setD_vec ha]
  have hs := set_words 32 16 X at' ((n + X / 2 ^ (32 * at') % 2 ^ 32) % 2 ^ 32) (Nat.mod_lt _ (by decide))
  exact congrArg (fun z => rec (((at' + 1 : Nat) : Int), (((n + X / 2 ^ (32 * at') % 2 ^ 32) / 2 ^ 32 : Nat) : Int), z)) hs
theorem f102.spec (K at' n X N : Nat) (hN : N = 16) (hn : n ≤ 18446744065119617025) (hX : X + n * 2 ^ (32 * at') < 2 ^ (32 * N)) (hK : 17 < K) : f102.F K (at', n, words 32 16 X) = some (words 32 16 (X + n * 2 ^ (32 * at'))) := by
  simp only [f102.F, f102.T]
  have key := iter_inv (stp := f102.s0 K) (fun m x => ∃ at2 n2 X2 : Nat, m + at2 = 17 + at' ∧ n2 ≤ 18446744065119617025 ∧ X2 + n2 * 2 ^ (32 * at2) = X + n * 2 ^ (32 * at') ∧ x = ((at2 : Int), (n2 : Int), words 32 16 X2) ∧ (n2 = 0 ∨ at2 < 16))
    (fun y => y = words 32 16 (X + n * 2 ^ (32 * at'))) (by
      rintro m x ⟨at2, n2, X2, hm, hn2, he, rfl, hor⟩
      by_cases h0 : n2 = 0
      · subst h0
        refine .inl ⟨_, rfl, fun rec => ?_⟩
        simp only [f102.s0, f102.s0t]
        rw [← he]; simp
      · have ha : at2 < 16 := by omega
        refine .inr ⟨_, m - 1, by omega, ⟨at2 + 1, (n2 + X2 / 2 ^ (32 * at2) % 2 ^ 32) / 2 ^ 32, _, by omega, ?_, ?_, rfl, ?_⟩, fun rec => f102.round K at2 n2 X2 ha hn2 (by omega) rec⟩
        · have hm : X2 / 2 ^ (32 * at2) % 2 ^ 32 < 2 ^ 32 := Nat.mod_lt _ (by decide)
          omega
        · rw [← he]
          conv => rhs; rw [split_word 32 X2 at2]
          rw [show 32 * (at2 + 1) = 32 * at2 + 32 from Nat.mul_succ _ _, Nat.pow_add]
          generalize X2 / (2 ^ (32 * at2) * 2 ^ 32) = H
          generalize X2 / 2 ^ (32 * at2) % 2 ^ 32 = d
          generalize X2 % 2 ^ (32 * at2) = L
          generalize 2 ^ (32 * at2) = p
          have h1 := Nat.mod_add_div (n2 + d) (2 ^ 32)
          generalize (n2 + d) / 2 ^ 32 = o at *
          generalize (n2 + d) % 2 ^ 32 = r at *
          have h2 : p * (r + 2 ^ 32 * o) = p * (n2 + d) := by rw [h1]
          simp only [Nat.mul_add] at h2 ⊢
          rw [show o * (p * 2 ^ 32) = p * (2 ^ 32 * o) by rw [Nat.mul_comm o, Nat.mul_assoc], Nat.mul_comm n2 p]
          omega
        · rcases Nat.lt_or_ge (at2 + 1) 16 with h | h
          · exact .inr h
          · refine .inl ?_
            have h15 : N = at2 + 1 := by clear hX; omega
            have h3 : X2 + n2 * 2 ^ (32 * at2) < 2 ^ (32 * at2) * 2 ^ 32 := by
              rw [he]
              refine Nat.lt_of_lt_of_eq hX ?_
              rw [h15, Nat.mul_succ, Nat.pow_add]
            have h4 : (X2 + n2 * 2 ^ (32 * at2)) / 2 ^ (32 * at2) < 2 ^ 32 := Nat.div_lt_of_lt_mul h3
            rw [Nat.add_mul_div_right _ _ (Nat.two_pow_pos _)] at h4
            generalize X2 / 2 ^ (32 * at2) = q at h4 ⊢
            have h5 := Nat.mod_le q (2 ^ 32)
            exact Nat.div_eq_of_lt (Nat.lt_of_le_of_lt (Nat.add_le_add_left h5 n2) (by rw [Nat.add_comm]; exact h4))) (17 + at' - at') (at', n, words 32 16 X) ⟨at', n, X, by omega, hn, rfl, rfl, by
              rcases Nat.eq_zero_or_pos n with h | h
              · exact .inl h
              · refine .inr ?_
                rcases Nat.lt_or_ge at' 16 with h2 | h2
                · exact h2
                · have h3 : 2 ^ (32 * N) ≤ 2 ^ (32 * at') := Nat.pow_le_pow_right (by decide) (Nat.mul_le_mul_left _ (by rw [hN]; exact h2))
                  have h4 : 2 ^ (32 * at') ≤ n * 2 ^ (32 * at') := Nat.le_mul_of_pos_left _ h
                  exact absurd (Nat.lt_of_le_of_lt (Nat.le_trans h3 (Nat.le_trans h4 (Nat.le_add_left _ X))) hX) (Nat.lt_irrefl _)⟩ K (by clear hX; omega)
  obtain ⟨y, rfl, h⟩ := key
  rw [h]; rfl
def mulSoFar (A B i k : Nat) : Nat := A % 2 ^ (32 * i) * B + 2 ^ (32 * i) * (A / 2 ^ (32 * i) % 2 ^ 32) * (B % 2 ^ (32 * k))
theorem mulSoFar_k (A B i k : Nat) : mulSoFar A B i k + A / 2 ^ (32 * i) % 2 ^ 32 * (B / 2 ^ (32 * k) % 2 ^ 32) * 2 ^ (32 * (i + k)) = mulSoFar A B i (k + 1) := by
  unfold mulSoFar
  have e : B % 2 ^ (32 * (k + 1)) = B % 2 ^ (32 * k) + 2 ^ (32 * k) * (B / 2 ^ (32 * k) % 2 ^ 32) := by
    rw [show 32 * (k + 1) = 32 * k + 32 from Nat.mul_succ _ _, Nat.pow_add _ _ 32, Nat.mod_mul]
  rw [e, Nat.mul_add 32 i k, Nat.pow_add 2 (32 * i) (32 * k)]
  generalize B / 2 ^ (32 * k) % 2 ^ 32 = d
  generalize A / 2 ^ (32 * i) % 2 ^ 32 = c
  generalize B % 2 ^ (32 * k) = r
  simp only [Nat.mul_add, Nat.mul_comm, Nat.mul_left_comm, Nat.mul_assoc, Nat.add_assoc]
theorem mulSoFar_i (A B i : Nat) (hB : B < 2 ^ 256) : mulSoFar A B i 8 = mulSoFar A B (i + 1) 0 := by
  unfold mulSoFar
  have e : A % 2 ^ (32 * (i + 1)) = A % 2 ^ (32 * i) + 2 ^ (32 * i) * (A / 2 ^ (32 * i) % 2 ^ 32) := by
    rw [show 32 * (i + 1) = 32 * i + 32 from Nat.mul_succ _ _, Nat.pow_add _ _ 32, Nat.mod_mul]
  have e0 : B % 2 ^ (32 * 0) = 0 := Nat.mod_one B
  rw [show (32 * 8 : Nat) = 256 from rfl, Nat.mod_eq_of_lt hB, e0, e, Nat.mul_zero, Nat.add_zero, Nat.add_mul]
theorem mulSoFar_le (A B i k : Nat) : mulSoFar A B i k ≤ A * B := by
  unfold mulSoFar
  have h1 : 2 ^ (32 * i) * (A / 2 ^ (32 * i) % 2 ^ 32) * (B % 2 ^ (32 * k)) ≤ 2 ^ (32 * i) * (A / 2 ^ (32 * i)) * B :=
    Nat.mul_le_mul (Nat.mul_le_mul_left _ (Nat.mod_le _ _)) (Nat.mod_le _ _)
  have h2 := Nat.mod_add_div A (2 ^ (32 * i))
  calc _ ≤ A % 2 ^ (32 * i) * B + 2 ^ (32 * i) * (A / 2 ^ (32 * i)) * B := Nat.add_le_add_left h1 _
    _ = A * B := by rw [← Nat.add_mul, h2]
theorem f88.inner (K A B i : Nat) (hA : A < 2 ^ 256) (hB : B < 2 ^ 256) (hi : i < 8) (hK : 17 < K) (z z' : List Int) :
    iter (f88.s2 K) K (i, i, 0, z, z', halves A, halves B, words 32 16 (mulSoFar A B i 0)) = some ((i : Int), z, z', halves A, halves B, words 32 16 (mulSoFar A B i 8)) := by
  obtain ⟨N, hN⟩ : ∃ N : Nat, N = 16 := ⟨16, rfl⟩
  have key := iter_for (stp := f88.s2 K) (N := 8) (fun k => ((i : Int), (i : Int), (k : Int), z, z', halves A, halves B, words 32 16 (mulSoFar A B i k)))
    (y := some ((i : Int), z, z', halves A, halves B, words 32 16 (mulSoFar A B i 8))) (fun k hk rec => by
      simp only [f88.s2, f88.s2t]
      have h1 : decide ((k : Int) < 8) = true := decide_eq_true (by omega)
      have h2 : decide ((0 : Int) ≤ (i : Int) ∧ (i : Int) < 8) = true := inR_nat (n := 8) hi
      have h3 : decide ((0 : Int) ≤ (k : Int) ∧ (k : Int) < 8) = true := inR_nat (n := 8) hk
      rw [h1, h2, h3]
      simp only [cond_true, Int.toNat_natCast]
      rw [getD_words hi, getD_words hk, wrap_i _ (by omega) (by omega), wrap_i ((k : Int) + 1) (by omega) (by omega)]
      have ha : A / 2 ^ (32 * i) % 2 ^ 32 ≤ 4294967295 := Nat.le_of_lt_succ (Nat.mod_lt _ (by decide))
      have hb : B / 2 ^ (32 * k) % 2 ^ 32 ≤ 4294967295 := Nat.le_of_lt_succ (Nat.mod_lt _ (by decide))
      have hab := Nat.mul_le_mul ha hb
      have e1 : IntKind.wrap .u64 (((A / 2 ^ (32 * i) % 2 ^ 32 : Nat) : Int) * ((B / 2 ^ (32 * k) % 2 ^ 32 : Nat) : Int)) = ((A / 2 ^ (32 * i) % 2 ^ 32 * (B / 2 ^ (32 * k) % 2 ^ 32) : Nat) : Int) := by
        rw [← Int.natCast_mul, wrap_u _ (by omega) (by omega)]
      rw [e1, show (i : Int) + (k : Int) = ((i + k : Nat) : Int) from rfl, f102.spec K (i + k) _ _ N hN (by omega) (by
        rw [mulSoFar_k]
        have h4 : A * B < 2 ^ 256 * 2 ^ 256 := Nat.mul_lt_mul'' hA hB
        exact Nat.lt_of_lt_of_eq (Nat.lt_of_le_of_lt (mulSoFar_le A B i (k + 1)) h4) (pow_double 256 256 (32 * N) (by omega))) hK, mulSoFar_k]
      rfl) (fun rec => rfl) (show 8 < K by omega)
  exact key
theorem f88.spec (K A B : Nat) (hA : A < 2 ^ 256) (hB : B < 2 ^ 256) (hK : 17 < K) : f88.F K (num A, num B) = some (num (A * B), num (A * B / 2 ^ 256)) := by
  simp only [f88.F, f88.T, f47.spec, Option.bind_some]
  have key := iter_for (stp := f88.s0 K) (N := 8) (fun i => ((i : Int), ([0, 0, 0, 0] : List Int), ([0, 0, 0, 0] : List Int), halves A, halves B, words 32 16 (mulSoFar A B i 0)))
    (y := some (([0, 0, 0, 0] : List Int), ([0, 0, 0, 0] : List Int), words 32 16 (A * B))) (fun i hi rec => by
      simp only [f88.s0, f88.s0t]
      have h1 : decide ((i : Int) < 8) = true := decide_eq_true (by omega)
      rw [h1]
      simp only [cond_true]
      rw [f88.inner K A B i hA hB hi hK]
      simp only [Option.bind_some]
      rw [mulSoFar_i A B i hB, wrap_i _ (by omega) (by omega)]
      rfl) (fun rec => by
      simp only [f88.s0, f88.s0t]
      have e : mulSoFar A B 8 0 = A * B := by
        unfold mulSoFar
        rw [show (32 * 8 : Nat) = 256 from rfl, Nat.mod_eq_of_lt hA, Nat.mul_zero, Nat.pow_zero, Nat.mod_one, Nat.mul_zero, Nat.add_zero]
      rw [e]
      rfl) (show 8 < K by omega)
  have e0 : mulSoFar A B 0 0 = 0 := by simp [mulSoFar, Nat.mod_one]
  simp only [e0] at key
  have key' : iter (f88.s0 K) K (0, [0, 0, 0, 0], [0, 0, 0, 0], halves A, halves B, [0, 0, 0, 0, 0, 0, 0, 0, 0, 0, 0, 0, 0, 0, 0, 0]) = some (([0, 0, 0, 0] : List Int), ([0, 0, 0, 0] : List Int), words 32 16 (A * B)) := by
    have ez : words 32 16 0 = [0, 0, 0, 0, 0, 0, 0, 0, 0, 0, 0, 0, 0, 0, 0, 0] := by kernel_rfl
    rw [ez] at key
    exact key
  rw [key']
  simp only [Option.bind_some]
  have t0 := take_drop_words 32 16 (A * B) 0 8 (by decide)
  have t8 := take_drop_words 32 16 (A * B) 8 8 (by decide)
  rw [show (32 * 0 : Nat) = 0 from rfl, Nat.pow_zero, Nat.div_one] at t0
  rw [show (32 * 8 : Nat) = 256 from rfl] at t8
  rw [t0, t8, f48.spec, f48.spec, bind_s, bind_s]
end Go.Proofs

namespace Go.Proofs
open Go.VM
namespace f101
abbrev Ty0 := Int × Int × List Int × Int × List Int × Int × List Int × List Int
abbrev Ty1 := Int × List Int × Int × List Int × List Int
abbrev Ty2 := List Int × List Int
noncomputable def c : Code := bodyOf Tryz.f101
def s2t (_K : Nat) (rec : Ty0 → Option (Ty1)) (t7 : Int) (t11 : Int) (t27 : List Int) (t28 : Int) (t49 : List Int) (t50 : Int) (b0 : List Int) (b1 : List Int) : Option (Ty1) :=
 bif (decide (t50 < 2)) then
 bif decide (0 ≤ t50 ∧ t50 < 2) then
 bif (decide ((IntKind.wrap .i64 (t11 + t50)) ≥ 0)) then
 bif (decide ((IntKind.wrap .i64 (t11 + t50)) < 8)) then
 let v24 := IntKind.wrap .i64 (t11 + t50)
 bif decide (0 ≤ v24 ∧ v24 < 8) then
 bif decide (0 ≤ v24 ∧ v24 < 8) then
 rec (t7, t11, t27, t28, t49, (IntKind.wrap .i64 (t50 + 1)), b0, (setD b1 (Int.toNat v24) (bits .or .u64 (List.getD b1 (Int.toNat v24) 0) (List.getD t49 (Int.toNat t50) 0))))
 else
 none
 else
 none
 else
 rec (t7, t11, t27, t28, t49, (IntKind.wrap .i64 (t50 + 1)), b0, b1)
 else
 rec (t7, t11, t27, t28, t49, (IntKind.wrap .i64 (t50 + 1)), b0, b1)
 else
 none
 else
 some (t7, t27, t28, b0, b1)
def s2 (K : Nat) (rec : Ty0 → Option (Ty1)) (x : Ty0) : Option (Ty1) := s2t K rec x.1 x.2.1 x.2.2.1 x.2.2.2.1 x.2.2.2.2.1 x.2.2.2.2.2.1 x.2.2.2.2.2.2.1 x.2.2.2.2.2.2.2
noncomputable def s2.b : Code := (findLoop 2 c).getD .skip
def s2.h : Hint := { lv := [4, 6, 7, 11, 27, 28, 49, 50] }
def s2.ho : Hint := { lv := [4, 6, 7, 27, 28] }
def s2.shp (x : Ty0) : VS := ⟨[(4, .ptr 0 0), (6, .ptr 1 0), (7, .int .i64 x.1), (11, .int .i64 x.2.1), (27, .agg [.ints .u64 8 x.2.2.1]), (28, .int .i64 x.2.2.2.1), (49, .agg [.ints .u64 2 x.2.2.2.2.1]), (50, .int .i64 x.2.2.2.2.2.1)], [(0, ([.ints .u64 4 x.2.2.2.2.2.2.1], 24, .norm)), (1, ([.ints .u64 8 x.2.2.2.2.2.2.2], 74, .norm))], 2⟩
def s2.inX : VS → Option (Ty0)
 | ⟨[(4, .ptr 0 0), (6, .ptr 1 0), (7, .int .i64 t7), (11, .int .i64 t11), (27, .agg [.ints .u64 8 t27]), (28, .int .i64 t28), (49, .agg [.ints .u64 2 t49]), (50, .int .i64 t50)], [(0, ([.ints .u64 4 b0], 24, .norm)), (1, ([.ints .u64 8 b1], 74, .norm))], 2⟩ => some (t7, t11, t27, t28, t49, t50, b0, b1)
 | _ => none
def s2.o0 (y : Ty1) : VS := ⟨[(4, .ptr 0 0), (6, .ptr 1 0), (7, .int .i64 y.1), (27, .agg [.ints .u64 8 y.2.1]), (28, .int .i64 y.2.2.1)], [(0, ([.ints .u64 4 y.2.2.2.1], 24, .norm)), (1, ([.ints .u64 8 y.2.2.2.2], 74, .norm))], 2⟩
def s2.des : ∀ α : Type, (Ty1) → (Ex → VS → Option α) → Option α := (des1 (.exit 2) s2.o0)
def s2.out : Ty1 → Ex × VS := (fun y => (.exit 2, s2.o0 y))
theorem s2.desOK : ∀ α y (k : Ex → VS → Option α), s2.des α y k = k (s2.out y).1 (s2.out y).2 := (fun _ _ _ => rfl)
def s2.inY : Ex → VS → Option (Ty1)
 | .exit 2, ⟨[(4, .ptr 0 0), (6, .ptr 1 0), (7, .int .i64 t7), (27, .agg [.ints .u64 8 t27]), (28, .int .i64 t28)], [(0, ([.ints .u64 4 b0], 24, .norm)), (1, ([.ints .u64 8 b1], 74, .norm))], 2⟩ => some (t7, t27, t28, b0, b1)
 | _, _ => none
def s0t (K : Nat) (rec : Ty1 → Option (Ty2)) (t7 : Int) (t27 : List Int) (t28 : Int) (b0 : List Int) (b1 : List Int) : Option (Ty2) :=
 bif (decide (t28 < 8)) then
 bif decide (0 ≤ t28 ∧ t28 < 8) then
 let v8 := List.getD t27 (Int.toNat t28) 0
 let v10 := IntKind.wrap .i64 ((IntKind.wrap .i64 (t28 * 32)) + t7)
 let v13 := Int.tmod v10 32
 bif decide (0 ≤ v13) then
 bif decide (0 ≤ v13) then
 (iter (s2 K) K (t7, (IntKind.wrap .i64 ((IntKind.wrap .i64 (Int.tdiv v10 32)) - 8)), t27, t28, [(bits .and .u64 (shiftI .shl .u64 v8 v13) 4294967295), (Int.fdiv (shiftI .shl .u64 v8 v13) (2 ^ 32))], 0, b0, b1)).bind fun y33 =>
 rec (y33.1, y33.2.1, (IntKind.wrap .i64 (y33.2.2.1 + 1)), y33.2.2.2.1, y33.2.2.2.2)
 else
 none
 else
 none
 else
 none
 else
 some (b0, b1)
def s0 (K : Nat) (rec : Ty1 → Option (Ty2)) (x : Ty1) : Option (Ty2) := s0t K rec x.1 x.2.1 x.2.2.1 x.2.2.2.1 x.2.2.2.2
noncomputable def s0.b : Code := (findLoop 0 c).getD .skip
def s0.h : Hint := { lv := [4, 6, 7, 27, 28] }
def s0.ho : Hint := { lv := [4, 6] }
def s0.shp (x : Ty1) : VS := ⟨[(4, .ptr 0 0), (6, .ptr 1 0), (7, .int .i64 x.1), (27, .agg [.ints .u64 8 x.2.1]), (28, .int .i64 x.2.2.1)], [(0, ([.ints .u64 4 x.2.2.2.1], 24, .norm)), (1, ([.ints .u64 8 x.2.2.2.2], 74, .norm))], 2⟩
def s0.inX : VS → Option (Ty1)
 | ⟨[(4, .ptr 0 0), (6, .ptr 1 0), (7, .int .i64 t7), (27, .agg [.ints .u64 8 t27]), (28, .int .i64 t28)], [(0, ([.ints .u64 4 b0], 24, .norm)), (1, ([.ints .u64 8 b1], 74, .norm))], 2⟩ => some (t7, t27, t28, b0, b1)
 | _ => none
def s0.o0 (y : Ty2) : VS := ⟨[(4, .ptr 0 0), (6, .ptr 1 0)], [(0, ([.ints .u64 4 y.1], 24, .norm)), (1, ([.ints .u64 8 y.2], 74, .norm))], 2⟩
def s0.des : ∀ α : Type, (Ty2) → (Ex → VS → Option α) → Option α := (des1 (.exit 0) s0.o0)
def s0.out : Ty2 → Ex × VS := (fun y => (.exit 0, s0.o0 y))
theorem s0.desOK : ∀ α y (k : Ex → VS → Option α), s0.des α y k = k (s0.out y).1 (s0.out y).2 := (fun _ _ _ => rfl)
def s0.inY : Ex → VS → Option (Ty2)
 | .exit 0, ⟨[(4, .ptr 0 0), (6, .ptr 1 0)], [(0, ([.ints .u64 4 b0], 24, .norm)), (1, ([.ints .u64 8 b1], 74, .norm))], 2⟩ => some (b0, b1)
 | _, _ => none
def lp (K : Nat) : Nat → Option (Hint × Summ) := tabLp [(2, s2.h, summOf (iter (s2 K) K) s2.inX s2.des), (0, s0.h, summOf (iter (s0 K) K) s0.inX s0.des)]
noncomputable def tab (K : Nat) : List (Nat × Entry) := [(47, (f47.E K)), (48, (f48.E K))]
theorem tabOK (K : Nat) : SpecOK Tryz.prog (tabSp (tab K)) := tab_ok ((tab_cons (f47.ok K) (tab_cons (f48.ok K) tab_nil)))
theorem s2.eq (K : Nat) (rec : Ty0 → Option (Ty1)) (x : Ty0) : s2 K rec x = roundL (getA tys) (tabSp (tab K)) 76 0 (lp K) 400 s2.b s2.h s2.ho s2.shp s2.inX s2.inY rec x := by kernel_rfl
theorem s2.lok (K : Nat) : LoopsOK Tryz.prog 76 0 (lp K) s2.b := loops_ok (by
  have h : loopsIn (lp K) s2.b = [] := by kernel_rfl
  rw [h]; simp)
theorem s2.ok (K : Nat) : SummOK Tryz.prog 76 0 (summOf (iter (s2 K) K) s2.inX s2.des) s2.b :=
  loop_ok mix tys_ok (tabOK K) (h := s2.h) (ho := s2.ho) (shp := s2.shp) (inX := s2.inX) (des := s2.des) (out := s2.out) (inY := s2.inY) (fuel := 400)
    (by intro st x h; unfold s2.inX at h; split at h <;> simp at h; subst h; rfl)
    (by intro e st y h; unfold s2.inY at h; split at h <;> simp at h <;> subst h <;> rfl)
    s2.desOK (s2.lok K) (s2 K) (s2.eq K) K
theorem s0.eq (K : Nat) (rec : Ty1 → Option (Ty2)) (x : Ty1) : s0 K rec x = roundL (getA tys) (tabSp (tab K)) 76 0 (lp K) 400 s0.b s0.h s0.ho s0.shp s0.inX s0.inY rec x := by kernel_rfl
theorem s0.lok (K : Nat) : LoopsOK Tryz.prog 76 0 (lp K) s0.b := loops_ok (by
  have h : loopsIn (lp K) s0.b = [(2, s2.b)] := by kernel_rfl
  rw [h]
  intro p hp
  simp only [List.mem_cons, List.not_mem_nil, or_false] at hp
  rcases hp with rfl
  · exact ⟨_, rfl, (s2.ok K)⟩)
theorem s0.ok (K : Nat) : SummOK Tryz.prog 76 0 (summOf (iter (s0 K) K) s0.inX s0.des) s0.b :=
  loop_ok mix tys_ok (tabOK K) (h := s0.h) (ho := s0.ho) (shp := s0.shp) (inX := s0.inX) (des := s0.des) (out := s0.out) (inY := s0.inY) (fuel := 400)
    (by intro st x h; unfold s0.inX at h; split at h <;> simp at h; subst h; rfl)
    (by intro e st y h; unfold s0.inY at h; split at h <;> simp at h <;> subst h <;> rfl)
    s0.desOK (s0.lok K) (s0 K) (s0.eq K) K
theorem loops (K : Nat) : LoopsOK Tryz.prog 76 0 (lp K) c := loops_ok (by
  have h : loopsIn (lp K) c = [(0, s0.b), (2, s2.b)] := by kernel_rfl
  rw [h]
  intro p hp
  simp only [List.mem_cons, List.not_mem_nil, or_false] at hp
  rcases hp with rfl | rfl
  · exact ⟨_, rfl, (s0.ok K)⟩
  · exact ⟨_, rfl, (s2.ok K)⟩)
def T (K : Nat) (a0 : List Int) (a1 : Int) : Option (List Int) :=
 (f47.F K a0).bind fun y1 =>
 bif (decide (a1 ≤ (-256))) then
 (f48.F K [0, 0, 0, 0, 0, 0, 0, 0]).bind fun y3 =>
 some y3
 else
 bif (decide (a1 ≥ 256)) then
 (f48.F K [0, 0, 0, 0, 0, 0, 0, 0]).bind fun y5 =>
 some y5
 else
 (iter (s0 K) K ((IntKind.wrap .i64 (a1 + 256)), y1, 0, [0, 0, 0, 0], [0, 0, 0, 0, 0, 0, 0, 0])).bind fun y35 =>
 (f48.F K y35.2).bind fun y36 =>
 some y36
def F (K : Nat) (x : List Int × Int) : Option (List Int) := T K x.1 x.2
def av (x : List Int × Int) : List VV := [.agg [.ints .u64 4 x.1], .int .i64 x.2]
def bl (_x : List Int × Int) : List (Nat × Blk) := []
def inA : VS → Option (List Int × Int)
 | ⟨[(0, .agg [.ints .u64 4 a0]), (1, .int .i64 a1)], [], 0⟩ => some (a0, a1)
 | _ => none
def o0 (y : List Int) : VS := ⟨[(0, .agg [.ints .u64 4 y])], [], 0⟩
def des : ∀ α : Type, (List Int) → (VS → Option α) → Option α := (dv1 o0)
def out : List Int → VS := o0
def inR : VS → Option (List Int)
 | ⟨[(0, .agg [.ints .u64 4 y])], [], 0⟩ => some y
 | _ => none
noncomputable def E (K : Nat) : Entry := genE 0 inA (F K) des
theorem eq (K : Nat) (x : List Int × Int) : F K x = xrun (getA tys) (tabSp (tab K)) Tryz.f101.ntmps 0 (lp K) 400 c ⟨initL 0 (av x), bl x, 0⟩ (contF (getA tys) 0 Tryz.f101.results.toList inR) := by kernel_rfl
theorem ok (K : Nat) : EntryOK Tryz.prog 101 (E K) :=
  gen_ok mix tys_ok (tabOK K) Tryz.func101 (by kernel_rfl : Tryz.f101.body = some c) (by kernel_rfl) (loops K) (av := av) (bl := bl) (out := out) (fuel := 400)
    (by intro s x h; unfold inA at h; split at h <;> simp at h; subst h; rfl) (fun _ => Nat.le_of_ble_eq_true rfl)
    (by intro s y h; unfold inR at h; split at h <;> simp at h <;> subst h <;> rfl) (fun _ _ _ => rfl) (eq K)
end f101
end Go.Proofs

namespace Go.Proofs
open Go.VM
theorem no_carry {x a c : Nat} (ha : a < 32) (hX : x < 2 ^ a) (hv : c * 2 ^ a < 2 ^ 32) : x + c * 2 ^ a < 2 ^ 32 ∧ x ||| (c * 2 ^ a) = x + c * 2 ^ a := by
  constructor
  · have e : 2 ^ 32 = 2 ^ (32 - a) * 2 ^ a := by rw [← Nat.pow_add]; congr 1; omega
    rw [e] at hv ⊢
    have : c < 2 ^ (32 - a) := Nat.lt_of_mul_lt_mul_right hv
    have h2 : (c + 1) * 2 ^ a ≤ 2 ^ (32 - a) * 2 ^ a := Nat.mul_le_mul_right _ this
    rw [Nat.add_mul] at h2
    omega
  · rw [Nat.or_comm, ← Nat.shiftLeft_eq, ← Nat.shiftLeft_add_eq_or_of_lt hX, Nat.add_comm]
theorem put_in (X t a c : Nat) (ha : a < 32) (hX : X / 2 ^ (32 * t) < 2 ^ a) (hv : c * 2 ^ a < 2 ^ 32) (h1 : 8 ≤ t) (h2 : t < 16) :
    vec 8 (fun j => if j = t - 8 then (X / 2 ^ 256 / 2 ^ (32 * (t - 8)) % 2 ^ 32) ||| (c * 2 ^ a) else X / 2 ^ 256 / 2 ^ (32 * j) % 2 ^ 32) = halves ((X + c * 2 ^ a * 2 ^ (32 * t)) / 2 ^ 256) := by
  obtain ⟨g1, g2⟩ := no_carry ha hX hv
  have e1 : X / 2 ^ 256 / 2 ^ (32 * (t - 8)) = X / 2 ^ (32 * t) := by
    rw [Nat.div_div_eq_div_mul, ← Nat.pow_add]; congr 2; omega
  have e2 : X / 2 ^ (32 * t) % 2 ^ 32 = X / 2 ^ (32 * t) := Nat.mod_eq_of_lt (Nat.lt_of_le_of_lt (Nat.le_add_right _ _) g1)
  rw [e1, e2, g2, set_words 32 8 (X / 2 ^ 256) (t - 8) _ g1]
  congr 1
  have e3 : (X + c * 2 ^ a * 2 ^ (32 * t)) / 2 ^ 256 = X / 2 ^ 256 + c * 2 ^ a * 2 ^ (32 * (t - 8)) := by
    rw [show 32 * t = 32 * (t - 8) + 256 by omega, Nat.pow_add _ _ 256, ← Nat.mul_assoc, Nat.add_mul_div_right _ _ (Nat.two_pow_pos 256)]
  rw [e3]
  conv => rhs; rw [split_word 32 (X / 2 ^ 256) (t - 8)]
  rw [e1, e2]
  generalize X / 2 ^ (32 * t) = x
  generalize c * 2 ^ a = v
  generalize X / 2 ^ 256 / 2 ^ (32 * (t - 8 + 1)) = H
  generalize X / 2 ^ 256 % 2 ^ (32 * (t - 8)) = l
  rw [Nat.mul_comm v]
  simp only [Nat.mul_add]
  omega
theorem put_low (X t a c : Nat) (ha : a < 32) (hX : X / 2 ^ (32 * t) < 2 ^ a) (hv : c * 2 ^ a < 2 ^ 32) (h1 : t < 8) : halves (X / 2 ^ 256) = halves ((X + c * 2 ^ a * 2 ^ (32 * t)) / 2 ^ 256) := by
  obtain ⟨g1, _⟩ := no_carry ha hX hv
  have h2 : (X + c * 2 ^ a * 2 ^ (32 * t)) / 2 ^ (32 * t) < 2 ^ 32 := by rw [Nat.add_mul_div_right _ _ (Nat.two_pow_pos _)]; exact g1
  have h3 : X + c * 2 ^ a * 2 ^ (32 * t) < 2 ^ 32 * 2 ^ (32 * t) := (Nat.div_lt_iff_lt_mul (Nat.two_pow_pos _)).1 h2
  have h4 : 2 ^ 32 * 2 ^ (32 * t) ≤ 2 ^ 256 := by rw [← Nat.pow_add]; exact Nat.pow_le_pow_right (by decide) (by omega)
  rw [Nat.div_eq_of_lt (by omega), Nat.div_eq_of_lt (by omega)]
theorem put_high (X t v : Nat) (h1 : 16 ≤ t) : halves (X / 2 ^ 256) = halves ((X + v * 2 ^ (32 * t)) / 2 ^ 256) := by
  have e : (X + v * 2 ^ (32 * t)) / 2 ^ 256 = X / 2 ^ 256 + v * 2 ^ (32 * (t - 16)) * 2 ^ 256 := by
    rw [show 32 * t = 32 * (t - 16) + 256 + 256 by omega, Nat.pow_add _ _ 256, Nat.pow_add _ _ 256, ← Nat.mul_assoc, ← Nat.mul_assoc, Nat.add_mul_div_right _ _ (Nat.two_pow_pos 256)]
  have h := words_mod 32 8 (X / 2 ^ 256)
  have h' := words_mod 32 8 (X / 2 ^ 256 + v * 2 ^ (32 * (t - 16)) * 2 ^ 256)
  rw [show (32 * 8 : Nat) = 256 from rfl, Nat.add_mul_mod_self_right] at h'
  rw [show (32 * 8 : Nat) = 256 from rfl] at h
  rw [e, halves, halves, ← h, h']
theorem f101.put (K F X t a c k i t0 : Nat) (hk : k < 2) (ht : t = t0 + k) (ht' : t0 < 40) (ha : a < 32) (hX : X / 2 ^ (32 * t) < 2 ^ a) (hv : c * 2 ^ a < 2 ^ 32) (ps : List Int) (hp : ps.getD k 0 = ((c * 2 ^ a : Nat) : Int)) (x z : List Int) (rec : _ → _) :
    f101.s2 K rec (F, (t0 : Int) - 8, x, i, ps, k, z, halves (X / 2 ^ 256)) = rec ((F : Int), (t0 : Int) - 8, x, (i : Int), ps, ((k + 1 : Nat) : Int), z, halves ((X + c * 2 ^ a * 2 ^ (32 * t)) / 2 ^ 256)) := by
  simp only [f101.s2, f101.s2t]
  have h1 : decide ((k : Int) < 2) = true := decide_eq_true (by omega)
  have h2 : decide ((0 : Int) ≤ (k : Int) ∧ (k : Int) < 2) = true := inR_nat (n := 2) hk
  have h3 : IntKind.wrap .i64 ((t0 : Int) - 8 + (k : Int)) = (t : Int) - 8 := by rw [wrap_i _ (by omega) (by omega)]; omega
  have h4 : IntKind.wrap .i64 ((k : Int) + 1) = ((k + 1 : Nat) : Int) := by rw [wrap_i _ (by omega) (by omega)]; omega
  rw [h1, h2, h3, h4]
  simp only [cond_true]
  by_cases hl : t < 8
  · rw [decide_eq_false (by omega : ¬ ((t : Int) - 8 ≥ 0))]
    simp only [cond_false]
    rw [put_low X t a c ha hX hv hl]
  · rw [decide_eq_true (by omega : ((t : Int) - 8 ≥ 0))]
    simp only [cond_true]
    by_cases hh : t < 16
    · have h5 : (t : Int) - 8 = ((t - 8 : Nat) : Int) := by omega
      rw [decide_eq_true (by omega : ((t : Int) - 8 < 8)), h5]
      have h6 : decide ((0 : Int) ≤ ((t - 8 : Nat) : Int) ∧ ((t - 8 : Nat) : Int) < 8) = true := inR_nat (n := 8) (by omega)
      rw [h6]
      simp only [cond_true, Int.toNat_natCast]
      rw [getD_words (show t - 8 < 8 by omega), hp, bits_or_u64_nat _ _ (Nat.lt_trans (Nat.mod_lt _ (by decide)) (by decide)) (by omega)]
      have h7 : halves (X / 2 ^ 256) = vec 8 (fun j => X / 2 ^ 256 / 2 ^ (32 * j) % 2 ^ 32) := rfl
      rw [h7, setD_vec (show t - 8 < 8 by omega), put_in X t a c ha hX hv (by omega) hh]
    · rw [decide_eq_false (by omega : ¬ ((t : Int) - 8 < 8))]
      simp only [cond_false]
      rw [put_high X t (c * 2 ^ a) (by omega)]
theorem split_shift (h u : Nat) (hu : u < 32) : h * 2 ^ u % 2 ^ 32 = h % 2 ^ (32 - u) * 2 ^ u := by
  have e : 2 ^ 32 = 2 ^ (32 - u) * 2 ^ u := by rw [← Nat.pow_add]; congr 1; omega
  rw [e, Nat.mul_mod_mul_right]
theorem parts_sum (M T q v : Nat) : M + v % q * T + v / q * 1 * (T * q) = M + v * T := by
  have h := Nat.mod_add_div v q
  have h2 : v % q * T + v / q * (T * q) = v * T := by
    conv => rhs; rw [← h]
    rw [Nat.add_mul, Nat.mul_comm q, Nat.mul_assoc, Nat.mul_comm q]
  rw [Nat.mul_one, Nat.add_assoc, h2]
theorem parts_mul (L a d u s : Nat) : (L + a * d) * (u * s) = L * (u * s) + d * u * (a * s) := by
  rw [Nat.add_mul]
  simp only [Nat.mul_comm, Nat.mul_left_comm]
theorem f101.round (K A F i : Nat) (hF : F < 512) (hi : i < 8) (hK : 2 < K) (rec : _ → _) (z : List Int) :
    f101.s0 K rec (F, halves A, i, z, halves (A % 2 ^ (32 * i) * 2 ^ F / 2 ^ 256)) = rec ((F : Int), halves A, ((i + 1 : Nat) : Int), z, halves (A % 2 ^ (32 * (i + 1)) * 2 ^ F / 2 ^ 256)) := by
  simp only [f101.s0, f101.s0t]
  have h1 : decide ((i : Int) < 8) = true := decide_eq_true (by omega)
  have h2 : decide ((0 : Int) ≤ (i : Int) ∧ (i : Int) < 8) = true := inR_nat (n := 8) hi
  have e1 : IntKind.wrap .i64 (IntKind.wrap .i64 ((i : Int) * 32) + (F : Int)) = ((32 * i + F : Nat) : Int) := by
    rw [wrap_i ((i : Int) * 32) (by omega) (by omega), wrap_i _ (by omega) (by omega)]; omega
  have e2 : Int.tmod ((32 * i + F : Nat) : Int) 32 = ((F % 32 : Nat) : Int) := by
    rw [show (32 : Int) = ((32 : Nat) : Int) from rfl, tmod_nat]; congr 1; omega
  have e3 : IntKind.wrap .i64 (IntKind.wrap .i64 (Int.tdiv ((32 * i + F : Nat) : Int) 32) - 8) = ((i + F / 32 : Nat) : Int) - 8 := by
    rw [show (32 : Int) = ((32 : Nat) : Int) from rfl, tdiv_nat, wrap_i ((_ : Nat) : Int) (by omega) (by omega), wrap_i _ (by omega) (by omega)]
    omega
  have h3 : decide ((0 : Int) ≤ ((F % 32 : Nat) : Int)) = true := decide_eq_true (by omega)
  rw [h1, h2, e1, e2, e3, h3]
  simp only [cond_true, Int.toNat_natCast]
  rw [getD_words hi]
  have hd : A / 2 ^ (32 * i) % 2 ^ 32 < 2 ^ 32 := Nat.mod_lt _ (by decide)
  have hu : F % 32 < 32 := Nat.mod_lt _ (by decide)
  have hmod : A % 2 ^ (32 * (i + 1)) = A % 2 ^ (32 * i) + 2 ^ (32 * i) * (A / 2 ^ (32 * i) % 2 ^ 32) := by
    rw [show 32 * (i + 1) = 32 * i + 32 from Nat.mul_succ _ _, Nat.pow_add _ _ 32, Nat.mod_mul]
  have hlow : A % 2 ^ (32 * i) < 2 ^ (32 * i) := Nat.mod_lt _ (Nat.two_pow_pos _)
  rw [hmod]
  generalize A % 2 ^ (32 * i) = L at *
  generalize A / 2 ^ (32 * i) % 2 ^ 32 = d at *
  have hF2 : 2 ^ F = 2 ^ (F % 32) * 2 ^ (32 * (F / 32)) := by rw [← Nat.pow_add]; congr 1; omega
  have ht : 2 ^ (32 * (i + F / 32)) = 2 ^ (32 * i) * 2 ^ (32 * (F / 32)) := by rw [Nat.mul_add, Nat.pow_add]
  have hp1 : 2 ^ (F % 32) ≤ 2 ^ 31 := Nat.pow_le_pow_right (by decide) (by omega)
  have hdu : d * 2 ^ (F % 32) < 2 ^ 63 := by
    calc d * 2 ^ (F % 32) ≤ d * 2 ^ 31 := Nat.mul_le_mul_left _ hp1
      _ < 2 ^ 32 * 2 ^ 31 := Nat.mul_lt_mul_of_pos_right hd (by decide)
      _ = 2 ^ 63 := by decide
  have e4 : shiftI .shl .u64 (d : Int) ((F % 32 : Nat) : Int) = ((d * 2 ^ (F % 32) : Nat) : Int) := by
    show IntKind.wrap .u64 ((d : Int) * 2 ^ (min (Int.toNat ((F % 32 : Nat) : Int)) 64)) = _
    rw [Int.toNat_natCast, Nat.min_eq_left (by omega), show (d : Int) * 2 ^ (F % 32) = ((d * 2 ^ (F % 32) : Nat) : Int) by simp, wrap_nat, Nat.mod_eq_of_lt (by omega)]
  rw [e4, and_mask32 _ (by omega), fdiv_nat]
  have hinv : L * 2 ^ F / 2 ^ (32 * (i + F / 32)) < 2 ^ (F % 32) := by
    rw [hF2, ht, ← Nat.mul_assoc, Nat.mul_div_mul_right _ _ (Nat.two_pow_pos _)]
    refine Nat.div_lt_of_lt_mul ?_
    exact Nat.mul_lt_mul_of_pos_right hlow (Nat.two_pow_pos _)
  have hlo := split_shift d (F % 32) hu
  obtain ⟨k, rfl⟩ : ∃ k, K = k + 3 := ⟨K - 3, by omega⟩
  have r0 := f101.put (k + 3) F (L * 2 ^ F) (i + F / 32) (F % 32) (d % 2 ^ (32 - F % 32)) 0 i (i + F / 32) (by decide) rfl (by omega) hu hinv (by rw [← hlo]; exact Nat.mod_lt _ (by decide))
    [((d * 2 ^ (F % 32) % 4294967296 : Nat) : Int), ((d * 2 ^ (F % 32) / 2 ^ 32 : Nat) : Int)] (by rw [← hlo]; rfl) (halves A) z (iter (f101.s2 (k + 3)) (k + 2))
  rw [← hlo] at r0
  have hX1 : (L * 2 ^ F + d * 2 ^ (F % 32) % 2 ^ 32 * 2 ^ (32 * (i + F / 32))) / 2 ^ (32 * (i + F / 32 + 1)) < 2 ^ 0 := by
    rw [Nat.pow_zero, Nat.lt_one_iff]
    refine Nat.div_eq_of_lt ?_
    obtain ⟨g1, _⟩ := no_carry hu hinv (show d % 2 ^ (32 - F % 32) * 2 ^ (F % 32) < 2 ^ 32 by rw [← hlo]; exact Nat.mod_lt _ (by decide))
    rw [← hlo] at g1
    rw [show 32 * (i + F / 32 + 1) = 32 * (i + F / 32) + 32 from Nat.mul_succ _ _, Nat.pow_add, Nat.mul_comm (2 ^ (32 * (i + F / 32))) (2 ^ 32)]
    refine (Nat.div_lt_iff_lt_mul (Nat.two_pow_pos _)).1 ?_
    rw [Nat.add_mul_div_right _ _ (Nat.two_pow_pos _)]
    exact g1
  have r1 := f101.put (k + 3) F _ (i + F / 32 + 1) 0 (d * 2 ^ (F % 32) / 2 ^ 32) 1 i (i + F / 32) (by decide) rfl (by omega) (by decide) hX1 (by rw [Nat.pow_zero, Nat.mul_one]; omega)
    [((d * 2 ^ (F % 32) % 4294967296 : Nat) : Int), ((d * 2 ^ (F % 32) / 2 ^ 32 : Nat) : Int)] (by rw [Nat.pow_zero, Nat.mul_one]; rfl) (halves A) z (iter (f101.s2 (k + 3)) (k + 1))
  have hsum : L * 2 ^ F + d * 2 ^ (F % 32) % 2 ^ 32 * 2 ^ (32 * (i + F / 32)) + d * 2 ^ (F % 32) / 2 ^ 32 * 2 ^ 0 * 2 ^ (32 * (i + F / 32 + 1)) = (L + 2 ^ (32 * i) * d) * 2 ^ F := by
    have e : 2 ^ (32 * (i + F / 32 + 1)) = 2 ^ (32 * (i + F / 32)) * 2 ^ 32 := by rw [show 32 * (i + F / 32 + 1) = 32 * (i + F / 32) + 32 from Nat.mul_succ _ _, Nat.pow_add 2 (32 * (i + F / 32)) 32]
    rw [e, Nat.pow_zero, parts_sum, ht, hF2]
    exact (parts_mul _ _ _ _ _).symm
  rw [hsum] at r1
  have fin : iter (f101.s2 (k + 3)) (k + 3) ((F : Int), ((i + F / 32 : Nat) : Int) - 8, halves A, (i : Int), [((d * 2 ^ (F % 32) % 4294967296 : Nat) : Int), ((d * 2 ^ (F % 32) / 2 ^ 32 : Nat) : Int)], 0, z, halves (L * 2 ^ F / 2 ^ 256)) =
      some ((F : Int), halves A, (i : Int), z, halves ((L + 2 ^ (32 * i) * d) * 2 ^ F / 2 ^ 256)) := by
    rw [iter]
    refine Eq.trans r0 ?_
    rw [iter]
    refine Eq.trans r1 ?_
    rw [iter]
    rfl
  rw [fin]
  simp only [Option.bind_some]
  rw [wrap_i _ (by omega) (by omega)]
  rfl
theorem f101.mid (K A F : Nat) (hA : A < 2 ^ 256) (h0 : 0 < F) (hF : F < 512) (hK : 8 < K) : f101.F K (num A, (F : Int) - 256) = some (num (A * 2 ^ F / 2 ^ 256)) := by
  simp only [f101.F, f101.T, f47.spec, Option.bind_some]
  rw [decide_eq_false (by omega : ¬ ((F : Int) - 256 ≤ -256)), decide_eq_false (by omega : ¬ ((F : Int) - 256 ≥ 256)), wrap_i _ (by omega) (by omega), show (F : Int) - 256 + 256 = (F : Int) by omega]
  simp only [cond_false]
  have key := iter_for (stp := f101.s0 K) (N := 8) (fun i => ((F : Int), halves A, (i : Int), ([0, 0, 0, 0] : List Int), halves (A % 2 ^ (32 * i) * 2 ^ F / 2 ^ 256)))
    (y := some (([0, 0, 0, 0] : List Int), halves (A * 2 ^ F / 2 ^ 256))) (fun i hi rec => f101.round K A F i hF hi (by omega) rec _) (fun rec => by
      simp only [f101.s0, f101.s0t]
      rw [show (32 * 8 : Nat) = 256 from rfl, Nat.mod_eq_of_lt hA]
      rfl) hK
  have e0 : A % 2 ^ (32 * 0) * 2 ^ F / 2 ^ 256 = 0 := by simp [Nat.mod_one]
  rw [e0] at key
  have key' : iter (f101.s0 K) K ((F : Int), halves A, 0, [0, 0, 0, 0], [0, 0, 0, 0, 0, 0, 0, 0]) = some (([0, 0, 0, 0] : List Int), halves (A * 2 ^ F / 2 ^ 256)) := key
  rw [key']
  simp only [Option.bind_some, f48.spec]
theorem f101.far (K A : Nat) (n : Int) (h : n ≤ -256 ∨ 256 ≤ n) : f101.F K (num A, n) = some (num 0) := by
  simp only [f101.F, f101.T, f47.spec, Option.bind_some]
  have e : f48.F K [0, 0, 0, 0, 0, 0, 0, 0] = some (num 0) := f48.spec K 0
  rw [e]
  by_cases h1 : n ≤ -256
  · rw [decide_eq_true h1]; rfl
  · rw [decide_eq_false h1, decide_eq_true (show n ≥ 256 by omega)]; rfl
theorem f101.up (K A n : Nat) (hA : A < 2 ^ 256) (hK : 8 < K) : f101.F K (num A, (n : Int)) = some (num (A * 2 ^ n)) := by
  rcases Nat.lt_or_ge n 256 with h | h
  · have := f101.mid K A (n + 256) hA (by omega) (by omega) hK
    rw [show ((n + 256 : Nat) : Int) - 256 = (n : Int) by omega, Nat.pow_add, ← Nat.mul_assoc, Nat.mul_div_cancel _ (Nat.two_pow_pos 256)] at this
    exact this
  · rw [f101.far K A n (.inr (by omega))]
    have := words_mod 64 4 (A * 2 ^ n)
    rw [show (64 * 4 : Nat) = 256 from rfl, show n = (n - 256) + 256 by omega, Nat.pow_add, ← Nat.mul_assoc, Nat.mul_mod_left] at this
    rw [num, this, show n = (n - 256) + 256 by omega, Nat.pow_add, ← Nat.mul_assoc]
    simp
theorem f101.down (K A n : Nat) (hA : A < 2 ^ 256) (hK : 8 < K) : f101.F K (num A, -(n : Int)) = some (num (A / 2 ^ n)) := by
  rcases Nat.lt_or_ge n 256 with h | h
  · have := f101.mid K A (256 - n) hA (by omega) (by omega) hK
    have e : A * 2 ^ (256 - n) / 2 ^ 256 = A / 2 ^ n := by
      have : (2 : Nat) ^ 256 = 2 ^ n * 2 ^ (256 - n) := by rw [← Nat.pow_add]; congr 1; omega
      rw [this, Nat.mul_div_mul_right _ _ (Nat.two_pow_pos _)]
    rw [show ((256 - n : Nat) : Int) - 256 = -(n : Int) by omega, e] at this
    exact this
  · rw [f101.far K A _ (.inl (by omega)), Nat.div_eq_of_lt (Nat.lt_of_lt_of_le hA (Nat.pow_le_pow_right (by decide) h))]
end Go.Proofs

namespace Go.Proofs
open Go.VM
theorem num_mod (A : Nat) : num (A % 2 ^ 256) = num A := words_mod 64 4 A
theorem eqL_num (A B : Nat) : eqL 4 (num A) (num B) = decide (A % 2 ^ 256 = B % 2 ^ 256) := by
  rw [← num_mod A, ← num_mod B]
  exact eqL_words (w := 64) (n := 4) (Nat.mod_lt _ (Nat.two_pow_pos 256)) (Nat.mod_lt _ (Nat.two_pow_pos 256))
theorem f85.all (A B : Nat) : f85.F 100000 (num A, num B) = some (num (A + B), (((A % 2 ^ 256 + B % 2 ^ 256) / 2 ^ 256 : Nat) : Int)) := by
  rw [f85.spec 100000 A B (by decide)]
  simp only [carry, Nat.add_zero]
theorem f26.all (A B : Nat) : f26.F 100000 (num A, num B) = some (num (A % 2 ^ 256 + 2 ^ 256 - B % 2 ^ 256), ((if A % 2 ^ 256 < B % 2 ^ 256 then 1 else 0 : Nat) : Int)) := by
  rw [← num_mod A, ← num_mod B, f26.spec 100000 _ _ (Nat.mod_lt _ (Nat.two_pow_pos 256)) (Nat.mod_lt _ (Nat.two_pow_pos 256)) (by decide)]
theorem f88.all (A B : Nat) : f88.F 100000 (num A, num B) = some (num (A % 2 ^ 256 * (B % 2 ^ 256)), num (A % 2 ^ 256 * (B % 2 ^ 256) / 2 ^ 256)) := by
  rw [← num_mod A, ← num_mod B, f88.spec 100000 _ _ (Nat.mod_lt _ (Nat.two_pow_pos 256)) (Nat.mod_lt _ (Nat.two_pow_pos 256)) (by decide)]
theorem f32.all (A B : Nat) : f32.F 100000 (num A, num B) = some (cmp (A % 2 ^ 256) (B % 2 ^ 256)) := by
  rw [← num_mod A, ← num_mod B, f32.spec 100000 _ _ (Nat.mod_lt _ (Nat.two_pow_pos 256)) (Nat.mod_lt _ (Nat.two_pow_pos 256)) (by decide)]
theorem f12.one (K : Nat) : f12.F K 1 = some (num 1) := f12.spec K 1 (by decide)
theorem mod_self_of {A : Nat} (hA : A < 2 ^ 256) : A % 2 ^ 256 = A := Nat.mod_eq_of_lt hA
end Go.Proofs

namespace Go.Proofs
open Go.VM
end Go.Proofs

namespace Go.Proofs
open Go.VM
theorem f101.upA (A n : Nat) : f101.F 100000 (num A, (n : Int)) = some (num (A % 2 ^ 256 * 2 ^ n)) := by
  rw [← num_mod A, f101.up 100000 _ n (Nat.mod_lt _ (Nat.two_pow_pos 256)) (by decide)]
theorem f101.downA (A n : Nat) : f101.F 100000 (num A, -(n : Int)) = some (num (A % 2 ^ 256 / 2 ^ n)) := by
  rw [← num_mod A, f101.down 100000 _ n (Nat.mod_lt _ (Nat.two_pow_pos 256)) (by decide)]
theorem f73.all (A i : Nat) (hi : i < 9223372036854775808) : f73.F 100000 (num A, (i : Int)) = some ((A % 2 ^ 256 / 2 ^ i % 2 : Nat) : Int) := by
  rw [← num_mod A, f73.spec 100000 _ i hi (Nat.mod_lt _ (Nat.two_pow_pos 256))]
theorem f72.all (A : Nat) : f72.F 100000 (num A) = some ((blen (A % 2 ^ 256) : Nat) : Int) := by
  rw [← num_mod A, f72.spec 100000 _ (Nat.mod_lt _ (Nat.two_pow_pos 256)) (by decide)]
theorem wf_u8 {z : Int} (h : (Lit.int .u8 z).wf = true) : ∃ n : Nat, n < 256 ∧ z = (n : Int) := by
  simp [Lit.wf, IntKind.min, IntKind.max, IntKind.signed, IntKind.bits] at h
  exact ⟨z.toNat, by omega, by omega⟩
end Go.Proofs

namespace Go.Proofs
open Go.VM
theorem f12.nat (K n : Nat) (h : n < 18446744073709551616) : f12.F K (n : Int) = some (num n) := f12.spec K n h
theorem carry_one (S T : Nat) : (S % 2 ^ 256 + T % 2 ^ 256) / 2 ^ 256 ≤ 1 := by
  have h1 := Nat.mod_lt S (Nat.two_pow_pos 256)
  have h2 := Nat.mod_lt T (Nat.two_pow_pos 256)
  exact Nat.le_of_lt_succ (Nat.div_lt_of_lt_mul (by omega))
theorem carry_sum (S T : Nat) : (S + T) / 2 ^ 256 = S / 2 ^ 256 + (S % 2 ^ 256 + T % 2 ^ 256) / 2 ^ 256 + T / 2 ^ 256 := by
  have h1 := Nat.mod_add_div S (2 ^ 256)
  have h2 := Nat.mod_add_div T (2 ^ 256)
  have h3 : S + T = (S % 2 ^ 256 + T % 2 ^ 256) + 2 ^ 256 * (S / 2 ^ 256 + T / 2 ^ 256) := by rw [Nat.mul_add]; omega
  rw [h3, Nat.add_mul_div_left _ _ (Nat.two_pow_pos 256)]
  omega
end Go.Proofs

namespace Go.Proofs
open Go.VM
namespace f46
abbrev Ty0 := Int × Int × List Int × List Int × List Int
abbrev Ty1 := Int × List Int × List Int
abbrev Ty2 := List Int × List Int
abbrev Ty3 := List Int × Int
noncomputable def c : Code := bodyOf Tryz.f46
def s0t (_K : Nat) (rec : Ty0 → Option (Ty1)) (t6 : Int) (t7 : Int) (b0 : List Int) (b1 : List Int) (b2 : List Int) : Option (Ty1) :=
 bif (decide (t7 < 4)) then
 bif decide (0 ≤ t7 ∧ t7 < 4) then
 bif decide (0 ≤ t7 ∧ t7 < 4) then
 let v6 := IntKind.wrap .u64 ((List.getD b0 (Int.toNat t7) 0) + (List.getD b1 (Int.toNat t7) 0))
 let v7 := IntKind.wrap .u64 (v6 + t6)
 bif decide (0 ≤ t7 ∧ t7 < 4) then
 bif (decide (v6 < (List.getD b1 (Int.toNat t7) 0))) then
 bif decide (0 ≤ t7 ∧ t7 < 4) then
 rec (1, (IntKind.wrap .i64 (t7 + 1)), (setD b0 (Int.toNat t7) v7), b1, b2)
 else
 none
 else
 bif (decide (v7 < t6)) then
 bif decide (0 ≤ t7 ∧ t7 < 4) then
 rec (1, (IntKind.wrap .i64 (t7 + 1)), (setD b0 (Int.toNat t7) v7), b1, b2)
 else
 none
 else
 bif decide (0 ≤ t7 ∧ t7 < 4) then
 rec (0, (IntKind.wrap .i64 (t7 + 1)), (setD b0 (Int.toNat t7) v7), b1, b2)
 else
 none
 else
 none
 else
 none
 else
 none
 else
 some (t6, b0, b2)
def s0 (K : Nat) (rec : Ty0 → Option (Ty1)) (x : Ty0) : Option (Ty1) := s0t K rec x.1 x.2.1 x.2.2.1 x.2.2.2.1 x.2.2.2.2
noncomputable def s0.b : Code := (findLoop 0 c).getD .skip
def s0.h : Hint := { lv := [2, 3, 4, 6, 7] }
def s0.ho : Hint := { lv := [2, 4, 6] }
def s0.shp (x : Ty0) : VS := ⟨[(2, .ptr 0 0), (3, .ptr 1 0), (4, .ptr 2 0), (6, .int .u64 x.1), (7, .int .i64 x.2.1)], [(0, ([.ints .u64 4 x.2.2.1], 24, .norm)), (1, ([.ints .u64 4 x.2.2.2.1], 24, .norm)), (2, ([.ints .u64 4 x.2.2.2.2], 24, .norm))], 3⟩
def s0.inX : VS → Option (Ty0)
 | ⟨[(2, .ptr 0 0), (3, .ptr 1 0), (4, .ptr 2 0), (6, .int .u64 t6), (7, .int .i64 t7)], [(0, ([.ints .u64 4 b0], 24, .norm)), (1, ([.ints .u64 4 b1], 24, .norm)), (2, ([.ints .u64 4 b2], 24, .norm))], 3⟩ => some (t6, t7, b0, b1, b2)
 | _ => none
def s0.o0 (y : Ty1) : VS := ⟨[(2, .ptr 0 0), (4, .ptr 1 0), (6, .int .u64 y.1)], [(0, ([.ints .u64 4 y.2.1], 24, .norm)), (1, ([.ints .u64 4 y.2.2], 24, .norm))], 2⟩
def s0.des : ∀ α : Type, (Ty1) → (Ex → VS → Option α) → Option α := (des1 (.exit 0) s0.o0)
def s0.out : Ty1 → Ex × VS := (fun y => (.exit 0, s0.o0 y))
theorem s0.desOK : ∀ α y (k : Ex → VS → Option α), s0.des α y k = k (s0.out y).1 (s0.out y).2 := (fun _ _ _ => rfl)
def s0.inY : Ex → VS → Option (Ty1)
 | .exit 0, ⟨[(2, .ptr 0 0), (4, .ptr 1 0), (6, .int .u64 t6)], [(0, ([.ints .u64 4 b0], 24, .norm)), (1, ([.ints .u64 4 b1], 24, .norm))], 2⟩ => some (t6, b0, b1)
 | _, _ => none
def lp (K : Nat) : Nat → Option (Hint × Summ) := tabLp [(0, s0.h, summOf (iter (s0 K) K) s0.inX s0.des)]
noncomputable def tab (_K : Nat) : List (Nat × Entry) := []
theorem tabOK (K : Nat) : SpecOK Tryz.prog (tabSp (tab K)) := tab_ok ( tab_nil)
theorem s0.eq (K : Nat) (rec : Ty0 → Option (Ty1)) (x : Ty0) : s0 K rec x = roundL (getA tys) (tabSp (tab K)) 39 0 (lp K) 400 s0.b s0.h s0.ho s0.shp s0.inX s0.inY rec x := by kernel_rfl
theorem s0.lok (K : Nat) : LoopsOK Tryz.prog 39 0 (lp K) s0.b := loops_ok (by
  have h : loopsIn (lp K) s0.b = [] := by kernel_rfl
  rw [h]; simp)
theorem s0.ok (K : Nat) : SummOK Tryz.prog 39 0 (summOf (iter (s0 K) K) s0.inX s0.des) s0.b :=
  loop_ok mix tys_ok (tabOK K) (h := s0.h) (ho := s0.ho) (shp := s0.shp) (inX := s0.inX) (des := s0.des) (out := s0.out) (inY := s0.inY) (fuel := 400)
    (by intro st x h; unfold s0.inX at h; split at h <;> simp at h; subst h; rfl)
    (by intro e st y h; unfold s0.inY at h; split at h <;> simp at h <;> subst h <;> rfl)
    s0.desOK (s0.lok K) (s0 K) (s0.eq K) K
theorem loops (K : Nat) : LoopsOK Tryz.prog 39 0 (lp K) c := loops_ok (by
  have h : loopsIn (lp K) c = [(0, s0.b)] := by kernel_rfl
  rw [h]
  intro p hp
  simp only [List.mem_cons, List.not_mem_nil, or_false] at hp
  rcases hp with rfl
  · exact ⟨_, rfl, (s0.ok K)⟩)
def T (K : Nat) (a0 : List Int) (a1 : List Int) : Option (Ty3) :=
 (iter (s0 K) K (0, 0, a0, a1, [0, 0, 0, 0])).bind fun y21 =>
 some (y21.2.1, y21.1)
def F (K : Nat) (x : Ty2) : Option (Ty3) := T K x.1 x.2
def av (x : Ty2) : List VV := [.agg [.ints .u64 4 x.1], .agg [.ints .u64 4 x.2]]
def bl (_x : Ty2) : List (Nat × Blk) := []
def inA : VS → Option (Ty2)
 | ⟨[(0, .agg [.ints .u64 4 a0]), (1, .agg [.ints .u64 4 a1])], [], 0⟩ => some (a0, a1)
 | _ => none
def o0 (y : Ty3) : VS := ⟨[(0, .tup [.agg [.ints .u64 4 y.1], .int .u64 y.2])], [], 0⟩
def des : ∀ α : Type, (Ty3) → (VS → Option α) → Option α := (dv1 o0)
def out : Ty3 → VS := o0
def inR : VS → Option (Ty3)
 | ⟨[(0, .tup [.agg [.ints .u64 4 y_0], .int .u64 y_1])], [], 0⟩ => some (y_0, y_1)
 | _ => none
noncomputable def E (K : Nat) : Entry := genE 0 inA (F K) des
theorem eq (K : Nat) (x : Ty2) : F K x = xrun (getA tys) (tabSp (tab K)) Tryz.f46.ntmps 0 (lp K) 400 c ⟨initL 0 (av x), bl x, 0⟩ (contF (getA tys) 0 Tryz.f46.results.toList inR) := by kernel_rfl
theorem ok (K : Nat) : EntryOK Tryz.prog 46 (E K) :=
  gen_ok mix tys_ok (tabOK K) Tryz.func46 (by kernel_rfl : Tryz.f46.body = some c) (by kernel_rfl) (loops K) (av := av) (bl := bl) (out := out) (fuel := 400)
    (by intro s x h; unfold inA at h; split at h <;> simp at h; subst h; rfl) (fun _ => Nat.le_of_ble_eq_true rfl)
    (by intro s y h; unfold inR at h; split at h <;> simp at h <;> subst h <;> rfl) (fun _ _ _ => rfl) (eq K)
end f46
end Go.Proofs

namespace Go.Proofs
open Go.VM
namespace f30
abbrev Ty0 := Int × Int × List Int × List Int × List Int
abbrev Ty1 := Int × List Int × List Int
abbrev Ty2 := List Int × List Int
abbrev Ty3 := List Int × Int
noncomputable def c : Code := bodyOf Tryz.f30
def s0t (_K : Nat) (rec : Ty0 → Option (Ty1)) (t6 : Int) (t7 : Int) (b0 : List Int) (b1 : List Int) (b2 : List Int) : Option (Ty1) :=
 bif (decide (t7 < 4)) then
 bif decide (0 ≤ t7 ∧ t7 < 4) then
 bif decide (0 ≤ t7 ∧ t7 < 4) then
 let v6 := IntKind.wrap .u64 ((List.getD b0 (Int.toNat t7) 0) - (List.getD b1 (Int.toNat t7) 0))
 let v7 := IntKind.wrap .u64 (v6 - t6)
 bif decide (0 ≤ t7 ∧ t7 < 4) then
 bif decide (0 ≤ t7 ∧ t7 < 4) then
 bif (decide ((List.getD b0 (Int.toNat t7) 0) < (List.getD b1 (Int.toNat t7) 0))) then
 bif decide (0 ≤ t7 ∧ t7 < 4) then
 rec (1, (IntKind.wrap .i64 (t7 + 1)), (setD b0 (Int.toNat t7) v7), b1, b2)
 else
 none
 else
 bif (decide (v6 < t6)) then
 bif decide (0 ≤ t7 ∧ t7 < 4) then
 rec (1, (IntKind.wrap .i64 (t7 + 1)), (setD b0 (Int.toNat t7) v7), b1, b2)
 else
 none
 else
 bif decide (0 ≤ t7 ∧ t7 < 4) then
 rec (0, (IntKind.wrap .i64 (t7 + 1)), (setD b0 (Int.toNat t7) v7), b1, b2)
 else
 none
 else
 none
 else
 none
 else
 none
 else
 none
 else
 some (t6, b0, b2)
def s0 (K : Nat) (rec : Ty0 → Option (Ty1)) (x : Ty0) : Option (Ty1) := s0t K rec x.1 x.2.1 x.2.2.1 x.2.2.2.1 x.2.2.2.2
noncomputable def s0.b : Code := (findLoop 0 c).getD .skip
def s0.h : Hint := { lv := [2, 3, 4, 6, 7] }
def s0.ho : Hint := { lv := [2, 4, 6] }
def s0.shp (x : Ty0) : VS := ⟨[(2, .ptr 0 0), (3, .ptr 1 0), (4, .ptr 2 0), (6, .int .u64 x.1), (7, .int .i64 x.2.1)], [(0, ([.ints .u64 4 x.2.2.1], 24, .norm)), (1, ([.ints .u64 4 x.2.2.2.1], 24, .norm)), (2, ([.ints .u64 4 x.2.2.2.2], 24, .norm))], 3⟩
def s0.inX : VS → Option (Ty0)
 | ⟨[(2, .ptr 0 0), (3, .ptr 1 0), (4, .ptr 2 0), (6, .int .u64 t6), (7, .int .i64 t7)], [(0, ([.ints .u64 4 b0], 24, .norm)), (1, ([.ints .u64 4 b1], 24, .norm)), (2, ([.ints .u64 4 b2], 24, .norm))], 3⟩ => some (t6, t7, b0, b1, b2)
 | _ => none
def s0.o0 (y : Ty1) : VS := ⟨[(2, .ptr 0 0), (4, .ptr 1 0), (6, .int .u64 y.1)], [(0, ([.ints .u64 4 y.2.1], 24, .norm)), (1, ([.ints .u64 4 y.2.2], 24, .norm))], 2⟩
def s0.des : ∀ α : Type, (Ty1) → (Ex → VS → Option α) → Option α := (des1 (.exit 0) s0.o0)
def s0.out : Ty1 → Ex × VS := (fun y => (.exit 0, s0.o0 y))
theorem s0.desOK : ∀ α y (k : Ex → VS → Option α), s0.des α y k = k (s0.out y).1 (s0.out y).2 := (fun _ _ _ => rfl)
def s0.inY : Ex → VS → Option (Ty1)
 | .exit 0, ⟨[(2, .ptr 0 0), (4, .ptr 1 0), (6, .int .u64 t6)], [(0, ([.ints .u64 4 b0], 24, .norm)), (1, ([.ints .u64 4 b1], 24, .norm))], 2⟩ => some (t6, b0, b1)
 | _, _ => none
def lp (K : Nat) : Nat → Option (Hint × Summ) := tabLp [(0, s0.h, summOf (iter (s0 K) K) s0.inX s0.des)]
noncomputable def tab (_K : Nat) : List (Nat × Entry) := []
theorem tabOK (K : Nat) : SpecOK Tryz.prog (tabSp (tab K)) := tab_ok ( tab_nil)
theorem s0.eq (K : Nat) (rec : Ty0 → Option (Ty1)) (x : Ty0) : s0 K rec x = roundL (getA tys) (tabSp (tab K)) 41 0 (lp K) 400 s0.b s0.h s0.ho s0.shp s0.inX s0.inY rec x := by kernel_rfl
theorem s0.lok (K : Nat) : LoopsOK Tryz.prog 41 0 (lp K) s0.b := loops_ok (by
  have h : loopsIn (lp K) s0.b = [] := by kernel_rfl
  rw [h]; simp)
theorem s0.ok (K : Nat) : SummOK Tryz.prog 41 0 (summOf (iter (s0 K) K) s0.inX s0.des) s0.b :=
  loop_ok mix tys_ok (tabOK K) (h := s0.h) (ho := s0.ho) (shp := s0.shp) (inX := s0.inX) (des := s0.des) (out := s0.out) (inY := s0.inY) (fuel := 400)
    (by intro st x h; unfold s0.inX at h; split at h <;> simp at h; subst h; rfl)
    (by intro e st y h; unfold s0.inY at h; split at h <;> simp at h <;> subst h <;> rfl)
    s0.desOK (s0.lok K) (s0 K) (s0.eq K) K
theorem loops (K : Nat) : LoopsOK Tryz.prog 41 0 (lp K) c := loops_ok (by
  have h : loopsIn (lp K) c = [(0, s0.b)] := by kernel_rfl
  rw [h]
  intro p hp
  simp only [List.mem_cons, List.not_mem_nil, or_false] at hp
  rcases hp with rfl
  · exact ⟨_, rfl, (s0.ok K)⟩)
def T (K : Nat) (a0 : List Int) (a1 : List Int) : Option (Ty3) :=
 (iter (s0 K) K (0, 0, a0, a1, [0, 0, 0, 0])).bind fun y23 =>
 some (y23.2.1, y23.1)
def F (K : Nat) (x : Ty2) : Option (Ty3) := T K x.1 x.2
def av (x : Ty2) : List VV := [.agg [.ints .u64 4 x.1], .agg [.ints .u64 4 x.2]]
def bl (_x : Ty2) : List (Nat × Blk) := []
def inA : VS → Option (Ty2)
 | ⟨[(0, .agg [.ints .u64 4 a0]), (1, .agg [.ints .u64 4 a1])], [], 0⟩ => some (a0, a1)
 | _ => none
def o0 (y : Ty3) : VS := ⟨[(0, .tup [.agg [.ints .u64 4 y.1], .int .u64 y.2])], [], 0⟩
def des : ∀ α : Type, (Ty3) → (VS → Option α) → Option α := (dv1 o0)
def out : Ty3 → VS := o0
def inR : VS → Option (Ty3)
 | ⟨[(0, .tup [.agg [.ints .u64 4 y_0], .int .u64 y_1])], [], 0⟩ => some (y_0, y_1)
 | _ => none
noncomputable def E (K : Nat) : Entry := genE 0 inA (F K) des
theorem eq (K : Nat) (x : Ty2) : F K x = xrun (getA tys) (tabSp (tab K)) Tryz.f30.ntmps 0 (lp K) 400 c ⟨initL 0 (av x), bl x, 0⟩ (contF (getA tys) 0 Tryz.f30.results.toList inR) := by kernel_rfl
theorem ok (K : Nat) : EntryOK Tryz.prog 30 (E K) :=
  gen_ok mix tys_ok (tabOK K) Tryz.func30 (by kernel_rfl : Tryz.f30.body = some c) (by kernel_rfl) (loops K) (av := av) (bl := bl) (out := out) (fuel := 400)
    (by intro s x h; unfold inA at h; split at h <;> simp at h; subst h; rfl) (fun _ => Nat.le_of_ble_eq_true rfl)
    (by intro s y h; unfold inR at h; split at h <;> simp at h <;> subst h <;> rfl) (fun _ _ _ => rfl) (eq K)
end f30
end Go.Proofs

namespace Go.Proofs
open Go.VM
namespace f56
def T (_K : Nat) (a0 : List Int) (a1 : Int) : Option (Int) :=
 bif (decide (a1 < 0)) then
 some (0)
 else
 bif (decide (a1 ≥ 256)) then
 some (0)
 else
 let v3 := IntKind.wrap .i64 (Int.tdiv a1 64)
 bif decide (0 ≤ v3 ∧ v3 < 4) then
 let v7 := IntKind.wrap .u64 (Int.tmod a1 64)
 bif decide (0 ≤ v7) then
 some (Int.tmod (shiftI .shr .u64 (List.getD a0 (Int.toNat v3) 0) v7) 2)
 else
 none
 else
 none
def F (K : Nat) (x : List Int × Int) : Option (Int) := T K x.1 x.2
def av (x : List Int × Int) : List VV := [.agg [.ints .u64 4 x.1], .int .i64 x.2]
def bl (_x : List Int × Int) : List (Nat × Blk) := []
def inA : VS → Option (List Int × Int)
 | ⟨[(0, .agg [.ints .u64 4 a0]), (1, .int .i64 a1)], [], 0⟩ => some (a0, a1)
 | _ => none
def o0 (y : Int) : VS := ⟨[(0, .int .u64 y)], [], 0⟩
def inR : VS → Option (Int)
 | ⟨[(0, .int .u64 y)], [], 0⟩ => some y
 | _ => none
noncomputable def E (K : Nat) : Entry := genE 0 inA (F K) (dv1 o0)
theorem ok (K : Nat) : EntryOK Tryz.prog 56 (E K) := gen_ok mix tys_ok (tab_ok ( tab_nil)) Tryz.func56 (c := bodyOf Tryz.f56) (by kernel_rfl) (by kernel_rfl) (loops_none (lp := lpNone) (by kernel_rfl)) (av := av) (bl := bl) (inR := inR) (out := o0) (fuel := 400)
  (by intro s x h; unfold inA at h; split at h <;> simp at h; subst h; rfl) (fun _ => Nat.le_of_ble_eq_true rfl)
  (by intro s y h; unfold inR at h; split at h <;> simp at h <;> subst h <;> rfl) (fun _ _ _ => rfl) (fun _ => by kernel_rfl)
end f56
end Go.Proofs

namespace Go.Proofs
open Go.VM
namespace f53
def T (_K : Nat) (a0 : Int) : Option (List Int) :=
 some ([a0, 0, 0, 0])
def F (K : Nat) (x : Int) : Option (List Int) := T K x
def av (x : Int) : List VV := [.int .u64 x]
def bl (_x : Int) : List (Nat × Blk) := []
def inA : VS → Option (Int)
 | ⟨[(0, .int .u64 a0)], [], 0⟩ => some a0
 | _ => none
def o0 (y : List Int) : VS := ⟨[(0, .agg [.ints .u64 4 y])], [], 0⟩
def inR : VS → Option (List Int)
 | ⟨[(0, .agg [.ints .u64 4 y])], [], 0⟩ => some y
 | _ => none
noncomputable def E (K : Nat) : Entry := genE 0 inA (F K) (dv1 o0)
theorem ok (K : Nat) : EntryOK Tryz.prog 53 (E K) := gen_ok mix tys_ok (tab_ok ( tab_nil)) Tryz.func53 (c := bodyOf Tryz.f53) (by kernel_rfl) (by kernel_rfl) (loops_none (lp := lpNone) (by kernel_rfl)) (av := av) (bl := bl) (inR := inR) (out := o0) (fuel := 400)
  (by intro s x h; unfold inA at h; split at h <;> simp at h; subst h; rfl) (fun _ => Nat.le_of_ble_eq_true rfl)
  (by intro s y h; unfold inR at h; split at h <;> simp at h <;> subst h <;> rfl) (fun _ _ _ => rfl) (fun _ => by kernel_rfl)
end f53
end Go.Proofs

namespace Go.Proofs
open Go.VM
theorem f53.spec (K n : Nat) (h : n < 18446744073709551616) : f53.F K (n : Int) = some (num n) := f12.spec K n h
theorem f46.round (K i : Nat) (hi : i < 4) (rec : _ → _) (f g : Nat → Nat) (c : Nat) (hf : f i < 18446744073709551616) (hg : g i < 18446744073709551616) (hc : c ≤ 1) (z : List Int) :
    f46.s0 K rec (c, i, vec 4 f, vec 4 g, z) = rec ((((c + f i + g i) / 18446744073709551616 : Nat) : Int), ((i + 1 : Nat) : Int), vec 4 (fun j => if j = i then (c + f i + g i) % 18446744073709551616 else f j), vec 4 g, z) := by
  simp only [f46.s0, f46.s0t]
  have h1 : decide ((i : Int) < 4) = true := decide_eq_true (by omega)
  have h2 : decide ((0 : Int) ≤ (i : Int) ∧ (i : Int) < 4) = true := inR_nat (n := 4) hi
  have w1 : IntKind.wrap .i64 ((i : Int) + 1) = ((i + 1 : Nat) : Int) := by rw [wrap_i _ (by omega) (by omega)]; omega
  rw [h1, h2, w1]
  simp only [cond_true, Int.toNat_natCast, getD_vec hi]
  have e1 : IntKind.wrap .u64 ((f i : Int) + (g i : Int)) = (((f i + g i) % 18446744073709551616 : Nat) : Int) := by rw [← Int.natCast_add, wrap_nat]
  have e2 : IntKind.wrap .u64 ((((f i + g i) % 18446744073709551616 : Nat) : Int) + (c : Int)) = (((c + f i + g i) % 18446744073709551616 : Nat) : Int) := by rw [← Int.natCast_add, wrap_nat]; congr 1; omega
  rw [e1, e2, setD_vec hi]
  by_cases h : f i + g i < 18446744073709551616
  · have d1 : decide ((((f i + g i) % 18446744073709551616 : Nat) : Int) < (g i : Int)) = false := decide_eq_false (by omega)
    rw [d1]
    simp only [cond_false]
    by_cases h' : c + f i + g i < 18446744073709551616
    · have d2 : decide ((((c + f i + g i) % 18446744073709551616 : Nat) : Int) < (c : Int)) = false := decide_eq_false (by omega)
      rw [d2, Nat.div_eq_of_lt h']
      rfl
    · have d2 : decide ((((c + f i + g i) % 18446744073709551616 : Nat) : Int) < (c : Int)) = true := decide_eq_true (by omega)
      rw [d2, show (c + f i + g i) / 18446744073709551616 = 1 by omega]
      rfl
  · have d1 : decide ((((f i + g i) % 18446744073709551616 : Nat) : Int) < (g i : Int)) = true := decide_eq_true (by omega)
    rw [d1, show (c + f i + g i) / 18446744073709551616 = 1 by omega]
    rfl
theorem f46.step (K A B i : Nat) (hi : i < 4) (rec : _ → _) (z : List Int) :
    f46.s0 K rec (carry 64 A B 0 i, i, vec 4 (mixed 64 A B 0 i), num B, z) = rec (carry 64 A B 0 (i + 1), ((i + 1 : Nat) : Int), vec 4 (mixed 64 A B 0 (i + 1)), num B, z) := by
  obtain ⟨c1, c2⟩ := carry_succ 64 A B 0 i
  have h := f46.round K i hi rec (mixed 64 A B 0 i) (fun j => B / 2 ^ (64 * j) % 2 ^ 64) (carry 64 A B 0 i) (by rw [mixed_self]; exact Nat.mod_lt _ (by decide)) (Nat.mod_lt _ (by decide)) (carry_le (by decide)) z
  rw [mixed_self] at h
  rw [show (18446744073709551616 : Nat) = 2 ^ 64 from rfl, c1, c2, mixed_step] at h
  exact h
theorem f46.spec (K A B : Nat) (hK : 4 < K) : f46.F K (num A, num B) = some (num (A + B), (carry 64 A B 0 4 : Int)) := by
  have key := iter_for (stp := f46.s0 K) (N := 4) (fun i => ((carry 64 A B 0 i : Int), (i : Int), vec 4 (mixed 64 A B 0 i), num B, ([0, 0, 0, 0] : List Int)))
      (y := some ((carry 64 A B 0 4 : Int), num (A + B), ([0, 0, 0, 0] : List Int))) (fun i hi rec => f46.step K A B i hi rec _) (fun rec => by
        simp only [f46.s0, f46.s0t, mixed_all]
        rfl) hK
  simp only [carry_zero, mixed_zero] at key
  have key' : iter (f46.s0 K) K (0, 0, num A, num B, [0, 0, 0, 0]) = some ((carry 64 A B 0 4 : Int), num (A + B), ([0, 0, 0, 0] : List Int)) := key
  simp only [f46.F, f46.T, key', bind_s]
theorem f46.all (A B : Nat) : f46.F 100000 (num A, num B) = some (num (A + B), (((A % 2 ^ 256 + B % 2 ^ 256) / 2 ^ 256 : Nat) : Int)) := by
  rw [f46.spec 100000 A B (by decide)]
  simp only [carry, Nat.add_zero]
end Go.Proofs

namespace Go.Proofs
open Go.VM
theorem sub_word (x y : Nat) (hx : x < 18446744073709551616) (hy : y < 18446744073709551616) : IntKind.wrap .u64 ((x : Int) - (y : Int)) = (((x + 18446744073709551616 - y) % 18446744073709551616 : Nat) : Int) := by
  simp only [IntKind.wrap, IntKind.bits, IntKind.signed, Bool.false_and, Bool.false_eq_true, if_false]
  omega
theorem sub_words (a b c : Nat) (ha : a < 18446744073709551616) (hb : b < 18446744073709551616) (hc : c ≤ 1) : ((a + 18446744073709551616 - b) % 18446744073709551616 + 18446744073709551616 - (1 - c)) % 18446744073709551616 = (c + a + (18446744073709551615 - b)) % 18446744073709551616 := by omega
theorem sub_cases (a b c : Nat) (ha : a < 18446744073709551616) (hb : b < 18446744073709551616) (hc : c ≤ 1) : ∃ s q : Nat, (a + 18446744073709551616 - b) % 18446744073709551616 = s ∧ (c + a + (18446744073709551615 - b)) / 18446744073709551616 = q ∧
    ((a < b ∧ q = 0) ∨ (¬ a < b ∧ s < 1 - c ∧ q = 0) ∨ (¬ a < b ∧ ¬ s < 1 - c ∧ q = 1)) := by
  refine ⟨_, _, rfl, rfl, ?_⟩
  omega
theorem f30.round (K i : Nat) (hi : i < 4) (rec : _ → _) (f g : Nat → Nat) (c : Nat) (hf : f i < 18446744073709551616) (hg : g i < 18446744073709551616) (hc : c ≤ 1) (z : List Int) :
    f30.s0 K rec (((1 - c : Nat) : Int), i, vec 4 f, vec 4 g, z) = rec (((1 - (c + f i + (18446744073709551615 - g i)) / 18446744073709551616 : Nat) : Int), ((i + 1 : Nat) : Int), vec 4 (fun j => if j = i then (c + f i + (18446744073709551615 - g i)) % 18446744073709551616 else f j), vec 4 g, z) := by
  simp only [f30.s0, f30.s0t]
  have h1 : decide ((i : Int) < 4) = true := decide_eq_true (by omega)
  have h2 : decide ((0 : Int) ≤ (i : Int) ∧ (i : Int) < 4) = true := inR_nat (n := 4) hi
  have w1 : IntKind.wrap .i64 ((i : Int) + 1) = ((i + 1 : Nat) : Int) := by rw [wrap_i _ (by omega) (by omega)]; omega
  rw [h1, h2, w1]
  simp only [cond_true, Int.toNat_natCast, getD_vec hi]
  have e1 := sub_word (f i) (g i) hf hg
  have e2 := sub_word ((f i + 18446744073709551616 - g i) % 18446744073709551616) (1 - c) (Nat.mod_lt _ (by decide)) (by omega)
  have e3 := sub_words (f i) (g i) c hf hg hc
  rw [e3] at e2
  rw [e1, e2, setD_vec hi]
  obtain ⟨s, q, hs, hq, hcase⟩ := sub_cases (f i) (g i) c hf hg hc
  rw [hs, hq]
  generalize (c + f i + (18446744073709551615 - g i)) % 18446744073709551616 = r
  rcases hcase with ⟨h, rfl⟩ | ⟨h, h', rfl⟩ | ⟨h, h', rfl⟩
  · rw [decide_eq_true (show (f i : Int) < (g i : Int) by omega)]
    rfl
  · rw [decide_eq_false (show ¬ (f i : Int) < (g i : Int) by omega), decide_eq_true (show (s : Int) < ((1 - c : Nat) : Int) by omega)]
    rfl
  · rw [decide_eq_false (show ¬ (f i : Int) < (g i : Int) by omega), decide_eq_false (show ¬ (s : Int) < ((1 - c : Nat) : Int) by omega)]
    rfl
theorem f30.step (K A B i : Nat) (hB : B < 2 ^ 256) (hi : i < 4) (rec : _ → _) (z : List Int) :
    f30.s0 K rec (((1 - carry 64 A (2 ^ 256 - 1 - B) 1 i : Nat) : Int), i, vec 4 (mixed 64 A (2 ^ 256 - 1 - B) 1 i), num B, z) = rec (((1 - carry 64 A (2 ^ 256 - 1 - B) 1 (i + 1) : Nat) : Int), ((i + 1 : Nat) : Int), vec 4 (mixed 64 A (2 ^ 256 - 1 - B) 1 (i + 1)), num B, z) := by
  obtain ⟨c1, c2⟩ := carry_succ 64 A (2 ^ 256 - 1 - B) 1 i
  have h := f30.round K i hi rec (mixed 64 A (2 ^ 256 - 1 - B) 1 i) (fun j => B / 2 ^ (64 * j) % 2 ^ 64) (carry 64 A (2 ^ 256 - 1 - B) 1 i) (by rw [mixed_self]; exact Nat.mod_lt _ (by decide)) (Nat.mod_lt _ (by decide)) (carry_le (by decide)) z
  rw [mixed_self] at h
  have hw := comp_word (w := 64) (n := 4) (B := B) (j := i) hB hi
  rw [show (64 * 4 : Nat) = 256 from rfl] at hw
  rw [show (18446744073709551615 : Nat) = 2 ^ 64 - 1 from rfl, ← hw, show (18446744073709551616 : Nat) = 2 ^ 64 from rfl, c1, c2, mixed_step] at h
  exact h
theorem f30.spec (K A B : Nat) (hA : A < 2 ^ 256) (hB : B < 2 ^ 256) (hK : 4 < K) : f30.F K (num A, num B) = some (num (A + 2 ^ 256 - B), ((if A < B then 1 else 0 : Nat) : Int)) := by
  have key := iter_for (stp := f30.s0 K) (N := 4) (fun i => (((1 - carry 64 A (2 ^ 256 - 1 - B) 1 i : Nat) : Int), (i : Int), vec 4 (mixed 64 A (2 ^ 256 - 1 - B) 1 i), num B, ([0, 0, 0, 0] : List Int)))
      (y := some (((1 - carry 64 A (2 ^ 256 - 1 - B) 1 4 : Nat) : Int), num (A + (2 ^ 256 - 1 - B) + 1), ([0, 0, 0, 0] : List Int))) (fun i hi rec => f30.step K A B i hB hi rec _) (fun rec => by
        simp only [f30.s0, f30.s0t, mixed_all]
        rfl) hK
  simp only [carry_zero, mixed_zero] at key
  have key' : iter (f30.s0 K) K (0, 0, num A, num B, [0, 0, 0, 0]) = some (((1 - carry 64 A (2 ^ 256 - 1 - B) 1 4 : Nat) : Int), num (A + (2 ^ 256 - 1 - B) + 1), ([0, 0, 0, 0] : List Int)) := key
  simp only [f30.F, f30.T, key', bind_s]
  have hc : 1 - carry 64 A (2 ^ 256 - 1 - B) 1 4 = if A < B then 1 else 0 := by
    unfold carry
    rw [show (64 * 4 : Nat) = 256 from rfl, Nat.mod_eq_of_lt hA, Nat.mod_eq_of_lt (show 2 ^ 256 - 1 - B < 2 ^ 256 by omega)]
    split <;> omega
  rw [hc, show A + (2 ^ 256 - 1 - B) + 1 = A + 2 ^ 256 - B by omega]
end Go.Proofs

namespace Go.Proofs
open Go.VM
theorem word_bit (A i : Nat) : A / 2 ^ (64 * (i / 64)) % 2 ^ 64 / 2 ^ (i % 64) % 2 = A / 2 ^ i % 2 := by
  have h : (2 : Nat) ^ 64 = 2 ^ (i % 64) * (2 * 2 ^ (63 - i % 64)) := by
    rw [← Nat.pow_succ', ← Nat.pow_add]; congr 1; omega
  rw [h, Nat.mod_mul_right_div_self, Nat.mod_mul_right_mod, Nat.div_div_eq_div_mul, ← Nat.pow_add]
  congr 3; omega
theorem f56.spec (K A i : Nat) (hA : A < 2 ^ 256) : f56.F K (num A, (i : Int)) = some ((A / 2 ^ i % 2 : Nat) : Int) := by
  simp only [f56.F, f56.T]
  rw [decide_eq_false (show ¬ (i : Int) < 0 by omega), cond_f]
  by_cases h : i < 256
  · rw [decide_eq_false (show ¬ (i : Int) ≥ 256 by omega), cond_f]
    have e1 : IntKind.wrap .i64 (Int.tdiv (i : Int) 64) = ((i / 64 : Nat) : Int) := by
      rw [show (64 : Int) = ((64 : Nat) : Int) from rfl, tdiv_nat, wrap_i _ (by omega) (by omega)]
    have e2 : IntKind.wrap .u64 (Int.tmod (i : Int) 64) = ((i % 64 : Nat) : Int) := by
      rw [show (64 : Int) = ((64 : Nat) : Int) from rfl, tmod_nat, wrap_u _ (by omega) (by omega)]
    have h4 : decide ((0 : Int) ≤ ((i / 64 : Nat) : Int) ∧ ((i / 64 : Nat) : Int) < 4) = true := inR_nat (n := 4) (by omega)
    rw [e1, e2, h4, cond_t, decide_eq_true (show (0 : Int) ≤ ((i % 64 : Nat) : Int) by omega), cond_t, Int.toNat_natCast, getD_words (show i / 64 < 4 by omega), shr_nat _ _ (by omega)]
    rw [show (2 : Int) = ((2 : Nat) : Int) from rfl, tmod_nat, word_bit]
  · rw [decide_eq_true (show (i : Int) ≥ 256 by omega), cond_t, Nat.div_eq_of_lt (Nat.lt_of_lt_of_le hA (Nat.pow_le_pow_right (by decide) (by omega)))]
    rfl
end Go.Proofs

namespace Go.Proofs
open Go.VM
namespace f55
abbrev Ty0 := Int × List Int
noncomputable def c : Code := bodyOf Tryz.f55
def s0t (K : Nat) (rec : Ty0 → Option (Int)) (t3 : Int) (b0 : List Int) : Option (Int) :=
 bif (decide (t3 > 0)) then
 (f56.F K (b0, (IntKind.wrap .i64 (t3 - 1)))).bind fun y3 =>
 bif (y3 == 0) then
 rec ((IntKind.wrap .i64 (t3 - 1)), b0)
 else
 some t3
 else
 some t3
def s0 (K : Nat) (rec : Ty0 → Option (Int)) (x : Ty0) : Option (Int) := s0t K rec x.1 x.2
noncomputable def s0.b : Code := (findLoop 0 c).getD .skip
def s0.h : Hint := { lv := [1, 3] }
def s0.ho : Hint := { lv := [3] }
def s0.shp (x : Ty0) : VS := ⟨[(1, .ptr 0 0), (3, .int .i64 x.1)], [(0, ([.ints .u64 4 x.2], 24, .norm))], 1⟩
def s0.inX : VS → Option (Ty0)
 | ⟨[(1, .ptr 0 0), (3, .int .i64 t3)], [(0, ([.ints .u64 4 b0], 24, .norm))], 1⟩ => some (t3, b0)
 | _ => none
def s0.o0 (y : Int) : VS := ⟨[(3, .int .i64 y)], [], 0⟩
def s0.des : ∀ α : Type, Int → (Ex → VS → Option α) → Option α := (des1 (.exit 0) s0.o0)
def s0.out : Int → Ex × VS := (fun y => (.exit 0, s0.o0 y))
theorem s0.desOK : ∀ α y (k : Ex → VS → Option α), s0.des α y k = k (s0.out y).1 (s0.out y).2 := (fun _ _ _ => rfl)
def s0.inY : Ex → VS → Option (Int)
 | .exit 0, ⟨[(3, .int .i64 t3)], [], 0⟩ => some t3
 | _, _ => none
def lp (K : Nat) : Nat → Option (Hint × Summ) := tabLp [(0, s0.h, summOf (iter (s0 K) K) s0.inX s0.des)]
noncomputable def tab (K : Nat) : List (Nat × Entry) := [(56, (f56.E K))]
theorem tabOK (K : Nat) : SpecOK Tryz.prog (tabSp (tab K)) := tab_ok ((tab_cons (f56.ok K) tab_nil))
theorem s0.eq (K : Nat) (rec : Ty0 → Option (Int)) (x : Ty0) : s0 K rec x = roundL (getA tys) (tabSp (tab K)) 16 0 (lp K) 400 s0.b s0.h s0.ho s0.shp s0.inX s0.inY rec x := by kernel_rfl
theorem s0.lok (K : Nat) : LoopsOK Tryz.prog 16 0 (lp K) s0.b := loops_ok (by
  have h : loopsIn (lp K) s0.b = [] := by kernel_rfl
  rw [h]; simp)
theorem s0.ok (K : Nat) : SummOK Tryz.prog 16 0 (summOf (iter (s0 K) K) s0.inX s0.des) s0.b :=
  loop_ok mix tys_ok (tabOK K) (h := s0.h) (ho := s0.ho) (shp := s0.shp) (inX := s0.inX) (des := s0.des) (out := s0.out) (inY := s0.inY) (fuel := 400)
    (by intro st x h; unfold s0.inX at h; split at h <;> simp at h; subst h; rfl)
    (by intro e st y h; unfold s0.inY at h; split at h <;> simp at h <;> subst h <;> rfl)
    s0.desOK (s0.lok K) (s0 K) (s0.eq K) K
theorem loops (K : Nat) : LoopsOK Tryz.prog 16 0 (lp K) c := loops_ok (by
  have h : loopsIn (lp K) c = [(0, s0.b)] := by kernel_rfl
  rw [h]
  intro p hp
  simp only [List.mem_cons, List.not_mem_nil, or_false] at hp
  rcases hp with rfl
  · exact ⟨_, rfl, (s0.ok K)⟩)
def T (K : Nat) (a0 : List Int) : Option (Int) :=
 (iter (s0 K) K (256, a0)).bind fun y5 =>
 some y5
def F (K : Nat) (x : List Int) : Option (Int) := T K x
def av (x : List Int) : List VV := [.agg [.ints .u64 4 x]]
def bl (_x : List Int) : List (Nat × Blk) := []
def inA : VS → Option (List Int)
 | ⟨[(0, .agg [.ints .u64 4 a0])], [], 0⟩ => some a0
 | _ => none
def o0 (y : Int) : VS := ⟨[(0, .int .i64 y)], [], 0⟩
def des : ∀ α : Type, Int → (VS → Option α) → Option α := (dv1 o0)
def out : Int → VS := o0
def inR : VS → Option (Int)
 | ⟨[(0, .int .i64 y)], [], 0⟩ => some y
 | _ => none
noncomputable def E (K : Nat) : Entry := genE 0 inA (F K) des
theorem eq (K : Nat) (x : List Int) : F K x = xrun (getA tys) (tabSp (tab K)) Tryz.f55.ntmps 0 (lp K) 400 c ⟨initL 0 (av x), bl x, 0⟩ (contF (getA tys) 0 Tryz.f55.results.toList inR) := by kernel_rfl
theorem ok (K : Nat) : EntryOK Tryz.prog 55 (E K) :=
  gen_ok mix tys_ok (tabOK K) Tryz.func55 (by kernel_rfl : Tryz.f55.body = some c) (by kernel_rfl) (loops K) (av := av) (bl := bl) (out := out) (fuel := 400)
    (by intro s x h; unfold inA at h; split at h <;> simp at h; subst h; rfl) (fun _ => Nat.le_of_ble_eq_true rfl)
    (by intro s y h; unfold inR at h; split at h <;> simp at h <;> subst h <;> rfl) (fun _ _ _ => rfl) (eq K)
end f55
end Go.Proofs

namespace Go.Proofs
open Go.VM
theorem f55.spec (K A : Nat) (hA : A < 2 ^ 256) (hK : 256 < K) : f55.F K (num A) = some ((blen A : Nat) : Int) := by
  simp only [f55.F, f55.T]
  have key := iter_inv (stp := f55.s0 K) (fun m x => m ≤ 256 ∧ A < 2 ^ m ∧ x = ((m : Int), num A)) (fun y => y = ((blen A : Nat) : Int)) (by
    rintro m x ⟨hm, hlt, rfl⟩
    cases m with
    | zero =>
      have h0 : A = 0 := by simpa using hlt
      refine .inl ⟨_, rfl, fun rec => ?_⟩
      subst h0
      simp only [f55.s0, f55.s0t]
      rfl
    | succ m =>
      have w : IntKind.wrap .i64 (((m + 1 : Nat) : Int) - 1) = (m : Int) := by rw [wrap_i _ (by omega) (by omega)]; omega
      have hd : decide (((m + 1 : Nat) : Int) > 0) = true := decide_eq_true (by omega)
      have hq : A / 2 ^ m < 2 := Nat.div_lt_of_lt_mul (by rw [Nat.pow_succ] at hlt; exact hlt)
      by_cases hb : A / 2 ^ m = 0
      · refine .inr ⟨_, m, by omega, ⟨by omega, ?_, rfl⟩, fun rec => ?_⟩
        · rcases Nat.lt_or_ge A (2 ^ m) with h | h
          · exact h
          · exact absurd hb (Nat.ne_of_gt (Nat.div_pos h (Nat.two_pow_pos m)))
        · simp only [f55.s0, f55.s0t]
          rw [hd, w, cond_t, f56.spec K A m hA, bind_s, hb]
          rfl
      · have h1 : A / 2 ^ m = 1 := Nat.le_antisymm (Nat.le_of_lt_succ hq) (Nat.pos_of_ne_zero hb)
        refine .inl ⟨((m + 1 : Nat) : Int), ?_, fun rec => ?_⟩
        · have h2 : blen A ≤ m + 1 := blen_le hlt
          have h3 : m < blen A := blen_pos.2 hb
          congr 1; omega
        · simp only [f55.s0, f55.s0t]
          rw [hd, w, cond_t, f56.spec K A m hA, bind_s, h1]
          rfl) 256 (256, num A) ⟨Nat.le_refl _, hA, rfl⟩ K hK
  obtain ⟨y, rfl, h⟩ := key
  rw [h, bind_s]
end Go.Proofs

namespace Go.Proofs
open Go.VM
namespace f29
abbrev Ty0 := Int × Int × List Int × List Int
abbrev Ty1 := List Int × List Int
noncomputable def c : Code := bodyOf Tryz.f29
def s0t (_K : Nat) (rec : Ty0 → Option (Int)) (t5 : Int) (t6 : Int) (b0 : List Int) (b1 : List Int) : Option (Int) :=
 bif (decide (t6 < 4)) then
 bif decide (0 ≤ t6 ∧ t6 < 4) then
 bif decide (0 ≤ t6 ∧ t6 < 4) then
 bif (decide ((List.getD b0 (Int.toNat t6) 0) < (List.getD b1 (Int.toNat t6) 0))) then
 bif decide (0 ≤ t6 ∧ t6 < 4) then
 bif decide (0 ≤ t6 ∧ t6 < 4) then
 bif (decide ((List.getD b0 (Int.toNat t6) 0) > (List.getD b1 (Int.toNat t6) 0))) then
 rec (1, (IntKind.wrap .i64 (t6 + 1)), b0, b1)
 else
 rec ((-1), (IntKind.wrap .i64 (t6 + 1)), b0, b1)
 else
 none
 else
 none
 else
 bif decide (0 ≤ t6 ∧ t6 < 4) then
 bif decide (0 ≤ t6 ∧ t6 < 4) then
 bif (decide ((List.getD b0 (Int.toNat t6) 0) > (List.getD b1 (Int.toNat t6) 0))) then
 rec (1, (IntKind.wrap .i64 (t6 + 1)), b0, b1)
 else
 rec (t5, (IntKind.wrap .i64 (t6 + 1)), b0, b1)
 else
 none
 else
 none
 else
 none
 else
 none
 else
 some t5
def s0 (K : Nat) (rec : Ty0 → Option (Int)) (x : Ty0) : Option (Int) := s0t K rec x.1 x.2.1 x.2.2.1 x.2.2.2
noncomputable def s0.b : Code := (findLoop 0 c).getD .skip
def s0.h : Hint := { lv := [2, 3, 5, 6] }
def s0.ho : Hint := { lv := [5] }
def s0.shp (x : Ty0) : VS := ⟨[(2, .ptr 0 0), (3, .ptr 1 0), (5, .int .i64 x.1), (6, .int .i64 x.2.1)], [(0, ([.ints .u64 4 x.2.2.1], 24, .norm)), (1, ([.ints .u64 4 x.2.2.2], 24, .norm))], 2⟩
def s0.inX : VS → Option (Ty0)
 | ⟨[(2, .ptr 0 0), (3, .ptr 1 0), (5, .int .i64 t5), (6, .int .i64 t6)], [(0, ([.ints .u64 4 b0], 24, .norm)), (1, ([.ints .u64 4 b1], 24, .norm))], 2⟩ => some (t5, t6, b0, b1)
 | _ => none
def s0.o0 (y : Int) : VS := ⟨[(5, .int .i64 y)], [], 0⟩
def s0.des : ∀ α : Type, Int → (Ex → VS → Option α) → Option α := (des1 (.exit 0) s0.o0)
def s0.out : Int → Ex × VS := (fun y => (.exit 0, s0.o0 y))
theorem s0.desOK : ∀ α y (k : Ex → VS → Option α), s0.des α y k = k (s0.out y).1 (s0.out y).2 := (fun _ _ _ => rfl)
def s0.inY : Ex → VS → Option (Int)
 | .exit 0, ⟨[(5, .int .i64 t5)], [], 0⟩ => some t5
 | _, _ => none
def lp (K : Nat) : Nat → Option (Hint × Summ) := tabLp [(0, s0.h, summOf (iter (s0 K) K) s0.inX s0.des)]
noncomputable def tab (_K : Nat) : List (Nat × Entry) := []
theorem tabOK (K : Nat) : SpecOK Tryz.prog (tabSp (tab K)) := tab_ok ( tab_nil)
theorem s0.eq (K : Nat) (rec : Ty0 → Option (Int)) (x : Ty0) : s0 K rec x = roundL (getA tys) (tabSp (tab K)) 26 0 (lp K) 400 s0.b s0.h s0.ho s0.shp s0.inX s0.inY rec x := by kernel_rfl
theorem s0.lok (K : Nat) : LoopsOK Tryz.prog 26 0 (lp K) s0.b := loops_ok (by
  have h : loopsIn (lp K) s0.b = [] := by kernel_rfl
  rw [h]; simp)
theorem s0.ok (K : Nat) : SummOK Tryz.prog 26 0 (summOf (iter (s0 K) K) s0.inX s0.des) s0.b :=
  loop_ok mix tys_ok (tabOK K) (h := s0.h) (ho := s0.ho) (shp := s0.shp) (inX := s0.inX) (des := s0.des) (out := s0.out) (inY := s0.inY) (fuel := 400)
    (by intro st x h; unfold s0.inX at h; split at h <;> simp at h; subst h; rfl)
    (by intro e st y h; unfold s0.inY at h; split at h <;> simp at h <;> subst h <;> rfl)
    s0.desOK (s0.lok K) (s0 K) (s0.eq K) K
theorem loops (K : Nat) : LoopsOK Tryz.prog 26 0 (lp K) c := loops_ok (by
  have h : loopsIn (lp K) c = [(0, s0.b)] := by kernel_rfl
  rw [h]
  intro p hp
  simp only [List.mem_cons, List.not_mem_nil, or_false] at hp
  rcases hp with rfl
  · exact ⟨_, rfl, (s0.ok K)⟩)
def T (K : Nat) (a0 : List Int) (a1 : List Int) : Option (Int) :=
 (iter (s0 K) K (0, 0, a0, a1)).bind fun y21 =>
 some y21
def F (K : Nat) (x : Ty1) : Option (Int) := T K x.1 x.2
def av (x : Ty1) : List VV := [.agg [.ints .u64 4 x.1], .agg [.ints .u64 4 x.2]]
def bl (_x : Ty1) : List (Nat × Blk) := []
def inA : VS → Option (Ty1)
 | ⟨[(0, .agg [.ints .u64 4 a0]), (1, .agg [.ints .u64 4 a1])], [], 0⟩ => some (a0, a1)
 | _ => none
def o0 (y : Int) : VS := ⟨[(0, .int .i64 y)], [], 0⟩
def des : ∀ α : Type, Int → (VS → Option α) → Option α := (dv1 o0)
def out : Int → VS := o0
def inR : VS → Option (Int)
 | ⟨[(0, .int .i64 y)], [], 0⟩ => some y
 | _ => none
noncomputable def E (K : Nat) : Entry := genE 0 inA (F K) des
theorem eq (K : Nat) (x : Ty1) : F K x = xrun (getA tys) (tabSp (tab K)) Tryz.f29.ntmps 0 (lp K) 400 c ⟨initL 0 (av x), bl x, 0⟩ (contF (getA tys) 0 Tryz.f29.results.toList inR) := by kernel_rfl
theorem ok (K : Nat) : EntryOK Tryz.prog 29 (E K) :=
  gen_ok mix tys_ok (tabOK K) Tryz.func29 (by kernel_rfl : Tryz.f29.body = some c) (by kernel_rfl) (loops K) (av := av) (bl := bl) (out := out) (fuel := 400)
    (by intro s x h; unfold inA at h; split at h <;> simp at h; subst h; rfl) (fun _ => Nat.le_of_ble_eq_true rfl)
    (by intro s y h; unfold inR at h; split at h <;> simp at h <;> subst h <;> rfl) (fun _ _ _ => rfl) (eq K)
end f29
end Go.Proofs

namespace Go.Proofs
open Go.VM
theorem cmp_word (A B p q : Nat) (hp : 0 < p) : cmp (A % (p * q)) (B % (p * q)) = if A / p % q < B / p % q then -1 else if B / p % q < A / p % q then 1 else cmp (A % p) (B % p) := by
  rw [Nat.mod_mul, Nat.mod_mul]
  have h1 := Nat.mod_lt A hp
  have h2 := Nat.mod_lt B hp
  generalize A % p = x at *
  generalize B % p = y at *
  generalize A / p % q = a
  generalize B / p % q = b
  unfold cmp
  rcases Nat.lt_trichotomy a b with h | h | h
  · have h3 : p * (a + 1) ≤ p * b := Nat.mul_le_mul_left _ h
    rw [Nat.mul_add, Nat.mul_one] at h3
    rw [if_pos h, if_neg (by omega), if_pos (by omega)]
  · subst h
    rw [if_neg (Nat.lt_irrefl a), if_neg (Nat.lt_irrefl a)]
    by_cases e : x = y
    · rw [if_pos (by omega), if_pos e]
    · rw [if_neg (by omega), if_neg e]
      by_cases l : x < y
      · rw [if_pos (by omega), if_pos l]
      · rw [if_neg (by omega), if_neg l]
  · have h3 : p * (b + 1) ≤ p * a := Nat.mul_le_mul_left _ h
    rw [Nat.mul_add, Nat.mul_one] at h3
    rw [if_neg (by omega), if_pos h, if_neg (by omega), if_neg (by omega)]
theorem f29.round (K A B i : Nat) (hi : i < 4) (rec : _ → _) : f29.s0 K rec (cmp (A % 2 ^ (64 * i)) (B % 2 ^ (64 * i)), i, num A, num B) = rec (cmp (A % 2 ^ (64 * (i + 1))) (B % 2 ^ (64 * (i + 1))), ((i + 1 : Nat) : Int), num A, num B) := by
  simp only [f29.s0, f29.s0t]
  have h1 : decide ((i : Int) < 4) = true := decide_eq_true (by omega)
  have h2 : decide ((0 : Int) ≤ (i : Int) ∧ (i : Int) < 4) = true := inR_nat (n := 4) hi
  have w1 : IntKind.wrap .i64 ((i : Int) + 1) = ((i + 1 : Nat) : Int) := by rw [wrap_i _ (by omega) (by omega)]; omega
  rw [h1, h2, w1]
  simp only [cond_true, Int.toNat_natCast, getD_words hi]
  rw [show 64 * (i + 1) = 64 * i + 64 from Nat.mul_succ _ _, Nat.pow_add, cmp_word A B _ _ (Nat.two_pow_pos _)]
  generalize cmp (A % 2 ^ (64 * i)) (B % 2 ^ (64 * i)) = z
  generalize A / 2 ^ (64 * i) % 2 ^ 64 = a
  generalize B / 2 ^ (64 * i) % 2 ^ 64 = b
  rcases Nat.lt_trichotomy a b with h | h | h
  · rw [decide_eq_true (show (a : Int) < (b : Int) by omega), decide_eq_false (show ¬ (a : Int) > (b : Int) by omega), if_pos h]
    rfl
  · subst h
    rw [decide_eq_false (show ¬ (a : Int) < (a : Int) by omega), if_neg (Nat.lt_irrefl a), if_neg (Nat.lt_irrefl a)]
    rfl
  · rw [decide_eq_false (show ¬ (a : Int) < (b : Int) by omega), decide_eq_true (show (a : Int) > (b : Int) by omega), if_neg (by omega), if_pos h]
    rfl
theorem f29.spec (K A B : Nat) (hA : A < 2 ^ 256) (hB : B < 2 ^ 256) (hK : 4 < K) : f29.F K (num A, num B) = some (cmp A B) := by
  have key := iter_for (stp := f29.s0 K) (N := 4) (fun i => (cmp (A % 2 ^ (64 * i)) (B % 2 ^ (64 * i)), (i : Int), num A, num B)) (y := some (cmp A B)) (fun i hi rec => f29.round K A B i hi rec) (fun rec => by
      simp only [f29.s0, f29.s0t]
      rw [show (64 * 4 : Nat) = 256 from rfl, mod_self_of hA, mod_self_of hB]
      rfl) hK
  have e0 : cmp (A % 2 ^ (64 * 0)) (B % 2 ^ (64 * 0)) = 0 := by simp [Nat.mod_one, cmp]
  rw [e0] at key
  have key' : iter (f29.s0 K) K (0, 0, num A, num B) = some (cmp A B) := key
  simp only [f29.F, f29.T, key', bind_s]
end Go.Proofs

namespace Go.Proofs
open Go.VM
namespace f71
abbrev Ty0 := Int × List Int × List Int × List Int × List Int × List Int × List Int
abbrev Ty1 := List Int × List Int × List Int × List Int
abbrev Ty2 := List Int × List Int
noncomputable def c : Code := bodyOf Tryz.f71
def s0t (K : Nat) (rec : Ty0 → Option (Ty1)) (t8 : Int) (b0 : List Int) (b1 : List Int) (b2 : List Int) (b3 : List Int) (b4 : List Int) (b5 : List Int) : Option (Ty1) :=
 bif (decide (t8 ≥ 0)) then
 (f46.F K (b4, b4)).bind fun y2 =>
 (f46.F K (b5, b5)).bind fun y3 =>
 (f53.F K y2.2).bind fun y4 =>
 (f46.F K (y3.1, y4)).bind fun y5 =>
 (f56.F K (b1, t8)).bind fun y6 =>
 bif (y6 == 1) then
 (f46.F K (y2.1, b0)).bind fun y7 =>
 (f53.F K y7.2).bind fun y8 =>
 (f46.F K (y5.1, y8)).bind fun y9 =>
 rec ((IntKind.wrap .i64 (t8 - 1)), b0, b1, b2, b3, y7.1, y9.1)
 else
 rec ((IntKind.wrap .i64 (t8 - 1)), b0, b1, b2, b3, y2.1, y5.1)
 else
 some (b2, b3, b4, b5)
def s0 (K : Nat) (rec : Ty0 → Option (Ty1)) (x : Ty0) : Option (Ty1) := s0t K rec x.1 x.2.1 x.2.2.1 x.2.2.2.1 x.2.2.2.2.1 x.2.2.2.2.2.1 x.2.2.2.2.2.2
noncomputable def s0.b : Code := (findLoop 0 c).getD .skip
def s0.h : Hint := { lv := [2, 3, 4, 5, 6, 7, 8] }
def s0.ho : Hint := { lv := [4, 5, 6, 7] }
def s0.shp (x : Ty0) : VS := ⟨[(2, .ptr 0 0), (3, .ptr 1 0), (4, .ptr 2 0), (5, .ptr 3 0), (6, .ptr 4 0), (7, .ptr 5 0), (8, .int .i64 x.1)], [(0, ([.ints .u64 4 x.2.1], 24, .norm)), (1, ([.ints .u64 4 x.2.2.1], 24, .norm)), (2, ([.ints .u64 4 x.2.2.2.1], 24, .norm)), (3, ([.ints .u64 4 x.2.2.2.2.1], 24, .norm)), (4, ([.ints .u64 4 x.2.2.2.2.2.1], 24, .norm)), (5, ([.ints .u64 4 x.2.2.2.2.2.2], 24, .norm))], 6⟩
def s0.inX : VS → Option (Ty0)
 | ⟨[(2, .ptr 0 0), (3, .ptr 1 0), (4, .ptr 2 0), (5, .ptr 3 0), (6, .ptr 4 0), (7, .ptr 5 0), (8, .int .i64 t8)], [(0, ([.ints .u64 4 b0], 24, .norm)), (1, ([.ints .u64 4 b1], 24, .norm)), (2, ([.ints .u64 4 b2], 24, .norm)), (3, ([.ints .u64 4 b3], 24, .norm)), (4, ([.ints .u64 4 b4], 24, .norm)), (5, ([.ints .u64 4 b5], 24, .norm))], 6⟩ => some (t8, b0, b1, b2, b3, b4, b5)
 | _ => none
def s0.o0 (y : Ty1) : VS := ⟨[(4, .ptr 0 0), (5, .ptr 1 0), (6, .ptr 2 0), (7, .ptr 3 0)], [(0, ([.ints .u64 4 y.1], 24, .norm)), (1, ([.ints .u64 4 y.2.1], 24, .norm)), (2, ([.ints .u64 4 y.2.2.1], 24, .norm)), (3, ([.ints .u64 4 y.2.2.2], 24, .norm))], 4⟩
def s0.des : ∀ α : Type, (Ty1) → (Ex → VS → Option α) → Option α := (des1 (.exit 0) s0.o0)
def s0.out : Ty1 → Ex × VS := (fun y => (.exit 0, s0.o0 y))
theorem s0.desOK : ∀ α y (k : Ex → VS → Option α), s0.des α y k = k (s0.out y).1 (s0.out y).2 := (fun _ _ _ => rfl)
def s0.inY : Ex → VS → Option (Ty1)
 | .exit 0, ⟨[(4, .ptr 0 0), (5, .ptr 1 0), (6, .ptr 2 0), (7, .ptr 3 0)], [(0, ([.ints .u64 4 b0], 24, .norm)), (1, ([.ints .u64 4 b1], 24, .norm)), (2, ([.ints .u64 4 b2], 24, .norm)), (3, ([.ints .u64 4 b3], 24, .norm))], 4⟩ => some (b0, b1, b2, b3)
 | _, _ => none
def lp (K : Nat) : Nat → Option (Hint × Summ) := tabLp [(0, s0.h, summOf (iter (s0 K) K) s0.inX s0.des)]
noncomputable def tab (K : Nat) : List (Nat × Entry) := [(46, (f46.E K)), (53, (f53.E K)), (56, (f56.E K))]
theorem tabOK (K : Nat) : SpecOK Tryz.prog (tabSp (tab K)) := tab_ok ((tab_cons (f46.ok K) (tab_cons (f53.ok K) (tab_cons (f56.ok K) tab_nil))))
theorem s0.eq (K : Nat) (rec : Ty0 → Option (Ty1)) (x : Ty0) : s0 K rec x = roundL (getA tys) (tabSp (tab K)) 52 0 (lp K) 400 s0.b s0.h s0.ho s0.shp s0.inX s0.inY rec x := by kernel_rfl
theorem s0.lok (K : Nat) : LoopsOK Tryz.prog 52 0 (lp K) s0.b := loops_ok (by
  have h : loopsIn (lp K) s0.b = [] := by kernel_rfl
  rw [h]; simp)
theorem s0.ok (K : Nat) : SummOK Tryz.prog 52 0 (summOf (iter (s0 K) K) s0.inX s0.des) s0.b :=
  loop_ok mix tys_ok (tabOK K) (h := s0.h) (ho := s0.ho) (shp := s0.shp) (inX := s0.inX) (des := s0.des) (out := s0.out) (inY := s0.inY) (fuel := 400)
    (by intro st x h; unfold s0.inX at h; split at h <;> simp at h; subst h; rfl)
    (by intro e st y h; unfold s0.inY at h; split at h <;> simp at h <;> subst h <;> rfl)
    s0.desOK (s0.lok K) (s0 K) (s0.eq K) K
theorem loops (K : Nat) : LoopsOK Tryz.prog 52 0 (lp K) c := loops_ok (by
  have h : loopsIn (lp K) c = [(0, s0.b)] := by kernel_rfl
  rw [h]
  intro p hp
  simp only [List.mem_cons, List.not_mem_nil, or_false] at hp
  rcases hp with rfl
  · exact ⟨_, rfl, (s0.ok K)⟩)
def T (K : Nat) (a0 : List Int) (a1 : List Int) : Option (Ty2) :=
 (iter (s0 K) K (255, a0, a1, [0, 0, 0, 0], [0, 0, 0, 0], [0, 0, 0, 0], [0, 0, 0, 0])).bind fun y12 =>
 some (y12.2.2.1, y12.2.2.2)
def F (K : Nat) (x : Ty2) : Option (Ty2) := T K x.1 x.2
def av (x : Ty2) : List VV := [.agg [.ints .u64 4 x.1], .agg [.ints .u64 4 x.2]]
def bl (_x : Ty2) : List (Nat × Blk) := []
def inA : VS → Option (Ty2)
 | ⟨[(0, .agg [.ints .u64 4 a0]), (1, .agg [.ints .u64 4 a1])], [], 0⟩ => some (a0, a1)
 | _ => none
def o0 (y : Ty2) : VS := ⟨[(0, .tup [.agg [.ints .u64 4 y.1], .agg [.ints .u64 4 y.2]])], [], 0⟩
def des : ∀ α : Type, (Ty2) → (VS → Option α) → Option α := (dv1 o0)
def out : Ty2 → VS := o0
def inR : VS → Option (Ty2)
 | ⟨[(0, .tup [.agg [.ints .u64 4 y_0], .agg [.ints .u64 4 y_1]])], [], 0⟩ => some (y_0, y_1)
 | _ => none
noncomputable def E (K : Nat) : Entry := genE 0 inA (F K) des
theorem eq (K : Nat) (x : Ty2) : F K x = xrun (getA tys) (tabSp (tab K)) Tryz.f71.ntmps 0 (lp K) 400 c ⟨initL 0 (av x), bl x, 0⟩ (contF (getA tys) 0 Tryz.f71.results.toList inR) := by kernel_rfl
theorem ok (K : Nat) : EntryOK Tryz.prog 71 (E K) :=
  gen_ok mix tys_ok (tabOK K) Tryz.func71 (by kernel_rfl : Tryz.f71.body = some c) (by kernel_rfl) (loops K) (av := av) (bl := bl) (out := out) (fuel := 400)
    (by intro s x h; unfold inA at h; split at h <;> simp at h; subst h; rfl) (fun _ => Nat.le_of_ble_eq_true rfl)
    (by intro s y h; unfold inR at h; split at h <;> simp at h <;> subst h <;> rfl) (fun _ _ _ => rfl) (eq K)
end f71
end Go.Proofs

namespace Go.Proofs
open Go.VM
theorem f56.all (A i : Nat) (hA : A < 2 ^ 256) : f56.F 100000 (num A, (i : Int)) = some ((A / 2 ^ i % 2 : Nat) : Int) := f56.spec 100000 A i hA
theorem f71.round (A B j : Nat) (hA : A < 2 ^ 256) (hB : B < 2 ^ 256) (hj : j < 256) (rec : _ → _) (z z' : List Int) :
    f71.s0 100000 rec ((255 : Int) - (j : Int), num A, num B, z, z', num (A * (B / 2 ^ (256 - j))), num (A * (B / 2 ^ (256 - j)) / 2 ^ 256)) =
      rec ((255 : Int) - ((j + 1 : Nat) : Int), num A, num B, z, z', num (A * (B / 2 ^ (256 - (j + 1)))), num (A * (B / 2 ^ (256 - (j + 1))) / 2 ^ 256)) := by
  simp only [f71.s0, f71.s0t]
  have h1 : decide ((255 : Int) - (j : Int) ≥ 0) = true := decide_eq_true (by omega)
  have w1 : IntKind.wrap .i64 ((255 : Int) - (j : Int) - 1) = (255 : Int) - ((j + 1 : Nat) : Int) := by rw [wrap_i _ (by omega) (by omega)]; omega
  have e1 : (255 : Int) - (j : Int) = ((256 - (j + 1) : Nat) : Int) := by omega
  have hb : B / 2 ^ (256 - (j + 1)) = B / 2 ^ (256 - j) * 2 + B / 2 ^ (256 - (j + 1)) % 2 := by
    have h2 : 256 - j = 256 - (j + 1) + 1 := by omega
    rw [h2, Nat.pow_succ, ← Nat.div_div_eq_div_mul]
    generalize B / 2 ^ (256 - (j + 1)) = q
    omega
  rw [h1, w1, cond_t]
  generalize hV : A * (B / 2 ^ (256 - j)) = V at *
  have c1 : ∀ S T : Nat, (S % 2 ^ 256 + T % 2 ^ 256) / 2 ^ 256 < 18446744073709551616 := fun S T => Nat.lt_of_le_of_lt (carry_one S T) (by decide)
  rw [f46.all, bind_s, f46.all, bind_s, f53.spec _ _ (c1 _ _), bind_s, f46.all, bind_s, e1, f56.all _ _ hB, bind_s]
  have d1 : V / 2 ^ 256 + V / 2 ^ 256 + (V % 2 ^ 256 + V % 2 ^ 256) / 2 ^ 256 = (V + V) / 2 ^ 256 := by rw [carry_sum V V]; omega
  rw [d1]
  rcases Nat.mod_two_eq_zero_or_one (B / 2 ^ (256 - (j + 1))) with h | h
  · have e2 : A * (B / 2 ^ (256 - (j + 1))) = V + V := by rw [hb, h, Nat.add_zero, ← Nat.mul_assoc, hV]; omega
    rw [h, e2, show (((0 : Nat) : Int) == 1) = false from rfl, cond_f]
  · have e2 : A * (B / 2 ^ (256 - (j + 1))) = V + V + A := by rw [hb, h, Nat.mul_add, ← Nat.mul_assoc, hV, Nat.mul_one]; omega
    rw [h, e2, show (((1 : Nat) : Int) == 1) = true from rfl, cond_t, f46.all, bind_s, f53.spec _ _ (c1 _ _), bind_s, f46.all, bind_s]
    have d2 : (V + V) / 2 ^ 256 + ((V + V) % 2 ^ 256 + A % 2 ^ 256) / 2 ^ 256 = (V + V + A) / 2 ^ 256 := by
      rw [carry_sum (V + V) A, Nat.div_eq_of_lt hA, Nat.add_zero]
    rw [d2]
theorem f71.spec (A B : Nat) (hA : A < 2 ^ 256) (hB : B < 2 ^ 256) : f71.F 100000 (num A, num B) = some (num (A * B), num (A * B / 2 ^ 256)) := by
  have key := iter_for (stp := f71.s0 100000) (N := 256) (fun j => ((255 : Int) - (j : Int), num A, num B, ([0, 0, 0, 0] : List Int), ([0, 0, 0, 0] : List Int), num (A * (B / 2 ^ (256 - j))), num (A * (B / 2 ^ (256 - j)) / 2 ^ 256)))
    (y := some (([0, 0, 0, 0] : List Int), ([0, 0, 0, 0] : List Int), num (A * B), num (A * B / 2 ^ 256))) (fun j hj rec => f71.round A B j hA hB hj rec _ _) (fun rec => by
      simp only [f71.s0, f71.s0t]
      rw [decide_eq_false (show ¬ ((255 : Int) - ((256 : Nat) : Int) ≥ 0) by omega), cond_f, Nat.sub_self, Nat.pow_zero, Nat.div_one]) (show 256 < 100000 by decide)
  have e0 : A * (B / 2 ^ (256 - 0)) = 0 := by rw [Nat.sub_zero, Nat.div_eq_of_lt hB, Nat.mul_zero]
  simp only [e0, Nat.zero_div] at key
  have key' : iter (f71.s0 100000) 100000 (255, num A, num B, [0, 0, 0, 0], [0, 0, 0, 0], [0, 0, 0, 0], [0, 0, 0, 0]) = some (([0, 0, 0, 0] : List Int), ([0, 0, 0, 0] : List Int), num (A * B), num (A * B / 2 ^ 256)) := key
  simp only [f71.F, f71.T, key', bind_s]
end Go.Proofs

namespace Go.Proofs
open Go.VM
end Go.Proofs

namespace Go.Proofs
open Go.VM
namespace f67
abbrev Ty0 := Nat × Nat × List Int × Nat × List Int × Nat × List Int
abbrev Ty1 := Nat × Nat × Nat × List Int × Nat × List Int
def T (_K : Nat) (a0 : Nat) (a1 : Nat) (m0_0 : Nat) (m0_1 : List Int) (m2_0 : Nat) (m2_1 : List Int) : Option (Ty0) :=
 bif (Nat.ble (0 + a0) m0_0 && (fitB (a0 * 1))) then
 bif ((Nat.ble (0 + a1) m2_0 && (Nat.ble a0 a0)) && (fitB ((a0 + a1) * 1))) then
 some ((a0 + a1), m0_0, m0_1, m2_0, m2_1, (a0 + a1), ((padT (subI m0_1 0 a0) a0) ++ (padT (subI m2_1 0 a1) a1)))
 else
 none
 else
 none
def F (K : Nat) (x : Ty1) : Option (Ty0) := T K x.1 x.2.1 x.2.2.1 x.2.2.2.1 x.2.2.2.2.1 x.2.2.2.2.2
def av (x : Ty1) : List VV := [.vw true 0 0 x.1 1, .vw true 2 0 x.2.1 3]
def bl (x : Ty1) : List (Nat × Blk) := [(0, ([.ints .u8 x.2.2.1 x.2.2.2.1], 0, .ro)), (2, ([.ints .u8 x.2.2.2.2.1 x.2.2.2.2.2], 0, .ro))]
def inA : VS → Option (Ty1)
 | ⟨[(0, .vw true 0 0 a0 1), (1, .vw true 2 0 a1 3)], [(0, ([.ints .u8 m0_0 m0_1], 0, .ro)), (2, ([.ints .u8 m2_0 m2_1], 0, .ro))], 4⟩ => some (a0, a1, m0_0, m0_1, m2_0, m2_1)
 | _ => none
def o0 (y : Ty0) : VS := ⟨[(0, .vec 4 0 y.1 5)], [(0, ([.ints .u8 y.2.1 y.2.2.1], 0, .ro)), (2, ([.ints .u8 y.2.2.2.1 y.2.2.2.2.1], 0, .ro)), (4, ([.ints .u8 y.2.2.2.2.2.1 y.2.2.2.2.2.2], 5, .vec 5))], 6⟩
def inR : VS → Option (Ty0)
 | ⟨[(0, .vec 4 0 y 5)], [(0, ([.ints .u8 z0_0 z0_1], 0, .ro)), (2, ([.ints .u8 z2_0 z2_1], 0, .ro)), (4, ([.ints .u8 z4_0 z4_1], 5, .vec 5))], 6⟩ => some (y, z0_0, z0_1, z2_0, z2_1, z4_0, z4_1)
 | _ => none
noncomputable def E (K : Nat) : Entry := genE 4 inA (F K) (dv1 o0)
theorem ok (K : Nat) : EntryOK Tryz.prog 67 (E K) := gen_ok mix tys_ok (tab_ok ( tab_nil)) Tryz.func67 (c := bodyOf Tryz.f67) (by kernel_rfl) (by kernel_rfl) (loops_none (lp := lpNone) (by kernel_rfl)) (av := av) (bl := bl) (inR := inR) (out := o0) (fuel := 400)
  (by intro s x h; unfold inA at h; split at h <;> simp at h; subst h; rfl) (fun _ => Nat.le_of_ble_eq_true rfl)
  (by intro s y h; unfold inR at h; split at h <;> simp at h <;> subst h <;> rfl) (fun _ _ _ => rfl) (fun _ => by kernel_rfl)
end f67
end Go.Proofs

namespace Go.Proofs
open Go.VM
namespace f68
abbrev Ty0 := Nat × Nat × List Int
noncomputable def c : Code := bodyOf Tryz.f68
def T (_K : Nat) (rec : Int × Int → Option (Unit ⊕ (Ty0))) (a0 : Int) (a1 : Int) : Option (Unit ⊕ (Ty0)) :=
 bif (decide (a1 < 1)) then
 some (.inl ())
 else
 (rec ((IntKind.wrap .u64 (Int.tdiv a0 256)), (IntKind.wrap .i64 (a1 - 1)))).bind fun y4 =>
 alt (fun y5 =>
 some (.inr (1, 1, [(IntKind.wrap .u8 (Int.tmod a0 256))]))) (fun y6 =>
 bif (Nat.ble y6.1 y6.2.1 && (fitB ((y6.1 + 1) * 1))) then
 some (.inr ((y6.1 + 1), (y6.1 + 1), ((padT y6.2.2 y6.1) ++ [(IntKind.wrap .u8 (Int.tmod a0 256))])))
 else
 none) y4
def R (K : Nat) (rec : Int × Int → Option (Unit ⊕ (Ty0))) (x : Int × Int) : Option (Unit ⊕ (Ty0)) := T K rec x.1 x.2
def F : Nat → (Int × Int) → Option (Unit ⊕ (Ty0)) := recF R
def av (x : Int × Int) : List VV := [.int .u64 x.1, .int .i64 x.2]
def bl (_x : Int × Int) : List (Nat × Blk) := []
def inA : VS → Option (Int × Int)
 | ⟨[(0, .int .u64 a0), (1, .int .i64 a1)], [], 0⟩ => some (a0, a1)
 | _ => none
def o0 (_y : Unit) : VS := ⟨[(0, .raw (.slice none 0 0))], [], 0⟩
def o1 (y : Ty0) : VS := ⟨[(0, .vec 0 0 y.1 1)], [(0, ([.ints .u8 y.2.1 y.2.2], 5, .vec 1))], 2⟩
def des : ∀ α : Type, (Unit ⊕ (Ty0)) → (VS → Option α) → Option α := (dvA (dv1 o0) (dv1 o1))
def out : Unit ⊕ (Ty0) → VS := (alt o0 o1)
def inR : VS → Option (Unit ⊕ (Ty0))
 | ⟨[(0, .raw (.slice none 0 0))], [], 0⟩ => some (.inl ())
 | ⟨[(0, .vec 0 0 y 1)], [(0, ([.ints .u8 z0_0 z0_1], 5, .vec 1))], 2⟩ => some (.inr (y, z0_0, z0_1))
 | _ => none
noncomputable def E (K : Nat) : Entry := genE 0 inA (F K) des
noncomputable def tab (K : Nat) : List (Nat × Entry) := [(68, (E K))]
theorem tabOK (K : Nat) (h : EntryOK Tryz.prog 68 (E K)) : SpecOK Tryz.prog (tabSp (tab K)) := tab_ok ((tab_cons h tab_nil))
theorem loops (K : Nat) : LoopsOK Tryz.prog 17 0 lpNone c := loops_ok (by
  have h : loopsIn lpNone c = [] := by kernel_rfl
  rw [h]; simp)
theorem eq (K : Nat) (x : Int × Int) : F (K + 1) x = xrun (getA tys) (tabSp (tab K)) Tryz.f68.ntmps 0 lpNone 400 c ⟨initL 0 (av x), bl x, 0⟩ (contF (getA tys) 0 Tryz.f68.results.toList inR) := by kernel_rfl
theorem ok : ∀ K : Nat, EntryOK Tryz.prog 68 (E K)
  | 0 => gen_none (fun _ => rfl)
  | K + 1 =>
  gen_ok mix tys_ok (tabOK K (ok K)) Tryz.func68 (by kernel_rfl : Tryz.f68.body = some c) (by kernel_rfl) (loops K) (av := av) (bl := bl) (out := out) (fuel := 400)
    (by intro s x h; unfold inA at h; split at h <;> simp at h; subst h; rfl) (fun _ => Nat.le_of_ble_eq_true rfl)
    (by intro s y h; unfold inR at h; split at h <;> simp at h <;> subst h <;> rfl) (dvA_ok (fun _ _ _ => rfl) (fun _ _ _ => rfl)) (eq K)
end f68
end Go.Proofs

namespace Go.Proofs
open Go.VM
namespace f93
abbrev Ty0 := Nat × Nat × List Int
abbrev Ty1 := Int × Nat × List Int
noncomputable def c : Code := bodyOf Tryz.f93
def T (_K : Nat) (rec : Ty0 → Option (Ty1)) (a0 : Nat) (m0_0 : Nat) (m0_1 : List Int) : Option (Ty1) :=
 bif (((a0 : Nat) : Int) == 0) then
 some (0, m0_0, m0_1)
 else
 let v3 := IntKind.wrap .i64 (((a0 : Nat) : Int) - 1)
 bif (decide (0 ≤ v3 ∧ v3 ≤ ((a0 : Nat) : Int)) && true) then
 let v4 := Int.toNat v3
 bif ((Nat.ble (0 + v4) m0_0 && true) && true) then
 (rec (v4, v4, (subI m0_1 0 v4))).bind fun y5 =>
 bif decide (0 ≤ v3 ∧ v3 < ((a0 : Nat) : Int)) then
 let v7 := 0 + (Int.toNat v3)
 bif Nat.blt v7 m0_0 then
 some ((IntKind.wrap .u64 ((IntKind.wrap .u64 (256 * y5.1)) + (IntKind.wrap .u64 (List.getD m0_1 v7 0)))), m0_0, m0_1)
 else
 none
 else
 none
 else
 none
 else
 none
def R (K : Nat) (rec : Ty0 → Option (Ty1)) (x : Ty0) : Option (Ty1) := T K rec x.1 x.2.1 x.2.2
def F : Nat → (Ty0) → Option (Ty1) := recF R
def av (x : Ty0) : List VV := [.vw true 0 0 x.1 1]
def bl (x : Ty0) : List (Nat × Blk) := [(0, ([.ints .u8 x.2.1 x.2.2], 0, .ro))]
def inA : VS → Option (Ty0)
 | ⟨[(0, .vw true 0 0 a0 1)], [(0, ([.ints .u8 m0_0 m0_1], 0, .ro))], 2⟩ => some (a0, m0_0, m0_1)
 | _ => none
def o0 (y : Ty1) : VS := ⟨[(0, .int .u64 y.1)], [(0, ([.ints .u8 y.2.1 y.2.2], 0, .ro))], 2⟩
def des : ∀ α : Type, (Ty1) → (VS → Option α) → Option α := (dv1 o0)
def out : Ty1 → VS := o0
def inR : VS → Option (Ty1)
 | ⟨[(0, .int .u64 y)], [(0, ([.ints .u8 z0_0 z0_1], 0, .ro))], 2⟩ => some (y, z0_0, z0_1)
 | _ => none
noncomputable def E (K : Nat) : Entry := genE 2 inA (F K) des
noncomputable def tab (K : Nat) : List (Nat × Entry) := [(93, (viewE [(0, .u8)] (E K)))]
theorem tabOK (K : Nat) (h : EntryOK Tryz.prog 93 (E K)) : SpecOK Tryz.prog (tabSp (tab K)) := tab_ok ((tab_cons (view_ok h) tab_nil))
theorem loops (K : Nat) : LoopsOK Tryz.prog 21 2 lpNone c := loops_ok (by
  have h : loopsIn lpNone c = [] := by kernel_rfl
  rw [h]; simp)
theorem eq (K : Nat) (x : Ty0) : F (K + 1) x = xrun (getA tys) (tabSp (tab K)) Tryz.f93.ntmps 2 lpNone 400 c ⟨initL 0 (av x), bl x, 2⟩ (contF (getA tys) 2 Tryz.f93.results.toList inR) := by kernel_rfl
theorem ok : ∀ K : Nat, EntryOK Tryz.prog 93 (E K)
  | 0 => gen_none (fun _ => rfl)
  | K + 1 =>
  gen_ok mix tys_ok (tabOK K (ok K)) Tryz.func93 (by kernel_rfl : Tryz.f93.body = some c) (by kernel_rfl) (loops K) (av := av) (bl := bl) (out := out) (fuel := 400)
    (by intro s x h; unfold inA at h; split at h <;> simp at h; subst h; rfl) (fun _ => Nat.le_of_ble_eq_true rfl)
    (by intro s y h; unfold inR at h; split at h <;> simp at h <;> subst h <;> rfl) (fun _ _ _ => rfl) (eq K)
end f93
end Go.Proofs

namespace Go.Proofs
open Go.VM
def be : Nat → Nat → List Int
  | 0, _ => []
  | n + 1, x => be n (x / 256) ++ [((x % 256 : Nat) : Int)]
theorem be_length : ∀ n x : Nat, (be n x).length = n
  | 0, _ => rfl
  | n + 1, x => by rw [be, List.length_append, be_length n]; rfl
def octets (l : List Int) : Prop := ∀ x ∈ l, 0 ≤ x ∧ x < 256
theorem be_octets : ∀ n x : Nat, octets (be n x)
  | 0, _ => fun _ h => by cases h
  | n + 1, x => fun y h => by
    rw [be, List.mem_append] at h
    rcases h with h | h
    · exact be_octets n _ y h
    · simp only [List.mem_singleton] at h
      subst h
      omega
def tv (l : List Int) : Nat := l.foldl (fun a x => 256 * a + x.toNat) 0
theorem tv_snoc (l : List Int) (x : Int) : tv (l ++ [x]) = 256 * tv l + x.toNat := by simp [tv]
theorem tv_lt : ∀ (n : Nat) (l : List Int), l.length = n → octets l → tv l < 256 ^ n
  | 0, l, h, _ => by
    have : l = [] := List.length_eq_zero_iff.1 h
    subst this; simp [tv]
  | n + 1, l, h, ho => by
    have hne : l ≠ [] := by intro e; subst e; cases h
    rw [← List.dropLast_concat_getLast hne, tv_snoc]
    have h1 := tv_lt n l.dropLast (by simp [h]) (fun x hx => ho x (List.dropLast_subset l hx))
    have h2 := ho _ (List.getLast_mem hne)
    rw [Nat.pow_succ]
    omega
theorem padT_self (l : List Int) {n : Nat} (h : l.length = n) : padT l n = l := by
  subst h
  refine List.ext_getElem? fun i => ?_
  by_cases hi : i < l.length
  · simp [padT, hi]
  · rw [List.getElem?_eq_none (by simpa [padT] using hi), List.getElem?_eq_none (by omega)]
theorem subI_cut (l : List Int) (off m : Nat) (h : off + m ≤ l.length) : subI l off m = (l.drop off).take m := by
  refine List.ext_getElem? fun i => ?_
  rw [List.getElem?_take, List.getElem?_drop]
  by_cases hi : i < m
  · rw [if_pos hi]
    have : off + i < l.length := by omega
    simp [subI, hi, this]
  · rw [if_neg hi, List.getElem?_eq_none (by simpa [subI] using hi)]
theorem subI_self (l : List Int) {n : Nat} (h : l.length = n) : subI l 0 n = l := by
  rw [subI_cut l 0 n (by omega), List.drop_zero, List.take_of_length_le (by omega)]
theorem wrap_b (z : Int) (h0 : 0 ≤ z) (h : z < 256) : IntKind.wrap .u8 z = z := by
  simp [IntKind.wrap, IntKind.signed, IntKind.bits]; omega
theorem fitB_true {x : Nat} (h : x ≤ 140737488355328) : fitB x = true := by simp only [fitB, Nat.ble_eq]; exact h
theorem ble_true {x y : Nat} (h : x ≤ y) : Nat.ble x y = true := by simp only [Nat.ble_eq]; exact h
theorem altl {A B C : Type} (f : A → C) (g : B → C) (a : A) : alt f g (.inl a) = f a := Eq.trans (show alt f g (.inl a) = f a from by unfold alt; rfl) (Eq.symm (Eq.symm rfl))
theorem altr {A B C : Type} (f : A → C) (g : B → C) (b : B) : alt f g (.inr b) = g b := Eq.trans (show alt f g (.inr b) = g b from by unfold alt; rfl) (Eq.symm (Eq.symm rfl))
theorem f68.spec : ∀ (n K x : Nat), x < 18446744073709551616 → n < K → n < 1000000000 → f68.F K ((x : Int), (n : Int)) = some (if n = 0 then .inl () else .inr (n, n, be n x)) := by
  intro n
  induction n with
  | zero =>
    intro K x _ hK _
    obtain ⟨k, rfl⟩ : ∃ k, K = k + 1 := ⟨K - 1, by omega⟩
    rw [f68.F, recF_succ, ← f68.F]
    simp only [f68.R, f68.T]
    rw [decide_eq_true (show ((0 : Nat) : Int) < 1 by decide), cond_t]
    rfl
  | succ n ih =>
    intro K x hx hK hn
    obtain ⟨k, rfl⟩ : ∃ k, K = k + 1 := ⟨K - 1, by omega⟩
    rw [f68.F, recF_succ, ← f68.F]
    simp only [f68.R, f68.T]
    have e1 : IntKind.wrap .u64 (Int.tdiv (x : Int) 256) = ((x / 256 : Nat) : Int) := by
      rw [show (256 : Int) = ((256 : Nat) : Int) from rfl, tdiv_nat, wrap_u _ (by omega) (by omega)]
    have e2 : IntKind.wrap .i64 (((n + 1 : Nat) : Int) - 1) = (n : Int) := by rw [wrap_i _ (by omega) (by omega)]; omega
    have e3 : IntKind.wrap .u8 (Int.tmod (x : Int) 256) = ((x % 256 : Nat) : Int) := by
      rw [show (256 : Int) = ((256 : Nat) : Int) from rfl, tmod_nat, wrap_b _ (by omega) (by omega)]
    rw [decide_eq_false (show ¬ ((n + 1 : Nat) : Int) < 1 by omega), cond_f, e1, e2, ih k (x / 256) (by omega) (by omega) (by omega), bind_s, e3, if_neg (show ¬ n + 1 = 0 by omega)]
    by_cases h0 : n = 0
    · subst h0
      rw [if_pos rfl, altl]; rfl
    · rw [if_neg h0, altr]
      simp only []
      rw [ble_true (Nat.le_refl n), Bool.true_and, fitB_true (by omega), cond_t, padT_self _ (be_length n _)]
      rfl
theorem f93.spec : ∀ (n K : Nat) (l : List Int), l.length = n → octets l → n < K → n ≤ 8 → f93.F K (n, n, l) = some (((tv l : Nat) : Int), n, l) := by
  intro n
  induction n with
  | zero =>
    intro K l hl _ hK _
    have : l = [] := List.length_eq_zero_iff.1 hl
    subst this
    obtain ⟨k, rfl⟩ : ∃ k, K = k + 1 := ⟨K - 1, by omega⟩
    rw [f93.F, recF_succ, ← f93.F]
    simp only [f93.R, f93.T]
    rw [show (((0 : Nat) : Int) == 0) = true from rfl, cond_t]; rfl
  | succ n ih =>
    intro K l hl ho hK hn
    obtain ⟨k, rfl⟩ : ∃ k, K = k + 1 := ⟨K - 1, by omega⟩
    have hne : l ≠ [] := by intro e; subst e; cases hl
    obtain ⟨l', x, rfl⟩ : ∃ l' x, l = l' ++ [x] := ⟨_, _, (List.dropLast_concat_getLast hne).symm⟩
    have hl' : l'.length = n := by simpa using hl
    have hx := ho x (by simp)
    have ho' : octets l' := fun y hy => ho y (by simp [hy])
    have hlt := tv_lt (n + 1) _ hl ho
    have hp : 256 ^ (n + 1) ≤ 18446744073709551616 := Nat.le_trans (Nat.pow_le_pow_right (by decide) (show n + 1 ≤ 8 by omega)) (by decide)
    rw [tv_snoc] at hlt
    rw [f93.F, recF_succ, ← f93.F]
    simp only [f93.R, f93.T]
    have e2 : IntKind.wrap .i64 (((n + 1 : Nat) : Int) - 1) = (n : Int) := by rw [wrap_i _ (by omega) (by omega)]; omega
    have e3 : subI (l' ++ [x]) 0 n = l' := by
      rw [subI_cut _ 0 n (by simp; omega), List.drop_zero, List.take_append_of_le_length (by omega), List.take_of_length_le (by omega)]
    have e4 : List.getD (l' ++ [x]) n 0 = x := by
      rw [List.getD_eq_getElem?_getD, List.getElem?_append_right (by omega), hl', Nat.sub_self]; rfl
    rw [show (((n + 1 : Nat) : Int) == 0) = false from beq_eq_false_iff_ne.2 (by omega), cond_f, e2,
      decide_eq_true (show (0 : Int) ≤ (n : Int) ∧ (n : Int) ≤ ((n + 1 : Nat) : Int) by omega), Bool.true_and, cond_t, Int.toNat_natCast, Nat.zero_add, ble_true (show n ≤ n + 1 by omega), Bool.true_and, Bool.true_and, cond_t,
      e3, ih k l' hl' ho' (by omega) (by omega), bind_s, decide_eq_true (show (0 : Int) ≤ (n : Int) ∧ (n : Int) < ((n + 1 : Nat) : Int) by omega), cond_t,
      show Nat.blt n (n + 1) = true from by simp [Nat.blt_eq], cond_t, e4, tv_snoc]
    simp only []
    have e5 : (256 : Int) * ((tv l' : Nat) : Int) = ((256 * tv l' : Nat) : Int) := by rw [Int.natCast_mul]; rfl
    have i1 : IntKind.wrap .u64 ((256 * tv l' : Nat) : Int) = ((256 * tv l' : Nat) : Int) := wrap_u _ (by omega) (by omega)
    have i2 : IntKind.wrap .u64 x = x := wrap_u _ (by omega) (by omega)
    rw [e5, i1, i2, wrap_u _ (by omega) (by omega)]
    congr 2
    omega
theorem f67.spec (K a b : Nat) (l m : List Int) (hl : l.length = a) (hm : m.length = b) (hf : a + b ≤ 140737488355328) : f67.F K (a, b, a, l, b, m) = some (a + b, a, l, b, m, a + b, l ++ m) := by
  simp only [f67.F, f67.T, Nat.zero_add]
  rw [ble_true (Nat.le_refl a), Bool.true_and, fitB_true (by omega), cond_t, ble_true (Nat.le_refl b), Bool.true_and, Bool.true_and, fitB_true (by omega), cond_t,
    subI_self l hl, subI_self m hm, padT_self l hl, padT_self m hm]
theorem be_mod : ∀ (n x : Nat), be n (x % 256 ^ n) = be n x
  | 0, _ => rfl
  | n + 1, x => by
    rw [be, be]
    have h1 : x % 256 ^ (n + 1) / 256 = x / 256 % 256 ^ n := by rw [Nat.pow_succ', Nat.mod_mul_right_div_self]
    have h2 : x % 256 ^ (n + 1) % 256 = x % 256 := by rw [Nat.pow_succ', Nat.mod_mul_right_mod]
    rw [h1, h2, be_mod n]
theorem be_add (m : Nat) : ∀ (n x : Nat), be (m + n) x = be m (x / 256 ^ n) ++ be n x
  | 0, x => by rw [Nat.pow_zero, Nat.div_one, Nat.add_zero, be, List.append_nil]
  | n + 1, x => by
    rw [← Nat.add_assoc, be, be_add m n, be, Nat.div_div_eq_div_mul, Nat.pow_succ', List.append_assoc]
theorem tv_append (a b : List Int) : tv (a ++ b) = tv a * 256 ^ b.length + tv b := by
  have key : ∀ (b : List Int) (x : Nat), b.foldl (fun a x => 256 * a + x.toNat) x = x * 256 ^ b.length + b.foldl (fun a x => 256 * a + x.toNat) 0 := by
    intro b
    induction b with
    | nil => intro x; simp
    | cons y b ih =>
      intro x
      rw [List.foldl_cons, ih, List.foldl_cons, ih (256 * 0 + y.toNat), List.length_cons, Nat.pow_succ']
      have : (256 * x + y.toNat) * 256 ^ b.length = x * (256 * 256 ^ b.length) + y.toNat * 256 ^ b.length := by
        rw [Nat.add_mul, Nat.mul_comm 256 x, Nat.mul_assoc]
      rw [this, Nat.mul_zero, Nat.zero_add]; omega
  show (a ++ b).foldl _ 0 = _
  rw [List.foldl_append, key]
  rfl
theorem tv_be : ∀ (n x : Nat), tv (be n x) = x % 256 ^ n
  | 0, x => by rw [Nat.pow_zero, Nat.mod_one]; rfl
  | n + 1, x => by
    rw [be, tv_snoc, tv_be n, Int.toNat_natCast, Nat.pow_succ', Nat.mod_mul]
    omega
theorem octets_append {a b : List Int} (ha : octets a) (hb : octets b) : octets (a ++ b) := fun x hx => (List.mem_append.1 hx).elim (ha x) (hb x)
end Go.Proofs
