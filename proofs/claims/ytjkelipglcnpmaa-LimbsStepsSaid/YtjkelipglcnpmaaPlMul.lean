/- Plain laws: lemmas that hold with no condition but those that each states. -/
import Derived.Test.YtjkelipglcnpmaaPlC
import Derived.Test.YtjkelipglcnpmaaF36
namespace Go.VM

/-! ### A word put in its place -/

theorem word_of_mod (X w j i : Nat) (h : j < i) : X % 2 ^ (w * i) / 2 ^ (w * j) % 2 ^ w = X / 2 ^ (w * j) % 2 ^ w := by
  have e : 2 ^ (w * i) = 2 ^ (w * j) * (2 ^ w * 2 ^ (w * (i - j - 1))) := by
    rw [← Nat.pow_add, ← Nat.pow_add]; congr 1
    rw [← Nat.add_assoc, ← Nat.mul_succ, ← Nat.mul_add]; congr 1; omega
  rw [e, Nat.mod_mul_right_div_self, Nat.mod_mul_right_mod]

theorem put_word {w L v H i : Nat} (hL : L < 2 ^ (w * i)) (hv : v < 2 ^ w) (j : Nat) :
    (L + 2 ^ (w * i) * (v + 2 ^ w * H)) / 2 ^ (w * j) % 2 ^ w = if j = i then v else if j < i then L / 2 ^ (w * j) % 2 ^ w else H / 2 ^ (w * (j - i - 1)) % 2 ^ w := by
  have hp : 0 < 2 ^ (w * i) := Nat.two_pow_pos _
  rcases Nat.lt_trichotomy j i with h | h | h
  · rw [if_neg (by omega), if_pos h, ← word_of_mod _ w j i h, Nat.add_mul_mod_self_left, Nat.mod_eq_of_lt hL]
  · subst h
    rw [if_pos rfl, Nat.add_mul_div_left _ _ hp, Nat.div_eq_of_lt hL, Nat.zero_add, Nat.add_mul_mod_self_left, Nat.mod_eq_of_lt hv]
  · rw [if_neg (by omega), if_neg (by omega), show w * j = w * i + (w + w * (j - i - 1)) by
      rw [Nat.add_comm w, ← Nat.mul_succ, ← Nat.mul_add]; congr 1; omega, Nat.pow_add, ← Nat.div_div_eq_div_mul, Nat.add_mul_div_left _ _ hp, Nat.div_eq_of_lt hL, Nat.zero_add, Nat.pow_add, ← Nat.div_div_eq_div_mul,
      Nat.add_mul_div_left _ _ (Nat.two_pow_pos w), Nat.div_eq_of_lt hv, Nat.zero_add]

theorem split_word (w X i : Nat) : X = X % 2 ^ (w * i) + 2 ^ (w * i) * (X / 2 ^ (w * i) % 2 ^ w + 2 ^ w * (X / 2 ^ (w * (i + 1)))) := by
  have h1 := Nat.mod_add_div X (2 ^ (w * i))
  have h2 := Nat.mod_add_div (X / 2 ^ (w * i)) (2 ^ w)
  rw [Nat.mul_succ, Nat.pow_add, ← Nat.div_div_eq_div_mul, h2, h1]

/-- Words, one of which is another one. -/
theorem set_words (w n X i v : Nat) (hv : v < 2 ^ w) : vec n (fun j => if j = i then v else X / 2 ^ (w * j) % 2 ^ w) = words w n (X % 2 ^ (w * i) + 2 ^ (w * i) * (v + 2 ^ w * (X / 2 ^ (w * (i + 1))))) := by
  refine vec_congr fun j _ => ?_
  have hL := Nat.mod_lt X (Nat.two_pow_pos (w * i))
  rw [put_word hL hv]
  by_cases h : j = i
  · rw [if_pos h, if_pos h]
  · rw [if_neg h, if_neg h]
    conv => lhs; rw [split_word w X i]
    rw [put_word hL (Nat.mod_lt _ (Nat.two_pow_pos w)), if_neg h]

theorem take_drop_words (w n X i m : Nat) (h : i + m ≤ n) : List.take m (List.drop i (words w n X)) = words w m (X / 2 ^ (w * i)) := by
  refine ext_getD (by simp [words, vec]; omega) fun j hj => ?_
  have hj' : j < m := by simp [words, vec] at hj; omega
  rw [getD_words hj', Nat.div_div_eq_div_mul, ← Nat.pow_add, ← Nat.mul_add]
  have := getD_words (w := w) (A := X) (show i + j < n by omega)
  rw [← this]
  simp [List.getD, List.getElem?_drop, hj']

end Go.VM
namespace Go.Proofs
open Go.VM

/-! ### Mul -/

theorem pow_double (a b c : Nat) (h : a + b = c) : 2 ^ a * 2 ^ b = 2 ^ c := by rw [← Nat.pow_add, h]

theorem f94.round (K at' n X : Nat) (ha : at' < 16) (hn : n ≤ 18446744065119617025) (h0 : 0 < n) (rec : _ → _) :
    f94.s0 K rec (at', n, words 32 16 X) = rec (((at' + 1 : Nat) : Int), (((n + X / 2 ^ (32 * at') % 2 ^ 32) / 2 ^ 32 : Nat) : Int),
      words 32 16 (X % 2 ^ (32 * at') + 2 ^ (32 * at') * ((n + X / 2 ^ (32 * at') % 2 ^ 32) % 2 ^ 32 + 2 ^ 32 * (X / 2 ^ (32 * (at' + 1)))))) := by
  simp only [f94.s0, f94.s0t]
  have h1 : decide ((n : Int) > 0) = true := decide_eq_true (by omega)
  have e1 : IntKind.wrap .i64 (Int.tdiv (at' : Int) 8) = ((at' / 8 : Nat) : Int) := by
    rw [show (8 : Int) = ((8 : Nat) : Int) from rfl, tdiv_nat, wrap_i _ (by omega) (by omega)]
  have e2 : Int.tmod (at' : Int) 8 = ((at' % 8 : Nat) : Int) := tmod_nat at' 8
  have h2 : decide ((0 : Int) ≤ ((at' / 8 : Nat) : Int) ∧ ((at' / 8 : Nat) : Int) < 2) = true := inR_nat (n := 2) (by omega)
  have h3 : decide ((0 : Int) ≤ ((at' % 8 : Nat) : Int) ∧ ((at' % 8 : Nat) : Int) < 8) = true := inR_nat (n := 8) (by omega)
  have hm : X / 2 ^ (32 * at') % 2 ^ 32 < 2 ^ 32 := Nat.mod_lt _ (by decide)
  rw [h1, e1, e2, h2, h3]
  simp only [cond_true, Int.toNat_natCast]
  rw [show at' / 8 * 8 + at' % 8 = at' by omega, getD_words ha]
  have e3 : IntKind.wrap .u64 ((n : Int) + ((X / 2 ^ (32 * at') % 2 ^ 32 : Nat) : Int)) = ((n + X / 2 ^ (32 * at') % 2 ^ 32 : Nat) : Int) := by
    rw [wrap_u _ (by omega) (by omega)]; omega
  rw [e3, and_mask32 _ (by omega), fdiv_nat, wrap_i _ (by omega) (by omega), show words 32 16 X = vec 16 (fun j => X / 2 ^ (32 * j) % 2 ^ 32) from rfl, setD_vec ha]
  have hs := set_words 32 16 X at' ((n + X / 2 ^ (32 * at') % 2 ^ 32) % 2 ^ 32) (Nat.mod_lt _ (by decide))
  exact congrArg (fun z => rec (((at' + 1 : Nat) : Int), (((n + X / 2 ^ (32 * at') % 2 ^ 32) / 2 ^ 32 : Nat) : Int), z)) hs

theorem f94.spec (K at' n X N : Nat) (hN : N = 16) (hn : n ≤ 18446744065119617025) (hX : X + n * 2 ^ (32 * at') < 2 ^ (32 * N)) (hK : 17 < K) : f94.F K (at', n, words 32 16 X) = some (words 32 16 (X + n * 2 ^ (32 * at'))) := by
  simp only [f94.F, f94.T]
  have key := iter_inv (stp := f94.s0 K) (fun m x => ∃ at2 n2 X2 : Nat, m + at2 = 17 + at' ∧ n2 ≤ 18446744065119617025 ∧ X2 + n2 * 2 ^ (32 * at2) = X + n * 2 ^ (32 * at') ∧ x = ((at2 : Int), (n2 : Int), words 32 16 X2) ∧ (n2 = 0 ∨ at2 < 16))
    (fun y => y = words 32 16 (X + n * 2 ^ (32 * at'))) (by
      rintro m x ⟨at2, n2, X2, hm, hn2, he, rfl, hor⟩
      by_cases h0 : n2 = 0
      · subst h0
        refine .inl ⟨_, rfl, fun rec => ?_⟩
        simp only [f94.s0, f94.s0t]
        rw [← he]; simp
      · have ha : at2 < 16 := by omega
        refine .inr ⟨_, m - 1, by omega, ⟨at2 + 1, (n2 + X2 / 2 ^ (32 * at2) % 2 ^ 32) / 2 ^ 32, _, by omega, ?_, ?_, rfl, ?_⟩, fun rec => f94.round K at2 n2 X2 ha hn2 (by omega) rec⟩
        · have hm : X2 / 2 ^ (32 * at2) % 2 ^ 32 < 2 ^ 32 := Nat.mod_lt _ (by decide)
          omega
        · rw [← he]
          conv => rhs; rw [split_word 32 X2 at2]
          rw [show 32 * (at2 + 1) = 32 * at2 + 32 from Nat.mul_succ _ _, Nat.pow_add]
          generalize X2 / (2 ^ (32 * at2) * 2 ^ 32) = H
          generalize X2 / 2 ^ (32 * at2) % 2 ^ 32 = d
          generalize X2 % 2 ^ (32 * at2) = L
          generalize 2 ^ (32 * at2) = p
          have h1 := Nat.mod_add_div (n2 + d) (2 ^ 32)
          generalize (n2 + d) / 2 ^ 32 = o at *
          generalize (n2 + d) % 2 ^ 32 = r at *
          have h2 : p * (r + 2 ^ 32 * o) = p * (n2 + d) := by rw [h1]
          simp only [Nat.mul_add] at h2 ⊢
          rw [show o * (p * 2 ^ 32) = p * (2 ^ 32 * o) by rw [Nat.mul_comm o, Nat.mul_assoc], Nat.mul_comm n2 p]
          omega
        · rcases Nat.lt_or_ge (at2 + 1) 16 with h | h
          · exact .inr h
          · refine .inl ?_
            have h15 : N = at2 + 1 := by clear hX; omega
            have h3 : X2 + n2 * 2 ^ (32 * at2) < 2 ^ (32 * at2) * 2 ^ 32 := by
              rw [he]
              refine Nat.lt_of_lt_of_eq hX ?_
              rw [h15, Nat.mul_succ, Nat.pow_add]
            have h4 : (X2 + n2 * 2 ^ (32 * at2)) / 2 ^ (32 * at2) < 2 ^ 32 := Nat.div_lt_of_lt_mul h3
            rw [Nat.add_mul_div_right _ _ (Nat.two_pow_pos _)] at h4
            generalize X2 / 2 ^ (32 * at2) = q at h4 ⊢
            have h5 := Nat.mod_le q (2 ^ 32)
            exact Nat.div_eq_of_lt (Nat.lt_of_le_of_lt (Nat.add_le_add_left h5 n2) (by rw [Nat.add_comm]; exact h4))) (17 + at' - at') (at', n, words 32 16 X) ⟨at', n, X, by omega, hn, rfl, rfl, by
              rcases Nat.eq_zero_or_pos n with h | h
              · exact .inl h
              · refine .inr ?_
                rcases Nat.lt_or_ge at' 16 with h2 | h2
                · exact h2
                · have h3 : 2 ^ (32 * N) ≤ 2 ^ (32 * at') := Nat.pow_le_pow_right (by decide) (Nat.mul_le_mul_left _ (by rw [hN]; exact h2))
                  have h4 : 2 ^ (32 * at') ≤ n * 2 ^ (32 * at') := Nat.le_mul_of_pos_left _ h
                  exact absurd (Nat.lt_of_le_of_lt (Nat.le_trans h3 (Nat.le_trans h4 (Nat.le_add_left _ X))) hX) (Nat.lt_irrefl _)⟩ K (by clear hX; omega)
  obtain ⟨y, rfl, h⟩ := key
  rw [h]; rfl

/-- So far: i words of A, k words of B for the next one. -/
def mulSoFar (A B i k : Nat) : Nat := A % 2 ^ (32 * i) * B + 2 ^ (32 * i) * (A / 2 ^ (32 * i) % 2 ^ 32) * (B % 2 ^ (32 * k))

theorem mulSoFar_k (A B i k : Nat) : mulSoFar A B i k + A / 2 ^ (32 * i) % 2 ^ 32 * (B / 2 ^ (32 * k) % 2 ^ 32) * 2 ^ (32 * (i + k)) = mulSoFar A B i (k + 1) := by
  unfold mulSoFar
  have e : B % 2 ^ (32 * (k + 1)) = B % 2 ^ (32 * k) + 2 ^ (32 * k) * (B / 2 ^ (32 * k) % 2 ^ 32) := by
    rw [show 32 * (k + 1) = 32 * k + 32 from Nat.mul_succ _ _, Nat.pow_add _ _ 32, Nat.mod_mul]
  rw [e, Nat.mul_add 32 i k, Nat.pow_add 2 (32 * i) (32 * k)]
  generalize B / 2 ^ (32 * k) % 2 ^ 32 = d
  generalize A / 2 ^ (32 * i) % 2 ^ 32 = c
  generalize B % 2 ^ (32 * k) = r
  simp only [Nat.mul_add, Nat.mul_comm, Nat.mul_left_comm, Nat.mul_assoc, Nat.add_assoc]

theorem mulSoFar_i (A B i : Nat) (hB : B < 2 ^ 256) : mulSoFar A B i 8 = mulSoFar A B (i + 1) 0 := by
  unfold mulSoFar
  have e : A % 2 ^ (32 * (i + 1)) = A % 2 ^ (32 * i) + 2 ^ (32 * i) * (A / 2 ^ (32 * i) % 2 ^ 32) := by
    rw [show 32 * (i + 1) = 32 * i + 32 from Nat.mul_succ _ _, Nat.pow_add _ _ 32, Nat.mod_mul]
  have e0 : B % 2 ^ (32 * 0) = 0 := Nat.mod_one B
  rw [show (32 * 8 : Nat) = 256 from rfl, Nat.mod_eq_of_lt hB, e0, e, Nat.mul_zero, Nat.add_zero, Nat.add_mul]

theorem mulSoFar_le (A B i k : Nat) : mulSoFar A B i k ≤ A * B := by
  unfold mulSoFar
  have h1 : 2 ^ (32 * i) * (A / 2 ^ (32 * i) % 2 ^ 32) * (B % 2 ^ (32 * k)) ≤ 2 ^ (32 * i) * (A / 2 ^ (32 * i)) * B :=
    Nat.mul_le_mul (Nat.mul_le_mul_left _ (Nat.mod_le _ _)) (Nat.mod_le _ _)
  have h2 := Nat.mod_add_div A (2 ^ (32 * i))
  calc _ ≤ A % 2 ^ (32 * i) * B + 2 ^ (32 * i) * (A / 2 ^ (32 * i)) * B := Nat.add_le_add_left h1 _
    _ = A * B := by rw [← Nat.add_mul, h2]

theorem f36.inner (K A B i : Nat) (hA : A < 2 ^ 256) (hB : B < 2 ^ 256) (hi : i < 8) (hK : 17 < K) (z z' : List Int) :
    iter (f36.s2 K) K (i, i, 0, z, z', halves A, halves B, words 32 16 (mulSoFar A B i 0)) = some ((i : Int), z, z', halves A, halves B, words 32 16 (mulSoFar A B i 8)) := by
  obtain ⟨N, hN⟩ : ∃ N : Nat, N = 16 := ⟨16, rfl⟩
  have key := iter_for (stp := f36.s2 K) (N := 8) (fun k => ((i : Int), (i : Int), (k : Int), z, z', halves A, halves B, words 32 16 (mulSoFar A B i k)))
    (y := some ((i : Int), z, z', halves A, halves B, words 32 16 (mulSoFar A B i 8))) (fun k hk rec => by
      simp only [f36.s2, f36.s2t]
      have h1 : decide ((k : Int) < 8) = true := decide_eq_true (by omega)
      have h2 : decide ((0 : Int) ≤ (i : Int) ∧ (i : Int) < 8) = true := inR_nat (n := 8) hi
      have h3 : decide ((0 : Int) ≤ (k : Int) ∧ (k : Int) < 8) = true := inR_nat (n := 8) hk
      rw [h1, h2, h3]
      simp only [cond_true, Int.toNat_natCast]
      rw [getD_words hi, getD_words hk, wrap_i _ (by omega) (by omega), wrap_i ((k : Int) + 1) (by omega) (by omega)]
      have ha : A / 2 ^ (32 * i) % 2 ^ 32 ≤ 4294967295 := Nat.le_of_lt_succ (Nat.mod_lt _ (by decide))
      have hb : B / 2 ^ (32 * k) % 2 ^ 32 ≤ 4294967295 := Nat.le_of_lt_succ (Nat.mod_lt _ (by decide))
      have hab := Nat.mul_le_mul ha hb
      have e1 : IntKind.wrap .u64 (((A / 2 ^ (32 * i) % 2 ^ 32 : Nat) : Int) * ((B / 2 ^ (32 * k) % 2 ^ 32 : Nat) : Int)) = ((A / 2 ^ (32 * i) % 2 ^ 32 * (B / 2 ^ (32 * k) % 2 ^ 32) : Nat) : Int) := by
        rw [← Int.natCast_mul, wrap_u _ (by omega) (by omega)]
      rw [e1, show (i : Int) + (k : Int) = ((i + k : Nat) : Int) from rfl, f94.spec K (i + k) _ _ N hN (by omega) (by
        rw [mulSoFar_k]
        have h4 : A * B < 2 ^ 256 * 2 ^ 256 := Nat.mul_lt_mul'' hA hB
        exact Nat.lt_of_lt_of_eq (Nat.lt_of_le_of_lt (mulSoFar_le A B i (k + 1)) h4) (pow_double 256 256 (32 * N) (by omega))) hK, mulSoFar_k]
      rfl) (fun rec => rfl) (show 8 < K by omega)
  exact key

theorem f36.spec (K A B : Nat) (hA : A < 2 ^ 256) (hB : B < 2 ^ 256) (hK : 17 < K) : f36.F K (num A, num B) = some (num (A * B), num (A * B / 2 ^ 256)) := by
  simp only [f36.F, f36.T, f92.spec, Option.bind_some]
  have key := iter_for (stp := f36.s0 K) (N := 8) (fun i => ((i : Int), ([0, 0, 0, 0] : List Int), ([0, 0, 0, 0] : List Int), halves A, halves B, words 32 16 (mulSoFar A B i 0)))
    (y := some (([0, 0, 0, 0] : List Int), ([0, 0, 0, 0] : List Int), words 32 16 (A * B))) (fun i hi rec => by
      simp only [f36.s0, f36.s0t]
      have h1 : decide ((i : Int) < 8) = true := decide_eq_true (by omega)
      rw [h1]
      simp only [cond_true]
      rw [f36.inner K A B i hA hB hi hK]
      simp only [Option.bind_some]
      rw [mulSoFar_i A B i hB, wrap_i _ (by omega) (by omega)]
      rfl) (fun rec => by
      simp only [f36.s0, f36.s0t]
      have e : mulSoFar A B 8 0 = A * B := by
        unfold mulSoFar
        rw [show (32 * 8 : Nat) = 256 from rfl, Nat.mod_eq_of_lt hA, Nat.mul_zero, Nat.pow_zero, Nat.mod_one, Nat.mul_zero, Nat.add_zero]
      rw [e]
      rfl) (show 8 < K by omega)
  have e0 : mulSoFar A B 0 0 = 0 := by simp [mulSoFar, Nat.mod_one]
  simp only [e0] at key
  have key' : iter (f36.s0 K) K (0, [0, 0, 0, 0], [0, 0, 0, 0], halves A, halves B, [0, 0, 0, 0, 0, 0, 0, 0, 0, 0, 0, 0, 0, 0, 0, 0]) = some (([0, 0, 0, 0] : List Int), ([0, 0, 0, 0] : List Int), words 32 16 (A * B)) := by
    have ez : words 32 16 0 = [0, 0, 0, 0, 0, 0, 0, 0, 0, 0, 0, 0, 0, 0, 0, 0] := by kernel_rfl
    rw [ez] at key
    exact key
  rw [key']
  simp only [Option.bind_some]
  have t0 := take_drop_words 32 16 (A * B) 0 8 (by decide)
  have t8 := take_drop_words 32 16 (A * B) 8 8 (by decide)
  rw [show (32 * 0 : Nat) = 0 from rfl, Nat.pow_zero, Nat.div_one] at t0
  rw [show (32 * 8 : Nat) = 256 from rfl] at t8
  rw [t0, t8, f93.spec, f93.spec, bind_s, bind_s]

end Go.Proofs
