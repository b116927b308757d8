/- Plain laws: lemmas that hold with no condition but those that each states. -/
import Derived.Test.YtjkelipglcnpmaaPy
import Derived.Test.YtjkelipglcnpmaaPg
import Derived.Test.YtjkelipglcnpmaaFz
namespace Go.Proofs
open Go.VM

theorem num_one : ([1, 0, 0, 0] : List Int) = num 1 := rfl

theorem f114.spec (P A : Nat) (q g : List Int) (hP : P < 2 ^ 256) (hA : A < 2 ^ 256) : f114.F 100000 (num P, q, g, num A) = some (gin P A) := by
  simp only [f114.F, f114.T, num_one, num_zero, f45.spec 100000 P 1 hP (by decide) (by decide), f45.spec 100000 A P hA hP (by decide), bind_s, cmp_gt, cmp_lt, eqN A 0 hA (by decide), Bool.and_true]
  unfold gin
  by_cases h1 : 1 < P
  · rw [decide_eq_true h1, cond_t, Bool.true_and]
    by_cases h2 : A = 0
    · rw [decide_eq_true h2, Bool.not_true, cond_f, decide_eq_false (by omega), Bool.false_and]
    · rw [decide_eq_false h2, Bool.not_false, cond_t, decide_eq_true h2, Bool.true_and]
  · rw [decide_eq_false h1, cond_f, Bool.false_and]

theorem f81.spec (P A B : Nat) (q g : List Int) (hP : P < 2 ^ 256) (hA : A < 2 ^ 256) (hB : B < 2 ^ 256) :
    f81.F 100000 (num P, q, g, num A, num B) = some (if (gin P A && gin P B) = true then (num (A * B % P), 0) else (num 0, 1)) := by
  simp only [f81.F, f81.T, f114.spec P A q g hP hA, f114.spec P B q g hP hB, bind_s, num_zero]
  by_cases ha : gin P A = true
  · rw [ha, Bool.not_true, cond_f]
    by_cases hb : gin P B = true
    · obtain ⟨p1, _, p2⟩ := gin_iff.1 ha
      obtain ⟨_, _, p3⟩ := gin_iff.1 hb
      rw [hb, Bool.not_true, cond_f, f68.same A B P hA hB hP, f63.good p1 p2 p3 hP, bind_s]; rfl
    · rw [Bool.not_eq_true] at hb
      rw [hb]; rfl
  · rw [Bool.not_eq_true] at ha
    rw [ha]; rfl

theorem f83.same (P A : Nat) (q g : List Int) (hP : P < 2 ^ 256) (hA : A < 2 ^ 256) : f83.F 100000 (num P, q, g, num A) = f82.F 100000 (num P, q, g, num A) := by
  rw [f82.spec P A q g hP hA]
  simp only [f83.F, f83.T, f114.spec P A q g hP hA, bind_s, num_zero, f70.same A P hA hP]
  by_cases ha : gin P A = true
  · rw [if_pos ha, ha, Bool.not_true, cond_f]
    obtain ⟨p, hp, hf⟩ := f65.spec A P hA hP
    rw [hf, bind_s]
  · rw [if_neg ha]
    rw [Bool.not_eq_true] at ha
    rw [ha]; rfl

theorem f84.spec (P A N : Nat) (q g : List Int) (hP : P < 2 ^ 256) (hA : A < 2 ^ 256) (hN : N < 2 ^ 256) :
    f84.F 100000 (num P, q, g, num A, num N) = some (if gin P A = true then (num (A ^ N % P), 0) else (num 0, 1)) := by
  simp only [f84.F, f84.T, f114.spec P A q g hP hA, bind_s, num_zero, f69.same A N P hA hN hP, f64.spec A N P hA hN hP]
  by_cases ha : gin P A = true
  · rw [if_pos ha, ha, Bool.not_true, cond_f, if_pos (gin_may ha)]
  · rw [if_neg ha]
    rw [Bool.not_eq_true] at ha
    rw [ha]; rfl

theorem f88.spec (P Q A : Nat) (g : List Int) (hP : P < 2 ^ 256) (hQ : Q < 2 ^ 256) (hA : A < 2 ^ 256) : f88.F 100000 (num P, num Q, g, num A) = some (gmem P Q A) := by
  simp only [f88.F, f88.T, f114.spec P A _ g hP hA, bind_s, num_one, f69.same A Q P hA hQ hP, f64.spec A Q P hA hQ hP]
  unfold gmem
  by_cases h : gin P A = true
  · obtain ⟨p1, _, p2⟩ := gin_iff.1 h
    have : A ^ Q % P < 2 ^ 256 := Nat.lt_trans (Nat.mod_lt _ (by omega)) hP
    rw [h, Bool.not_true, cond_f, if_pos (gin_may h)]
    simp only [beq_self_eq_true, cond_t, eqN _ 1 this (by decide), Bool.and_true, Bool.true_and]
  · rw [Bool.not_eq_true] at h
    rw [h]; rfl

theorem f86.spec (P Q G : Nat) (hP : P < 2 ^ 256) (hQ : Q < 2 ^ 256) (hG : G < 2 ^ 256) : f86.F 100000 (num P, num Q, num G) = some (gfine P Q G) := by
  simp only [f86.F, f86.T, num_one, f45.spec 100000 P 1 hP (by decide) (by decide), f45.spec 100000 Q 1 hQ (by decide) (by decide), bind_s, cmp_gt, f88.spec P Q G _ hP hQ hG, eqN G 1 hG (by decide), Bool.and_true]
  unfold gfine
  by_cases h0 : 1 < P
  · rw [decide_eq_true h0, cond_t]
    by_cases h1 : 1 < Q
    · rw [decide_eq_true h1, cond_t, Bool.true_and]
      by_cases hm : gmem P Q G = true
      · rw [hm, cond_t, Bool.and_true]
        by_cases h2 : G = 1
        · rw [decide_eq_true h2, decide_eq_false (by omega)]; rfl
        · rw [decide_eq_false h2, decide_eq_true h2]; rfl
      · rw [Bool.not_eq_true] at hm
        rw [hm, cond_f, Bool.and_false]
    · rw [decide_eq_false h1, cond_f, Bool.false_and]
  · have hm : gmem P Q G = false := by
      unfold gmem gin
      rw [decide_eq_false h0, Bool.false_and, Bool.false_and]
    rw [decide_eq_false h0, cond_f, hm, Bool.and_false, Bool.and_false]

/-- GroupsOf. -/
theorem f24.holds (P Q G A B : Nat) (hP : P < 2 ^ 256) (hQ : Q < 2 ^ 256) (hG : G < 2 ^ 256) (hA : A < 2 ^ 256) (hB : B < 2 ^ 256) :
    f24.F 100000 (num P, num Q, num G, num A, num B) = some true := by
  obtain ⟨x, c, hi⟩ : ∃ (x : Nat) (c : Int), f82.F 100000 (num P, num Q, num G, num A) = some (num x, c) := by
    rw [f82.spec P A _ _ hP hA]
    by_cases ha : gin P A = true
    · rw [if_pos ha]
      obtain ⟨p, _, hf⟩ := f65.spec A P hA hP
      rw [hf, if_pos (gin_may ha)]
      by_cases hg : Nat.gcd A P = 1
      · exact ⟨p, 0, by rw [if_pos hg]⟩
      · exact ⟨0, 7, by rw [if_neg hg]⟩
    · exact ⟨0, 1, by rw [if_neg ha]⟩
  simp only [f24.F, f24.T, f79.spec P A B _ _ hP hA hB, f81.spec P A B _ _ hP hA hB, f83.same P A _ _ hP hA, hi, f80.spec P A B _ _ hP hA hB, f84.spec P A B _ _ hP hA hB, f85.spec P Q G hP hQ hG, f86.spec P Q G hP hQ hG, f87.spec P Q A _ hP hQ hA, f88.spec P Q A _ hP hQ hA, f89.spec, bind_s, eqL_num]
  cases gin P A <;> cases gin P B <;> simp only [Bool.and_self, Bool.and_false, Bool.false_and, Bool.and_true, Bool.true_and, if_true, if_false, Bool.false_eq_true, eqL_num, decide_true, cond_t, beq_self_eq_true]

end Go.Proofs
