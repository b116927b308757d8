/- Plain laws: lemmas that hold with no condition but those that each states. -/
import Derived.Test.YtjkelipglcnpmaaPm
import Derived.Test.YtjkelipglcnpmaaFn
namespace Go.Proofs
open Go.VM

/-! ### ModsOver -/

theorem none_zero (a M g : Nat) (hg : g = Nat.gcd a M) (h0 : 0 < M) : a * (M / g % M) % M = 0 := by
  have h1 : g ∣ a := hg ▸ Nat.gcd_dvd_left a M
  have h2 : g ∣ M := hg ▸ Nat.gcd_dvd_right a M
  rw [Nat.mul_mod_mod]
  obtain ⟨b, hb⟩ := h1
  have e : g * (M / g) = M := Nat.mul_div_cancel' h2
  have : a * (M / g) = M * b := by
    conv => lhs; rw [hb, Nat.mul_comm g b, Nat.mul_assoc, e]
    rw [Nat.mul_comm]
  rw [this, Nat.mul_mod_right]

theorem f29.holds (A B M : Nat) (hA : A < 2 ^ 256) (hB : B < 2 ^ 256) (hM : M < 2 ^ 256) : f29.F 1000 (num A, num B, num M) = some true := by
  simp only [f29.F, f29.T, f71.spec M hM, bind_s, f72.spec]
  by_cases h : M ≤ 1
  · rw [decide_eq_true h]; rfl
  · have h1 : 1 < M := by omega
    have h0 : 0 < M := by omega
    rw [decide_eq_false h, cond_f, f73.spec A M hA hM h0, bind_s, f73.spec B M hB hM h0, bind_s]
    obtain ⟨a, ha⟩ : ∃ a, a = A % M := ⟨_, rfl⟩
    obtain ⟨b, hb⟩ : ∃ b, b = B % M := ⟨_, rfl⟩
    rw [← ha, ← hb]
    have la : a < M := by rw [ha]; exact Nat.mod_lt _ h0
    have lb : b < M := by rw [hb]; exact Nat.mod_lt _ h0
    have ta : a < 2 ^ 256 := by omega
    have tb : b < 2 ^ 256 := by omega
    have hg : Nat.gcd a M < 2 ^ 256 := gcd_lt ta hM
    have hg0 : 0 < Nat.gcd a M := Nat.gcd_pos_of_pos_right a h0
    have hab := Nat.mod_lt (a * b) h0
    rw [f63.good h1 la lb hM, bind_s]
    simp only [f75.one, f74.spec, bind_s, ne00, cond_f, eqN _ 1 (show a * b % M < 2 ^ 256 by omega) (by decide), Bool.and_true, f56.spec a M ta hM]
    by_cases hone : a * b % M = 1
    · rw [f65.known a M b la h1 hM lb hone, bind_s, decide_eq_true hone, cond_t]
      simp only [eqL_num, decide_true, Bool.not_true, cond_f, ne00, f63.good h1 la lb hM, bind_s, gcd_of_inv hone, hone, cond_t, beq_self_eq_true]
    · have e0 : decide (a * b % M = 1) = false := decide_eq_false hone
      rw [e0]
      by_cases hgo : Nat.gcd a M = 1
      · obtain ⟨p, hp, hq, hf⟩ := f65.gets a M la h1 hM hgo
        rw [hf, bind_s]
        simp only [ne00, cond_f, f63.good h1 la hp hM, bind_s, hq, hgo, eqL_num, decide_true, cond_t, beq_self_eq_true]
      · have e1 : eqL 4 (num (Nat.gcd a M)) (num 1) = false := by rw [eqN _ 1 hg (by decide)]; exact decide_eq_false hgo
        have hz := none_zero a M _ rfl h0
        have hk := Nat.mod_lt (M / Nat.gcd a M) h0
        have h1m := Nat.mod_lt 1 h0
        have hd : M / Nat.gcd a M < 2 ^ 256 := Nat.lt_of_le_of_lt (Nat.div_le_self _ _) hM
        have n7 : ((7 : Int) != 0) = true := rfl
        rw [f65.without a M la h1 hM hgo, bind_s]
        simp only [n7, cond_t, f52.spec M (Nat.gcd a M) hM hg hg0, bind_s, f73.spec 1 M (by decide) hM h0, f73.spec _ M hd hM h0, f63.good h1 la h1m hM, f63.good h1 la hk hM, hz, e1, Bool.not_false, eqL_num, decide_true, beq_self_eq_true]
        by_cases haz : a = 0
        · subst haz
          simp only [eqL_num, decide_true, cond_t, cond_f, Nat.zero_mul, Nat.zero_mod]
        · have e2 : decide (a % 2 ^ 256 = 0 % 2 ^ 256) = false := by rw [mod_self_of ta, Nat.zero_mod]; exact decide_eq_false haz
          simp only [e2, cond_f]

/-! ### ModsPrime: what Fermat found -/

/-- How many ways. -/
def ch : Nat → Nat → Nat
  | _, 0 => 1
  | 0, _ + 1 => 0
  | n + 1, k + 1 => ch n k + ch n (k + 1)

theorem ch_top : ∀ (n k : Nat), n < k → ch n k = 0
  | 0, 0, h => absurd h (by omega)
  | 0, _ + 1, _ => rfl
  | _ + 1, 0, h => absurd h (by omega)
  | n + 1, k + 1, h => by rw [ch, ch_top n k (by omega), ch_top n (k + 1) (by omega)]

theorem ch_zero (n : Nat) : ch n 0 = 1 := by cases n <;> rfl

theorem ch_self : ∀ n : Nat, ch n n = 1
  | 0 => rfl
  | n + 1 => by rw [ch, ch_self n, ch_top n (n + 1) (by omega)]

theorem ch_absorb : ∀ (n k : Nat), (k + 1) * ch (n + 1) (k + 1) = (n + 1) * ch n k
  | 0, 0 => rfl
  | 0, k + 1 => by rw [show ch (0 + 1) (k + 1 + 1) = ch 0 (k + 1) + ch 0 (k + 1 + 1) from rfl, ch_top 0 (k + 1) (by omega), ch_top 0 (k + 1 + 1) (by omega)]; simp
  | n + 1, 0 => by
      have := ch_absorb n 0
      rw [ch_zero] at this ⊢
      rw [show ch (n + 1 + 1) (0 + 1) = ch (n + 1) 0 + ch (n + 1) (0 + 1) from rfl, ch_zero]
      omega
  | n + 1, k + 1 => by
      have h1 := ch_absorb n (k + 1)
      have h2 := ch_absorb n k
      have h3 : (k + 1 + 1) * ch (n + 1) (k + 1) = (n + 1) * ch n k + ch (n + 1) (k + 1) := by rw [Nat.add_mul (k + 1) 1, h2, Nat.one_mul]
      have h4 : ch (n + 1) (k + 1) = ch n k + ch n (k + 1) := rfl
      rw [show ch (n + 1 + 1) (k + 1 + 1) = ch (n + 1) (k + 1) + ch (n + 1) (k + 1 + 1) from rfl, Nat.mul_add, h1, h3, Nat.add_mul (n + 1) 1, Nat.one_mul]
      have h5 : (n + 1) * ch (n + 1) (k + 1) = (n + 1) * ch n k + (n + 1) * ch n (k + 1) := by rw [h4, Nat.mul_add]
      omega

/-- A sum. -/
def bs (f : Nat → Nat) : Nat → Nat
  | 0 => 0
  | m + 1 => bs f m + f m

theorem bs_left (f : Nat → Nat) : ∀ m, bs f (m + 1) = f 0 + bs (fun k => f (k + 1)) m
  | 0 => by simp [bs]
  | m + 1 => by rw [bs, bs_left f m, bs]; omega

theorem bs_add (f g : Nat → Nat) : ∀ m, bs (fun k => f k + g k) m = bs f m + bs g m
  | 0 => rfl
  | m + 1 => by rw [bs, bs, bs, bs_add f g m]; omega

theorem bs_mul (f : Nat → Nat) (a : Nat) : ∀ m, bs (fun k => f k * a) m = bs f m * a
  | 0 => by rw [bs, bs, Nat.zero_mul]
  | m + 1 => by rw [bs, bs, bs_mul f a m, Nat.add_mul]

theorem bs_congr {f g : Nat → Nat} : ∀ m, (∀ k, k < m → f k = g k) → bs f m = bs g m
  | 0, _ => rfl
  | m + 1, h => by rw [bs, bs, bs_congr m fun k hk => h k (by omega), h m (by omega)]

theorem bs_mod {f : Nat → Nat} {p : Nat} : ∀ m, (∀ k, k < m → p ∣ f k) → p ∣ bs f m
  | 0, _ => Nat.dvd_zero p
  | m + 1, h => Nat.dvd_add (bs_mod m fun k hk => h k (by omega)) (h m (by omega))

theorem binomial (a : Nat) : ∀ n, (a + 1) ^ n = bs (fun k => ch n k * a ^ k) (n + 1)
  | 0 => by simp [bs, ch]
  | n + 1 => by
      have e0 : bs (fun k => ch n k * a ^ k) (n + 2) = bs (fun k => ch n k * a ^ k) (n + 1) := by rw [bs, ch_top n (n + 1) (by omega), Nat.zero_mul, Nat.add_zero]
      have e1 : bs (fun k => ch n (k + 1) * a ^ (k + 1)) (n + 1) + 1 = bs (fun k => ch n k * a ^ k) (n + 1) := by
        have := bs_left (fun k => ch n k * a ^ k) (n + 1)
        simp only [ch_zero, Nat.pow_zero] at this
        rw [← e0, this]; omega
      rw [bs_left, bs_congr (g := fun k => ch n k * a ^ k * a + ch n (k + 1) * a ^ (k + 1)) (n + 1) (fun k _ => by rw [ch, Nat.add_mul, Nat.pow_succ, Nat.mul_assoc]), bs_add, bs_mul, ← binomial a n, Nat.pow_succ, Nat.mul_add, Nat.mul_one, ch_zero, Nat.pow_zero]
      rw [← binomial a n] at e1
      omega

/-- A prime number. -/
def prim (p : Nat) : Prop := 1 < p ∧ ∀ d, d ∣ p → d = 1 ∨ d = p

theorem prim_coprime {p k : Nat} (hp : prim p) (h0 : 0 < k) (hk : k < p) : Nat.gcd p k = 1 := by
  rcases hp.2 _ (Nat.gcd_dvd_left p k) with h | h
  · exact h
  · have h2 := Nat.gcd_dvd_right p k
    rw [h] at h2
    have := Nat.le_of_dvd h0 h2
    omega

theorem prim_ch {p k : Nat} (hp : prim p) (h0 : 0 < k) (hk : k < p) : p ∣ ch p k := by
  obtain ⟨n, rfl⟩ : ∃ n, p = n + 1 := ⟨p - 1, by have := hp.1; omega⟩
  obtain ⟨j, rfl⟩ : ∃ j, k = j + 1 := ⟨k - 1, by omega⟩
  exact Nat.Coprime.dvd_of_dvd_mul_left (prim_coprime hp h0 hk) (by rw [ch_absorb]; exact Nat.dvd_mul_right _ _)

theorem fermat_step {p : Nat} (hp : prim p) (a : Nat) : (a + 1) ^ p % p = (a ^ p + 1) % p := by
  obtain ⟨n, rfl⟩ : ∃ n, p = n + 1 := ⟨p - 1, by have := hp.1; omega⟩
  have h : (n + 1) ∣ bs (fun k => ch (n + 1) (k + 1) * a ^ (k + 1)) n := bs_mod n fun k hk => Nat.dvd_trans (prim_ch hp (by omega) (by omega)) (Nat.dvd_mul_right _ _)
  obtain ⟨c, hc⟩ := h
  rw [binomial, bs, bs_left, hc, ch_zero, ch_self, Nat.pow_zero, Nat.one_mul, Nat.one_mul, show 1 + (n + 1) * c + a ^ (n + 1) = a ^ (n + 1) + 1 + (n + 1) * c by omega, Nat.add_mul_mod_self_left]

theorem fermat {p : Nat} (hp : prim p) : ∀ a : Nat, a ^ p % p = a % p
  | 0 => by rw [Nat.zero_pow (by have := hp.1; omega)]
  | a + 1 => by rw [fermat_step hp, Nat.add_mod, fermat hp a, ← Nat.add_mod]

theorem fermat_inv {p a : Nat} (hp : prim p) (h0 : 0 < a) (ha : a < p) : a * (a ^ (p - 2) % p) % p = 1 := by
  have h1 := hp.1
  have e : a * (a ^ (p - 2)) = a ^ (p - 1) := by rw [← Nat.pow_succ']; congr 1; omega
  rw [Nat.mul_mod_mod, e]
  have hpos : 1 ≤ a ^ (p - 1) := Nat.one_le_iff_ne_zero.2 (by have := Nat.pow_pos (n := p - 1) h0; omega)
  have hf := fermat hp a
  have h2 : p ∣ a * (a ^ (p - 1) - 1) := by
    rw [Nat.mul_sub, Nat.mul_one, ← Nat.pow_succ', show (p - 1).succ = p by omega]
    exact Nat.dvd_of_mod_eq_zero (Nat.sub_mod_eq_zero_of_mod_eq hf)
  have h3 : p ∣ a ^ (p - 1) - 1 := Nat.Coprime.dvd_of_dvd_mul_left (prim_coprime hp h0 ha) h2
  obtain ⟨c, hc⟩ := h3
  have : a ^ (p - 1) = 1 + p * c := by omega
  rw [this, Nat.add_mul_mod_self_left, Nat.mod_eq_of_lt h1]

theorem prim_of {n : Nat} (h1 : 1 < n) (h : ∀ d, 2 ≤ d → d * d ≤ n → n % d ≠ 0) : prim n := by
  refine ⟨h1, fun d hd => ?_⟩
  obtain ⟨e, he⟩ := hd
  rcases Nat.lt_trichotomy d 1 with hd1 | hd1 | hd1
  · have : d = 0 := by omega
    subst this; rw [Nat.zero_mul] at he; omega
  · exact .inl hd1
  · rcases Nat.lt_trichotomy e 1 with he1 | he1 | he1
    · have : e = 0 := by omega
      subst this; rw [Nat.mul_zero] at he; omega
    · subst he1; rw [Nat.mul_one] at he; exact .inr he.symm
    · exfalso
      rcases Nat.le_total d e with hde | hde
      · exact h d hd1 (by rw [he]; exact Nat.mul_le_mul_left d hde) (by rw [he, Nat.mul_mod_right])
      · exact h e he1 (by rw [he]; exact Nat.mul_le_mul_right e hde) (by rw [he, Nat.mul_mod_left])

theorem f76.spec (n : Nat) (hn : n < 65536) : ∃ b, f76.F 1000 (n : Int) = some b ∧ (b = true → prim n) := by
  obtain ⟨y, hy, h⟩ := iter_inv (stp := f76.s0 1000) (fun m x => ∃ t : Nat, x = ((n : Int), (t : Int)) ∧ 2 ≤ t ∧ t + m = 258 ∧ ∀ d, 2 ≤ d → d < t → n % d ≠ 0)
    (fun y => y = .inl ((n : Int), false) ∨ (y = .inr (n : Int) ∧ ∀ d, 2 ≤ d → d * d ≤ n → n % d ≠ 0)) (by
      intro m x ⟨t, hx, h2, hm, hd⟩
      subst hx
      have ht : t * t ≤ 258 * 258 := Nat.mul_le_mul (by omega) (by omega)
      have w1 : IntKind.wrap .u64 ((t : Int) * (t : Int)) = ((t * t : Nat) : Int) := by
        rw [show (t : Int) * (t : Int) = ((t * t : Nat) : Int) from (Int.natCast_mul t t).symm]; exact wrap_u _ (by omega) (by omega)
      have w2 : IntKind.wrap .u64 ((t : Int) + 1) = ((t + 1 : Nat) : Int) := by rw [wrap_u _ (by omega) (by omega)]; rfl
      simp only [f76.s0, f76.s0t, w1, w2]
      by_cases hs : t * t ≤ n
      · rw [decide_eq_true (show ((t * t : Nat) : Int) ≤ (n : Int) by omega), decide_eq_true (show (t : Int) ≠ 0 by omega)]
        simp only [cond_t, tmod_nat]
        by_cases hz : n % t = 0
        · left
          refine ⟨_, .inl rfl, fun rec => ?_⟩
          rw [hz]; rfl
        · right
          have hlt : t < 256 := by
            rcases Nat.lt_or_ge t 256 with h | h
            · exact h
            · have := Nat.mul_le_mul h h; omega
          refine ⟨_, m - 1, by omega, ⟨t + 1, rfl, by omega, by omega, fun d hd2 hd3 => ?_⟩, fun rec => ?_⟩
          · rcases Nat.lt_or_ge d t with h | h
            · exact hd d hd2 h
            · rw [show d = t by omega]; exact hz
          · rw [show (((n % t : Nat) : Int) == 0) = false from beq_eq_false_iff_ne.2 (by omega), cond_f]
      · left
        refine ⟨_, .inr ⟨rfl, fun d hd2 hd3 => ?_⟩, fun rec => by rw [decide_eq_false (by omega), cond_f]⟩
        rcases Nat.lt_or_ge d t with h | h
        · exact hd d hd2 h
        · have := Nat.mul_le_mul h h; omega)
    256 _ ⟨2, rfl, by decide, by decide, fun d h1 h2 => absurd h1 (by omega)⟩ 1000 (by decide)
  simp only [f76.F, f76.T]
  rw [show ((2 : Nat) : Int) = 2 from rfl] at h
  rw [h, bind_s]
  rcases hy with rfl | ⟨rfl, hy⟩
  · exact ⟨false, by rw [alt_l], fun h => by cases h⟩
  · refine ⟨decide ((n : Int) > 1), by rw [alt_r], fun h => prim_of (by have := of_decide_eq_true h; omega) hy⟩

theorem wf_u16 {z : Int} (h : (Lit.int .u16 z).wf = true) : ∃ n : Nat, n < 65536 ∧ z = (n : Int) := by
  simp [Lit.wf, IntKind.min, IntKind.max, IntKind.signed, IntKind.bits] at h
  exact ⟨z.toNat, by omega, by omega⟩

/-- ModsPrime. -/
theorem f21.holds (n : Int) (N : Nat) (hn : (Lit.int .u16 n).wf = true) (hN : N < 2 ^ 256) : f21.F 1000 (n, num N) = some true := by
  obtain ⟨p, hp, rfl⟩ := wf_u16 hn
  have w1 : IntKind.wrap .u64 (p : Int) = (p : Int) := wrap_u _ (by omega) (by omega)
  obtain ⟨b, hb, hpr⟩ := f76.spec p hp
  simp only [f21.F, f21.T, w1, hb, bind_s, f72.spec, f74.spec, f75.nat 1000 p (by omega)]
  cases b
  · rfl
  · have hpr := hpr rfl
    have h1 : 1 < p := hpr.1
    have h0 : 0 < p := by omega
    have hp2 : p < 2 ^ 256 := by omega
    have hq : p - 2 < 2 ^ 256 := by omega
    have w2 : IntKind.wrap .u64 ((p : Int) - 2) = ((p - 2 : Nat) : Int) := by rw [wrap_u _ (by omega) (by omega)]; omega
    rw [Bool.not_true, cond_f, f73.spec N p hN hp2 h0, bind_s, w2, f75.nat 1000 (p - 2) (by omega)]
    obtain ⟨a, ha⟩ : ∃ a, a = N % p := ⟨_, rfl⟩
    have la : a < p := by rw [ha]; exact Nat.mod_lt _ h0
    rw [← ha]
    have hf := fermat hpr a
    rw [Nat.mod_eq_of_lt la] at hf
    simp only [f64.good h1 la hp2 hp2, f64.good h1 la hq hp2, bind_s, hf, eqN a 0 (by omega) (by decide), Bool.and_true]
    by_cases hz : a = 0
    · subst hz
      have hgc : Nat.gcd 0 p ≠ 1 := by rw [Nat.gcd_zero_left]; omega
      rw [f65.without 0 p h0 h1 hp2 hgc]
      simp only [bind_s, decide_true, cond_t, eqL_num, beq_self_eq_true]
    · have hi := fermat_inv hpr (Nat.pos_of_ne_zero hz) la
      rw [f65.known a p _ la h1 hp2 (Nat.mod_lt _ h0) hi, decide_eq_false hz]
      simp only [bind_s, cond_f, cond_t, eqL_num, decide_true, beq_self_eq_true]

end Go.Proofs
