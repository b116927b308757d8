/- Plain laws: lemmas that hold with no condition but those that each states. -/
import Derived.Test.YtjkelipglcnpmaaPo
import Derived.Test.YtjkelipglcnpmaaPl
import Derived.Test.YtjkelipglcnpmaaFw
import Derived.Test.YtjkelipglcnpmaaFh
import Derived.Test.YtjkelipglcnpmaaFi
namespace Go.Proofs
open Go.VM
theorem low_be : ∀ n x : Nat, x < 18446744073709551616 → Rw.low n (x : Int) = be n x
  | 0, _, _ => rfl
  | n + 1, x, h => by
    have e : Rw.nxt (x : Int) = ((x / 256 : Nat) : Int) := by
      rw [Rw.nxt, show (256 : Int) = ((256 : Nat) : Int) from rfl, tdiv_nat, wrap_u _ (by omega) (by omega)]
    rw [Rw.low, e, low_be n (x / 256) (by omega), be, Rw.byt]
    rfl
theorem octets_pad {l : List Int} (h : octets l) (n : Nat) : octets (padT l n) := by
  intro x hx
  simp only [padT, List.mem_map, List.mem_range] at hx
  obtain ⟨i, _, rfl⟩ := hx
  rw [List.getD_eq_getElem?_getD]
  cases e : l[i]? with
  | none => simp
  | some y => exact h y (List.mem_of_getElem? e)
theorem octets_sub {l : List Int} (h : octets l) (i n : Nat) : octets (subI l i n) := by
  intro x hx
  simp only [subI, List.mem_map, List.mem_range] at hx
  obtain ⟨j, _, rfl⟩ := hx
  rw [List.getD_eq_getElem?_getD]
  cases e : l[i + j]? with
  | none => simp
  | some y => exact h y (List.mem_of_getElem? e)
theorem octets_spl {l m : List Int} (h : octets l) (h2 : octets m) (i n : Nat) : octets (spl l i n m) := by
  rw [spl]
  exact octets_append (octets_append (octets_pad h _) (octets_pad h2 _)) fun x hx => h x (List.mem_of_mem_drop hx)
theorem subI_length (l : List Int) (i n : Nat) : (subI l i n).length = n := by simp [subI]
theorem row_flat (e : Nat) : ∀ (xs : List Nat), (∀ x ∈ xs, x < 18446744073709551616) → (xs.map fun x : Nat => (x : Int)).flatMap (Rw.low e) = xs.flatMap (be e)
  | [], _ => rfl
  | x :: xs, h => by
    rw [List.map_cons, List.flatMap_cons, List.flatMap_cons, row_flat e xs fun y hy => h y (List.mem_cons_of_mem _ hy), low_be e x (h x List.mem_cons_self)]
theorem f136.spec (K a e m : Nat) (l : List Int) (xs : List Nat) (hl : l.length = a) (hm : xs.length = m) (hx : ∀ x ∈ xs, x < 18446744073709551616) (he : e ≤ 8) (ha : a + e * m ≤ 140737488355328) (hm2 : m ≤ 1000000000) :
    f136.F K (a, (e : Int), m, a, l, m, xs.map fun x : Nat => (x : Int)) = some (a + e * m, a + e * m, a, l, m, (xs.map fun x : Nat => (x : Int)), a + e * m, l ++ xs.flatMap (be e)) := by
  rw [f136.F]
  simp only [Int.toNat_natCast]
  rw [show Nat.beq a a = true from Nat.beq_refl a, show Nat.beq m m = true from Nat.beq_refl m, decide_eq_true (show (0 : Int) ≤ (e : Int) ∧ (e : Int) ≤ 8 by omega), ble_true ha, ble_true (show m * 8 ≤ 140737488351232 by omega),
    Bool.and_self, Bool.and_self, Bool.and_self, Bool.and_self, cond_t, padT_self l hl, padT_self _ (by simpa using hm), row_flat e xs hx]
theorem f144.spec (K a n x : Nat) (l : List Int) (hl : l.length = a) (hx : x < 18446744073709551616) (hn : n ≤ 8) (ha : a ≤ 1000000000) :
    f144.F K (a, (x : Int), (n : Int), a, l) = some (a + n, a + n, a, l, a + n, l ++ be n x) := by
  have e1 : maxE 0 (minE 8 (n : Int)) = (n : Int) := by
    unfold maxE minE
    rcases Nat.lt_or_ge n 8 with h | h
    · rw [decide_eq_true (show (n : Int) < 8 by omega), cond_t]
      rcases Nat.eq_zero_or_pos n with h0 | h0
      · subst h0; rfl
      · rw [decide_eq_true (show (n : Int) > 0 by omega), cond_t]
    · have : n = 8 := by omega
      subst this; rfl
  have e2 := f136.spec K a n 1 l [x] hl rfl (by simpa using hx) hn (by omega) (by omega)
  simp only [List.map_cons, List.map_nil, List.flatMap_cons, List.flatMap_nil, List.append_nil, Nat.mul_one] at e2
  simp only [f144.F, f144.T]
  rw [Nat.zero_add, ble_true (Nat.le_refl a), Bool.and_self, Bool.and_self, cond_t, e1, subI_self l hl, e2, bind_s]
theorem be_flat4 (A : Nat) (hA : A < 2 ^ 256) : [A / 2 ^ 192 % 2 ^ 64, A / 2 ^ 128 % 2 ^ 64, A / 2 ^ 64 % 2 ^ 64, A % 2 ^ 64].flatMap (be 8) = be 32 A := by
  have q : (256 : Nat) ^ 8 = 2 ^ 64 := by decide
  have h1 : be 32 A = be 24 (A / 2 ^ 64) ++ be 8 A := by rw [show (32 : Nat) = 24 + 8 from rfl, be_add, q]
  have h2 : be 24 (A / 2 ^ 64) = be 16 (A / 2 ^ 128) ++ be 8 (A / 2 ^ 64) := by rw [show (24 : Nat) = 16 + 8 from rfl, be_add, q, Nat.div_div_eq_div_mul, ← Nat.pow_add]
  have h3 : be 16 (A / 2 ^ 128) = be 8 (A / 2 ^ 192) ++ be 8 (A / 2 ^ 128) := by rw [show (16 : Nat) = 8 + 8 from rfl, be_add, q, Nat.div_div_eq_div_mul, ← Nat.pow_add]
  have m : ∀ y, be 8 (y % 2 ^ 64) = be 8 y := fun y => by rw [← q, be_mod]
  simp only [List.flatMap_cons, List.flatMap_nil, List.append_nil, m]
  rw [h1, h2, h3, List.append_assoc, List.append_assoc]
theorem f128.spec (K a A : Nat) (l : List Int) (hl : l.length = a) (hA : A < 2 ^ 256) (ha : a ≤ 1000000000) :
    f128.F K (a, num A, a, l) = some (a + 32, a + 32, a, l, a + 32, l ++ be 32 A) := by
  have e2 := f136.spec K a 8 4 l [A / 2 ^ 192 % 2 ^ 64, A / 2 ^ 128 % 2 ^ 64, A / 2 ^ 64 % 2 ^ 64, A % 2 ^ 64] hl rfl
    (by intro x hx; simp only [List.mem_cons, List.not_mem_nil, or_false] at hx; rcases hx with rfl | rfl | rfl | rfl <;> exact Nat.mod_lt _ (by decide)) (by omega) (by omega) (by omega)
  rw [be_flat4 A hA] at e2
  simp only [List.map_cons, List.map_nil] at e2
  simp only [f128.F, f128.T]
  rw [Nat.zero_add, ble_true (Nat.le_refl a), Bool.and_self, Bool.and_self, cond_t, subI_self l hl, getD_words (by decide : 3 < 4), getD_words (by decide : 2 < 4), getD_words (by decide : 1 < 4), getD_words (by decide : 0 < 4)]
  rw [show 64 * 3 = 192 from rfl, show 64 * 2 = 128 from rfl, show 64 * 1 = 64 from rfl, show 64 * 0 = 0 from rfl, Nat.pow_zero, Nat.div_one]
  rw [show ((8 : Int)) = ((8 : Nat) : Int) from rfl, e2, bind_s]
theorem take_snoc {l : List Int} {i : Nat} (h : i < l.length) : l.take (i + 1) = l.take i ++ [l.getD i 0] := by
  rw [List.take_add_one, List.getD_eq_getElem?_getD, List.getElem?_eq_getElem h]; rfl
theorem tv_zeros : ∀ n, tv (List.replicate n 0) = 0
  | 0 => rfl
  | n + 1 => by rw [List.replicate_succ', tv_snoc, tv_zeros n]; rfl
theorem octets_zeros (n : Nat) : octets (List.replicate n 0) := fun x hx => by rw [List.mem_replicate] at hx; omega
theorem f146.loop (K n : Nat) (l b : List Int) (hb : b.length = 8) (ho : octets b) (hK : 8 < K) : iter (f146.s0 K) K (0, 0, n, l, b) = some (((tv b : Nat) : Int), n, l) := by
  have := iter_for (stp := f146.s0 K) (N := 8) (fun i => (((tv (b.take i) : Nat) : Int), (i : Int), n, l, b)) (y := some (((tv b : Nat) : Int), n, l)) ?_ ?_ hK
  · exact this
  · intro i hi rec
    simp only [f146.s0, f146.s0t]
    have hg := ho (b.getD i 0) (by rw [List.getD_eq_getElem?_getD, List.getElem?_eq_getElem (by omega)]; exact List.getElem_mem _)
    have h1 : tv (b.take i) < 256 ^ i := tv_lt i _ (by simp; omega) fun x hx => ho x (List.mem_of_mem_take hx)
    have h2 : (256 : Nat) ^ i ≤ 256 ^ 7 := Nat.pow_le_pow_right (by decide) (by omega)
    have h3 : (256 : Nat) ^ 7 = 72057594037927936 := by decide
    have e5 : (256 : Int) * ((tv (b.take i) : Nat) : Int) = ((256 * tv (b.take i) : Nat) : Int) := by rw [Int.natCast_mul]; rfl
    rw [decide_eq_true (show (i : Int) < 8 by omega), cond_t, decide_eq_true (show (0 : Int) ≤ (i : Int) ∧ (i : Int) < 8 by omega), cond_t, Int.toNat_natCast, e5, wrap_u ((256 * tv (b.take i) : Nat) : Int) (by omega) (by omega), wrap_u (b.getD i 0) (by omega) (by omega), wrap_u (((256 * tv (b.take i) : Nat) : Int) + b.getD i 0) (by omega) (by omega), wrap_i _ (by omega) (by omega), take_snoc (by omega), tv_snoc]
    congr 2
    omega
  · intro rec
    simp only [f146.s0, f146.s0t]
    rw [List.take_of_length_le (by omega)]
    rfl
theorem f146.spec (K n m : Nat) (l : List Int) (hl : l.length = n) (ho : octets l) (hm : 1 ≤ m) (hm8 : m ≤ 8) (hn : m ≤ n) (hK : 8 < K) : f146.F K (n, (m : Int), n, l) = some (((tv (l.take m) : Nat) : Int), 0, n, l) := by
  simp only [f146.F, f146.T]
  have e : IntKind.wrap .i64 (8 - (m : Int)) = ((8 - m : Nat) : Int) := by rw [wrap_i _ (by omega) (by omega)]; omega
  have e6 : (bif Nat.beq 8 (8 - m) then 0 else 0 + (8 - m)) = 8 - m := by
    rw [show Nat.beq 8 (8 - m) = false from (by rw [← Bool.not_eq_true, Nat.beq_eq]; omega), cond_f, Nat.zero_add]
  have e7 : spl [0, 0, 0, 0, 0, 0, 0, 0] (8 - m) (Nat.min n (8 - (8 - m))) (subI l 0 n) = List.replicate (8 - m) 0 ++ l.take m := by
    have q : Nat.min n (8 - (8 - m)) = m := by show min n _ = m; omega
    rw [q, subI_self l hl, spl, List.drop_of_length_le (by simp; omega), List.append_nil]
    congr 1
    · refine List.ext_getElem? fun i => ?_
      by_cases hi : i < 8 - m
      · have : i < 8 := by omega
        rw [List.getElem?_replicate, if_pos hi]
        simp only [padT, List.getElem?_map, List.getElem?_range hi, Option.map_some]
        congr 1
        match i, this with
        | 0, _ | 1, _ | 2, _ | 3, _ | 4, _ | 5, _ | 6, _ | 7, _ => rfl
      · rw [List.getElem?_eq_none (by simpa [padT] using hi), List.getElem?_eq_none (by simpa using hi)]
    · refine List.ext_getElem? fun i => ?_
      rw [List.getElem?_take]
      by_cases hi : i < m
      · rw [if_pos hi]
        have : i < l.length := by omega
        simp [padT, hi, this]
      · rw [if_neg hi, List.getElem?_eq_none (by simpa [padT] using hi)]
  rw [decide_eq_false (show ¬ (m : Int) < 0 by omega), cond_f, decide_eq_false (show ¬ (m : Int) > 8 by omega), cond_f, decide_eq_false (show ¬ ((n : Nat) : Int) < (m : Int) by omega), cond_f, e, decide_eq_true (show (0 : Int) ≤ ((8 - m : Nat) : Int) ∧ ((8 - m : Nat) : Int) ≤ 8 by omega), cond_t]
  simp only [Int.toNat_natCast]
  rw [e6, e7, Nat.zero_add, ble_true (Nat.le_refl n), ble_true (show 8 - m + (8 - (8 - m)) ≤ 8 by omega), show Nat.beq n n = true from Nat.beq_refl n, Bool.and_self, Bool.and_self, cond_t,
    f146.loop K n l _ (by simp; omega) (octets_append (octets_zeros _) fun x hx => ho x (List.mem_of_mem_take hx)) hK, bind_s, tv_append, tv_zeros, Nat.zero_mul, Nat.zero_add]
theorem mid_of {X Y Z P Q : Nat} (h3 : Y < Q) (h4 : Z < P) : ((X * Q + Y) * P + Z) / P % Q = Y := by
  rw [Nat.mul_comm (X * Q + Y) P, Nat.mul_add_div (by omega), Nat.div_eq_of_lt h4, Nat.add_zero, Nat.mul_comm X Q, Nat.mul_add_mod, Nat.mod_eq_of_lt h3]
theorem f139.spec (K : Nat) (l : List Int) (hl : l.length = 32) (ho : octets l) (hK : 8 < K) : f139.F K (32, 32, l) = some (num (tv l), 0, 32, l) := by
  have hA := tv_lt 32 l hl ho
  simp only [f139.F, f139.T]
  have := iter_for (stp := f139.s0 K) (N := 4) (fun i => (32, 0, (i : Int), 32, l, vec 4 fun j => if j < i then tv l / 2 ^ (64 * j) % 2 ^ 64 else 0)) (y := some (.inr (0, 32, l, num (tv l)))) ?_ ?_ (show 4 < K by omega)
  · rw [show iter (f139.s0 K) K (32, 0, 0, 32, l, [0, 0, 0, 0]) = _ from this, bind_s, altr]
  · intro i hi rec
    simp only [f139.s0, f139.s0t]
    have e6 : IntKind.wrap .i64 (32 - (IntKind.wrap .i64 (8 * (IntKind.wrap .i64 ((i : Int) + 1))))) = ((32 - 8 * (i + 1) : Nat) : Int) := by
      rw [wrap_i ((i : Int) + 1) (by omega) (by omega), wrap_i (8 * ((i : Int) + 1)) (by omega) (by omega), wrap_i _ (by omega) (by omega)]; omega
    have e7 : IntKind.wrap .i64 (((32 - 8 * (i + 1) : Nat) : Int) + 8) = ((32 - 8 * i : Nat) : Int) := by rw [wrap_i _ (by omega) (by omega)]; omega
    have e9 : (32 - 8 * i) - (32 - 8 * (i + 1)) = 8 := by omega
    have ec : subI l (32 - 8 * (i + 1)) 8 = (l.drop (32 - 8 * (i + 1))).take 8 := subI_cut _ _ _ (by omega)
    have es := f146.spec K 8 8 (subI l (32 - 8 * (i + 1)) 8) (subI_length _ _ _) (octets_sub ho _ _) (by omega) (by omega) (by omega) hK
    rw [List.take_of_length_le (by rw [subI_length]; omega)] at es
    have ev : tv (subI l (32 - 8 * (i + 1)) 8) = tv l / 2 ^ (64 * i) % 2 ^ 64 := by
      have h1 : l = l.take (32 - 8 * (i + 1)) ++ ((l.drop (32 - 8 * (i + 1))).take 8 ++ l.drop (32 - 8 * i)) := by
        have : l.drop (32 - 8 * i) = (l.drop (32 - 8 * (i + 1))).drop 8 := by rw [List.drop_drop]; congr 1; omega
        rw [this, List.take_append_drop, List.take_append_drop]
      have h2 : tv l = (tv (l.take (32 - 8 * (i + 1))) * 256 ^ 8 + tv ((l.drop (32 - 8 * (i + 1))).take 8)) * 256 ^ (8 * i) + tv (l.drop (32 - 8 * i)) := by
        conv => lhs; rw [h1]
        rw [← List.append_assoc, tv_append, tv_append]
        have a1 : ((l.drop (32 - 8 * (i + 1))).take 8).length = 8 := by simp; omega
        have a2 : (l.drop (32 - 8 * i)).length = 8 * i := by simp; omega
        rw [a1, a2]
      have h3 : tv ((l.drop (32 - 8 * (i + 1))).take 8) < 256 ^ 8 := tv_lt 8 _ (by simp; omega) fun x hx => ho x (List.mem_of_mem_drop (List.mem_of_mem_take hx))
      have h4 : tv (l.drop (32 - 8 * i)) < 256 ^ (8 * i) := tv_lt _ _ (by simp; omega) fun x hx => ho x (List.mem_of_mem_drop hx)
      rw [ec, h2, show (2 : Nat) ^ (64 * i) = 256 ^ (8 * i) by rw [show (256 : Nat) = 2 ^ 8 from rfl, ← Nat.pow_mul]; congr 1; omega, show (2 : Nat) ^ 64 = 256 ^ 8 from rfl, mid_of h3 h4]
    rw [decide_eq_true (show (i : Int) < 4 by omega), cond_t, decide_eq_false (show ¬ ((32 : Nat) : Int) < 32 by omega), cond_f, e6, e7, decide_eq_true (show (0 : Int) ≤ ((32 - 8 * i : Nat) : Int) ∧ ((32 - 8 * i : Nat) : Int) ≤ ((32 : Nat) : Int) by omega)]
    simp only [Int.toNat_natCast]
    rw [decide_eq_true (show (0 : Int) ≤ ((32 - 8 * (i + 1) : Nat) : Int) ∧ ((32 - 8 * (i + 1) : Nat) : Int) ≤ ((32 - 8 * i : Nat) : Int) by omega), Bool.and_self, cond_t, e9, Nat.zero_add, ble_true (show 32 - 8 * (i + 1) + 8 ≤ 32 by omega), Bool.and_self, Bool.and_self, cond_t,
      show ((8 : Int)) = ((8 : Nat) : Int) from rfl, es, bind_s, decide_eq_true (show (0 : Int) ≤ (i : Int) ∧ (i : Int) < 4 by omega), cond_t, ev, setD_vec hi, wrap_i _ (by omega) (by omega)]
    congr 6
    refine vec_congr fun j hj => ?_
    by_cases h1 : j = i
    · subst h1; rw [if_pos rfl, if_pos (by omega)]
    · rw [if_neg h1]
      by_cases h2 : j < i
      · rw [if_pos h2, if_pos (by omega)]
      · rw [if_neg h2, if_neg (by omega)]
  · intro rec
    simp only [f139.s0, f139.s0t]
    rw [decide_eq_false (show ¬ ((4 : Nat) : Int) < 4 by omega), cond_f]
    congr 5
end Go.Proofs

namespace Go.Proofs
open Go.VM
def Sh.rot (x u v : Int) : Int := bits .or .u32 (shiftI .shl .u32 x u) (shiftI .shr .u32 x v)
def Sh.downs (x : Int) (L : List Nat) : Int := L.foldl (fun a k => bits .xor .u32 a (Sh.rot x ((32 - k : Nat) : Int) (k : Int))) 0
theorem Sh.turn : ∀ k : Fin 32, 1 ≤ k.val → bits .and .u64 (IntKind.wrap .u64 (IntKind.wrap .i64 (0 - (k.val : Int)))) 31 = ((32 - k.val : Nat) : Int) ∧ IntKind.wrap .u64 (32 - ((32 - k.val : Nat) : Int)) = (k.val : Int) := by decide +kernel
theorem f155.spec (K : Nat) (x : Int) (k : Nat) (h1 : 1 ≤ k) (h2 : k ≤ 31) : f155.F K (x, IntKind.wrap .i64 (0 - (k : Int))) = some (Sh.rot x ((32 - k : Nat) : Int) (k : Int)) := by
  obtain ⟨e1, e2⟩ := Sh.turn ⟨k, by omega⟩ h1
  simp only [f155.F, f155.T]
  simp only [] at e1 e2
  rw [e1, e2, decide_eq_true (show (0 : Int) ≤ ((32 - k : Nat) : Int) by omega), cond_t, decide_eq_true (show (0 : Int) ≤ (k : Int) by omega), cond_t, Sh.rot]
theorem f153.spec (K : Nat) (x : Int) (L : List Nat) (n : Nat) (hn : L.length = n) (h : ∀ k ∈ L, 1 ≤ k ∧ k ≤ 31) (hK : n < K) (hs : n < 1000000) :
    f153.F K (x, n, n, L.map fun k : Nat => (k : Int)) = some (Sh.downs x L, n, L.map fun k : Nat => (k : Int)) := by
  have := iter_for (stp := f153.s0 K) (N := n) (fun i => (x, Sh.downs x (L.take i), n, ((n : Nat) : Int), (i : Int), n, L.map fun k : Nat => (k : Int))) (y := some (Sh.downs x L, n, L.map fun k : Nat => (k : Int))) ?_ ?_ hK
  · simp only [f153.F, f153.T]
    rw [show iter (f153.s0 K) K (x, 0, n, ((n : Nat) : Int), 0, n, L.map fun k : Nat => (k : Int)) = _ from this, bind_s]
  · intro i hi rec
    simp only [f153.s0, f153.s0t]
    have hm : i < L.length := by omega
    have hg : List.getD (L.map fun k : Nat => (k : Int)) i 0 = ((L[i] : Nat) : Int) := by simp [List.getD_eq_getElem?_getD, hm]
    obtain ⟨h1, h2⟩ := h L[i] (List.getElem_mem hm)
    rw [decide_eq_true (show (i : Int) < ((n : Nat) : Int) by omega), cond_t, decide_eq_true (show (0 : Int) ≤ (i : Int) ∧ (i : Int) < ((n : Nat) : Int) by omega), cond_t, Int.toNat_natCast, Nat.zero_add, show Nat.blt i n = true from by simp [Nat.blt_eq]; omega, cond_t, hg, f155.spec K x _ h1 h2, bind_s, wrap_i _ (by omega) (by omega)]
    have e : L.take (i + 1) = L.take i ++ [L[i]] := by rw [List.take_add_one, List.getElem?_eq_getElem hm]; rfl
    rw [e, Sh.downs, Sh.downs, List.foldl_append]
    rfl
  · intro rec
    simp only [f153.s0, f153.s0t]
    rw [decide_eq_false (show ¬ ((n : Nat) : Int) < ((n : Nat) : Int) by omega), cond_f, List.take_of_length_le (by omega)]
def Sh.sched (w b : List Int) (t : Nat) : List Int :=
  if t < 16 then setD w (t % 16) (IntKind.wrap .u32 ((tv (subI b (4 * t) 4) : Nat) : Int))
  else
    let x := List.getD w ((t + 1) % 16) 0
    let y := List.getD w ((t + 14) % 16) 0
    let w1 := setD w (t % 16) (IntKind.wrap .u32 ((List.getD w (t % 16) 0) + (bits .xor .u32 (Sh.downs x [7, 18]) (Int.fdiv x (2 ^ 3)))))
    let w2 := setD w1 (t % 16) (IntKind.wrap .u32 ((List.getD w1 (t % 16) 0) + (bits .xor .u32 (Sh.downs y [17, 19]) (Int.fdiv y (2 ^ 10)))))
    setD w2 (t % 16) (IntKind.wrap .u32 ((List.getD w2 (t % 16) 0) + (List.getD w2 ((t + 9) % 16) 0)))
theorem f154.spec (K t : Nat) (w b s : List Int) (hd mn : Int) (ht : t < 64) (ho : octets b) (hK : 8 < K) :
    f154.F K (w, (t : Int), b, hd, mn, s) = some (List.getD (Sh.sched w b t) (t % 16) 0, Sh.sched w b t, ((t + 1 : Nat) : Int), b, hd, mn, s) := by
  simp only [f154.F, f154.T]
  have m0 : Int.tmod (t : Int) 16 = ((t % 16 : Nat) : Int) := tmod_nat t 16
  have m1 : ∀ k : Nat, k < 100 → Int.tmod (IntKind.wrap .i64 ((t : Int) + (k : Int))) 16 = (((t + k) % 16 : Nat) : Int) := fun k hk => by
    rw [wrap_i _ (by omega) (by omega), show ((t : Int) + (k : Int)) = ((t + k : Nat) : Int) by omega]; exact tmod_nat (t + k) 16
  have m2 : ∀ k : Nat, decide ((0 : Int) ≤ ((k % 16 : Nat) : Int) ∧ ((k % 16 : Nat) : Int) < 16) = true := fun k => decide_eq_true (by omega)
  have e1 : Int.tmod (IntKind.wrap .i64 ((t : Int) + 1)) 16 = (((t + 1) % 16 : Nat) : Int) := m1 1 (by omega)
  have e14 : Int.tmod (IntKind.wrap .i64 ((t : Int) + 14)) 16 = (((t + 14) % 16 : Nat) : Int) := m1 14 (by omega)
  have e9 : Int.tmod (IntKind.wrap .i64 ((t : Int) + 9)) 16 = (((t + 9) % 16 : Nat) : Int) := m1 9 (by omega)
  have et : IntKind.wrap .i64 ((t : Int) + 1) = ((t + 1 : Nat) : Int) := by rw [wrap_i _ (by omega) (by omega)]; omega
  rw [m0, m2, cond_t]
  rcases Nat.lt_or_ge t 16 with h | h
  · rw [decide_eq_true (show (t : Int) < 16 by omega), cond_t]
    have e4 : IntKind.wrap .i64 (4 * (t : Int)) = ((4 * t : Nat) : Int) := by rw [wrap_i _ (by omega) (by omega)]; omega
    have e6 : (bif Nat.beq 64 (4 * t) then 0 else 4 * t) = 4 * t := by
      rw [show Nat.beq 64 (4 * t) = false from (by rw [← Bool.not_eq_true, Nat.beq_eq]; omega), cond_f]
    have es := f146.spec K (64 - 4 * t) 4 (subI b (4 * t) (64 - 4 * t)) (subI_length _ _ _) (octets_sub ho _ _) (by omega) (by omega) (by omega) hK
    have ek : (subI b (4 * t) (64 - 4 * t)).take 4 = subI b (4 * t) 4 := by
      rw [subI, subI, ← List.map_take, List.take_range, Nat.min_eq_left (by omega)]
    rw [ek] at es
    rw [e4, decide_eq_true (show (0 : Int) ≤ ((4 * t : Nat) : Int) ∧ ((4 * t : Nat) : Int) ≤ 64 by omega), cond_t]
    simp only [Int.toNat_natCast]
    rw [e6, ble_true (show 4 * t + (64 - 4 * t) ≤ 64 by omega), ble_true (Nat.le_refl (64 - 4 * t)), Bool.and_self, Bool.and_self, cond_t, show ((4 : Int)) = ((4 : Nat) : Int) from rfl, es, bind_s, et]
    simp only [Sh.sched, if_pos h]
  · rw [decide_eq_false (show ¬ (t : Int) < 16 by omega), cond_f, e1, m2, cond_t, e14, m2, cond_t]
    simp only [Int.toNat_natCast]
    have d1 := f153.spec K (List.getD w ((t + 1) % 16) 0) [7, 18] 2 rfl (by decide) (by omega) (by omega)
    have d2 := f153.spec K (List.getD w ((t + 14) % 16) 0) [17, 19] 2 rfl (by decide) (by omega) (by omega)
    simp only [List.map_cons, List.map_nil] at d1 d2
    rw [show ((7 : Int)) = ((7 : Nat) : Int) from rfl, show ((18 : Int)) = ((18 : Nat) : Int) from rfl, d1, bind_s, show ((17 : Int)) = ((17 : Nat) : Int) from rfl, show ((19 : Int)) = ((19 : Nat) : Int) from rfl, d2, bind_s, e9, m2, cond_t, et]
    simp only [Sh.sched, if_neg (show ¬ t < 16 by omega), Int.toNat_natCast]
def Sh.consts : List Int := [1116352408, 1899447441, 3049323471, 3921009573, 961987163, 1508970993, 2453635748, 2870763221, 3624381080, 310598401, 607225278, 1426881987, 1925078388, 2162078206, 2614888103, 3248222580, 3835390401, 4022224774, 264347078, 604807628, 770255983, 1249150122, 1555081692, 1996064986, 2554220882, 2821834349, 2952996808, 3210313671, 3336571891, 3584528711, 113926993, 338241895, 666307205, 773529912, 1294757372, 1396182291, 1695183700, 1986661051, 2177026350, 2456956037, 2730485921, 2820302411, 3259730800, 3345764771, 3516065817, 3600352804, 4094571909, 275423344, 430227734, 506948616, 659060556, 883997877, 958139571, 1322822218, 1537002063, 1747873779, 1955562222, 2024104815, 2227730452, 2361852424, 2428436474, 2756734187, 3204031479, 3329325298]
def Sh.step (b : List Int) (t : Nat) (vw : List Int × List Int) : List Int × List Int :=
  let v := vw.1
  let w := Sh.sched vw.2 b t
  let t1 := IntKind.wrap .u32 ((IntKind.wrap .u32 ((IntKind.wrap .u32 ((IntKind.wrap .u32 ((List.getD v 7 0) + Sh.downs (List.getD v 4 0) [6, 11, 25])) + (bits .or .u32 (bits .and .u32 (List.getD v 4 0) (List.getD v 5 0)) (bits .and .u32 (bits .xor .u32 4294967295 (List.getD v 4 0)) (List.getD v 6 0))))) + (List.getD Sh.consts t 0))) + List.getD w (t % 16) 0)
  let v33 := spl v 1 7 (subI v 0 7)
  (setD (setD v33 4 (IntKind.wrap .u32 ((List.getD v33 4 0) + t1))) 0 (IntKind.wrap .u32 (t1 + (IntKind.wrap .u32 (Sh.downs (List.getD v 0 0) [2, 13, 22] + (bits .xor .u32 (bits .and .u32 (List.getD v 0 0) (bits .xor .u32 (List.getD v 1 0) (List.getD v 2 0))) (bits .and .u32 (List.getD v 1 0) (List.getD v 2 0))))))), w)
def Sh.rounds (s b : List Int) : Nat → List Int × List Int
  | 0 => (s, [0, 0, 0, 0, 0, 0, 0, 0, 0, 0, 0, 0, 0, 0, 0, 0])
  | t + 1 => Sh.step b t (Sh.rounds s b t)
def Sh.added (v s : List Int) : Nat → List Int
  | 0 => s
  | i + 1 => setD (Sh.added v s i) i (IntKind.wrap .u32 (List.getD (Sh.added v s i) i 0 + List.getD v i 0))
def Sh.comp (s b : List Int) : List Int := Sh.added s (Sh.rounds s b 64).1 8
theorem f148.rounds (K : Nat) (s b : List Int) (hd mn : Int) (ho : octets b) (hK : 64 < K) (z : List Int) :
    iter (f148.s0 K) K (Sh.consts, 0, b, hd, mn, s, s, z, s, [0, 0, 0, 0, 0, 0, 0, 0, 0, 0, 0, 0, 0, 0, 0, 0], 0) = some (b, hd, mn, s, s, z, (Sh.rounds s b 64).1) := by
  have := iter_for (stp := f148.s0 K) (N := 64) (fun i => (Sh.consts, (i : Int), b, hd, mn, s, s, z, (Sh.rounds s b i).1, (Sh.rounds s b i).2, (i : Int))) (y := some (b, hd, mn, s, s, z, (Sh.rounds s b 64).1)) ?_ ?_ hK
  · exact this
  · intro i hi rec
    simp only [f148.s0, f148.s0t]
    have d1 := f153.spec K (List.getD (Sh.rounds s b i).1 4 0) [6, 11, 25] 3 rfl (by decide) (by omega) (by omega)
    have d2 := f153.spec K (List.getD (Sh.rounds s b i).1 0 0) [2, 13, 22] 3 rfl (by decide) (by omega) (by omega)
    simp only [List.map_cons, List.map_nil] at d1 d2
    rw [decide_eq_true (show (i : Int) < 64 by omega), cond_t, decide_eq_true (show (0 : Int) ≤ (i : Int) ∧ (i : Int) < 64 by omega), cond_t]
    rw [show ((6 : Int)) = ((6 : Nat) : Int) from rfl, show ((11 : Int)) = ((11 : Nat) : Int) from rfl, show ((25 : Int)) = ((25 : Nat) : Int) from rfl, d1, bind_s, f154.spec K i _ b s hd mn hi ho (by omega), bind_s]
    rw [show ((2 : Int)) = ((2 : Nat) : Int) from rfl, show ((13 : Int)) = ((13 : Nat) : Int) from rfl, show ((22 : Int)) = ((22 : Nat) : Int) from rfl, d2, bind_s, wrap_i _ (by omega) (by omega)]
    rfl
  · intro rec
    simp only [f148.s0, f148.s0t]
    rfl
theorem f148.sums (K : Nat) (s v b : List Int) (hd mn : Int) (a1 a2 : List Int) (hK : 8 < K) :
    iter (f148.s2 K) K (v, 0, b, hd, mn, a1, a2, s) = some (b, hd, mn, a1, a2, Sh.added v s 8) := by
  have := iter_for (stp := f148.s2 K) (N := 8) (fun i => (v, (i : Int), b, hd, mn, a1, a2, Sh.added v s i)) (y := some (b, hd, mn, a1, a2, Sh.added v s 8)) ?_ ?_ hK
  · exact this
  · intro i hi rec
    simp only [f148.s2, f148.s2t]
    rw [decide_eq_true (show (i : Int) < 8 by omega), cond_t, decide_eq_true (show (0 : Int) ≤ (i : Int) ∧ (i : Int) < 8 by omega), cond_t, cond_t, cond_t, Int.toNat_natCast, wrap_i _ (by omega) (by omega)]
    rfl
  · intro rec
    simp only [f148.s2, f148.s2t]
    rfl
theorem f148.spec (K : Nat) (s b : List Int) (hd mn : Int) (ho : octets b) (hK : 64 < K) : f148.F K (s, b, hd, mn, s) = some (Sh.comp s b, b, hd, mn, s) := by
  simp only [f148.F, f148.T]
  rw [show f151.F K (b, hd, mn, s) = some (b, hd, mn, s, [0, 0, 0, 0, 0, 0, 0, 0, 0, 0, 0, 0, 0, 0, 0, 0], 0) from rfl, bind_s, show f152.F K () = some Sh.consts from rfl, bind_s]
  simp only []
  rw [f148.rounds K s b hd mn ho hK, bind_s]
  simp only []
  rw [f148.sums K _ s b hd mn s [0, 0, 0, 0, 0, 0, 0, 0] (by omega), bind_s]
  rfl
end Go.Proofs

namespace Go.Proofs
open Go.VM
def Sh.init : List Int := [1779033703, 3144134277, 1013904242, 2773480762, 1359893119, 2600822924, 528734635, 1541459225]
def Sh.chain (m : List Int) : Nat → List Int
  | 0 => Sh.init
  | n + 1 => Sh.comp (Sh.chain m n) ((m.drop (64 * n)).take 64)
theorem Sh.chain_append (m q : List Int) : ∀ n, 64 * n ≤ m.length → Sh.chain (m ++ q) n = Sh.chain m n
  | 0, _ => rfl
  | n + 1, h => by
    rw [Sh.chain, Sh.chain, Sh.chain_append m q n (by omega), List.drop_append_of_le_length (by omega), List.take_append_of_le_length (by simp; omega)]
structure Sh.Rep (m : List Int) (b : List Int) (h : Int) (s : List Int) : Prop where
  len : b.length = 64
  oct : octets b
  held : h = ((m.length % 64 : Nat) : Int)
  rest : b.take (m.length % 64) = m.drop (64 * (m.length / 64))
  st : s = Sh.chain m (m.length / 64)
theorem padT_take (l : List Int) (n : Nat) (h : n ≤ l.length) : padT l n = l.take n := by
  have := subI_cut l 0 n (by omega)
  rw [List.drop_zero] at this
  rw [← this]
  simp [padT, subI]
theorem Sh.Rep.block {m b s : List Int} {h : Int} (R : Sh.Rep m b h s) (q L : List Int) (k : Nat) (hk : q.length = k) (hL : L.take k = q) (hle : k ≤ L.length) (hr : m.length % 64 + k ≤ 64) :
    spl b (m.length % 64) k L = m.drop (64 * (m.length / 64)) ++ q ++ b.drop (m.length % 64 + k) := by
  rw [spl, padT_take b _ (by have := R.len; omega), padT_take L k hle, hL, R.rest]
theorem Sh.Rep.some {m b s : List Int} {h : Int} (R : Sh.Rep m b h s) (q L : List Int) (k : Nat) (hk : q.length = k) (ho : octets L) (hL : L.take k = q) (hle : k ≤ L.length) (hr : m.length % 64 + k < 64) :
    Sh.Rep (m ++ q) (spl b (m.length % 64) k L) (h + k) s := by
  have e := R.block q L k hk hL hle (by omega)
  have l1 : (m ++ q).length / 64 = m.length / 64 := by rw [List.length_append]; omega
  have l2 : (m ++ q).length % 64 = m.length % 64 + k := by rw [List.length_append]; omega
  have d : (m.drop (64 * (m.length / 64))).length = m.length % 64 := by rw [List.length_drop]; omega
  refine ⟨?_, octets_spl R.oct ho _ _, ?_, ?_, ?_⟩
  · have dd : (b.drop (m.length % 64 + k)).length = 64 - (m.length % 64 + k) := by rw [List.length_drop, R.len]
    rw [e, List.length_append, List.length_append, dd, d, hk]; omega
  · rw [R.held, l2]; omega
  · rw [l1, l2, e, List.take_append_of_le_length (by rw [List.length_append, d]; omega), List.take_of_length_le (by rw [List.length_append, d]; omega), List.drop_append_of_le_length (by omega)]
  · rw [l1, Sh.chain_append _ _ _ (by omega)]; exact R.st
theorem Sh.Rep.full {m b s : List Int} {h : Int} (R : Sh.Rep m b h s) (q L : List Int) (k : Nat) (hk : q.length = k) (ho : octets L) (hL : L.take k = q) (hle : k ≤ L.length) (hr : m.length % 64 + k = 64) :
    Sh.Rep (m ++ q) (spl b (m.length % 64) k L) 0 (Sh.comp s (spl b (m.length % 64) k L)) := by
  have e := R.block q L k hk hL hle (by omega)
  have l1 : (m ++ q).length / 64 = m.length / 64 + 1 := by rw [List.length_append]; omega
  have l2 : (m ++ q).length % 64 = 0 := by rw [List.length_append]; omega
  have d : (m.drop (64 * (m.length / 64))).length = m.length % 64 := by rw [List.length_drop]; omega
  have eb : b.drop (m.length % 64 + k) = [] := List.drop_of_length_le (by have := R.len; omega)
  rw [eb, List.append_nil] at e
  refine ⟨?_, octets_spl R.oct ho _ _, ?_, ?_, ?_⟩
  · rw [e, List.length_append, d]; omega
  · rw [l2]; rfl
  · rw [l1, l2, List.take_zero, List.drop_of_length_le (by rw [List.length_append]; omega)]
  · rw [l1, Sh.chain, Sh.chain_append _ _ _ (by omega), ← R.st, List.drop_append_of_le_length (by omega), e, List.take_of_length_le (by rw [List.length_append, d]; omega)]
theorem sub_take (p : List Int) (off rem k : Nat) (h : off + rem = p.length) (hk : k ≤ rem) : p.take (off + k) = p.take off ++ (subI p off rem).take k := by
  rw [subI_cut p off rem (by omega), List.take_take, Nat.min_eq_left hk, List.take_add]
theorem tot_add (m n : Nat) : IntKind.wrap .u64 (((m % 18446744073709551616 : Nat) : Int) + (IntKind.wrap .u64 ((n : Nat) : Int))) = (((m + n) % 18446744073709551616 : Nat) : Int) := by
  rw [wrap_nat, show ∀ a b : Nat, ((a : Int) + (b : Int)) = ((a + b : Nat) : Int) from fun a b => rfl, wrap_nat]
  congr 1
  omega
theorem f142.s2_ok (K : Nat) (m : List Int) (mn : Int) (k0 : Nat) (k1 : Nat) (n0 : Nat) (l0 : List Int) (n1 : Nat) (l1 : List Int) (hl : l0.length = n0) (ho : octets l0) (hn : n0 ≤ 1000000000000) (hK : 64 < K) (b s : List Int) (h : Int) (R : Sh.Rep m b h s) (hK2 : 2 * ((m.length % 64 + n0) / 64) + 1 < K) :
    ∃ b' h' s', iter (f142.s2 K) K (0, n0, b, h, mn, k0, k1, n0, l0, n1, l1, s) = some (b', h', mn, k0, k1, n0, l0, n1, l1, s') ∧ Sh.Rep (m ++ l0) b' h' s' := by
  refine Exists.elim (iter_inv (stp := f142.s2 K)
    (fun n x => ∃ off rem b h s, x = (off, rem, b, h, mn, k0, k1, n0, l0, n1, l1, s) ∧ off + rem = l0.length ∧ Sh.Rep (m ++ l0.take off) b h s ∧ 2 * (((m ++ l0.take off).length % 64 + rem) / 64) + (if rem = 0 then 0 else 1) = n)
    (fun y => ∃ b' h' s', y = (b', h', mn, k0, k1, n0, l0, n1, l1, s') ∧ Sh.Rep (m ++ l0) b' h' s') ?_ (2 * ((m.length % 64 + n0) / 64) + (if n0 = 0 then 0 else 1)) (0, n0, b, h, mn, k0, k1, n0, l0, n1, l1, s)
    ⟨0, n0, b, h, s, rfl, by omega, by rw [List.take_zero, List.append_nil]; exact R, by rw [List.take_zero, List.append_nil]⟩ K (by split <;> omega)) ?_
  · intro n x hx
    obtain ⟨off, rem, b, h, s, rfl, hsum, R, hm⟩ := hx
    rcases Nat.eq_zero_or_pos rem with h0 | h0
    · subst h0
      refine Or.inl ⟨_, ⟨b, h, s, rfl, ?_⟩, fun rec => ?_⟩
      · rw [List.take_of_length_le (by omega)] at R; exact R
      · simp only [f142.s2, f142.s2t]
        rw [decide_eq_false (show ¬ (((0 : Nat) : Int) > 0) by omega), cond_f]
    · refine Or.inr ?_
      generalize hM : m ++ l0.take off = M at R hm
      have hd := R.held
      have hr : M.length % 64 < 64 := Nat.mod_lt _ (by decide)
      generalize hk : min rem (64 - M.length % 64) = k
      have hk1 : k ≤ rem := by omega
      have es : M ++ (subI l0 off rem).take k = m ++ l0.take (off + k) := by rw [sub_take l0 off rem k hsum hk1, ← List.append_assoc, hM]
      have hq : ((subI l0 off rem).take k).length = k := by rw [List.length_take, subI_length]; omega
      have e6 : (bif Nat.beq 64 (M.length % 64) then 0 else (M.length % 64)) = M.length % 64 := by
        rw [show Nat.beq 64 (M.length % 64) = false from (by rw [← Bool.not_eq_true, Nat.beq_eq]; omega), cond_f]
      have e9 : Nat.min rem (64 - M.length % 64) = k := hk
      have ew : IntKind.wrap .i64 (((M.length % 64 : Nat) : Int) + (k : Int)) = ((M.length % 64 + k : Nat) : Int) := by rw [wrap_i _ (by omega) (by omega)]; omega
      have hob := octets_spl R.oct (octets_sub ho off rem) (M.length % 64) k
      rcases Nat.lt_or_ge (M.length % 64 + k) 64 with hc | hc
      · have R' := R.some _ (subI l0 off rem) k hq (octets_sub ho off rem) rfl (by rw [subI_length]; exact hk1) hc
        rw [es, hd, show ((M.length % 64 : Nat) : Int) + (k : Int) = ((M.length % 64 + k : Nat) : Int) from by omega] at R'
        refine ⟨(off + k, rem - k, spl b (M.length % 64) k (subI l0 off rem), ((M.length % 64 + k : Nat) : Int), mn, k0, k1, n0, l0, n1, l1, s), _, ?_, ⟨off + k, rem - k, _, _, s, rfl, by omega, R', rfl⟩, fun rec => ?_⟩
        · rw [← es, List.length_append, hq, ← hm]
          rw [if_neg (show rem ≠ 0 by omega), if_pos (show rem - k = 0 by omega)]
          have : (M.length + k) % 64 + (rem - k) = M.length % 64 + rem := by omega
          rw [this]; omega
        · simp only [f142.s2, f142.s2t]
          rw [decide_eq_true (show (((rem : Nat) : Int) > 0) by omega), cond_t, hd, decide_eq_true (show (0 : Int) ≤ ((M.length % 64 : Nat) : Int) ∧ ((M.length % 64 : Nat) : Int) ≤ 64 by omega), cond_t]
          simp only [Int.toNat_natCast]
          simp only [e6, e9]
          rw [ble_true (show off + rem ≤ n0 by omega), ble_true (show M.length % 64 + (64 - M.length % 64) ≤ 64 by omega), show Nat.beq rem rem = true from Nat.beq_refl rem, Bool.and_self, Bool.and_self, Bool.and_self, cond_t,
            decide_eq_true (show (0 : Int) ≤ ((k : Nat) : Int) ∧ ((k : Nat) : Int) ≤ ((rem : Nat) : Int) by omega), cond_t, ew, show ((((M.length % 64 + k : Nat) : Int)) == 64) = false from beq_eq_false_iff_ne.2 (by omega), cond_f]
      · have hc' : M.length % 64 + k = 64 := by omega
        have R' := R.full _ (subI l0 off rem) k hq (octets_sub ho off rem) rfl (by rw [subI_length]; exact hk1) hc'
        rw [es] at R'
        refine ⟨(off + k, rem - k, spl b (M.length % 64) k (subI l0 off rem), 0, mn, k0, k1, n0, l0, n1, l1, Sh.comp s (spl b (M.length % 64) k (subI l0 off rem))), _, ?_, ⟨off + k, rem - k, _, _, _, rfl, by omega, R', rfl⟩, fun rec => ?_⟩
        · rw [← es, List.length_append, hq, ← hm]
          rw [if_neg (show rem ≠ 0 by omega)]
          split <;> omega
        · simp only [f142.s2, f142.s2t]
          rw [decide_eq_true (show (((rem : Nat) : Int) > 0) by omega), cond_t, hd, decide_eq_true (show (0 : Int) ≤ ((M.length % 64 : Nat) : Int) ∧ ((M.length % 64 : Nat) : Int) ≤ 64 by omega), cond_t]
          simp only [Int.toNat_natCast]
          simp only [e6, e9]
          rw [ble_true (show off + rem ≤ n0 by omega), ble_true (show M.length % 64 + (64 - M.length % 64) ≤ 64 by omega), show Nat.beq rem rem = true from Nat.beq_refl rem, Bool.and_self, Bool.and_self, Bool.and_self, cond_t,
            decide_eq_true (show (0 : Int) ≤ ((k : Nat) : Int) ∧ ((k : Nat) : Int) ≤ ((rem : Nat) : Int) by omega), cond_t, ew, show ((((M.length % 64 + k : Nat) : Int)) == 64) = true from beq_iff_eq.2 (by omega), cond_t, f148.spec K s _ _ mn hob hK, bind_s]
  · rintro y ⟨⟨b', h', s', rfl, hR⟩, hy⟩
    exact ⟨b', h', s', hy, hR⟩
theorem f142.s2b_ok (K : Nat) (m : List Int) (mn : Int) (k0 : Nat) (k1 : Nat) (n0 : Nat) (l0 : List Int) (n1 : Nat) (l1 : List Int) (hl : l1.length = n1) (ho : octets l1) (hn : n1 ≤ 1000000000000) (hK : 64 < K) (b s : List Int) (h : Int) (R : Sh.Rep m b h s) (hK2 : 2 * ((m.length % 64 + n1) / 64) + 1 < K) :
    ∃ b' h' s', iter (f142.s2b K) K (0, n1, b, h, mn, k0, k1, n0, l0, n1, l1, s) = some (b', h', mn, k0, k1, n0, l0, n1, l1, s') ∧ Sh.Rep (m ++ l1) b' h' s' := by
  refine Exists.elim (iter_inv (stp := f142.s2b K)
    (fun n x => ∃ off rem b h s, x = (off, rem, b, h, mn, k0, k1, n0, l0, n1, l1, s) ∧ off + rem = l1.length ∧ Sh.Rep (m ++ l1.take off) b h s ∧ 2 * (((m ++ l1.take off).length % 64 + rem) / 64) + (if rem = 0 then 0 else 1) = n)
    (fun y => ∃ b' h' s', y = (b', h', mn, k0, k1, n0, l0, n1, l1, s') ∧ Sh.Rep (m ++ l1) b' h' s') ?_ (2 * ((m.length % 64 + n1) / 64) + (if n1 = 0 then 0 else 1)) (0, n1, b, h, mn, k0, k1, n0, l0, n1, l1, s)
    ⟨0, n1, b, h, s, rfl, by omega, by rw [List.take_zero, List.append_nil]; exact R, by rw [List.take_zero, List.append_nil]⟩ K (by split <;> omega)) ?_
  · intro n x hx
    obtain ⟨off, rem, b, h, s, rfl, hsum, R, hm⟩ := hx
    rcases Nat.eq_zero_or_pos rem with h0 | h0
    · subst h0
      refine Or.inl ⟨_, ⟨b, h, s, rfl, ?_⟩, fun rec => ?_⟩
      · rw [List.take_of_length_le (by omega)] at R; exact R
      · simp only [f142.s2b, f142.s2bt]
        rw [decide_eq_false (show ¬ (((0 : Nat) : Int) > 0) by omega), cond_f]
    · refine Or.inr ?_
      generalize hM : m ++ l1.take off = M at R hm
      have hd := R.held
      have hr : M.length % 64 < 64 := Nat.mod_lt _ (by decide)
      generalize hk : min rem (64 - M.length % 64) = k
      have hk1 : k ≤ rem := by omega
      have es : M ++ (subI l1 off rem).take k = m ++ l1.take (off + k) := by rw [sub_take l1 off rem k hsum hk1, ← List.append_assoc, hM]
      have hq : ((subI l1 off rem).take k).length = k := by rw [List.length_take, subI_length]; omega
      have e6 : (bif Nat.beq 64 (M.length % 64) then 0 else (M.length % 64)) = M.length % 64 := by
        rw [show Nat.beq 64 (M.length % 64) = false from (by rw [← Bool.not_eq_true, Nat.beq_eq]; omega), cond_f]
      have e9 : Nat.min rem (64 - M.length % 64) = k := hk
      have ew : IntKind.wrap .i64 (((M.length % 64 : Nat) : Int) + (k : Int)) = ((M.length % 64 + k : Nat) : Int) := by rw [wrap_i _ (by omega) (by omega)]; omega
      have hob := octets_spl R.oct (octets_sub ho off rem) (M.length % 64) k
      rcases Nat.lt_or_ge (M.length % 64 + k) 64 with hc | hc
      · have R' := R.some _ (subI l1 off rem) k hq (octets_sub ho off rem) rfl (by rw [subI_length]; exact hk1) hc
        rw [es, hd, show ((M.length % 64 : Nat) : Int) + (k : Int) = ((M.length % 64 + k : Nat) : Int) from by omega] at R'
        refine ⟨(off + k, rem - k, spl b (M.length % 64) k (subI l1 off rem), ((M.length % 64 + k : Nat) : Int), mn, k0, k1, n0, l0, n1, l1, s), _, ?_, ⟨off + k, rem - k, _, _, s, rfl, by omega, R', rfl⟩, fun rec => ?_⟩
        · rw [← es, List.length_append, hq, ← hm]
          rw [if_neg (show rem ≠ 0 by omega), if_pos (show rem - k = 0 by omega)]
          have : (M.length + k) % 64 + (rem - k) = M.length % 64 + rem := by omega
          rw [this]; omega
        · simp only [f142.s2b, f142.s2bt]
          rw [decide_eq_true (show (((rem : Nat) : Int) > 0) by omega), cond_t, hd, decide_eq_true (show (0 : Int) ≤ ((M.length % 64 : Nat) : Int) ∧ ((M.length % 64 : Nat) : Int) ≤ 64 by omega), cond_t]
          simp only [Int.toNat_natCast]
          simp only [e6, e9]
          rw [ble_true (show off + rem ≤ n1 by omega), ble_true (show M.length % 64 + (64 - M.length % 64) ≤ 64 by omega), show Nat.beq rem rem = true from Nat.beq_refl rem, Bool.and_self, Bool.and_self, Bool.and_self, cond_t,
            decide_eq_true (show (0 : Int) ≤ ((k : Nat) : Int) ∧ ((k : Nat) : Int) ≤ ((rem : Nat) : Int) by omega), cond_t, ew, show ((((M.length % 64 + k : Nat) : Int)) == 64) = false from beq_eq_false_iff_ne.2 (by omega), cond_f]
      · have hc' : M.length % 64 + k = 64 := by omega
        have R' := R.full _ (subI l1 off rem) k hq (octets_sub ho off rem) rfl (by rw [subI_length]; exact hk1) hc'
        rw [es] at R'
        refine ⟨(off + k, rem - k, spl b (M.length % 64) k (subI l1 off rem), 0, mn, k0, k1, n0, l0, n1, l1, Sh.comp s (spl b (M.length % 64) k (subI l1 off rem))), _, ?_, ⟨off + k, rem - k, _, _, _, rfl, by omega, R', rfl⟩, fun rec => ?_⟩
        · rw [← es, List.length_append, hq, ← hm]
          rw [if_neg (show rem ≠ 0 by omega)]
          split <;> omega
        · simp only [f142.s2b, f142.s2bt]
          rw [decide_eq_true (show (((rem : Nat) : Int) > 0) by omega), cond_t, hd, decide_eq_true (show (0 : Int) ≤ ((M.length % 64 : Nat) : Int) ∧ ((M.length % 64 : Nat) : Int) ≤ 64 by omega), cond_t]
          simp only [Int.toNat_natCast]
          simp only [e6, e9]
          rw [ble_true (show off + rem ≤ n1 by omega), ble_true (show M.length % 64 + (64 - M.length % 64) ≤ 64 by omega), show Nat.beq rem rem = true from Nat.beq_refl rem, Bool.and_self, Bool.and_self, Bool.and_self, cond_t,
            decide_eq_true (show (0 : Int) ≤ ((k : Nat) : Int) ∧ ((k : Nat) : Int) ≤ ((rem : Nat) : Int) by omega), cond_t, ew, show ((((M.length % 64 + k : Nat) : Int)) == 64) = true from beq_iff_eq.2 (by omega), cond_t, f148.spec K s _ _ mn hob hK, bind_s]
  · rintro y ⟨⟨b', h', s', rfl, hR⟩, hy⟩
    exact ⟨b', h', s', hy, hR⟩
theorem f142v1.s2_ok (K : Nat) (m : List Int) (mn : Int) (k0 : Nat) (n0 : Nat) (l0 : List Int) (hl : l0.length = n0) (ho : octets l0) (hn : n0 ≤ 1000000000000) (hK : 64 < K) (b s : List Int) (h : Int) (R : Sh.Rep m b h s) (hK2 : 2 * ((m.length % 64 + n0) / 64) + 1 < K) :
    ∃ b' h' s', iter (f142v1.s2 K) K (0, n0, b, h, mn, k0, n0, l0, s) = some (b', h', mn, k0, n0, l0, s') ∧ Sh.Rep (m ++ l0) b' h' s' := by
  refine Exists.elim (iter_inv (stp := f142v1.s2 K)
    (fun n x => ∃ off rem b h s, x = (off, rem, b, h, mn, k0, n0, l0, s) ∧ off + rem = l0.length ∧ Sh.Rep (m ++ l0.take off) b h s ∧ 2 * (((m ++ l0.take off).length % 64 + rem) / 64) + (if rem = 0 then 0 else 1) = n)
    (fun y => ∃ b' h' s', y = (b', h', mn, k0, n0, l0, s') ∧ Sh.Rep (m ++ l0) b' h' s') ?_ (2 * ((m.length % 64 + n0) / 64) + (if n0 = 0 then 0 else 1)) (0, n0, b, h, mn, k0, n0, l0, s)
    ⟨0, n0, b, h, s, rfl, by omega, by rw [List.take_zero, List.append_nil]; exact R, by rw [List.take_zero, List.append_nil]⟩ K (by split <;> omega)) ?_
  · intro n x hx
    obtain ⟨off, rem, b, h, s, rfl, hsum, R, hm⟩ := hx
    rcases Nat.eq_zero_or_pos rem with h0 | h0
    · subst h0
      refine Or.inl ⟨_, ⟨b, h, s, rfl, ?_⟩, fun rec => ?_⟩
      · rw [List.take_of_length_le (by omega)] at R; exact R
      · simp only [f142v1.s2, f142v1.s2t]
        rw [decide_eq_false (show ¬ (((0 : Nat) : Int) > 0) by omega), cond_f]
    · refine Or.inr ?_
      generalize hM : m ++ l0.take off = M at R hm
      have hd := R.held
      have hr : M.length % 64 < 64 := Nat.mod_lt _ (by decide)
      generalize hk : min rem (64 - M.length % 64) = k
      have hk1 : k ≤ rem := by omega
      have es : M ++ (subI l0 off rem).take k = m ++ l0.take (off + k) := by rw [sub_take l0 off rem k hsum hk1, ← List.append_assoc, hM]
      have hq : ((subI l0 off rem).take k).length = k := by rw [List.length_take, subI_length]; omega
      have e6 : (bif Nat.beq 64 (M.length % 64) then 0 else (M.length % 64)) = M.length % 64 := by
        rw [show Nat.beq 64 (M.length % 64) = false from (by rw [← Bool.not_eq_true, Nat.beq_eq]; omega), cond_f]
      have e9 : Nat.min rem (64 - M.length % 64) = k := hk
      have ew : IntKind.wrap .i64 (((M.length % 64 : Nat) : Int) + (k : Int)) = ((M.length % 64 + k : Nat) : Int) := by rw [wrap_i _ (by omega) (by omega)]; omega
      have hob := octets_spl R.oct (octets_sub ho off rem) (M.length % 64) k
      rcases Nat.lt_or_ge (M.length % 64 + k) 64 with hc | hc
      · have R' := R.some _ (subI l0 off rem) k hq (octets_sub ho off rem) rfl (by rw [subI_length]; exact hk1) hc
        rw [es, hd, show ((M.length % 64 : Nat) : Int) + (k : Int) = ((M.length % 64 + k : Nat) : Int) from by omega] at R'
        refine ⟨(off + k, rem - k, spl b (M.length % 64) k (subI l0 off rem), ((M.length % 64 + k : Nat) : Int), mn, k0, n0, l0, s), _, ?_, ⟨off + k, rem - k, _, _, s, rfl, by omega, R', rfl⟩, fun rec => ?_⟩
        · rw [← es, List.length_append, hq, ← hm]
          rw [if_neg (show rem ≠ 0 by omega), if_pos (show rem - k = 0 by omega)]
          have : (M.length + k) % 64 + (rem - k) = M.length % 64 + rem := by omega
          rw [this]; omega
        · simp only [f142v1.s2, f142v1.s2t]
          rw [decide_eq_true (show (((rem : Nat) : Int) > 0) by omega), cond_t, hd, decide_eq_true (show (0 : Int) ≤ ((M.length % 64 : Nat) : Int) ∧ ((M.length % 64 : Nat) : Int) ≤ 64 by omega), cond_t]
          simp only [Int.toNat_natCast]
          simp only [e6, e9]
          rw [ble_true (show off + rem ≤ n0 by omega), ble_true (show M.length % 64 + (64 - M.length % 64) ≤ 64 by omega), show Nat.beq rem rem = true from Nat.beq_refl rem, Bool.and_self, Bool.and_self, Bool.and_self, cond_t,
            decide_eq_true (show (0 : Int) ≤ ((k : Nat) : Int) ∧ ((k : Nat) : Int) ≤ ((rem : Nat) : Int) by omega), cond_t, ew, show ((((M.length % 64 + k : Nat) : Int)) == 64) = false from beq_eq_false_iff_ne.2 (by omega), cond_f]
      · have hc' : M.length % 64 + k = 64 := by omega
        have R' := R.full _ (subI l0 off rem) k hq (octets_sub ho off rem) rfl (by rw [subI_length]; exact hk1) hc'
        rw [es] at R'
        refine ⟨(off + k, rem - k, spl b (M.length % 64) k (subI l0 off rem), 0, mn, k0, n0, l0, Sh.comp s (spl b (M.length % 64) k (subI l0 off rem))), _, ?_, ⟨off + k, rem - k, _, _, _, rfl, by omega, R', rfl⟩, fun rec => ?_⟩
        · rw [← es, List.length_append, hq, ← hm]
          rw [if_neg (show rem ≠ 0 by omega)]
          split <;> omega
        · simp only [f142v1.s2, f142v1.s2t]
          rw [decide_eq_true (show (((rem : Nat) : Int) > 0) by omega), cond_t, hd, decide_eq_true (show (0 : Int) ≤ ((M.length % 64 : Nat) : Int) ∧ ((M.length % 64 : Nat) : Int) ≤ 64 by omega), cond_t]
          simp only [Int.toNat_natCast]
          simp only [e6, e9]
          rw [ble_true (show off + rem ≤ n0 by omega), ble_true (show M.length % 64 + (64 - M.length % 64) ≤ 64 by omega), show Nat.beq rem rem = true from Nat.beq_refl rem, Bool.and_self, Bool.and_self, Bool.and_self, cond_t,
            decide_eq_true (show (0 : Int) ≤ ((k : Nat) : Int) ∧ ((k : Nat) : Int) ≤ ((rem : Nat) : Int) by omega), cond_t, ew, show ((((M.length % 64 + k : Nat) : Int)) == 64) = true from beq_iff_eq.2 (by omega), cond_t, f148.spec K s _ _ mn hob hK, bind_s]
  · rintro y ⟨⟨b', h', s', rfl, hR⟩, hy⟩
    exact ⟨b', h', s', hy, hR⟩
theorem f142v2.s2_ok (K : Nat) (m : List Int) (mn : Int) (k0 : Nat) (k1 : Nat) (k2 : Nat) (n0 : Nat) (l0 : List Int) (n1 : Nat) (l1 : List Int) (n2 : Nat) (l2 : List Int) (hl : l0.length = n0) (ho : octets l0) (hn : n0 ≤ 1000000000000) (hK : 64 < K) (b s : List Int) (h : Int) (R : Sh.Rep m b h s) (hK2 : 2 * ((m.length % 64 + n0) / 64) + 1 < K) :
    ∃ b' h' s', iter (f142v2.s2 K) K (0, n0, b, h, mn, k0, k1, k2, n0, l0, n1, l1, n2, l2, s) = some (b', h', mn, k0, k1, k2, n0, l0, n1, l1, n2, l2, s') ∧ Sh.Rep (m ++ l0) b' h' s' := by
  refine Exists.elim (iter_inv (stp := f142v2.s2 K)
    (fun n x => ∃ off rem b h s, x = (off, rem, b, h, mn, k0, k1, k2, n0, l0, n1, l1, n2, l2, s) ∧ off + rem = l0.length ∧ Sh.Rep (m ++ l0.take off) b h s ∧ 2 * (((m ++ l0.take off).length % 64 + rem) / 64) + (if rem = 0 then 0 else 1) = n)
    (fun y => ∃ b' h' s', y = (b', h', mn, k0, k1, k2, n0, l0, n1, l1, n2, l2, s') ∧ Sh.Rep (m ++ l0) b' h' s') ?_ (2 * ((m.length % 64 + n0) / 64) + (if n0 = 0 then 0 else 1)) (0, n0, b, h, mn, k0, k1, k2, n0, l0, n1, l1, n2, l2, s)
    ⟨0, n0, b, h, s, rfl, by omega, by rw [List.take_zero, List.append_nil]; exact R, by rw [List.take_zero, List.append_nil]⟩ K (by split <;> omega)) ?_
  · intro n x hx
    obtain ⟨off, rem, b, h, s, rfl, hsum, R, hm⟩ := hx
    rcases Nat.eq_zero_or_pos rem with h0 | h0
    · subst h0
      refine Or.inl ⟨_, ⟨b, h, s, rfl, ?_⟩, fun rec => ?_⟩
      · rw [List.take_of_length_le (by omega)] at R; exact R
      · simp only [f142v2.s2, f142v2.s2t]
        rw [decide_eq_false (show ¬ (((0 : Nat) : Int) > 0) by omega), cond_f]
    · refine Or.inr ?_
      generalize hM : m ++ l0.take off = M at R hm
      have hd := R.held
      have hr : M.length % 64 < 64 := Nat.mod_lt _ (by decide)
      generalize hk : min rem (64 - M.length % 64) = k
      have hk1 : k ≤ rem := by omega
      have es : M ++ (subI l0 off rem).take k = m ++ l0.take (off + k) := by rw [sub_take l0 off rem k hsum hk1, ← List.append_assoc, hM]
      have hq : ((subI l0 off rem).take k).length = k := by rw [List.length_take, subI_length]; omega
      have e6 : (bif Nat.beq 64 (M.length % 64) then 0 else (M.length % 64)) = M.length % 64 := by
        rw [show Nat.beq 64 (M.length % 64) = false from (by rw [← Bool.not_eq_true, Nat.beq_eq]; omega), cond_f]
      have e9 : Nat.min rem (64 - M.length % 64) = k := hk
      have ew : IntKind.wrap .i64 (((M.length % 64 : Nat) : Int) + (k : Int)) = ((M.length % 64 + k : Nat) : Int) := by rw [wrap_i _ (by omega) (by omega)]; omega
      have hob := octets_spl R.oct (octets_sub ho off rem) (M.length % 64) k
      rcases Nat.lt_or_ge (M.length % 64 + k) 64 with hc | hc
      · have R' := R.some _ (subI l0 off rem) k hq (octets_sub ho off rem) rfl (by rw [subI_length]; exact hk1) hc
        rw [es, hd, show ((M.length % 64 : Nat) : Int) + (k : Int) = ((M.length % 64 + k : Nat) : Int) from by omega] at R'
        refine ⟨(off + k, rem - k, spl b (M.length % 64) k (subI l0 off rem), ((M.length % 64 + k : Nat) : Int), mn, k0, k1, k2, n0, l0, n1, l1, n2, l2, s), _, ?_, ⟨off + k, rem - k, _, _, s, rfl, by omega, R', rfl⟩, fun rec => ?_⟩
        · rw [← es, List.length_append, hq, ← hm]
          rw [if_neg (show rem ≠ 0 by omega), if_pos (show rem - k = 0 by omega)]
          have : (M.length + k) % 64 + (rem - k) = M.length % 64 + rem := by omega
          rw [this]; omega
        · simp only [f142v2.s2, f142v2.s2t]
          rw [decide_eq_true (show (((rem : Nat) : Int) > 0) by omega), cond_t, hd, decide_eq_true (show (0 : Int) ≤ ((M.length % 64 : Nat) : Int) ∧ ((M.length % 64 : Nat) : Int) ≤ 64 by omega), cond_t]
          simp only [Int.toNat_natCast]
          simp only [e6, e9]
          rw [ble_true (show off + rem ≤ n0 by omega), ble_true (show M.length % 64 + (64 - M.length % 64) ≤ 64 by omega), show Nat.beq rem rem = true from Nat.beq_refl rem, Bool.and_self, Bool.and_self, Bool.and_self, cond_t,
            decide_eq_true (show (0 : Int) ≤ ((k : Nat) : Int) ∧ ((k : Nat) : Int) ≤ ((rem : Nat) : Int) by omega), cond_t, ew, show ((((M.length % 64 + k : Nat) : Int)) == 64) = false from beq_eq_false_iff_ne.2 (by omega), cond_f]
      · have hc' : M.length % 64 + k = 64 := by omega
        have R' := R.full _ (subI l0 off rem) k hq (octets_sub ho off rem) rfl (by rw [subI_length]; exact hk1) hc'
        rw [es] at R'
        refine ⟨(off + k, rem - k, spl b (M.length % 64) k (subI l0 off rem), 0, mn, k0, k1, k2, n0, l0, n1, l1, n2, l2, Sh.comp s (spl b (M.length % 64) k (subI l0 off rem))), _, ?_, ⟨off + k, rem - k, _, _, _, rfl, by omega, R', rfl⟩, fun rec => ?_⟩
        · rw [← es, List.length_append, hq, ← hm]
          rw [if_neg (show rem ≠ 0 by omega)]
          split <;> omega
        · simp only [f142v2.s2, f142v2.s2t]
          rw [decide_eq_true (show (((rem : Nat) : Int) > 0) by omega), cond_t, hd, decide_eq_true (show (0 : Int) ≤ ((M.length % 64 : Nat) : Int) ∧ ((M.length % 64 : Nat) : Int) ≤ 64 by omega), cond_t]
          simp only [Int.toNat_natCast]
          simp only [e6, e9]
          rw [ble_true (show off + rem ≤ n0 by omega), ble_true (show M.length % 64 + (64 - M.length % 64) ≤ 64 by omega), show Nat.beq rem rem = true from Nat.beq_refl rem, Bool.and_self, Bool.and_self, Bool.and_self, cond_t,
            decide_eq_true (show (0 : Int) ≤ ((k : Nat) : Int) ∧ ((k : Nat) : Int) ≤ ((rem : Nat) : Int) by omega), cond_t, ew, show ((((M.length % 64 + k : Nat) : Int)) == 64) = true from beq_iff_eq.2 (by omega), cond_t, f148.spec K s _ _ mn hob hK, bind_s]
  · rintro y ⟨⟨b', h', s', rfl, hR⟩, hy⟩
    exact ⟨b', h', s', hy, hR⟩
theorem f142v2.s2b_ok (K : Nat) (m : List Int) (mn : Int) (k0 : Nat) (k1 : Nat) (k2 : Nat) (n0 : Nat) (l0 : List Int) (n1 : Nat) (l1 : List Int) (n2 : Nat) (l2 : List Int) (hl : l1.length = n1) (ho : octets l1) (hn : n1 ≤ 1000000000000) (hK : 64 < K) (b s : List Int) (h : Int) (R : Sh.Rep m b h s) (hK2 : 2 * ((m.length % 64 + n1) / 64) + 1 < K) :
    ∃ b' h' s', iter (f142v2.s2b K) K (0, n1, b, h, mn, k0, k1, k2, n0, l0, n1, l1, n2, l2, s) = some (b', h', mn, k0, k1, k2, n0, l0, n1, l1, n2, l2, s') ∧ Sh.Rep (m ++ l1) b' h' s' := by
  refine Exists.elim (iter_inv (stp := f142v2.s2b K)
    (fun n x => ∃ off rem b h s, x = (off, rem, b, h, mn, k0, k1, k2, n0, l0, n1, l1, n2, l2, s) ∧ off + rem = l1.length ∧ Sh.Rep (m ++ l1.take off) b h s ∧ 2 * (((m ++ l1.take off).length % 64 + rem) / 64) + (if rem = 0 then 0 else 1) = n)
    (fun y => ∃ b' h' s', y = (b', h', mn, k0, k1, k2, n0, l0, n1, l1, n2, l2, s') ∧ Sh.Rep (m ++ l1) b' h' s') ?_ (2 * ((m.length % 64 + n1) / 64) + (if n1 = 0 then 0 else 1)) (0, n1, b, h, mn, k0, k1, k2, n0, l0, n1, l1, n2, l2, s)
    ⟨0, n1, b, h, s, rfl, by omega, by rw [List.take_zero, List.append_nil]; exact R, by rw [List.take_zero, List.append_nil]⟩ K (by split <;> omega)) ?_
  · intro n x hx
    obtain ⟨off, rem, b, h, s, rfl, hsum, R, hm⟩ := hx
    rcases Nat.eq_zero_or_pos rem with h0 | h0
    · subst h0
      refine Or.inl ⟨_, ⟨b, h, s, rfl, ?_⟩, fun rec => ?_⟩
      · rw [List.take_of_length_le (by omega)] at R; exact R
      · simp only [f142v2.s2b, f142v2.s2bt]
        rw [decide_eq_false (show ¬ (((0 : Nat) : Int) > 0) by omega), cond_f]
    · refine Or.inr ?_
      generalize hM : m ++ l1.take off = M at R hm
      have hd := R.held
      have hr : M.length % 64 < 64 := Nat.mod_lt _ (by decide)
      generalize hk : min rem (64 - M.length % 64) = k
      have hk1 : k ≤ rem := by omega
      have es : M ++ (subI l1 off rem).take k = m ++ l1.take (off + k) := by rw [sub_take l1 off rem k hsum hk1, ← List.append_assoc, hM]
      have hq : ((subI l1 off rem).take k).length = k := by rw [List.length_take, subI_length]; omega
      have e6 : (bif Nat.beq 64 (M.length % 64) then 0 else (M.length % 64)) = M.length % 64 := by
        rw [show Nat.beq 64 (M.length % 64) = false from (by rw [← Bool.not_eq_true, Nat.beq_eq]; omega), cond_f]
      have e9 : Nat.min rem (64 - M.length % 64) = k := hk
      have ew : IntKind.wrap .i64 (((M.length % 64 : Nat) : Int) + (k : Int)) = ((M.length % 64 + k : Nat) : Int) := by rw [wrap_i _ (by omega) (by omega)]; omega
      have hob := octets_spl R.oct (octets_sub ho off rem) (M.length % 64) k
      rcases Nat.lt_or_ge (M.length % 64 + k) 64 with hc | hc
      · have R' := R.some _ (subI l1 off rem) k hq (octets_sub ho off rem) rfl (by rw [subI_length]; exact hk1) hc
        rw [es, hd, show ((M.length % 64 : Nat) : Int) + (k : Int) = ((M.length % 64 + k : Nat) : Int) from by omega] at R'
        refine ⟨(off + k, rem - k, spl b (M.length % 64) k (subI l1 off rem), ((M.length % 64 + k : Nat) : Int), mn, k0, k1, k2, n0, l0, n1, l1, n2, l2, s), _, ?_, ⟨off + k, rem - k, _, _, s, rfl, by omega, R', rfl⟩, fun rec => ?_⟩
        · rw [← es, List.length_append, hq, ← hm]
          rw [if_neg (show rem ≠ 0 by omega), if_pos (show rem - k = 0 by omega)]
          have : (M.length + k) % 64 + (rem - k) = M.length % 64 + rem := by omega
          rw [this]; omega
        · simp only [f142v2.s2b, f142v2.s2bt]
          rw [decide_eq_true (show (((rem : Nat) : Int) > 0) by omega), cond_t, hd, decide_eq_true (show (0 : Int) ≤ ((M.length % 64 : Nat) : Int) ∧ ((M.length % 64 : Nat) : Int) ≤ 64 by omega), cond_t]
          simp only [Int.toNat_natCast]
          simp only [e6, e9]
          rw [ble_true (show off + rem ≤ n1 by omega), ble_true (show M.length % 64 + (64 - M.length % 64) ≤ 64 by omega), show Nat.beq rem rem = true from Nat.beq_refl rem, Bool.and_self, Bool.and_self, Bool.and_self, cond_t,
            decide_eq_true (show (0 : Int) ≤ ((k : Nat) : Int) ∧ ((k : Nat) : Int) ≤ ((rem : Nat) : Int) by omega), cond_t, ew, show ((((M.length % 64 + k : Nat) : Int)) == 64) = false from beq_eq_false_iff_ne.2 (by omega), cond_f]
      · have hc' : M.length % 64 + k = 64 := by omega
        have R' := R.full _ (subI l1 off rem) k hq (octets_sub ho off rem) rfl (by rw [subI_length]; exact hk1) hc'
        rw [es] at R'
        refine ⟨(off + k, rem - k, spl b (M.length % 64) k (subI l1 off rem), 0, mn, k0, k1, k2, n0, l0, n1, l1, n2, l2, Sh.comp s (spl b (M.length % 64) k (subI l1 off rem))), _, ?_, ⟨off + k, rem - k, _, _, _, rfl, by omega, R', rfl⟩, fun rec => ?_⟩
        · rw [← es, List.length_append, hq, ← hm]
          rw [if_neg (show rem ≠ 0 by omega)]
          split <;> omega
        · simp only [f142v2.s2b, f142v2.s2bt]
          rw [decide_eq_true (show (((rem : Nat) : Int) > 0) by omega), cond_t, hd, decide_eq_true (show (0 : Int) ≤ ((M.length % 64 : Nat) : Int) ∧ ((M.length % 64 : Nat) : Int) ≤ 64 by omega), cond_t]
          simp only [Int.toNat_natCast]
          simp only [e6, e9]
          rw [ble_true (show off + rem ≤ n1 by omega), ble_true (show M.length % 64 + (64 - M.length % 64) ≤ 64 by omega), show Nat.beq rem rem = true from Nat.beq_refl rem, Bool.and_self, Bool.and_self, Bool.and_self, cond_t,
            decide_eq_true (show (0 : Int) ≤ ((k : Nat) : Int) ∧ ((k : Nat) : Int) ≤ ((rem : Nat) : Int) by omega), cond_t, ew, show ((((M.length % 64 + k : Nat) : Int)) == 64) = true from beq_iff_eq.2 (by omega), cond_t, f148.spec K s _ _ mn hob hK, bind_s]
  · rintro y ⟨⟨b', h', s', rfl, hR⟩, hy⟩
    exact ⟨b', h', s', hy, hR⟩
theorem f142v2.s2c_ok (K : Nat) (m : List Int) (mn : Int) (k0 : Nat) (k1 : Nat) (k2 : Nat) (n0 : Nat) (l0 : List Int) (n1 : Nat) (l1 : List Int) (n2 : Nat) (l2 : List Int) (hl : l2.length = n2) (ho : octets l2) (hn : n2 ≤ 1000000000000) (hK : 64 < K) (b s : List Int) (h : Int) (R : Sh.Rep m b h s) (hK2 : 2 * ((m.length % 64 + n2) / 64) + 1 < K) :
    ∃ b' h' s', iter (f142v2.s2c K) K (0, n2, b, h, mn, k0, k1, k2, n0, l0, n1, l1, n2, l2, s) = some (b', h', mn, k0, k1, k2, n0, l0, n1, l1, n2, l2, s') ∧ Sh.Rep (m ++ l2) b' h' s' := by
  refine Exists.elim (iter_inv (stp := f142v2.s2c K)
    (fun n x => ∃ off rem b h s, x = (off, rem, b, h, mn, k0, k1, k2, n0, l0, n1, l1, n2, l2, s) ∧ off + rem = l2.length ∧ Sh.Rep (m ++ l2.take off) b h s ∧ 2 * (((m ++ l2.take off).length % 64 + rem) / 64) + (if rem = 0 then 0 else 1) = n)
    (fun y => ∃ b' h' s', y = (b', h', mn, k0, k1, k2, n0, l0, n1, l1, n2, l2, s') ∧ Sh.Rep (m ++ l2) b' h' s') ?_ (2 * ((m.length % 64 + n2) / 64) + (if n2 = 0 then 0 else 1)) (0, n2, b, h, mn, k0, k1, k2, n0, l0, n1, l1, n2, l2, s)
    ⟨0, n2, b, h, s, rfl, by omega, by rw [List.take_zero, List.append_nil]; exact R, by rw [List.take_zero, List.append_nil]⟩ K (by split <;> omega)) ?_
  · intro n x hx
    obtain ⟨off, rem, b, h, s, rfl, hsum, R, hm⟩ := hx
    rcases Nat.eq_zero_or_pos rem with h0 | h0
    · subst h0
      refine Or.inl ⟨_, ⟨b, h, s, rfl, ?_⟩, fun rec => ?_⟩
      · rw [List.take_of_length_le (by omega)] at R; exact R
      · simp only [f142v2.s2c, f142v2.s2ct]
        rw [decide_eq_false (show ¬ (((0 : Nat) : Int) > 0) by omega), cond_f]
    · refine Or.inr ?_
      generalize hM : m ++ l2.take off = M at R hm
      have hd := R.held
      have hr : M.length % 64 < 64 := Nat.mod_lt _ (by decide)
      generalize hk : min rem (64 - M.length % 64) = k
      have hk1 : k ≤ rem := by omega
      have es : M ++ (subI l2 off rem).take k = m ++ l2.take (off + k) := by rw [sub_take l2 off rem k hsum hk1, ← List.append_assoc, hM]
      have hq : ((subI l2 off rem).take k).length = k := by rw [List.length_take, subI_length]; omega
      have e6 : (bif Nat.beq 64 (M.length % 64) then 0 else (M.length % 64)) = M.length % 64 := by
        rw [show Nat.beq 64 (M.length % 64) = false from (by rw [← Bool.not_eq_true, Nat.beq_eq]; omega), cond_f]
      have e9 : Nat.min rem (64 - M.length % 64) = k := hk
      have ew : IntKind.wrap .i64 (((M.length % 64 : Nat) : Int) + (k : Int)) = ((M.length % 64 + k : Nat) : Int) := by rw [wrap_i _ (by omega) (by omega)]; omega
      have hob := octets_spl R.oct (octets_sub ho off rem) (M.length % 64) k
      rcases Nat.lt_or_ge (M.length % 64 + k) 64 with hc | hc
      · have R' := R.some _ (subI l2 off rem) k hq (octets_sub ho off rem) rfl (by rw [subI_length]; exact hk1) hc
        rw [es, hd, show ((M.length % 64 : Nat) : Int) + (k : Int) = ((M.length % 64 + k : Nat) : Int) from by omega] at R'
        refine ⟨(off + k, rem - k, spl b (M.length % 64) k (subI l2 off rem), ((M.length % 64 + k : Nat) : Int), mn, k0, k1, k2, n0, l0, n1, l1, n2, l2, s), _, ?_, ⟨off + k, rem - k, _, _, s, rfl, by omega, R', rfl⟩, fun rec => ?_⟩
        · rw [← es, List.length_append, hq, ← hm]
          rw [if_neg (show rem ≠ 0 by omega), if_pos (show rem - k = 0 by omega)]
          have : (M.length + k) % 64 + (rem - k) = M.length % 64 + rem := by omega
          rw [this]; omega
        · simp only [f142v2.s2c, f142v2.s2ct]
          rw [decide_eq_true (show (((rem : Nat) : Int) > 0) by omega), cond_t, hd, decide_eq_true (show (0 : Int) ≤ ((M.length % 64 : Nat) : Int) ∧ ((M.length % 64 : Nat) : Int) ≤ 64 by omega), cond_t]
          simp only [Int.toNat_natCast]
          simp only [e6, e9]
          rw [ble_true (show off + rem ≤ n2 by omega), ble_true (show M.length % 64 + (64 - M.length % 64) ≤ 64 by omega), show Nat.beq rem rem = true from Nat.beq_refl rem, Bool.and_self, Bool.and_self, Bool.and_self, cond_t,
            decide_eq_true (show (0 : Int) ≤ ((k : Nat) : Int) ∧ ((k : Nat) : Int) ≤ ((rem : Nat) : Int) by omega), cond_t, ew, show ((((M.length % 64 + k : Nat) : Int)) == 64) = false from beq_eq_false_iff_ne.2 (by omega), cond_f]
      · have hc' : M.length % 64 + k = 64 := by omega
        have R' := R.full _ (subI l2 off rem) k hq (octets_sub ho off rem) rfl (by rw [subI_length]; exact hk1) hc'
        rw [es] at R'
        refine ⟨(off + k, rem - k, spl b (M.length % 64) k (subI l2 off rem), 0, mn, k0, k1, k2, n0, l0, n1, l1, n2, l2, Sh.comp s (spl b (M.length % 64) k (subI l2 off rem))), _, ?_, ⟨off + k, rem - k, _, _, _, rfl, by omega, R', rfl⟩, fun rec => ?_⟩
        · rw [← es, List.length_append, hq, ← hm]
          rw [if_neg (show rem ≠ 0 by omega)]
          split <;> omega
        · simp only [f142v2.s2c, f142v2.s2ct]
          rw [decide_eq_true (show (((rem : Nat) : Int) > 0) by omega), cond_t, hd, decide_eq_true (show (0 : Int) ≤ ((M.length % 64 : Nat) : Int) ∧ ((M.length % 64 : Nat) : Int) ≤ 64 by omega), cond_t]
          simp only [Int.toNat_natCast]
          simp only [e6, e9]
          rw [ble_true (show off + rem ≤ n2 by omega), ble_true (show M.length % 64 + (64 - M.length % 64) ≤ 64 by omega), show Nat.beq rem rem = true from Nat.beq_refl rem, Bool.and_self, Bool.and_self, Bool.and_self, cond_t,
            decide_eq_true (show (0 : Int) ≤ ((k : Nat) : Int) ∧ ((k : Nat) : Int) ≤ ((rem : Nat) : Int) by omega), cond_t, ew, show ((((M.length % 64 + k : Nat) : Int)) == 64) = true from beq_iff_eq.2 (by omega), cond_t, f148.spec K s _ _ mn hob hK, bind_s]
  · rintro y ⟨⟨b', h', s', rfl, hR⟩, hy⟩
    exact ⟨b', h', s', hy, hR⟩
theorem f142.spec (K : Nat) (m : List Int) (n0 : Nat) (l0 : List Int) (n1 : Nat) (l1 : List Int) (e0 : l0.length = n0) (o0 : octets l0) (z0 : n0 ≤ 1000000000000) (e1 : l1.length = n1) (o1 : octets l1) (z1 : n1 ≤ 1000000000000) (b s : List Int) (h : Int) (R : Sh.Rep m b h s) (hK : 64 + n0 + n1 < K) :
    ∃ b' h' s', f142.F K (b, h, ((m.length % 18446744073709551616 : Nat) : Int), n0, n1, s, n0, l0, n1, l1) = some (b', h', (((m ++ l0 ++ l1).length % 18446744073709551616 : Nat) : Int), n0, n1, n0, l0, n1, l1, s') ∧ Sh.Rep (m ++ l0 ++ l1) b' h' s' := by
  simp only [f142.F, f142.T]
  rw [tot_add]
  obtain ⟨b0, h0, s0, i0, R0⟩ := f142.s2_ok K (m) ((((m).length + n0) % 18446744073709551616 : Nat) : Int) n0 n1 n0 l0 n1 l1 e0 o0 z0 (by omega) _ _ _ R (by omega)
  rw [i0, bind_s]
  simp only []
  rw [show (m).length + n0 = (m ++ l0).length from by simp only [List.length_append]; omega]
  rw [tot_add]
  obtain ⟨b1, h1, s1, i1, R1⟩ := f142.s2b_ok K (m ++ l0) ((((m ++ l0).length + n1) % 18446744073709551616 : Nat) : Int) n0 n1 n0 l0 n1 l1 e1 o1 z1 (by omega) _ _ _ R0 (by omega)
  rw [i1, bind_s]
  simp only []
  rw [show (m ++ l0).length + n1 = (m ++ l0 ++ l1).length from by simp only [List.length_append]; omega]
  exact ⟨b1, h1, s1, rfl, R1⟩
theorem f142v1.spec (K : Nat) (m : List Int) (n0 : Nat) (l0 : List Int) (e0 : l0.length = n0) (o0 : octets l0) (z0 : n0 ≤ 1000000000000) (b s : List Int) (h : Int) (R : Sh.Rep m b h s) (hK : 64 + n0 < K) :
    ∃ b' h' s', f142v1.F K (b, h, ((m.length % 18446744073709551616 : Nat) : Int), n0, s, n0, l0) = some (b', h', (((m ++ l0).length % 18446744073709551616 : Nat) : Int), n0, n0, l0, s') ∧ Sh.Rep (m ++ l0) b' h' s' := by
  simp only [f142v1.F, f142v1.T]
  rw [tot_add]
  obtain ⟨b0, h0, s0, i0, R0⟩ := f142v1.s2_ok K (m) ((((m).length + n0) % 18446744073709551616 : Nat) : Int) n0 n0 l0 e0 o0 z0 (by omega) _ _ _ R (by omega)
  rw [i0, bind_s]
  simp only []
  rw [show (m).length + n0 = (m ++ l0).length from by simp only [List.length_append]; omega]
  exact ⟨b0, h0, s0, rfl, R0⟩
theorem f142v2.spec (K : Nat) (m : List Int) (n0 : Nat) (l0 : List Int) (n1 : Nat) (l1 : List Int) (n2 : Nat) (l2 : List Int) (e0 : l0.length = n0) (o0 : octets l0) (z0 : n0 ≤ 1000000000000) (e1 : l1.length = n1) (o1 : octets l1) (z1 : n1 ≤ 1000000000000) (e2 : l2.length = n2) (o2 : octets l2) (z2 : n2 ≤ 1000000000000) (b s : List Int) (h : Int) (R : Sh.Rep m b h s) (hK : 64 + n0 + n1 + n2 < K) :
    ∃ b' h' s', f142v2.F K (b, h, ((m.length % 18446744073709551616 : Nat) : Int), n0, n1, n2, s, n0, l0, n1, l1, n2, l2) = some (b', h', (((m ++ l0 ++ l1 ++ l2).length % 18446744073709551616 : Nat) : Int), n0, n1, n2, n0, l0, n1, l1, n2, l2, s') ∧ Sh.Rep (m ++ l0 ++ l1 ++ l2) b' h' s' := by
  simp only [f142v2.F, f142v2.T]
  rw [tot_add]
  obtain ⟨b0, h0, s0, i0, R0⟩ := f142v2.s2_ok K (m) ((((m).length + n0) % 18446744073709551616 : Nat) : Int) n0 n1 n2 n0 l0 n1 l1 n2 l2 e0 o0 z0 (by omega) _ _ _ R (by omega)
  rw [i0, bind_s]
  simp only []
  rw [show (m).length + n0 = (m ++ l0).length from by simp only [List.length_append]; omega]
  rw [tot_add]
  obtain ⟨b1, h1, s1, i1, R1⟩ := f142v2.s2b_ok K (m ++ l0) ((((m ++ l0).length + n1) % 18446744073709551616 : Nat) : Int) n0 n1 n2 n0 l0 n1 l1 n2 l2 e1 o1 z1 (by omega) _ _ _ R0 (by omega)
  rw [i1, bind_s]
  simp only []
  rw [show (m ++ l0).length + n1 = (m ++ l0 ++ l1).length from by simp only [List.length_append]; omega]
  rw [tot_add]
  obtain ⟨b2, h2, s2, i2, R2⟩ := f142v2.s2c_ok K (m ++ l0 ++ l1) ((((m ++ l0 ++ l1).length + n2) % 18446744073709551616 : Nat) : Int) n0 n1 n2 n0 l0 n1 l1 n2 l2 e2 o2 z2 (by omega) _ _ _ R1 (by omega)
  rw [i2, bind_s]
  simp only []
  rw [show (m ++ l0 ++ l1).length + n2 = (m ++ l0 ++ l1 ++ l2).length from by simp only [List.length_append]; omega]
  exact ⟨b2, h2, s2, rfl, R2⟩
end Go.Proofs

namespace Go.Proofs
open Go.VM
def Sh.frame (p : List Int) : List Int := be 4 p.length ++ p
theorem strL_length (s : ByteArray) : (strL s).length = s.size := by simp [strL]
theorem strL_octets (s : ByteArray) : octets (strL s) := by
  intro x hx
  simp only [strL, List.mem_map] at hx
  obtain ⟨b, _, rfl⟩ := hx
  have := b.toNat_lt
  omega
theorem frame_octets {p : List Int} (h : octets p) : octets (Sh.frame p) := octets_append (be_octets _ _) h
theorem frame_length (p : List Int) : (Sh.frame p).length = 4 + p.length := by rw [Sh.frame, List.length_append, be_length]
theorem f150.spec (K n : Nat) (l : List Int) : f150.F K (n, n, l) = some (n, n, l) := by
  simp only [f150.F, f150.T, Int.toNat_natCast]
  rw [decide_eq_true (show (0 : Int) ≤ (n : Int) ∧ (n : Int) ≤ (n : Int) by omega), Bool.and_self, Bool.and_self, Nat.zero_add, ble_true (Nat.le_refl n), Bool.and_self, cond_t]
theorem f149.spec (K a n : Nat) (l : List Int) (hl : l.length = a) (hs : a + n ≤ 100000000000000) : f149.F K (a, a, (n : Int), a, l) = some (if n = 0 then .inr (a, a, a, l) else .inl (a, a + n, l ++ padT [] n)) := by
  have e : IntKind.wrap .i64 ((n : Int) - (IntKind.wrap .i64 (((a : Nat) : Int) - ((a : Nat) : Int)))) = (n : Int) := by
    rw [show ((a : Nat) : Int) - ((a : Nat) : Int) = 0 by omega, wrap_i 0 (by omega) (by omega), wrap_i _ (by omega) (by omega)]; omega
  simp only [f149.F, f149.T, e, Int.toNat_natCast]
  rw [decide_eq_false (show ¬ (n : Int) < 0 by omega), cond_f]
  rcases Nat.eq_zero_or_pos n with h | h
  · subst h
    rw [decide_eq_false (show ¬ (((0 : Nat) : Int) > 0) by omega), cond_f, if_pos rfl]
  · rw [decide_eq_true (show ((n : Int) > 0) by omega), cond_t, decide_eq_true (show (0 : Int) ≤ (a : Int) ∧ (a : Int) ≤ (a : Int) by omega), Bool.and_self, cond_t, decide_eq_true (show (0 : Int) ≤ (n : Int) by omega), fitB_true (by omega), ble_true (Nat.le_refl a), fitB_true (by omega), Bool.and_self, Bool.and_self, Bool.and_self, Bool.and_self, cond_t,
      decide_eq_true (show (0 : Int) ≤ (a : Int) ∧ (a : Int) ≤ ((a + n : Nat) : Int) by omega), Nat.zero_add, ble_true (Nat.le_refl _), Bool.and_self, cond_t, if_neg (by omega), padT_self l hl]
theorem f143.spec (K a n : Nat) (l p : List Int) (hl : l.length = a) (hp : p.length = n) (hn : n ≤ 1000000000000) (ha : a ≤ 1000000000) :
    f143.F K (a, n, a, l, n, p) = some (a + 4 + n, a, l, n, p, a + 4 + n, l ++ Sh.frame p) := by
  have h0 : IntKind.wrap .u64 ((n : Nat) : Int) = (n : Int) := wrap_u _ (by omega) (by omega)
  have e2 := f136.spec K a 4 1 l [n] hl rfl (by intro x hx; simp only [List.mem_singleton] at hx; omega) (by omega) (by omega) (by omega)
  simp only [List.map_cons, List.map_nil, List.flatMap_cons, List.flatMap_nil, List.append_nil, Nat.mul_one] at e2
  have hl4 : (l ++ be 4 n).length = a + 4 := by rw [List.length_append, be_length, hl]
  simp only [f143.F, f143.T]
  rw [Nat.zero_add, ble_true (Nat.le_refl a), Bool.and_self, Bool.and_self, cond_t, subI_self l hl, h0, show ((4 : Int)) = ((4 : Nat) : Int) from rfl, e2, bind_s]
  simp only []
  rw [f149.spec K (a + 4) n _ hl4 (by omega), bind_s]
  rcases Nat.eq_zero_or_pos n with h | h
  · rw [if_pos h, altr]
    simp only []
    rw [Nat.zero_add, ble_true (Nat.le_refl n), ble_true (Nat.le_refl (a + 4)), fitB_true (by omega), Bool.and_self, Bool.and_self, Bool.and_self, cond_t, f150.spec, bind_s, padT_self _ hl4, subI_self p hp, padT_self p hp, Sh.frame, hp, List.append_assoc]
  · rw [if_neg (by omega), altl]
    simp only []
    have e : padT (l ++ be 4 n ++ padT [] n) (a + 4) = l ++ be 4 n := by
      rw [padT_take _ _ (by rw [List.length_append, hl4]; omega), List.take_append_of_le_length (by omega), List.take_of_length_le (by omega)]
    rw [Nat.zero_add, ble_true (Nat.le_refl n), ble_true (show a + 4 ≤ a + 4 + n by omega), fitB_true (by omega), Bool.and_self, Bool.and_self, cond_t, f150.spec, bind_s, e, subI_self p hp, padT_self p hp, Sh.frame, hp, List.append_assoc]
def Sh.padded (m : List Int) : List Int := m ++ [128] ++ List.replicate ((119 - m.length % 64) % 64) 0 ++ be 8 (8 * m.length)
def Sh.digest (s : List Int) : List Int := (List.range 8).flatMap fun i => be 4 (IntKind.wrap .u64 (s.getD i 0)).toNat
def Sh.sum (m : List Int) : List Int := Sh.digest (Sh.chain (Sh.padded m) ((Sh.padded m).length / 64))
theorem digest_length (s : List Int) : (Sh.digest s).length = 32 := by
  simp [Sh.digest, List.range, List.range.loop, be_length]
theorem digest_octets (s : List Int) : octets (Sh.digest s) := by
  intro x hx
  simp only [Sh.digest, List.mem_flatMap] at hx
  obtain ⟨i, _, h⟩ := hx
  exact be_octets _ _ x h
theorem wrap_pos (z : Int) : IntKind.wrap .u64 z = ((IntKind.wrap .u64 z).toNat : Int) ∧ (IntKind.wrap .u64 z).toNat < 18446744073709551616 := by
  simp only [IntKind.wrap, IntKind.signed, IntKind.bits]
  simp
  omega
theorem sub_zero (l : List Int) (n : Nat) (h : l = []) : subI l 0 n = List.replicate n 0 := by
  subst h
  refine List.ext_getElem? fun i => ?_
  by_cases hi : i < n
  · simp [subI, hi]
  · rw [List.getElem?_eq_none (by simpa [subI] using hi), List.getElem?_eq_none (by simpa using hi)]
theorem f145.spec (K : Nat) (m b s : List Int) (h : Int) (R : Sh.Rep m b h s) (hK : 200 < K) :
    f145.F K (b, h, ((m.length % 18446744073709551616 : Nat) : Int), s) = some (Sh.sum m, b, h, ((m.length % 18446744073709551616 : Nat) : Int)) := by
  have hr : m.length % 64 < 64 := Nat.mod_lt _ (by decide)
  have e2 : Int.tmod (IntKind.wrap .i64 (119 - ((m.length % 64 : Nat) : Int))) 64 = (((119 - m.length % 64) % 64 : Nat) : Int) := by
    rw [wrap_i _ (by omega) (by omega), show (119 : Int) - ((m.length % 64 : Nat) : Int) = ((119 - m.length % 64 : Nat) : Int) by omega]
    exact tmod_nat _ 64
  have e8 : IntKind.wrap .u64 (8 * ((m.length % 18446744073709551616 : Nat) : Int)) = ((8 * m.length % 18446744073709551616 : Nat) : Int) := by
    rw [show (8 : Int) * ((m.length % 18446744073709551616 : Nat) : Int) = ((8 * (m.length % 18446744073709551616) : Nat) : Int) by omega, wrap_nat]
    congr 1
    omega
  simp only [f145.F, f145.T]
  rw [R.held, e2]
  generalize hp : (119 - m.length % 64) % 64 = p
  have hp64 : p < 64 := by omega
  have el : lenOK (p : Int) (p : Int) 1 = true := by
    simp only [lenOK, Int.toNat_natCast]
    rw [decide_eq_true (show (0 : Int) ≤ (p : Int) ∧ (p : Int) ≤ (p : Int) by omega), fitB_true (by omega), fitB_true (by omega)]; rfl
  have e1 := f144.spec K 0 8 (8 * m.length % 18446744073709551616) [] rfl (Nat.mod_lt _ (by decide)) (by omega) (by omega)
  rw [List.nil_append, show (18446744073709551616 : Nat) = 256 ^ 8 from rfl, be_mod, ← show (18446744073709551616 : Nat) = 256 ^ 8 from rfl, Nat.zero_add] at e1
  rw [el, cond_t, e8]
  simp only [Int.toNat_natCast]
  rw [show ((8 : Int)) = ((8 : Nat) : Int) from rfl, e1, bind_s]
  simp only []
  rw [Nat.zero_add, ble_true (Nat.le_refl p), ble_true (Nat.le_refl 8), Bool.and_self, Bool.and_self, Bool.and_self, cond_t, sub_zero [] p rfl, subI_self (be 8 (8 * m.length)) (be_length _ _)]
  obtain ⟨b', h', s', e3, R'⟩ := f142v2.spec K m 1 [128] p (List.replicate p 0) 8 (be 8 (8 * m.length)) rfl (by intro x hx; simp only [List.mem_singleton] at hx; omega) (by omega) (by simp) (octets_zeros _) (by omega) (be_length _ _) (be_octets _ _) (by omega) b s _ R (by omega)
  rw [R.held] at e3
  have hz : (m ++ [128] ++ List.replicate p 0 ++ be 8 (8 * m.length)) = Sh.padded m := by rw [Sh.padded, hp]
  rw [hz] at e3 R'
  rw [e3, bind_s]
  simp only []
  have hsum : Sh.digest s' = Sh.sum m := by rw [Sh.sum, ← R'.st]
  obtain ⟨x0, g0, t0⟩ : ∃ x : Nat, IntKind.wrap .u64 (List.getD s' 0 0) = (x : Int) ∧ x < 18446744073709551616 := ⟨_, wrap_pos _⟩
  obtain ⟨x1, g1, t1⟩ : ∃ x : Nat, IntKind.wrap .u64 (List.getD s' 1 0) = (x : Int) ∧ x < 18446744073709551616 := ⟨_, wrap_pos _⟩
  obtain ⟨x2, g2, t2⟩ : ∃ x : Nat, IntKind.wrap .u64 (List.getD s' 2 0) = (x : Int) ∧ x < 18446744073709551616 := ⟨_, wrap_pos _⟩
  obtain ⟨x3, g3, t3⟩ : ∃ x : Nat, IntKind.wrap .u64 (List.getD s' 3 0) = (x : Int) ∧ x < 18446744073709551616 := ⟨_, wrap_pos _⟩
  obtain ⟨x4, g4, t4⟩ : ∃ x : Nat, IntKind.wrap .u64 (List.getD s' 4 0) = (x : Int) ∧ x < 18446744073709551616 := ⟨_, wrap_pos _⟩
  obtain ⟨x5, g5, t5⟩ : ∃ x : Nat, IntKind.wrap .u64 (List.getD s' 5 0) = (x : Int) ∧ x < 18446744073709551616 := ⟨_, wrap_pos _⟩
  obtain ⟨x6, g6, t6⟩ : ∃ x : Nat, IntKind.wrap .u64 (List.getD s' 6 0) = (x : Int) ∧ x < 18446744073709551616 := ⟨_, wrap_pos _⟩
  obtain ⟨x7, g7, t7⟩ : ∃ x : Nat, IntKind.wrap .u64 (List.getD s' 7 0) = (x : Int) ∧ x < 18446744073709551616 := ⟨_, wrap_pos _⟩
  have hd : Sh.digest s' = []  ++ be 4 x0 ++ be 4 x1 ++ be 4 x2 ++ be 4 x3 ++ be 4 x4 ++ be 4 x5 ++ be 4 x6 ++ be 4 x7 := by
    simp only [Sh.digest, List.range, List.range.loop, List.flatMap_cons, List.flatMap_nil, List.append_nil, List.nil_append, g0, g1, g2, g3, g4, g5, g6, g7, Int.toNat_natCast, List.append_assoc]
  rw [hsum] at hd
  have p0 : f144.F K (0, (x0 : Int), ((4 : Nat) : Int), 0, []) = some (4, 4, 0, [], 4, [] ++ be 4 x0) := f144.spec K 0 4 x0 ([]) (by simp [be_length]) t0 (by omega) (by omega)
  rw [g0, show ((4 : Int)) = ((4 : Nat) : Int) from rfl, p0, bind_s]
  simp only []
  rw [Nat.zero_add, ble_true (Nat.le_refl 4), Bool.and_self, Bool.and_self, cond_t]
  have p1 : f144.F K (4, (x1 : Int), ((4 : Nat) : Int), 4, [] ++ be 4 x0) = some (8, 8, 4, [] ++ be 4 x0, 8, [] ++ be 4 x0 ++ be 4 x1) := f144.spec K 4 4 x1 ([] ++ be 4 x0) (by simp [be_length]) t1 (by omega) (by omega)
  rw [g1, subI_self ([] ++ be 4 x0) (show _ = 4 by simp [be_length]), p1, bind_s]
  simp only []
  rw [Nat.zero_add, ble_true (Nat.le_refl 8), Bool.and_self, Bool.and_self, cond_t]
  have p2 : f144.F K (8, (x2 : Int), ((4 : Nat) : Int), 8, [] ++ be 4 x0 ++ be 4 x1) = some (12, 12, 8, [] ++ be 4 x0 ++ be 4 x1, 12, [] ++ be 4 x0 ++ be 4 x1 ++ be 4 x2) := f144.spec K 8 4 x2 ([] ++ be 4 x0 ++ be 4 x1) (by simp [be_length]) t2 (by omega) (by omega)
  rw [g2, subI_self ([] ++ be 4 x0 ++ be 4 x1) (show _ = 8 by simp [be_length]), p2, bind_s]
  simp only []
  rw [Nat.zero_add, ble_true (Nat.le_refl 12), Bool.and_self, Bool.and_self, cond_t]
  have p3 : f144.F K (12, (x3 : Int), ((4 : Nat) : Int), 12, [] ++ be 4 x0 ++ be 4 x1 ++ be 4 x2) = some (16, 16, 12, [] ++ be 4 x0 ++ be 4 x1 ++ be 4 x2, 16, [] ++ be 4 x0 ++ be 4 x1 ++ be 4 x2 ++ be 4 x3) := f144.spec K 12 4 x3 ([] ++ be 4 x0 ++ be 4 x1 ++ be 4 x2) (by simp [be_length]) t3 (by omega) (by omega)
  rw [g3, subI_self ([] ++ be 4 x0 ++ be 4 x1 ++ be 4 x2) (show _ = 12 by simp [be_length]), p3, bind_s]
  simp only []
  rw [Nat.zero_add, ble_true (Nat.le_refl 16), Bool.and_self, Bool.and_self, cond_t]
  have p4 : f144.F K (16, (x4 : Int), ((4 : Nat) : Int), 16, [] ++ be 4 x0 ++ be 4 x1 ++ be 4 x2 ++ be 4 x3) = some (20, 20, 16, [] ++ be 4 x0 ++ be 4 x1 ++ be 4 x2 ++ be 4 x3, 20, [] ++ be 4 x0 ++ be 4 x1 ++ be 4 x2 ++ be 4 x3 ++ be 4 x4) := f144.spec K 16 4 x4 ([] ++ be 4 x0 ++ be 4 x1 ++ be 4 x2 ++ be 4 x3) (by simp [be_length]) t4 (by omega) (by omega)
  rw [g4, subI_self ([] ++ be 4 x0 ++ be 4 x1 ++ be 4 x2 ++ be 4 x3) (show _ = 16 by simp [be_length]), p4, bind_s]
  simp only []
  rw [Nat.zero_add, ble_true (Nat.le_refl 20), Bool.and_self, Bool.and_self, cond_t]
  have p5 : f144.F K (20, (x5 : Int), ((4 : Nat) : Int), 20, [] ++ be 4 x0 ++ be 4 x1 ++ be 4 x2 ++ be 4 x3 ++ be 4 x4) = some (24, 24, 20, [] ++ be 4 x0 ++ be 4 x1 ++ be 4 x2 ++ be 4 x3 ++ be 4 x4, 24, [] ++ be 4 x0 ++ be 4 x1 ++ be 4 x2 ++ be 4 x3 ++ be 4 x4 ++ be 4 x5) := f144.spec K 20 4 x5 ([] ++ be 4 x0 ++ be 4 x1 ++ be 4 x2 ++ be 4 x3 ++ be 4 x4) (by simp [be_length]) t5 (by omega) (by omega)
  rw [g5, subI_self ([] ++ be 4 x0 ++ be 4 x1 ++ be 4 x2 ++ be 4 x3 ++ be 4 x4) (show _ = 20 by simp [be_length]), p5, bind_s]
  simp only []
  rw [Nat.zero_add, ble_true (Nat.le_refl 24), Bool.and_self, Bool.and_self, cond_t]
  have p6 : f144.F K (24, (x6 : Int), ((4 : Nat) : Int), 24, [] ++ be 4 x0 ++ be 4 x1 ++ be 4 x2 ++ be 4 x3 ++ be 4 x4 ++ be 4 x5) = some (28, 28, 24, [] ++ be 4 x0 ++ be 4 x1 ++ be 4 x2 ++ be 4 x3 ++ be 4 x4 ++ be 4 x5, 28, [] ++ be 4 x0 ++ be 4 x1 ++ be 4 x2 ++ be 4 x3 ++ be 4 x4 ++ be 4 x5 ++ be 4 x6) := f144.spec K 24 4 x6 ([] ++ be 4 x0 ++ be 4 x1 ++ be 4 x2 ++ be 4 x3 ++ be 4 x4 ++ be 4 x5) (by simp [be_length]) t6 (by omega) (by omega)
  rw [g6, subI_self ([] ++ be 4 x0 ++ be 4 x1 ++ be 4 x2 ++ be 4 x3 ++ be 4 x4 ++ be 4 x5) (show _ = 24 by simp [be_length]), p6, bind_s]
  simp only []
  rw [Nat.zero_add, ble_true (Nat.le_refl 28), Bool.and_self, Bool.and_self, cond_t]
  have p7 : f144.F K (28, (x7 : Int), ((4 : Nat) : Int), 28, [] ++ be 4 x0 ++ be 4 x1 ++ be 4 x2 ++ be 4 x3 ++ be 4 x4 ++ be 4 x5 ++ be 4 x6) = some (32, 32, 28, [] ++ be 4 x0 ++ be 4 x1 ++ be 4 x2 ++ be 4 x3 ++ be 4 x4 ++ be 4 x5 ++ be 4 x6, 32, [] ++ be 4 x0 ++ be 4 x1 ++ be 4 x2 ++ be 4 x3 ++ be 4 x4 ++ be 4 x5 ++ be 4 x6 ++ be 4 x7) := f144.spec K 28 4 x7 ([] ++ be 4 x0 ++ be 4 x1 ++ be 4 x2 ++ be 4 x3 ++ be 4 x4 ++ be 4 x5 ++ be 4 x6) (by simp [be_length]) t7 (by omega) (by omega)
  rw [g7, subI_self ([] ++ be 4 x0 ++ be 4 x1 ++ be 4 x2 ++ be 4 x3 ++ be 4 x4 ++ be 4 x5 ++ be 4 x6) (show _ = 28 by simp [be_length]), p7, bind_s]
  simp only []
  rw [Nat.zero_add, ble_true (Nat.le_refl 32)]
  rw [Bool.and_self, show Nat.beq 32 32 = true from rfl, Bool.and_self, cond_t, subI_self ([] ++ be 4 x0 ++ be 4 x1 ++ be 4 x2 ++ be 4 x3 ++ be 4 x4 ++ be 4 x5 ++ be 4 x6 ++ be 4 x7) (show _ = 32 by simp [be_length]), ← hd, spl, show Nat.min 32 32 = 32 from rfl, padT_self (Sh.sum m) (digest_length _)]
  rfl
end Go.Proofs
