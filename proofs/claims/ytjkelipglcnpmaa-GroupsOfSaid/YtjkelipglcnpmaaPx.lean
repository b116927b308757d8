/- Plain laws: lemmas that hold with no condition but those that each states. -/
import Derived.Test.YtjkelipglcnpmaaPl
import Derived.Test.YtjkelipglcnpmaaFx
import Derived.Test.YtjkelipglcnpmaaPe
namespace Go.Proofs
open Go.VM

/-! ### Rows of bytes -/

/-- A number in n bytes, the highest first. -/
def be : Nat → Nat → List Int
  | 0, _ => []
  | n + 1, x => be n (x / 256) ++ [((x % 256 : Nat) : Int)]

theorem be_length : ∀ n x : Nat, (be n x).length = n
  | 0, _ => rfl
  | n + 1, x => by rw [be, List.length_append, be_length n]; rfl

/-- All are bytes. -/
def octets (l : List Int) : Prop := ∀ x ∈ l, 0 ≤ x ∧ x < 256

theorem be_octets : ∀ n x : Nat, octets (be n x)
  | 0, _ => fun _ h => by cases h
  | n + 1, x => fun y h => by
    rw [be, List.mem_append] at h
    rcases h with h | h
    · exact be_octets n _ y h
    · simp only [List.mem_singleton] at h
      subst h
      omega

/-- The number that bytes tell. -/
def tv (l : List Int) : Nat := l.foldl (fun a x => 256 * a + x.toNat) 0

theorem tv_snoc (l : List Int) (x : Int) : tv (l ++ [x]) = 256 * tv l + x.toNat := by simp [tv]

theorem tv_lt : ∀ (n : Nat) (l : List Int), l.length = n → octets l → tv l < 256 ^ n
  | 0, l, h, _ => by
    have : l = [] := List.length_eq_zero_iff.1 h
    subst this; simp [tv]
  | n + 1, l, h, ho => by
    have hne : l ≠ [] := by intro e; subst e; cases h
    rw [← List.dropLast_concat_getLast hne, tv_snoc]
    have h1 := tv_lt n l.dropLast (by simp [h]) (fun x hx => ho x (List.dropLast_subset l hx))
    have h2 := ho _ (List.getLast_mem hne)
    rw [Nat.pow_succ]
    omega

theorem padT_self (l : List Int) {n : Nat} (h : l.length = n) : padT l n = l := by
  subst h
  refine List.ext_getElem? fun i => ?_
  by_cases hi : i < l.length
  · simp [padT, hi]
  · rw [List.getElem?_eq_none (by simpa [padT] using hi), List.getElem?_eq_none (by omega)]

theorem subI_cut (l : List Int) (off m : Nat) (h : off + m ≤ l.length) : subI l off m = (l.drop off).take m := by
  refine List.ext_getElem? fun i => ?_
  rw [List.getElem?_take, List.getElem?_drop]
  by_cases hi : i < m
  · rw [if_pos hi]
    have : off + i < l.length := by omega
    simp [subI, hi, this]
  · rw [if_neg hi, List.getElem?_eq_none (by simpa [subI] using hi)]

theorem subI_self (l : List Int) {n : Nat} (h : l.length = n) : subI l 0 n = l := by
  rw [subI_cut l 0 n (by omega), List.drop_zero, List.take_of_length_le (by omega)]

theorem wrap_b (z : Int) (h0 : 0 ≤ z) (h : z < 256) : IntKind.wrap .u8 z = z := by
  simp [IntKind.wrap, IntKind.signed, IntKind.bits]; omega

theorem fitB_true {x : Nat} (h : x ≤ 140737488355328) : fitB x = true := by simp only [fitB, Nat.ble_eq]; exact h
theorem ble_true {x y : Nat} (h : x ≤ y) : Nat.ble x y = true := by simp only [Nat.ble_eq]; exact h

theorem altl {A B C : Type} (f : A → C) (g : B → C) (a : A) : alt f g (.inl a) = f a := Eq.trans (show alt f g (.inl a) = f a from by unfold alt; rfl) (Eq.symm (Eq.symm rfl))
theorem altr {A B C : Type} (f : A → C) (g : B → C) (b : B) : alt f g (.inr b) = g b := Eq.trans (show alt f g (.inr b) = g b from by unfold alt; rfl) (Eq.symm (Eq.symm rfl))

/-- Row. -/
theorem f120.spec : ∀ (n K x : Nat), x < 18446744073709551616 → n < K → n < 1000000000 → f120.F K ((x : Int), (n : Int)) = some (if n = 0 then .inl () else .inr (n, n, be n x)) := by
  intro n
  induction n with
  | zero =>
    intro K x _ hK _
    obtain ⟨k, rfl⟩ : ∃ k, K = k + 1 := ⟨K - 1, by omega⟩
    rw [f120.F, recF_succ, ← f120.F]
    simp only [f120.R, f120.T]
    rw [decide_eq_true (show ((0 : Nat) : Int) < 1 by decide), cond_t]
    rfl
  | succ n ih =>
    intro K x hx hK hn
    obtain ⟨k, rfl⟩ : ∃ k, K = k + 1 := ⟨K - 1, by omega⟩
    rw [f120.F, recF_succ, ← f120.F]
    simp only [f120.R, f120.T]
    have e1 : IntKind.wrap .u64 (Int.tdiv (x : Int) 256) = ((x / 256 : Nat) : Int) := by
      rw [show (256 : Int) = ((256 : Nat) : Int) from rfl, tdiv_nat, wrap_u _ (by omega) (by omega)]
    have e2 : IntKind.wrap .i64 (((n + 1 : Nat) : Int) - 1) = (n : Int) := by rw [wrap_i _ (by omega) (by omega)]; omega
    have e3 : IntKind.wrap .u8 (Int.tmod (x : Int) 256) = ((x % 256 : Nat) : Int) := by
      rw [show (256 : Int) = ((256 : Nat) : Int) from rfl, tmod_nat, wrap_b _ (by omega) (by omega)]
    rw [decide_eq_false (show ¬ ((n + 1 : Nat) : Int) < 1 by omega), cond_f, e1, e2, ih k (x / 256) (by omega) (by omega) (by omega), bind_s, e3, if_neg (show ¬ n + 1 = 0 by omega)]
    by_cases h0 : n = 0
    · subst h0
      rw [if_pos rfl, altl]; rfl
    · rw [if_neg h0, altr]
      simp only []
      rw [ble_true (Nat.le_refl n), Bool.true_and, fitB_true (by omega), cond_t, padT_self _ (be_length n _)]
      rfl

/-- Told. -/
theorem f121.spec : ∀ (n K : Nat) (l : List Int), l.length = n → octets l → n < K → n ≤ 8 → f121.F K (n, n, l) = some (((tv l : Nat) : Int), n, l) := by
  intro n
  induction n with
  | zero =>
    intro K l hl _ hK _
    have : l = [] := List.length_eq_zero_iff.1 hl
    subst this
    obtain ⟨k, rfl⟩ : ∃ k, K = k + 1 := ⟨K - 1, by omega⟩
    rw [f121.F, recF_succ, ← f121.F]
    simp only [f121.R, f121.T]
    rw [show (((0 : Nat) : Int) == 0) = true from rfl, cond_t]; rfl
  | succ n ih =>
    intro K l hl ho hK hn
    obtain ⟨k, rfl⟩ : ∃ k, K = k + 1 := ⟨K - 1, by omega⟩
    have hne : l ≠ [] := by intro e; subst e; cases hl
    obtain ⟨l', x, rfl⟩ : ∃ l' x, l = l' ++ [x] := ⟨_, _, (List.dropLast_concat_getLast hne).symm⟩
    have hl' : l'.length = n := by simpa using hl
    have hx := ho x (by simp)
    have ho' : octets l' := fun y hy => ho y (by simp [hy])
    have hlt := tv_lt (n + 1) _ hl ho
    have hp : 256 ^ (n + 1) ≤ 18446744073709551616 := Nat.le_trans (Nat.pow_le_pow_right (by decide) (show n + 1 ≤ 8 by omega)) (by decide)
    rw [tv_snoc] at hlt
    rw [f121.F, recF_succ, ← f121.F]
    simp only [f121.R, f121.T]
    have e2 : IntKind.wrap .i64 (((n + 1 : Nat) : Int) - 1) = (n : Int) := by rw [wrap_i _ (by omega) (by omega)]; omega
    have e3 : subI (l' ++ [x]) 0 n = l' := by
      rw [subI_cut _ 0 n (by simp; omega), List.drop_zero, List.take_append_of_le_length (by omega), List.take_of_length_le (by omega)]
    have e4 : List.getD (l' ++ [x]) n 0 = x := by
      rw [List.getD_eq_getElem?_getD, List.getElem?_append_right (by omega), hl', Nat.sub_self]; rfl
    rw [show (((n + 1 : Nat) : Int) == 0) = false from beq_eq_false_iff_ne.2 (by omega), cond_f, e2,
      decide_eq_true (show (0 : Int) ≤ (n : Int) ∧ (n : Int) ≤ ((n + 1 : Nat) : Int) by omega), Bool.true_and, cond_t, Int.toNat_natCast, Nat.zero_add, ble_true (show n ≤ n + 1 by omega), Bool.true_and, Bool.true_and, cond_t,
      e3, ih k l' hl' ho' (by omega) (by omega), bind_s, decide_eq_true (show (0 : Int) ≤ (n : Int) ∧ (n : Int) < ((n + 1 : Nat) : Int) by omega), cond_t,
      show Nat.blt n (n + 1) = true from by simp [Nat.blt_eq], cond_t, e4, tv_snoc]
    simp only []
    have e5 : (256 : Int) * ((tv l' : Nat) : Int) = ((256 * tv l' : Nat) : Int) := by rw [Int.natCast_mul]; rfl
    have i1 : IntKind.wrap .u64 ((256 * tv l' : Nat) : Int) = ((256 * tv l' : Nat) : Int) := wrap_u _ (by omega) (by omega)
    have i2 : IntKind.wrap .u64 x = x := wrap_u _ (by omega) (by omega)
    rw [e5, i1, i2, wrap_u _ (by omega) (by omega)]
    congr 2
    omega

/-- behind. -/
theorem f119.spec (K a b : Nat) (l m : List Int) (hl : l.length = a) (hm : m.length = b) (hf : a + b ≤ 140737488355328) : f119.F K (a, b, a, l, b, m) = some (a + b, a, l, b, m, a + b, l ++ m) := by
  simp only [f119.F, f119.T, Nat.zero_add]
  rw [ble_true (Nat.le_refl a), Bool.true_and, fitB_true (by omega), cond_t, ble_true (Nat.le_refl b), Bool.true_and, Bool.true_and, fitB_true (by omega), cond_t,
    subI_self l hl, subI_self m hm, padT_self l hl, padT_self m hm]

/-- Rows, joined. -/
theorem be_mod : ∀ (n x : Nat), be n (x % 256 ^ n) = be n x
  | 0, _ => rfl
  | n + 1, x => by
    rw [be, be]
    have h1 : x % 256 ^ (n + 1) / 256 = x / 256 % 256 ^ n := by rw [Nat.pow_succ', Nat.mod_mul_right_div_self]
    have h2 : x % 256 ^ (n + 1) % 256 = x % 256 := by rw [Nat.pow_succ', Nat.mod_mul_right_mod]
    rw [h1, h2, be_mod n]

theorem be_add (m : Nat) : ∀ (n x : Nat), be (m + n) x = be m (x / 256 ^ n) ++ be n x
  | 0, x => by rw [Nat.pow_zero, Nat.div_one, Nat.add_zero, be, List.append_nil]
  | n + 1, x => by
    rw [← Nat.add_assoc, be, be_add m n, be, Nat.div_div_eq_div_mul, Nat.pow_succ', List.append_assoc]

theorem tv_append (a b : List Int) : tv (a ++ b) = tv a * 256 ^ b.length + tv b := by
  have key : ∀ (b : List Int) (x : Nat), b.foldl (fun a x => 256 * a + x.toNat) x = x * 256 ^ b.length + b.foldl (fun a x => 256 * a + x.toNat) 0 := by
    intro b
    induction b with
    | nil => intro x; simp
    | cons y b ih =>
      intro x
      rw [List.foldl_cons, ih, List.foldl_cons, ih (256 * 0 + y.toNat), List.length_cons, Nat.pow_succ']
      have : (256 * x + y.toNat) * 256 ^ b.length = x * (256 * 256 ^ b.length) + y.toNat * 256 ^ b.length := by
        rw [Nat.add_mul, Nat.mul_comm 256 x, Nat.mul_assoc]
      rw [this, Nat.mul_zero, Nat.zero_add]; omega
  show (a ++ b).foldl _ 0 = _
  rw [List.foldl_append, key]
  rfl

theorem tv_be : ∀ (n x : Nat), tv (be n x) = x % 256 ^ n
  | 0, x => by rw [Nat.pow_zero, Nat.mod_one]; rfl
  | n + 1, x => by
    rw [be, tv_snoc, tv_be n, Int.toNat_natCast, Nat.pow_succ', Nat.mod_mul]
    omega

theorem octets_append {a b : List Int} (ha : octets a) (hb : octets b) : octets (a ++ b) := fun x hx => (List.mem_append.1 hx).elim (ha x) (hb x)

end Go.Proofs

namespace Go.Proofs
open Go.VM

theorem pow_bytes (n : Nat) : (256 : Nat) ^ n = 2 ^ (8 * n) := by
  rw [show (256 : Nat) = 2 ^ 8 from rfl, ← Nat.pow_mul]

theorem f120.eight (K w : Nat) (h : w < 18446744073709551616) (hK : 8 < K) : f120.F K ((w : Int), 8) = some (.inr (8, 8, be 8 w)) := by
  have := f120.spec 8 K w h hK (by decide)
  exact this

/-- PutLong. -/
theorem f98.loop (a A : Nat) (L : List Int) : iter (f98.s0 100000) 100000 (a, 0, 0, a, L, num A, 0, []) = some (a, 32, a, L, 32, be 32 A) := by
  have key := iter_for (stp := f98.s0 100000) (N := 4) (fun i => (a, 8 * i, (i : Int), a, L, num A, 8 * i, be (8 * i) A)) (y := some (a, 32, a, L, 32, be 32 A)) (fun i hi rec => by
      simp only [f98.s0, f98.s0t]
      have e1 : List.getD (num A) i 0 = ((A / 2 ^ (64 * i) % 18446744073709551616 : Nat) : Int) := getD_words hi
      have w2 : IntKind.wrap .i64 ((i : Int) + 1) = ((i + 1 : Nat) : Int) := by rw [wrap_i _ (by omega) (by omega)]; rfl
      have hl : (be (8 * i) A).length = 8 * i := be_length _ _
      have e2 : be 8 (A / 2 ^ (64 * i) % 18446744073709551616) ++ be (8 * i) A = be (8 * (i + 1)) A := by
        rw [show (18446744073709551616 : Nat) = 256 ^ 8 from rfl, be_mod 8, show 64 * i = 8 * (8 * i) by omega, ← pow_bytes, ← be_add, show 8 + 8 * i = 8 * (i + 1) by omega]
      rw [decide_eq_true (show (i : Int) < 4 by omega), cond_t, decide_eq_true (show 0 ≤ (i : Int) ∧ (i : Int) < 4 by omega), cond_t, Int.toNat_natCast, e1, f120.eight _ _ (Nat.mod_lt _ (by decide)) (by decide), bind_s, altr]
      simp only [Nat.zero_add]
      rw [ble_true (Nat.le_refl 8), ble_true (Nat.le_refl (8 * i))]
      simp only [Bool.true_and]
      rw [cond_t, subI_self _ (be_length 8 _), subI_self _ hl,
        f119.spec _ 8 (8 * i) _ _ (be_length 8 _) hl (by omega), bind_s, e2, w2, show 8 + 8 * i = 8 * (i + 1) by omega])
    (fun rec => by
      simp only [f98.s0, f98.s0t]
      rw [decide_eq_false (show ¬ ((4 : Nat) : Int) < 4 by decide), cond_f]) (show 4 < 100000 by decide)
  exact key

theorem f98.spec (a A : Nat) (L : List Int) (hL : L.length = a) (ha : a < 1000000000) : f98.F 100000 (a, num A, a, L) = some (a + 32, a, L, a + 32, L ++ be 32 A) := by
  simp only [f98.F, f98.T, f98.loop a A L, bind_s, Nat.zero_add]
  rw [ble_true (Nat.le_refl a), ble_true (Nat.le_refl 32)]
  simp only [Bool.true_and]
  rw [cond_t, subI_self L hL, subI_self _ (be_length 32 A), f119.spec _ a 32 _ _ hL (be_length 32 A) (by omega), bind_s]

/-- Told of eight bytes among many. -/
theorem told_at (l : List Int) (off : Nat) (ho : octets l) (h : off + 8 ≤ l.length) (hl : l.length < 1000000000) :
    f121.F 100000 (8, 8, subI l off 8) = some (((tv ((l.drop off).take 8) : Nat) : Int), 8, (l.drop off).take 8) := by
  rw [subI_cut l off 8 h]
  exact f121.spec 8 100000 _ (by simp; omega) (fun x hx => ho x (List.mem_of_mem_drop (List.mem_of_mem_take hx))) (by decide) (by decide)

/-- Eight bytes' number, of a row's. -/
theorem tv_word (l : List Int) (off k : Nat) (ho : octets l) (h : off + 8 + k = l.length) : tv ((l.drop off).take 8) = tv l / 256 ^ k % 256 ^ 8 := by
  have e1 : l = l.take off ++ ((l.drop off).take 8 ++ (l.drop off).drop 8) := by rw [List.take_append_drop, List.take_append_drop]
  have l1 : ((l.drop off).take 8).length = 8 := by simp; omega
  have l2 : ((l.drop off).drop 8).length = k := by simp; omega
  have b2 := tv_lt k _ l2 (fun x hx => ho x (List.mem_of_mem_drop (List.mem_of_mem_drop hx)))
  have b1 := tv_lt 8 _ l1 (fun x hx => ho x (List.mem_of_mem_drop (List.mem_of_mem_take hx)))
  conv => rhs; rw [e1]
  rw [tv_append, tv_append, List.length_append, l1, l2, Nat.pow_add, ← Nat.mul_assoc, ← Nat.add_assoc, ← Nat.add_mul, Nat.mul_comm _ (256 ^ k), Nat.mul_add_div (Nat.pow_pos (by decide)), Nat.div_eq_of_lt b2, Nat.add_zero, Nat.mul_comm, Nat.mul_add_mod, Nat.mod_eq_of_lt b1]

/-- GetLong. -/
theorem f99.spec (l : List Int) (hl : l.length = 32) (ho : octets l) : f99.F 100000 (32, 32, l) = some (num (tv l), 0, 32, l) := by
  have hlt : tv l < 2 ^ 256 := by have := tv_lt 32 l hl ho; rw [pow_bytes] at this; exact this
  have key := iter_for (stp := f99.s0 100000) (N := 4) (fun i => (32, (i : Int), 32, l, [0, 0, 0, 0], num (tv l % 2 ^ (64 * i)))) (y := some (32, l, [0, 0, 0, 0], num (tv l))) (fun i hi rec => by
      simp only [f99.s0, f99.s0t]
      have w0 : IntKind.wrap .i64 (8 * (i : Int)) = ((8 * i : Nat) : Int) := by rw [wrap_i _ (by omega) (by omega)]; omega
      have w1 : IntKind.wrap .i64 (24 - ((8 * i : Nat) : Int)) = ((24 - 8 * i : Nat) : Int) := by rw [wrap_i _ (by omega) (by omega)]; omega
      have w2 : IntKind.wrap .i64 (32 - ((8 * i : Nat) : Int)) = ((32 - 8 * i : Nat) : Int) := by rw [wrap_i _ (by omega) (by omega)]; omega
      have w3 : IntKind.wrap .i64 ((i : Int) + 1) = ((i + 1 : Nat) : Int) := by rw [wrap_i _ (by omega) (by omega)]; rfl
      have ht := told_at l (24 - 8 * i) ho (by omega) (by omega)
      have hw := tv_word l (24 - 8 * i) (8 * i) ho (by omega)
      have hs : setD (num (tv l % 2 ^ (64 * i))) i ((tv l / 2 ^ (64 * i) % 2 ^ 64 : Nat) : Int) = num (tv l % 2 ^ (64 * (i + 1))) := by
        rw [num, words, setD_vec hi, num, words]
        refine congrArg _ (funext fun j => ?_)
        rcases Nat.lt_trichotomy j i with h | h | h
        · rw [if_neg (by omega), word_of_mod _ 64 j i h, word_of_mod _ 64 j (i + 1) (by omega)]
        · subst h
          rw [if_pos rfl, word_of_mod _ 64 j (j + 1) (by omega)]
        · rw [if_neg (by omega)]
          have p1 : tv l % 2 ^ (64 * i) < 2 ^ (64 * j) := Nat.lt_of_lt_of_le (Nat.mod_lt _ (Nat.two_pow_pos _)) (Nat.pow_le_pow_right (by decide) (by omega))
          have p2 : tv l % 2 ^ (64 * (i + 1)) < 2 ^ (64 * j) := Nat.lt_of_lt_of_le (Nat.mod_lt _ (Nat.two_pow_pos _)) (Nat.pow_le_pow_right (by decide) (by omega))
          rw [Nat.div_eq_of_lt p1, Nat.div_eq_of_lt p2]
      rw [decide_eq_true (show (i : Int) < 4 by omega), cond_t, w0, w1, w2, decide_eq_true (show (0 : Int) ≤ ((32 - 8 * i : Nat) : Int) ∧ ((32 - 8 * i : Nat) : Int) ≤ ((32 : Nat) : Int) by omega), Bool.true_and, Int.toNat_natCast,
        decide_eq_true (show (0 : Int) ≤ ((24 - 8 * i : Nat) : Int) ∧ ((24 - 8 * i : Nat) : Int) ≤ ((32 - 8 * i : Nat) : Int) by omega), cond_t, Int.toNat_natCast, Nat.zero_add, show 32 - 8 * i - (24 - 8 * i) = 8 by omega,
        ble_true (show 24 - 8 * i + 8 ≤ 32 by omega), Bool.true_and, Bool.true_and, cond_t, ht, bind_s, decide_eq_true (show 0 ≤ (i : Int) ∧ (i : Int) < 4 by omega), cond_t, Int.toNat_natCast, w3, hw, pow_bytes, pow_bytes, show 8 * (8 * i) = 64 * i by omega, show 8 * 8 = 64 from rfl, hs])
    (fun rec => by
      simp only [f99.s0, f99.s0t]
      rw [decide_eq_false (show ¬ ((4 : Nat) : Int) < 4 by decide), cond_f, Nat.mod_eq_of_lt hlt]) (show 4 < 100000 by decide)
  simp only [f99.F, f99.T]
  rw [decide_eq_false (show ¬ ((32 : Nat) : Int) < 32 by decide), cond_f]
  simp only [Nat.mul_zero, Nat.pow_zero, Nat.mod_one] at key
  have key' : iter (f99.s0 100000) 100000 (32, 0, 32, l, [0, 0, 0, 0], [0, 0, 0, 0]) = some (32, l, [0, 0, 0, 0], num (tv l)) := key
  rw [key', bind_s]

end Go.Proofs

namespace Go.Proofs
open Go.VM

/-! ### As one divides on paper -/

theorem shr_u8 (c k : Nat) (hk : k ≤ 8) : shiftI .shr .u8 (c : Int) (k : Int) = ((c / 2 ^ k : Nat) : Int) := by
  simp only [shiftI, IntKind.bits, Int.toNat_natCast]
  rw [Nat.min_eq_left hk]
  exact fdiv_nat c k

theorem twice_div (V M b : Nat) (hM : 0 < M) (hb : b < 2) : (2 * V + b) / M = 2 * (V / M) + (if M ≤ 2 * (V % M) + b then 1 else 0) ∧ (2 * V + b) % M = if M ≤ 2 * (V % M) + b then 2 * (V % M) + b - M else 2 * (V % M) + b := by
  have h1 := Nat.mod_add_div V M
  have h2 := Nat.mod_lt V hM
  by_cases h : M ≤ 2 * (V % M) + b
  · rw [if_pos h, if_pos h]
    refine div_mod_of ?_ (by omega)
    rw [Nat.mul_add, Nat.mul_one, show M * (2 * (V / M)) = 2 * (M * (V / M)) by rw [Nat.mul_left_comm]]
    omega
  · rw [if_neg h, if_neg h]
    refine div_mod_of ?_ (by omega)
    rw [Nat.add_zero, show M * (2 * (V / M)) = 2 * (M * (V / M)) by rw [Nat.mul_left_comm]]
    omega

/-- One bit. -/
theorem f97.bit (n t6 i g k L M c : Nat) (l z4 : List Int) (z3 : List Int) (t4 : Nat) (hM : M < 2 ^ 256) (hL : L < M) (hg : g < 128) (hk : k ≤ 7) (hi : i < n) (hn : n < 1000000000) (hl : l.length = n) (hc : List.getD l i 0 = (c : Int)) (hc8 : c < 256) (rec : _ → _) :
    f97.s2 100000 rec (n, t6, (i : Int), (g : Int), (k : Int), n, l, num M, z3, t4, z4, num L) =
      rec (n, t6, (i : Int), ((2 * g + (if M ≤ 2 * L + c / 2 ^ k % 2 then 1 else 0) : Nat) : Int), (k : Int) - 1, n, l, num M, z3, t4, z4, num (if M ≤ 2 * L + c / 2 ^ k % 2 then 2 * L + c / 2 ^ k % 2 - M else 2 * L + c / 2 ^ k % 2)) := by
  have hL2 : L < 2 ^ 256 := by omega
  have mL := mod_self_of hL2
  have hb : c / 2 ^ k % 2 < 2 := Nat.mod_lt _ (by decide)
  obtain ⟨b, hbe⟩ : ∃ b, b = c / 2 ^ k % 2 := ⟨_, rfl⟩
  have hq : c / 2 ^ k ≤ c := Nat.div_le_self _ _
  simp only [f97.s2, f97.s2t, f33.all, bind_s, mL, Nat.zero_add, Int.toNat_natCast, hc, shr_u8 c k (by omega)]
  have w1 : IntKind.wrap .u64 ((c / 2 ^ k : Nat) : Int) = ((c / 2 ^ k : Nat) : Int) := wrap_u _ (Int.natCast_nonneg _) (by omega)
  have w2 : Int.tmod ((c / 2 ^ k : Nat) : Int) 2 = ((c / 2 ^ k % 2 : Nat) : Int) := rfl
  have w3 : IntKind.wrap .i64 (2 * (g : Int)) = ((2 * g : Nat) : Int) := by rw [wrap_i _ (by omega) (by omega)]; omega
  have w4 : IntKind.wrap .i64 (((2 * g : Nat) : Int) + 1) = ((2 * g + 1 : Nat) : Int) := by rw [wrap_i _ (by omega) (by omega)]; rfl
  have w5 : IntKind.wrap .i64 ((k : Int) - 1) = (k : Int) - 1 := wrap_i _ (by omega) (by omega)
  rw [decide_eq_true (show (k : Int) ≥ 0 by omega), cond_t, decide_eq_true (show 0 ≤ (i : Int) ∧ (i : Int) < (n : Int) by omega), cond_t, show Nat.blt i n = true from by simp [Nat.blt_eq, hi], cond_t, cond_t,
    w1, w2, ← hbe, f47.spec 100000 b (by omega), bind_s, f33.all, bind_s, w3, w4, w5]
  rw [← hbe] at hb
  have hS : num (L + L + b) = num (2 * L + b) := by rw [show L + L = 2 * L by omega]
  simp only []
  rw [hS]
  by_cases hov : 2 ^ 256 ≤ 2 * L
  · have e1 : (L + L) / 2 ^ 256 = 1 := by omega
    have e2 : f35.F 100000 (num (2 * L + b), num M) = some (num (2 * L + b - M), ((if (2 * L + b) % 2 ^ 256 < M then 1 else 0 : Nat) : Int)) := by
      rw [← num_mod (2 * L + b), f35.spec 100000 _ _ (Nat.mod_lt _ (Nat.two_pow_pos 256)) hM (by decide), show (2 * L + b) % 2 ^ 256 + 2 ^ 256 - M = 2 * L + b - M by omega]
    rw [e1, show (((1 : Nat) : Int) == 1) = true from rfl, cond_t, e2, bind_s, if_pos (show M ≤ 2 * L + b by omega), if_pos (show M ≤ 2 * L + b by omega)]
  · have e1 : (L + L) / 2 ^ 256 = 0 := by omega
    have hS2 : 2 * L + b < 2 ^ 256 := by omega
    rw [e1, show (((0 : Nat) : Int) == 1) = false from rfl, cond_f, f45.spec 100000 _ _ hS2 hM (by decide), bind_s, cmp_ge]
    by_cases h : M ≤ 2 * L + b
    · rw [decide_eq_true h, cond_t, f35.spec 100000 _ _ hS2 hM (by decide), bind_s, if_pos h, if_pos h]
      simp only []
      rw [show 2 * L + b + 2 ^ 256 - M = 2 * L + b - M + 2 ^ 256 by omega, num_add_mod]
    · rw [decide_eq_false h, cond_f, if_neg h, if_neg h, Nat.add_zero]

/-- Eight bits. -/
theorem f97.byte (n t6 i M X c : Nat) (l z4 z3 : List Int) (t4 : Nat) (hM : M < 2 ^ 256) (hX : X < M) (hi : i < n) (hn : n < 1000000000) (hl : l.length = n) (hc : List.getD l i 0 = (c : Int)) (hc8 : c < 256) :
    iter (f97.s2 100000) 100000 (n, t6, (i : Int), 0, 7, n, l, num M, z3, t4, z4, num X) = some (n, t6, (i : Int), (((256 * X + c) / M : Nat) : Int), n, l, num M, z3, t4, z4, num ((256 * X + c) % M)) := by
  have hM0 : 0 < M := by omega
  obtain ⟨V, hV⟩ : ∃ V : Nat → Nat, V = fun j => X * 2 ^ j + c / 2 ^ (8 - j) := ⟨_, rfl⟩
  have hstep : ∀ j, j < 8 → V (j + 1) = 2 * V j + c / 2 ^ (7 - j) % 2 := by
    intro j hj
    simp only [hV]
    have h1 : c / 2 ^ (8 - j) = c / 2 ^ (7 - j) / 2 := by rw [Nat.div_div_eq_div_mul, ← Nat.pow_succ]; congr 2; omega
    rw [h1, show 8 - (j + 1) = 7 - j by omega, Nat.pow_succ]
    have := Nat.mod_add_div (c / 2 ^ (7 - j)) 2
    have h2 : X * (2 ^ j * 2) = 2 * (X * 2 ^ j) := by rw [← Nat.mul_assoc, Nat.mul_comm]
    omega
  have hsmall : ∀ j, j ≤ 8 → V j / M < 2 ^ j := by
    intro j hj
    have h1 : c / 2 ^ (8 - j) < 2 ^ j := by
      rw [Nat.div_lt_iff_lt_mul (Nat.two_pow_pos _), ← Nat.pow_add, show j + (8 - j) = 8 by omega]; exact hc8
    rw [Nat.div_lt_iff_lt_mul hM0]
    simp only [hV]
    have h2 : (X + 1) * 2 ^ j ≤ M * 2 ^ j := Nat.mul_le_mul_right _ hX
    rw [Nat.add_mul, Nat.one_mul] at h2
    rw [Nat.mul_comm (2 ^ j) M]
    omega
  have key := iter_for (stp := f97.s2 100000) (N := 8) (fun j => (n, t6, (i : Int), ((V j / M : Nat) : Int), 7 - (j : Int), n, l, num M, z3, t4, z4, num (V j % M)))
    (y := some (n, t6, (i : Int), (((256 * X + c) / M : Nat) : Int), n, l, num M, z3, t4, z4, num ((256 * X + c) % M))) (fun j hj rec => by
      have hg : V j / M < 128 := Nat.lt_of_lt_of_le (hsmall j (by omega)) (Nat.le_trans (Nat.pow_le_pow_right (by decide) (show j ≤ 7 by omega)) (by decide))
      have := f97.bit n t6 i (V j / M) (7 - j) (V j % M) M c l z4 z3 t4 hM (Nat.mod_lt _ hM0) hg (by omega) hi hn hl hc hc8 rec
      obtain ⟨d1, d2⟩ := twice_div (V j) M (c / 2 ^ (7 - j) % 2) hM0 (Nat.mod_lt _ (by decide))
      rw [show ((7 - j : Nat) : Int) = 7 - (j : Int) by omega] at this
      rw [this, hstep j hj, d1, d2, show (7 : Int) - (j : Int) - 1 = 7 - ((j + 1 : Nat) : Int) by omega])
    (fun rec => by
      simp only [f97.s2, f97.s2t]
      rw [decide_eq_false (show ¬ (7 : Int) - ((8 : Nat) : Int) ≥ 0 by decide), cond_f]
      have : V 8 = 256 * X + c := by simp only [hV]; rw [Nat.sub_self, Nat.pow_zero, Nat.div_one, Nat.mul_comm]
      rw [this]) (show 8 < 100000 by decide)
  have v0 : V 0 = X := by
    simp only [hV]
    rw [Nat.pow_zero, Nat.mul_one, Nat.sub_zero, Nat.div_eq_of_lt (show c < 2 ^ 8 from hc8), Nat.add_zero]
  simp only [v0, Nat.div_eq_of_lt hX, Nat.mod_eq_of_lt hX] at key
  exact key

end Go.Proofs

namespace Go.Proofs
open Go.VM

theorem tv_take_succ (l : List Int) (i : Nat) (h : i < l.length) : tv (l.take (i + 1)) = 256 * tv (l.take i) + (List.getD l i 0).toNat := by
  rw [List.take_add_one, List.getElem?_eq_getElem h, Option.toList_some, tv_snoc]
  simp [h]

theorem byte_of (Q G : Nat) (h : G < 256) : (256 * Q + G) / 256 = Q ∧ (256 * Q + G) % 256 = G := by omega

/-- down: every byte. -/
theorem f97.spec (n M : Nat) (l : List Int) (hM0 : 0 < M) (hM : M < 2 ^ 256) (hn : n < 90000) (hl : l.length = n) (ho : octets l) :
    f97.F 100000 (n, num M, n, l) = some (n, num (tv l % M), n, l, n, be n (tv l / M)) := by
  have hz : ([0, 0, 0, 0] : List Int) = num 0 := rfl
  have key := iter_for (stp := f97.s0 100000) (N := n) (fun i => (n, i, (i : Int), n, l, num M, ([0, 0, 0, 0] : List Int), i, be i (tv (l.take i) / M), num (tv (l.take i) % M)))
    (y := some (n, n, l, ([0, 0, 0, 0] : List Int), n, be n (tv l / M), num (tv l % M))) (fun i hi rec => by
      simp only [f97.s0, f97.s0t]
      have hx := ho (List.getD l i 0) (by rw [List.getD_eq_getElem?_getD, List.getElem?_eq_getElem (by omega)]; exact List.getElem_mem _)
      obtain ⟨c, hc⟩ : ∃ c : Nat, List.getD l i 0 = (c : Int) := ⟨(List.getD l i 0).toNat, by omega⟩
      have hc8 : c < 256 := by omega
      obtain ⟨T, hT⟩ : ∃ T, T = tv (l.take i) := ⟨_, rfl⟩
      have hX := Nat.mod_lt T hM0
      have w2 : IntKind.wrap .i64 ((i : Int) + 1) = ((i + 1 : Nat) : Int) := by rw [wrap_i _ (by omega) (by omega)]; rfl
      have hd := Nat.mod_add_div T M
      have hgo : (256 * (T % M) + c) / M < 256 := by
        rw [Nat.div_lt_iff_lt_mul hM0]; omega
      have e1 : (256 * T + c) / M = 256 * (T / M) + (256 * (T % M) + c) / M ∧ (256 * T + c) % M = (256 * (T % M) + c) % M := by
        have h3 : 256 * T + c = M * (256 * (T / M)) + (256 * (T % M) + c) := by rw [Nat.mul_left_comm]; omega
        rw [h3, Nat.mul_add_div hM0, Nat.mul_add_mod]
        exact ⟨rfl, rfl⟩
      have e2 : be (i + 1) ((256 * T + c) / M) = be i (T / M) ++ [(((256 * (T % M) + c) / M : Nat) : Int)] := by
        rw [be, e1.1, (byte_of _ _ hgo).1, (byte_of _ _ hgo).2]
      have e3 : tv (l.take (i + 1)) = 256 * T + c := by rw [tv_take_succ l i (by omega), hc, hT]; rfl
      have w3 : IntKind.wrap .u8 (((256 * (T % M) + c) / M : Nat) : Int) = (((256 * (T % M) + c) / M : Nat) : Int) := wrap_b _ (Int.natCast_nonneg _) (Int.ofNat_lt.2 hgo)
      rw [decide_eq_true (show (i : Int) < (n : Int) by omega), cond_t, ← hT, f97.byte n i i M (T % M) c l _ _ i hM hX hi (by omega) hl hc hc8, bind_s]
      simp only []
      rw [ble_true (Nat.le_refl i), Bool.true_and, fitB_true (by omega), cond_t, padT_self _ (be_length i _), w2, w3, e3, e2, e1.2])
    (fun rec => by
      simp only [f97.s0, f97.s0t]
      rw [decide_eq_false (Int.lt_irrefl _), cond_f, List.take_of_length_le (by omega)]) (show n < 100000 by omega)
  have hstart : tv (l.take 0) = 0 := by rw [List.take_zero]; rfl
  simp only [hstart, Nat.zero_div, Nat.zero_mod] at key
  simp only [f97.F, f97.T]
  have key' : iter (f97.s0 100000) 100000 (n, 0, 0, n, l, num M, [0, 0, 0, 0], 0, [], [0, 0, 0, 0]) = some (n, n, l, ([0, 0, 0, 0] : List Int), n, be n (tv l / M), num (tv l % M)) := key
  rw [key', bind_s]

/-- Word. -/
theorem f96.spec (A : Nat) (hA : A < 2 ^ 256) : f96.F 100000 (num A) = some (decide (A < 2 ^ 64)) := by
  have e0 : List.getD (num A) 0 0 = ((A % 18446744073709551616 : Nat) : Int) := by
    have : (num A).getD 0 0 = ((A / 2 ^ (64 * 0) % 2 ^ 64 : Nat) : Int) := getD_words (by decide)
    rw [this, Nat.mul_zero, Nat.pow_zero, Nat.div_one]
  simp only [f96.F, f96.T, e0]
  rw [f47.spec _ _ (Nat.mod_lt _ (by decide)), bind_s, eqN A _ hA (by omega), Bool.and_true]
  congr 1
  by_cases h : A < 2 ^ 64
  · rw [decide_eq_true h, decide_eq_true (by omega)]
  · rw [decide_eq_false h, decide_eq_false (by omega)]

/-- Div. -/
theorem f53.spec (A B : Nat) (hA : A < 2 ^ 256) (hB : B < 2 ^ 256) : f53.F 100000 (num A, num B) = some (if B = 0 then (num 0, num 0, 1) else (num (A / B), num (A % B), 0)) := by
  have hz : ([0, 0, 0, 0] : List Int) = num 0 := rfl
  have p0 : (0 : Nat) < 2 ^ 256 := by decide
  have g0 : ∀ X, X < 2 ^ 64 → List.getD (num X) 0 0 = (X : Int) := fun X hX => by
    have : (num X).getD 0 0 = ((X / 2 ^ (64 * 0) % 2 ^ 64 : Nat) : Int) := getD_words (by decide)
    rw [this, Nat.mul_zero, Nat.pow_zero, Nat.div_one, Nat.mod_eq_of_lt hX]
  simp only [f53.F, f53.T, hz, eqN B 0 hB p0, Bool.and_true]
  by_cases h0 : B = 0
  · rw [decide_eq_true h0, cond_t, if_pos h0, h0]
  · have hB0 : 0 < B := by omega
    rw [decide_eq_false h0, cond_f, if_neg h0, f96.spec A hA, bind_s]
    have hq : A / B < 256 ^ 32 := by rw [pow_bytes]; exact Nat.lt_of_le_of_lt (Nat.div_le_self _ _) hA
    have hbe : tv (be 32 A) = A := by rw [tv_be, pow_bytes]; exact Nat.mod_eq_of_lt hA
    have slow : ((f98.F 100000 (0, num A, 0, [])).bind fun y12 =>
        bif Nat.ble (0 + y12.1) y12.2.2.2.1 then
          (f97.F 100000 (y12.1, num B, y12.1, (subI y12.2.2.2.2 0 y12.1))).bind fun y13 =>
          bif Nat.ble (0 + y13.1) y13.2.2.2.2.1 then
            (f99.F 100000 (y13.1, y13.1, (subI y13.2.2.2.2.2 0 y13.1))).bind fun y14 =>
            some (y14.1, y13.2.1, (0 : Int))
          else none
        else none) = some (num (A / B), num (A % B), 0) := by
      rw [f98.spec 0 A [] rfl (by decide), bind_s]
      simp only [Nat.zero_add, List.nil_append]
      rw [ble_true (Nat.le_refl 32), cond_t, subI_self _ (be_length 32 A), f97.spec 32 B _ hB0 hB (by decide) (be_length 32 A) (be_octets 32 A), bind_s]
      simp only [Nat.zero_add]
      rw [ble_true (Nat.le_refl 32), cond_t, subI_self _ (be_length 32 _), hbe, f99.spec _ (be_length 32 _) (be_octets 32 _), bind_s, tv_be, Nat.mod_eq_of_lt hq]
    by_cases ha : A < 2 ^ 64
    · rw [decide_eq_true ha, cond_t, f96.spec B hB, bind_s]
      by_cases hb : B < 2 ^ 64
      · rw [decide_eq_true hb, cond_t, g0 A ha, g0 B hb, decide_eq_true (show (B : Int) ≠ 0 by omega), cond_t, tdiv_nat, wrap_u _ (Int.natCast_nonneg _) (by have := Nat.div_le_self A B; omega), f47.spec _ _ (by have := Nat.div_le_self A B; omega), bind_s,
          cond_t, tmod_nat, f47.spec _ _ (by have := Nat.mod_lt A hB0; omega), bind_s]
      · rw [decide_eq_false hb, cond_f]
        exact slow
    · rw [decide_eq_false ha, cond_f]
      exact slow

end Go.Proofs

namespace Go.Proofs
open Go.VM

/-- Get, of eight bytes. -/
theorem f123.spec (n : Nat) (l : List Int) (hl : l.length = n) (ho : octets l) (h8 : 8 ≤ n) (hn : n < 90000) : f123.F 100000 (n, 8, n, l) = some (((tv (l.take 8) : Nat) : Int), 0, n, l) := by
  have ht := told_at l 0 ho (by omega) (by omega)
  rw [List.drop_zero] at ht
  simp only [f123.F, f123.T]
  rw [decide_eq_false (show ¬ (8 : Int) < 0 by decide), cond_f, decide_eq_false (show ¬ (8 : Int) > 8 by decide), cond_f, decide_eq_false (show ¬ (8 : Int) > (n : Int) by omega), cond_f, decide_eq_true (show (0 : Int) ≤ 8 ∧ (8 : Int) ≤ (n : Int) by omega), Bool.true_and, cond_t]
  rw [show Int.toNat 8 = 8 from rfl, Nat.zero_add, ble_true h8, Bool.true_and, Bool.true_and, cond_t, ht, bind_s]

/-- word. -/
theorem f102.spec (k M : Nat) (l : List Int) (hM0 : 0 < M) (hM : M < 18446744073709551616) (hk : k < 10000) (hl : l.length = 8 * k) (ho : octets l) :
    f102.F 100000 (8 * k, (M : Int), 8 * k, l) = some (((tv l % M : Nat) : Int), 8 * k, l) := by
  have key := iter_for (stp := f102.s0 100000) (N := k) (fun j => (8 * k, (M : Int), ((tv (l.take (8 * j)) % M : Nat) : Int), ((8 * j : Nat) : Int), 8 * k, l)) (y := some (((tv l % M : Nat) : Int), 8 * k, l)) (fun j hj rec => by
      simp only [f102.s0, f102.s0t]
      obtain ⟨T, hT⟩ : ∃ T, T = tv (l.take (8 * j)) := ⟨_, rfl⟩
      have hlt := Nat.mod_lt T hM0
      have hlen : ((l.drop (8 * j)).take (8 * k - 8 * j)).length = 8 * k - 8 * j := by simp; omega
      have hoc : octets ((l.drop (8 * j)).take (8 * k - 8 * j)) := fun x hx => ho x (List.mem_of_mem_drop (List.mem_of_mem_take hx))
      have hw : ((l.drop (8 * j)).take (8 * k - 8 * j)).take 8 = (l.drop (8 * j)).take 8 := by rw [List.take_take, Nat.min_eq_left (by omega)]
      have l8 : ((l.drop (8 * j)).take 8).length = 8 := by simp; omega
      have b8 := tv_lt 8 _ l8 (fun x hx => ho x (List.mem_of_mem_drop (List.mem_of_mem_take hx)))
      have e3 : tv (l.take (8 * (j + 1))) = T * 18446744073709551616 + tv ((l.drop (8 * j)).take 8) := by
        rw [show 8 * (j + 1) = 8 * j + 8 by omega, List.take_add, tv_append, l8, hT]
      have w2 : IntKind.wrap .i64 (((8 * j : Nat) : Int) + 8) = ((8 * (j + 1) : Nat) : Int) := by rw [wrap_i _ (by omega) (by omega)]; omega
      rw [decide_eq_true (show ((8 * j : Nat) : Int) < ((8 * k : Nat) : Int) by omega), cond_t, decide_eq_true (show (0 : Int) ≤ ((8 * j : Nat) : Int) ∧ ((8 * j : Nat) : Int) ≤ ((8 * k : Nat) : Int) by omega), cond_t, Int.toNat_natCast, Nat.zero_add,
        ble_true (show 8 * j + (8 * k - 8 * j) ≤ 8 * k by omega), Bool.true_and, Bool.true_and, cond_t, subI_cut l _ _ (by omega), f123.spec _ _ hlen hoc (by omega) (by omega), bind_s, hw, ← hT]
      simp only []
      rw [f100.spec 100000 _ _ M hM hlt b8 (by decide), bind_s, w2, e3, mod_step])
    (fun rec => by
      simp only [f102.s0, f102.s0t]
      rw [decide_eq_false (Int.lt_irrefl _), cond_f, List.take_of_length_le (by omega)]) (show k < 100000 by omega)
  simp only [f102.F, f102.T]
  have hstart : tv (l.take (8 * 0)) = 0 := by rw [Nat.mul_zero, List.take_zero]; rfl
  simp only [hstart, Nat.zero_mod] at key
  have key' : iter (f102.s0 100000) 100000 (8 * k, (M : Int), 0, 0, 8 * k, l) = some (((tv l % M : Nat) : Int), 8 * k, l) := key
  rw [key', bind_s]

/-- Wide. -/
theorem f55.spec (L H M : Nat) (hL : L < 2 ^ 256) (hH : H < 2 ^ 256) (hM : M < 2 ^ 256) : f55.F 100000 (num L, num H, num M) = some (if M = 0 then (num 0, 1) else (num ((H * 2 ^ 256 + L) % M), 0)) := by
  have hz : ([0, 0, 0, 0] : List Int) = num 0 := rfl
  have p0 : (0 : Nat) < 2 ^ 256 := by decide
  simp only [f55.F, f55.T, hz, eqN M 0 hM p0, Bool.and_true]
  by_cases h0 : M = 0
  · rw [decide_eq_true h0, cond_t, if_pos h0, h0]
  · have hM0 : 0 < M := by omega
    have hlen : (be 32 H ++ be 32 L).length = 64 := by rw [List.length_append, be_length, be_length]
    have hoc : octets (be 32 H ++ be 32 L) := octets_append (be_octets _ _) (be_octets _ _)
    have htv : tv (be 32 H ++ be 32 L) = H * 2 ^ 256 + L := by
      rw [tv_append, tv_be, tv_be, be_length, pow_bytes, show 8 * 32 = 256 from rfl, Nat.mod_eq_of_lt hH, Nat.mod_eq_of_lt hL]
    rw [decide_eq_false h0, cond_f, if_neg h0, f98.spec 0 H [] rfl (by decide), bind_s]
    simp only [Nat.zero_add, List.nil_append]
    rw [ble_true (Nat.le_refl 32), cond_t, subI_self _ (be_length 32 H), f98.spec 32 L _ (be_length 32 H) (by decide), bind_s, f96.spec M hM, bind_s]
    simp only [Nat.zero_add]
    by_cases hm : M < 2 ^ 64
    · have g0 : List.getD (num M) 0 0 = (M : Int) := by
        have : (num M).getD 0 0 = ((M / 2 ^ (64 * 0) % 2 ^ 64 : Nat) : Int) := getD_words (by decide)
        rw [this, Nat.mul_zero, Nat.pow_zero, Nat.div_one, Nat.mod_eq_of_lt hm]
      have hw := f102.spec 8 M (be 32 H ++ be 32 L) hM0 hm (by decide) hlen hoc
      rw [decide_eq_true hm, cond_t, ble_true (Nat.le_refl (32 + 32)), cond_t, g0, subI_self _ hlen]
      rw [show (32 + 32 : Nat) = 8 * 8 from rfl, hw, bind_s, htv, f47.spec _ _ (by have := Nat.mod_lt (H * 2 ^ 256 + L) hM0; omega), bind_s]
    · rw [decide_eq_false hm, cond_f, ble_true (Nat.le_refl (32 + 32)), cond_t, subI_self _ hlen]
      rw [show (32 + 32 : Nat) = 64 from rfl, f97.spec 64 M _ hM0 hM (by decide) hlen hoc, bind_s, htv]

end Go.Proofs

namespace Go.Proofs
open Go.VM

/-! ### What two have in common, by halves -/

theorem f41.low (A : Nat) (hA : A < 2 ^ 256) : f41.F 100000 (num A, 0) = some ((A % 2 : Nat) : Int) := by
  have := f41.all A 0 hA
  rw [Nat.pow_zero, Nat.div_one] at this
  exact this

theorem f39.half (A : Nat) (hA : A < 2 ^ 256) : f39.F 100000 (num A, -1) = some (num (A / 2)) := by
  have := f39.down A 1 hA (by decide) (by decide)
  rw [Nat.pow_one] at this
  exact this

theorem less35 (A B : Nat) (hA : A < 2 ^ 256) (hB : B < 2 ^ 256) (h : B ≤ A) : ∃ c, f35.F 100000 (num A, num B) = some (num (A - B), c) := by
  refine ⟨((if A < B then 1 else 0 : Nat) : Int), ?_⟩
  rw [f35.spec 100000 A B hA hB (by decide), show A + 2 ^ 256 - B = A - B + 2 ^ 256 by omega, num_add_mod]

theorem cmp_more (A B : Nat) : decide (cmp A B > 0) = decide (B < A) := by
  unfold cmp
  by_cases h : A = B
  · subst h; simp
  · rw [if_neg h]
    by_cases h2 : A < B
    · rw [if_pos h2, decide_eq_false (by omega), decide_eq_false (by omega)]
    · rw [if_neg h2, decide_eq_true (by omega), decide_eq_true (by omega)]

theorem half_blen {a : Nat} (h : 2 ≤ a) : blen (a / 2) < blen a := by
  have := blen_shift a 1 (by omega)
  rw [Nat.pow_one] at this
  omega

theorem odd_cop {b : Nat} (h : b % 2 = 1) : Nat.Coprime 2 b := by
  have h1 : Nat.gcd 2 b ∣ 2 := Nat.gcd_dvd_left 2 b
  have h2 : Nat.gcd 2 b ∣ b := Nat.gcd_dvd_right 2 b
  have h3 := Nat.le_of_dvd (by decide) h1
  have h4 : Nat.gcd 2 b ≠ 2 := by
    intro e; rw [e] at h2
    have := Nat.mod_eq_zero_of_dvd h2
    omega
  have h5 : Nat.gcd 2 b ≠ 0 := by
    intro e; rw [e] at h1
    have := Nat.eq_zero_of_zero_dvd h1
    omega
  show Nat.gcd 2 b = 1
  omega

theorem gcd_half {a b : Nat} (ha : a % 2 = 0) (hb : b % 2 = 1) : Nat.gcd (a / 2) b = Nat.gcd a b := by
  have e : a = 2 * (a / 2) := by omega
  conv => rhs; rw [e]
  exact (Nat.Coprime.gcd_mul_left_cancel _ (odd_cop hb)).symm

theorem common57 (A B : Nat) (hA0 : 0 < A) (hA : A < 2 ^ 256) (hB : B < 2 ^ 256) (z : List Int) :
    ∃ t a, iter (f57.s0 100000) 100000 (0, num A, num B, z, num 0) = some (((t : Nat) : Int), num a, z) ∧ Nat.gcd A B = a * 2 ^ t ∧ t ≤ 256 := by
  have hg : 0 < Nat.gcd A B := Nat.gcd_pos_of_pos_left B hA0
  have hgl : Nat.gcd A B < 2 ^ 256 := gcd_lt hA hB
  have p0 : (0 : Nat) < 2 ^ 256 := by decide
  obtain ⟨y, ⟨t, a, rfl, h1, h2⟩, h⟩ := iter_inv (stp := f57.s0 100000) (fun m x => ∃ t a b : Nat, x = ((t : Int), num a, num b, z, num 0) ∧ 0 < a ∧ a < 2 ^ 256 ∧ b < 2 ^ 256 ∧ Nat.gcd A B = Nat.gcd a b * 2 ^ t ∧ 2 * (blen a + blen b) + a % 2 * (b % 2) ≤ m)
    (fun y => ∃ t a : Nat, y = ((t : Int), num a, z) ∧ Nat.gcd A B = a * 2 ^ t ∧ t ≤ 256) (by
      intro m x ⟨t, a, b, hx, ha0, ha, hb, hgc, hm⟩
      subst hx
      have ht : t ≤ 255 := by
        rcases Nat.lt_or_ge t 256 with h | h
        · omega
        · have h1 : 2 ^ 256 ≤ 2 ^ t := Nat.pow_le_pow_right (by decide) h
          have h2 : 1 * 2 ^ t ≤ Nat.gcd a b * 2 ^ t := Nat.mul_le_mul_right _ (Nat.gcd_pos_of_pos_left b ha0)
          omega
      simp only [f57.s0, f57.s0t, eqN b 0 hb p0, f41.low a ha, f41.low b hb, bind_s, Bool.and_true]
      by_cases hb0 : b = 0
      · left
        refine ⟨((t : Int), num a, z), ⟨t, a, rfl, by rw [hgc, hb0, Nat.gcd_zero_right], by omega⟩, fun rec => ?_⟩
        rw [decide_eq_true hb0, Bool.not_true, cond_f]
      · right
        have w2 : IntKind.wrap .i64 ((t : Int) + 1) = ((t + 1 : Nat) : Int) := by rw [wrap_i _ (by omega) (by omega)]; rfl
        have z1 : (((0 : Nat) : Int) == 1) = false := rfl
        have z2 : (((1 : Nat) : Int) == 1) = true := rfl
        rcases Nat.mod_two_eq_zero_or_one a with pa | pa
        · have ba := half_blen (show 2 ≤ a by omega)
          have ea : eqL 4 (num (a / 2)) (num 0) = false := by rw [eqN _ 0 (by omega) p0]; exact decide_eq_false (by omega)
          have la : a / 2 % 2 * ((b / 2) % 2) ≤ 1 := by
            have h1 := Nat.mod_lt (a / 2) (show 0 < 2 by decide); have h2 := Nat.mod_lt (b / 2) (show 0 < 2 by decide)
            rcases Nat.mod_two_eq_zero_or_one (a / 2) with h | h <;> rcases Nat.mod_two_eq_zero_or_one (b / 2) with h' | h' <;> rw [h, h'] <;> decide
          have la' : a / 2 % 2 * (b % 2) ≤ 1 := by
            rcases Nat.mod_two_eq_zero_or_one (a / 2) with h | h <;> rcases Nat.mod_two_eq_zero_or_one b with h' | h' <;> rw [h, h'] <;> decide
          rcases Nat.mod_two_eq_zero_or_one b with pb | pb
          · have bb := half_blen (show 2 ≤ b by omega)
            refine ⟨(((t + 1 : Nat) : Int), num (a / 2), num (b / 2), z, num 0), 2 * (blen (a / 2) + blen (b / 2)) + a / 2 % 2 * (b / 2 % 2), by omega, ⟨t + 1, a / 2, b / 2, rfl, by omega, by omega, by omega, ?_, Nat.le_refl _⟩, fun rec => ?_⟩
            · rw [hgc, Nat.pow_succ]
              have e1 : a = 2 * (a / 2) := by omega
              have e2 : b = 2 * (b / 2) := by omega
              conv => lhs; rw [e1, e2]
              rw [Nat.gcd_mul_left, Nat.mul_comm 2 (Nat.gcd _ _), Nat.mul_assoc, Nat.mul_comm 2]
            · simp only [pa, pb, z1, Bool.not_false, cond_t, decide_eq_false hb0, f39.half a ha, f39.half b hb, bind_s, ea, cond_f, w2]
          · refine ⟨((t : Int), num (a / 2), num b, z, num 0), 2 * (blen (a / 2) + blen b) + a / 2 % 2 * (b % 2), by omega, ⟨t, a / 2, b, rfl, by omega, by omega, hb, ?_, Nat.le_refl _⟩, fun rec => ?_⟩
            · rw [gcd_half pa pb]; exact hgc
            · simp only [pa, pb, z1, z2, Bool.not_false, Bool.not_true, cond_t, cond_f, decide_eq_false hb0, f39.half a ha, bind_s, ea]
        · have ea : eqL 4 (num a) (num 0) = false := by rw [eqN _ 0 ha p0]; exact decide_eq_false (by omega)
          rcases Nat.mod_two_eq_zero_or_one b with pb | pb
          · have bb := half_blen (show 2 ≤ b by omega)
            have la' : a % 2 * (b / 2 % 2) ≤ 1 := by
              rcases Nat.mod_two_eq_zero_or_one (b / 2) with h' | h' <;> rw [pa, h'] <;> decide
            refine ⟨((t : Int), num a, num (b / 2), z, num 0), 2 * (blen a + blen (b / 2)) + a % 2 * (b / 2 % 2), by omega, ⟨t, a, b / 2, rfl, ha0, ha, by omega, ?_, Nat.le_refl _⟩, fun rec => ?_⟩
            · rw [Nat.gcd_comm a (b / 2), gcd_half pb pa, Nat.gcd_comm b a]; exact hgc
            · simp only [pa, pb, z1, z2, Bool.not_false, Bool.not_true, cond_t, cond_f, decide_eq_false hb0, f39.half b hb, bind_s, ea]
          · have hodd : a % 2 * (b % 2) = 1 := by rw [pa, pb]
            by_cases hab : b < a
            · obtain ⟨c, hc⟩ := less35 a b ha hb (by omega)
              have es : eqL 4 (num (a - b)) (num 0) = false := by rw [eqN _ 0 (by omega) p0]; exact decide_eq_false (by omega)
              have hbl := blen_mono (show a - b ≤ a by omega)
              have hev : (a - b) % 2 * (b % 2) = 0 := by rw [show (a - b) % 2 = 0 by omega, Nat.zero_mul]
              refine ⟨((t : Int), num (a - b), num b, z, num 0), 2 * (blen (a - b) + blen b) + (a - b) % 2 * (b % 2), by omega, ⟨t, a - b, b, rfl, by omega, by omega, hb, ?_, Nat.le_refl _⟩, fun rec => ?_⟩
              · rw [hgc, Nat.gcd_sub_self_left (by omega)]
              · simp only [pa, pb, z2, Bool.not_false, Bool.not_true, cond_t, cond_f, decide_eq_false hb0, f45.spec 100000 a b ha hb (by decide), bind_s, cmp_more, decide_eq_true hab, hc, es]
            · obtain ⟨c, hc⟩ := less35 b a hb ha (by omega)
              have hbl := blen_mono (show b - a ≤ b by omega)
              have hev : a % 2 * ((b - a) % 2) = 0 := by rw [show (b - a) % 2 = 0 by omega, Nat.mul_zero]
              refine ⟨((t : Int), num a, num (b - a), z, num 0), 2 * (blen a + blen (b - a)) + a % 2 * ((b - a) % 2), by omega, ⟨t, a, b - a, rfl, ha0, ha, by omega, ?_, Nat.le_refl _⟩, fun rec => ?_⟩
              · rw [hgc, Nat.gcd_sub_self_right (by omega)]
              · simp only [pa, pb, z2, Bool.not_false, Bool.not_true, cond_t, cond_f, decide_eq_false hb0, f45.spec 100000 a b ha hb (by decide), bind_s, cmp_more, decide_eq_false hab, hc, ea])
    2000 _ ⟨0, A, B, rfl, hA0, hA, hB, by rw [Nat.pow_zero, Nat.mul_one], by
      have := blen_256 hA; have := blen_256 hB
      have : A % 2 * (B % 2) ≤ 1 := by
        rcases Nat.mod_two_eq_zero_or_one A with h | h <;> rcases Nat.mod_two_eq_zero_or_one B with h' | h' <;> rw [h, h'] <;> decide
      omega⟩ 100000 (by decide)
  exact ⟨t, a, h, h1, h2⟩

theorem f57.spec (A B : Nat) (hA : A < 2 ^ 256) (hB : B < 2 ^ 256) : f57.F 100000 (num A, num B) = some (num (Nat.gcd A B)) := by
  have hz : ([0, 0, 0, 0] : List Int) = num 0 := rfl
  simp only [f57.F, f57.T, hz, eqN A 0 hA (by decide), Bool.and_true]
  by_cases h0 : A = 0
  · rw [decide_eq_true h0, cond_t, h0, Nat.gcd_zero_left]
  · obtain ⟨t, a, h1, h2, h3⟩ := common57 A B (by omega) hA hB (num 0)
    rw [decide_eq_false h0, cond_f, h1, bind_s]
    simp only []
    rw [f39.up a t h3, bind_s, h2]

/-- DividesReckoned. -/
theorem f10.holds (A B M : Nat) (hA : A < 2 ^ 256) (hB : B < 2 ^ 256) (hM : M < 2 ^ 256) : f10.F 100000 (num A, num B, num M) = some true := by
  have hd : f52.F 100000 (num A, num B) = f53.F 100000 (num A, num B) := by
    rw [f53.spec A B hA hB]
    by_cases h : B = 0
    · rw [if_pos h, h, f52.zero]
    · rw [if_neg h, f52.spec A B hA hB (by omega)]
  have hw : f54.F 100000 (num A, num B, num M) = f55.F 100000 (num A, num B, num M) := by
    rw [f55.spec A B M hA hB hM]
    by_cases h : M = 0
    · rw [if_pos h, h, f54.zero]
    · rw [if_neg h, f54.spec A B M hA hB hM (by omega)]
  simp only [f10.F, f10.T, hd, hw, f53.spec A B hA hB, f55.spec A B M hA hB hM, f56.spec A B hA hB, f57.spec A B hA hB, bind_s, eqL_num]
  by_cases h : B = 0 <;> by_cases h' : M = 0 <;> simp only [h, h', if_true, if_false, eqL_num, decide_true, Bool.and_true, cond_t, beq_self_eq_true]

end Go.Proofs
