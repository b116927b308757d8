/- Plain laws: lemmas that hold with no condition but those that each states. -/
import Derived.Test.YtjkelipglcnpmaaDoorPa
import Derived.Test.YtjkelipglcnpmaaDoorFf
import Derived.Laws.Strings
namespace Go.Proofs
open Go.VM
theorem or_i64 (a b : Nat) (ha : a < 9223372036854775808) (hb : b < 9223372036854775808) : bits .or .i64 (a : Int) (b : Int) = ((a ||| b : Nat) : Int) := by
  have hx : a ||| b < 2 ^ 63 := Nat.or_lt_two_pow (by omega) (by omega)
  have h1 : (BitVec.ofInt 64 (a : Int)).toNat = a := by
    rw [BitVec.ofInt_natCast, BitVec.toNat_ofNat]; exact Nat.mod_eq_of_lt (by omega)
  have h2 : (BitVec.ofInt 64 (b : Int)).toNat = b := by
    rw [BitVec.ofInt_natCast, BitVec.toNat_ofNat]; exact Nat.mod_eq_of_lt (by omega)
  show IntKind.i64.wrap ((BitVec.ofInt 64 (a : Int) ||| BitVec.ofInt 64 (b : Int)).toNat : Int) = _
  rw [BitVec.toNat_or, h1, h2, wrap_i _ (by omega) (by omega)]
theorem and_i64 (a b : Nat) (ha : a < 9223372036854775808) (hb : b < 9223372036854775808) : bits .and .i64 (a : Int) (b : Int) = ((a &&& b : Nat) : Int) := by
  have hx : a &&& b < 2 ^ 63 := Nat.and_lt_two_pow _ (by omega)
  have h1 : (BitVec.ofInt 64 (a : Int)).toNat = a := by
    rw [BitVec.ofInt_natCast, BitVec.toNat_ofNat]; exact Nat.mod_eq_of_lt (by omega)
  have h2 : (BitVec.ofInt 64 (b : Int)).toNat = b := by
    rw [BitVec.ofInt_natCast, BitVec.toNat_ofNat]; exact Nat.mod_eq_of_lt (by omega)
  show IntKind.i64.wrap ((BitVec.ofInt 64 (a : Int) &&& BitVec.ofInt 64 (b : Int)).toNat : Int) = _
  rw [BitVec.toNat_and, h1, h2, wrap_i _ (by omega) (by omega)]
theorem wrap_8 (z : Int) (h0 : 0 ≤ z) (h : z < 256) : IntKind.wrap .u8 z = z := by
  simp [IntKind.wrap, IntKind.signed, IntKind.bits]; omega
theorem or_u8 (a b : Nat) (ha : a < 256) (hb : b < 256) : bits .or .u8 (a : Int) (b : Int) = ((a ||| b : Nat) : Int) := by
  have hx : a ||| b < 2 ^ 8 := Nat.or_lt_two_pow (by omega) (by omega)
  have h1 : (BitVec.ofInt 8 (a : Int)).toNat = a := by
    rw [BitVec.ofInt_natCast, BitVec.toNat_ofNat]; exact Nat.mod_eq_of_lt (by omega)
  have h2 : (BitVec.ofInt 8 (b : Int)).toNat = b := by
    rw [BitVec.ofInt_natCast, BitVec.toNat_ofNat]; exact Nat.mod_eq_of_lt (by omega)
  show IntKind.u8.wrap ((BitVec.ofInt 8 (a : Int) ||| BitVec.ofInt 8 (b : Int)).toNat : Int) = _
  rw [BitVec.toNat_or, h1, h2, wrap_8 _ (by omega) (by omega)]
theorem or_add (x y k : Nat) (h : y < 2 ^ k) : x * 2 ^ k ||| y = x * 2 ^ k + y := by
  have := Nat.shiftLeft_add_eq_or_of_lt h x
  rw [Nat.shiftLeft_eq] at this
  exact this.symm
def Tg.hex (n : Nat) : Nat := if n < 10 then 48 + n else 87 + n
theorem Tg.hex_lt {n : Nat} (h : n < 16) : Tg.hex n < 128 := by unfold Tg.hex; split <;> omega
theorem Tg.hex_mono {m n : Nat} (hm : m < 16) (hn : n < 16) : Tg.hex m < Tg.hex n ↔ m < n := by unfold Tg.hex; split <;> split <;> omega
theorem digit (n : Nat) (h : n < 16) : strAt f5.k0 n = (Tg.hex n : Int) := by
  have : ∀ n : Fin 16, strAt f5.k0 n.val = (Tg.hex n.val : Int) := by decide +kernel
  exact this ⟨n, h⟩
def Tg.chr (A : Nat → Nat) (i : Nat) : Nat :=
  if i % 5 = 4 then 58 else if i % 5 % 2 = 0 then Tg.hex (A (2 * (i / 5) + i % 5 / 2) / 16) else Tg.hex (A (2 * (i / 5) + i % 5 / 2) % 16)
def Tg.text (A : Nat → Nat) : List Int := (List.range 39).map fun i => (Tg.chr A i : Int)
theorem four (x y : Nat) (hx : x < 256) (hy : y < 256) :
    bits .and .i64 (Int.fdiv (bits .or .i64 (IntKind.wrap .i64 ((IntKind.wrap .i64 (x : Int)) * 2 ^ 8)) (IntKind.wrap .i64 (y : Int))) (2 ^ 12)) 15 = ((x / 16 : Nat) : Int) ∧
    bits .and .i64 (Int.fdiv (bits .or .i64 (IntKind.wrap .i64 ((IntKind.wrap .i64 (x : Int)) * 2 ^ 8)) (IntKind.wrap .i64 (y : Int))) (2 ^ 8)) 15 = ((x % 16 : Nat) : Int) ∧
    bits .and .i64 (Int.fdiv (bits .or .i64 (IntKind.wrap .i64 ((IntKind.wrap .i64 (x : Int)) * 2 ^ 8)) (IntKind.wrap .i64 (y : Int))) (2 ^ 4)) 15 = ((y / 16 : Nat) : Int) ∧
    bits .and .i64 (Int.fdiv (bits .or .i64 (IntKind.wrap .i64 ((IntKind.wrap .i64 (x : Int)) * 2 ^ 8)) (IntKind.wrap .i64 (y : Int))) (2 ^ 0)) 15 = ((y % 16 : Nat) : Int) := by
  have e : bits .or .i64 (IntKind.wrap .i64 ((IntKind.wrap .i64 (x : Int)) * 2 ^ 8)) (IntKind.wrap .i64 (y : Int)) = ((x * 2 ^ 8 + y : Nat) : Int) := by
    rw [wrap_i (x : Int) (by omega) (by omega), wrap_i (y : Int) (by omega) (by omega), show (x : Int) * 2 ^ 8 = ((x * 2 ^ 8 : Nat) : Int) by omega, wrap_i _ (by omega) (by omega), or_i64 _ _ (by omega) (by omega), or_add x y 8 (by omega)]
  have k : ∀ z : Nat, z < 65536 → bits .and .i64 (z : Int) 15 = ((z % 16 : Nat) : Int) := fun z hz => by
    rw [show (15 : Int) = ((15 : Nat) : Int) from rfl, and_i64 _ _ (by omega) (by omega), show (15 : Nat) = 2 ^ 4 - 1 from rfl, Nat.and_two_pow_sub_one_eq_mod]
  rw [e, fdiv_nat, fdiv_nat, fdiv_nat, fdiv_nat, k _ (by omega), k _ (by omega), k _ (by omega), k _ (by omega)]
  refine ⟨?_, ?_, ?_, ?_⟩ <;> congr 1 <;> omega
theorem f5.spec (K : Nat) (A : Nat → Nat) (hA : ∀ i, A i < 256) : f5.F K (vec 16 A) = some (mkStr (Tg.text A)) := by
  have g : ∀ i, i < 16 → List.getD (vec 16 A) i 0 = (A i : Int) := fun i h => getD_vec h
  simp only [f5.F, f5.T]
  rw [g 0 (by decide), g 1 (by decide), g 2 (by decide), g 3 (by decide), g 4 (by decide), g 5 (by decide), g 6 (by decide), g 7 (by decide), g 8 (by decide), g 9 (by decide), g 10 (by decide), g 11 (by decide), g 12 (by decide), g 13 (by decide), g 14 (by decide), g 15 (by decide)]
  have f := fun i j => four (A i) (A j) (hA i) (hA j)
  have sz : ((ByteArray.size f5.k0 : Nat) : Int) = 16 := rfl
  have c : ∀ n : Nat, n < 16 → decide ((0 : Int) ≤ (n : Int) ∧ (n : Int) < 16) = true := fun n h => decide_eq_true (by omega)
  have hd : ∀ n, A n / 16 < 16 := fun n => by have := hA n; omega
  have hm : ∀ n, A n % 16 < 16 := fun n => Nat.mod_lt _ (by decide)
  simp only [(f 0 1).1, (f 0 1).2.1, (f 0 1).2.2.1, (f 0 1).2.2.2, (f 2 3).1, (f 2 3).2.1, (f 2 3).2.2.1, (f 2 3).2.2.2, (f 4 5).1, (f 4 5).2.1, (f 4 5).2.2.1, (f 4 5).2.2.2, (f 6 7).1, (f 6 7).2.1, (f 6 7).2.2.1, (f 6 7).2.2.2,
    (f 8 9).1, (f 8 9).2.1, (f 8 9).2.2.1, (f 8 9).2.2.2, (f 10 11).1, (f 10 11).2.1, (f 10 11).2.2.1, (f 10 11).2.2.2, (f 12 13).1, (f 12 13).2.1, (f 12 13).2.2.1, (f 12 13).2.2.2, (f 14 15).1, (f 14 15).2.1, (f 14 15).2.2.1, (f 14 15).2.2.2,
    sz, c _ (hd _), c _ (hm _), cond_t, Int.toNat_natCast, digit _ (hd _), digit _ (hm _)]
  rfl
end Go.Proofs

namespace Go.Proofs
open Go.VM
def Tg.byte (s : ByteArray) (i : Nat) : Nat := (s.get! i).toNat
theorem decode_low {s : ByteArray} {i : Nat} (h : Tg.byte s i < 128) : Utf8.decode s i = (Tg.byte s i, 1) := by
  unfold Utf8.decode
  simp only [Nat.add_zero]
  rw [if_pos (show (s.get! i).toNat < 128 from h)]
  rfl
def Tg.val (c : Nat) : Option Nat := if 48 ≤ c ∧ c ≤ 57 then some (c - 48) else if 97 ≤ c ∧ c ≤ 102 then some (c - 87) else none
theorem Tg.val_lt {c n : Nat} (h : Tg.val c = some n) : n < 16 ∧ c < 128 ∧ c ≠ 58 := by
  unfold Tg.val at h
  split at h
  · simp only [Option.some.injEq] at h; omega
  · split at h
    · simp only [Option.some.injEq] at h; omega
    · cases h
theorem Tg.val_hex {n : Nat} (h : n < 16) : Tg.val (Tg.hex n) = some n := by
  unfold Tg.val Tg.hex
  split
  · rw [if_pos (by omega)]; congr 1; omega
  · rw [if_neg (by omega), if_pos (by omega)]; congr 1; omega
theorem wrap_32 (z : Int) (h1 : -2147483648 ≤ z) (h2 : z < 2147483648) : IntKind.wrap .i32 z = z := by
  simp only [IntKind.wrap, IntKind.bits, IntKind.signed, Bool.true_and]
  split <;> rename_i h <;> simp at h <;> omega
theorem f9.spec (K c : Nat) (hc : c < 2147483648) : f9.F K (c : Int) = some (match Tg.val c with | some n => (n : Int) | none => -1) := by
  simp only [f9.F, f9.T]
  unfold Tg.val
  by_cases h1 : 48 ≤ c ∧ c ≤ 57
  · rw [if_pos h1, decide_eq_true (show (c : Int) ≥ 48 by omega), cond_t, decide_eq_true (show (c : Int) ≤ 57 by omega), cond_t, wrap_32 _ (by omega) (by omega), wrap_i _ (by omega) (by omega)]
    simp only []
    congr 1; omega
  · rw [if_neg h1]
    by_cases h2 : 97 ≤ c ∧ c ≤ 102
    · rw [if_pos h2, decide_eq_true (show (c : Int) ≥ 48 by omega), cond_t, decide_eq_false (show ¬ (c : Int) ≤ 57 by omega), cond_f, decide_eq_true (show (c : Int) ≥ 97 by omega), cond_t, decide_eq_true (show (c : Int) ≤ 102 by omega), cond_t, wrap_32 _ (by omega) (by omega), wrap_i ((c : Int) - 97) (by omega) (by omega), wrap_i _ (by omega) (by omega)]
      simp only []
      congr 1; omega
    · rw [if_neg h2]
      simp only []
      by_cases h3 : 48 ≤ c
      · rw [decide_eq_true (show (c : Int) ≥ 48 by omega), cond_t, decide_eq_false (show ¬ (c : Int) ≤ 57 by omega), cond_f]
        by_cases h4 : 97 ≤ c
        · rw [decide_eq_true (show (c : Int) ≥ 97 by omega), cond_t, decide_eq_false (show ¬ (c : Int) ≤ 102 by omega), cond_f]
        · rw [decide_eq_false (show ¬ (c : Int) ≥ 97 by omega), cond_f]
      · rw [decide_eq_false (show ¬ (c : Int) ≥ 48 by omega), cond_f, decide_eq_false (show ¬ (c : Int) ≥ 97 by omega), cond_f]
def Tg.good (s : ByteArray) (i : Nat) : Prop := if i % 5 = 4 then Tg.byte s i = 58 else (Tg.val (Tg.byte s i)).isSome = true
instance (s : ByteArray) (i : Nat) : Decidable (Tg.good s i) := by unfold Tg.good; infer_instance
def Tg.at' (k : Nat) : Nat := 5 * (k / 2) + 2 * (k % 2)
def Tg.dig (s : ByteArray) (i : Nat) : Nat := (Tg.val (Tg.byte s i)).getD 0
def Tg.part (s : ByteArray) (i k : Nat) : Nat := (if Tg.at' k < i then 16 * Tg.dig s (Tg.at' k) else 0) + (if Tg.at' k + 1 < i then Tg.dig s (Tg.at' k + 1) else 0)
def Tg.oct (s : ByteArray) (k : Nat) : Nat := 16 * Tg.dig s (Tg.at' k) + Tg.dig s (Tg.at' k + 1)
theorem Tg.dig_lt (s : ByteArray) (i : Nat) : Tg.dig s i < 16 := by
  unfold Tg.dig
  cases h : Tg.val (Tg.byte s i) with
  | none => simp
  | some n => exact (Tg.val_lt h).1
theorem Tg.part_same (s : ByteArray) (i k : Nat) (h1 : Tg.at' k ≠ i) (h2 : Tg.at' k + 1 ≠ i) : Tg.part s i k = Tg.part s (i + 1) k := by
  unfold Tg.part
  congr 1
  · by_cases h : Tg.at' k < i
    · rw [if_pos h, if_pos (by omega)]
    · rw [if_neg h, if_neg (by omega)]
  · by_cases h : Tg.at' k + 1 < i
    · rw [if_pos h, if_pos (by omega)]
    · rw [if_neg h, if_neg (by omega)]
theorem shift_by (r : Nat) (h : r < 4) : Int.tmod (List.getD [12, 8, 4, 0] (0 + r) 0) 8 = if r % 2 = 0 then (4 : Int) else 0 := by
  match r, h with
  | 0, _ | 1, _ | 2, _ | 3, _ => rfl
theorem f6.good (K : Nat) (s : ByteArray) (i : Nat) (hs : s.size = 39) (hi : i < 39) (h : Tg.good s i) (rec : List Int × ByteArray × Nat → Option ((Int × List Int) ⊕ (List Int))) :
    f6.s0 K rec (vec 16 (Tg.part s i), s, i) = rec (vec 16 (Tg.part s (i + 1)), s, i + 1) := by
  simp only [f6.s0, f6.s0t]
  rw [show Nat.blt i (ByteArray.size s) = true from by simp [Nat.blt_eq, hs, hi], cond_t]
  have t5 : Int.tmod ((i : Nat) : Int) 5 = ((i % 5 : Nat) : Int) := tmod_nat i 5
  unfold Tg.good at h
  by_cases h5 : i % 5 = 4
  · rw [if_pos h5] at h
    rw [t5, decode_low (by omega), h, f9.spec K 58 (by decide), bind_s]
    simp only []
    rw [show (((i % 5 : Nat) : Int) == 4) = true from beq_iff_eq.2 (by omega), show (((58 : Nat) : Int) == 58) = true from rfl, show (!(true == true)) = false from rfl, cond_f, show (((i % 5 : Nat) : Int) != 4) = false from by rw [bne_eq_false_iff_eq]; omega, cond_f, cond_f]
    congr 2
    refine vec_congr fun k _ => ?_
    exact Tg.part_same s i k (by unfold Tg.at'; omega) (by unfold Tg.at'; omega)
  · rw [if_neg h5] at h
    obtain ⟨n, hn⟩ := Option.isSome_iff_exists.1 h
    obtain ⟨n16, c128, c58⟩ := Tg.val_lt hn
    have hd : Tg.dig s i = n := by unfold Tg.dig; rw [hn]; rfl
    have v12 : IntKind.wrap .i64 ((IntKind.wrap .i64 (2 * (IntKind.wrap .i64 (Int.tdiv ((i : Nat) : Int) 5)))) + (IntKind.wrap .i64 (Int.tdiv ((i % 5 : Nat) : Int) 2))) = ((2 * (i / 5) + i % 5 / 2 : Nat) : Int) := by
      rw [show Int.tdiv ((i : Nat) : Int) 5 = ((i / 5 : Nat) : Int) from tdiv_nat i 5, show Int.tdiv ((i % 5 : Nat) : Int) 2 = ((i % 5 / 2 : Nat) : Int) from tdiv_nat _ 2,
        wrap_i ((i / 5 : Nat) : Int) (by omega) (by omega), wrap_i (2 * ((i / 5 : Nat) : Int)) (by omega) (by omega), wrap_i ((i % 5 / 2 : Nat) : Int) (by omega) (by omega), wrap_i _ (by omega) (by omega)]
      omega
    rw [t5, decode_low (by omega), f9.spec K _ (by omega), bind_s, hn]
    simp only []
    rw [show (((i % 5 : Nat) : Int) == 4) = false from beq_eq_false_iff_ne.2 (by omega), show (((Tg.byte s i : Nat) : Int) == 58) = false from beq_eq_false_iff_ne.2 (by omega), show (!(false == false)) = false from rfl, cond_f,
      show (((i % 5 : Nat) : Int) != 4) = true from bne_iff_ne.2 (by omega), cond_t, decide_eq_false (show ¬ ((n : Int) < 0) by omega), cond_f, cond_t, v12]
    have k16 : 2 * (i / 5) + i % 5 / 2 < 16 := by omega
    rw [decide_eq_true (show (0 : Int) ≤ ((2 * (i / 5) + i % 5 / 2 : Nat) : Int) ∧ ((2 * (i / 5) + i % 5 / 2 : Nat) : Int) < 16 by omega), cond_t, decide_eq_true (show (0 : Int) ≤ ((i % 5 : Nat) : Int) ∧ ((i % 5 : Nat) : Int) < 4 by omega), cond_t]
    simp only [Int.toNat_natCast]
    rw [show Nat.blt (0 + i % 5) 4 = true from by simp [Nat.blt_eq]; omega, cond_t]
    simp only [shift_by _ (show i % 5 < 4 by omega)]
    have hk : Tg.at' (2 * (i / 5) + i % 5 / 2) = if i % 5 % 2 = 0 then i else i - 1 := by unfold Tg.at'; split <;> omega
    have fin : ∀ sh : Nat, (sh = if i % 5 % 2 = 0 then 4 else 0) → setD (vec 16 (Tg.part s i)) (2 * (i / 5) + i % 5 / 2) (bits .or .u8 (List.getD (vec 16 (Tg.part s i)) (2 * (i / 5) + i % 5 / 2) 0) (IntKind.wrap .u8 (shiftI .shl .i64 (n : Int) (sh : Int)))) = vec 16 (Tg.part s (i + 1)) := by
      intro sh hsh
      have e1 : shiftI .shl .i64 (n : Int) (sh : Int) = ((n * 2 ^ sh : Nat) : Int) := by
        unfold shiftI
        simp only [Int.toNat_natCast]
        by_cases he : i % 5 % 2 = 0
        · rw [if_pos he] at hsh; subst hsh
          rw [show min 4 IntKind.i64.bits = 4 from rfl, wrap_i _ (by omega) (by omega)]; omega
        · rw [if_neg he] at hsh; subst hsh
          rw [show min 0 IntKind.i64.bits = 0 from rfl, wrap_i _ (by omega) (by omega)]; omega
      have dl := Tg.dig_lt s
      rw [e1, getD_vec k16]
      by_cases he : i % 5 % 2 = 0
      · rw [if_pos he] at hsh hk; subst hsh
        have p0 : Tg.part s i (2 * (i / 5) + i % 5 / 2) = 0 := by unfold Tg.part; rw [hk, if_neg (by omega), if_neg (by omega)]
        rw [p0, wrap_8 _ (by omega) (by omega), or_u8 _ _ (by omega) (by omega), Nat.zero_or, setD_vec k16]
        refine vec_congr fun j _ => ?_
        by_cases hj : j = 2 * (i / 5) + i % 5 / 2
        · subst hj
          rw [if_pos rfl]; unfold Tg.part; rw [hk, if_pos (by omega), if_neg (by omega), hd]; omega
        · rw [if_neg hj]
          exact Tg.part_same s i j (by unfold Tg.at'; omega) (by unfold Tg.at'; omega)
      · rw [if_neg he] at hsh hk; subst hsh
        have p0 : Tg.part s i (2 * (i / 5) + i % 5 / 2) = Tg.dig s (i - 1) * 2 ^ 4 := by unfold Tg.part; rw [hk, if_pos (by omega), if_neg (by omega)]; omega
        have d16 := dl (i - 1)
        rw [p0, Nat.pow_zero, Nat.mul_one, wrap_8 _ (by omega) (by omega), or_u8 _ _ (by omega) (by omega), or_add _ _ 4 (by omega), setD_vec k16]
        refine vec_congr fun j _ => ?_
        by_cases hj : j = 2 * (i / 5) + i % 5 / 2
        · subst hj
          rw [if_pos rfl]; unfold Tg.part; rw [hk, if_pos (by omega), if_pos (by omega), show i - 1 + 1 = i by omega, hd]; omega
        · rw [if_neg hj]
          exact Tg.part_same s i j (by unfold Tg.at'; omega) (by unfold Tg.at'; omega)
    by_cases he : i % 5 % 2 = 0
    · rw [if_pos he, show decide ((0 : Int) ≤ 4) = true from rfl, cond_t, cond_t]
      have := fin 4 (by rw [if_pos he])
      rw [show ((4 : Nat) : Int) = 4 from rfl] at this
      rw [this]
    · rw [if_neg he, show decide ((0 : Int) ≤ 0) = true from rfl, cond_t, cond_t]
      have := fin 0 (by rw [if_neg he])
      rw [show ((0 : Nat) : Int) = 0 from rfl] at this
      rw [this]
end Go.Proofs

namespace Go.Proofs
open Go.VM
theorem alt_l {A B C : Type} (f : A → C) (g : B → C) (a : A) : alt f g (.inl a) = f a := Eq.trans (show alt f g (.inl a) = f a from by unfold alt; rfl) (Eq.symm (Eq.symm rfl))
theorem alt_r {A B C : Type} (f : A → C) (g : B → C) (b : B) : alt f g (.inr b) = g b := Eq.trans (show alt f g (.inr b) = g b from by unfold alt; rfl) (Eq.symm (Eq.symm rfl))
theorem f6.other (K : Nat) (s : ByteArray) (h : s.size ≠ 39) : f6.F K s = some ([0, 0, 0, 0, 0, 0, 0, 0, 0, 0, 0, 0, 0, 0, 0, 0], 4) := by
  simp only [f6.F, f6.T]
  rw [show (((ByteArray.size s : Nat) : Int) != 39) = true from bne_iff_ne.2 (by omega), cond_t]
theorem zeros16 : ([0, 0, 0, 0, 0, 0, 0, 0, 0, 0, 0, 0, 0, 0, 0, 0] : List Int) = vec 16 fun _ => 0 := rfl
theorem Tg.part_zero (s : ByteArray) : vec 16 (Tg.part s 0) = [0, 0, 0, 0, 0, 0, 0, 0, 0, 0, 0, 0, 0, 0, 0, 0] := by
  rw [zeros16]
  exact vec_congr fun k _ => by unfold Tg.part; rw [if_neg (by omega), if_neg (by omega)]
theorem Tg.part_all (s : ByteArray) : vec 16 (Tg.part s 39) = vec 16 (Tg.oct s) :=
  vec_congr fun k hk => by unfold Tg.part Tg.oct; rw [if_pos (by unfold Tg.at'; omega), if_pos (by unfold Tg.at'; omega)]
theorem f6.ok' (K : Nat) (s : ByteArray) (hs : s.size = 39) (hg : ∀ i, i < 39 → Tg.good s i) (hK : 39 < K) : f6.F K s = some (vec 16 (Tg.oct s), 0) := by
  simp only [f6.F, f6.T]
  rw [show (((ByteArray.size s : Nat) : Int) != 39) = false from by rw [bne_eq_false_iff_eq]; omega, cond_f]
  have := iter_for (stp := f6.s0 K) (N := 39) (fun i => (vec 16 (Tg.part s i), s, i)) (y := some (.inr (vec 16 (Tg.oct s)))) (fun i hi rec => f6.good K s i hs hi (hg i hi) rec) (fun rec => ?_) hK
  · simp only [Tg.part_zero] at this
    rw [this, bind_s, alt_r]
  · simp only [f6.s0, f6.s0t]
    rw [show Nat.blt 39 (ByteArray.size s) = false from by rw [hs]; rfl, cond_f, Tg.part_all]
theorem mkStr_size (l : List Int) : (mkStr l).size = l.length := by
  show (mkStr l).data.size = l.length
  simp [mkStr]
theorem mkStr_byte (f : Nat → Nat) (n i : Nat) (hi : i < n) (hf : f i < 256) : Tg.byte (mkStr ((List.range n).map fun i => (f i : Int))) i = f i := by
  show ((mkStr _).data[i]!).toNat = f i
  have : (mkStr ((List.range n).map fun i => (f i : Int))).data = ((List.range n).map fun i => UInt8.ofNat (f i)).toArray := by
    simp [mkStr]
  rw [this]
  simp [hi]
  omega
theorem Tg.chr_lt (A : Nat → Nat) (hA : ∀ i, A i < 256) (i : Nat) : Tg.chr A i < 128 := by
  unfold Tg.chr
  have := hA (2 * (i / 5) + i % 5 / 2)
  split
  · decide
  · split
    · exact Tg.hex_lt (by omega)
    · exact Tg.hex_lt (by omega)
theorem Tg.text_byte (A : Nat → Nat) (hA : ∀ i, A i < 256) (i : Nat) (hi : i < 39) : Tg.byte (mkStr (Tg.text A)) i = Tg.chr A i :=
  mkStr_byte (Tg.chr A) 39 i hi (by have := Tg.chr_lt A hA i; omega)
theorem Tg.text_size (A : Nat → Nat) : (mkStr (Tg.text A)).size = 39 := by rw [mkStr_size]; simp [Tg.text]
theorem Tg.text_good (A : Nat → Nat) (hA : ∀ i, A i < 256) (i : Nat) (hi : i < 39) : Tg.good (mkStr (Tg.text A)) i := by
  unfold Tg.good
  rw [Tg.text_byte A hA i hi]
  unfold Tg.chr
  have := hA (2 * (i / 5) + i % 5 / 2)
  by_cases h : i % 5 = 4
  · rw [if_pos h, if_pos h]
  · rw [if_neg h, if_neg h]
    split
    · rw [Tg.val_hex (by omega)]; rfl
    · rw [Tg.val_hex (by omega)]; rfl
theorem Tg.text_oct (A : Nat → Nat) (hA : ∀ i, A i < 256) (k : Nat) (hk : k < 16) : Tg.oct (mkStr (Tg.text A)) k = A k := by
  have := hA k
  unfold Tg.oct Tg.dig
  rw [Tg.text_byte A hA _ (by unfold Tg.at'; omega), Tg.text_byte A hA _ (by unfold Tg.at'; omega)]
  have e1 : Tg.chr A (Tg.at' k) = Tg.hex (A k / 16) := by
    unfold Tg.chr Tg.at'
    rw [show (5 * (k / 2) + 2 * (k % 2)) / 5 = k / 2 by omega, show (5 * (k / 2) + 2 * (k % 2)) % 5 = 2 * (k % 2) by omega, if_neg (by omega), if_pos (by omega), show 2 * (k / 2) + 2 * (k % 2) / 2 = k by omega]
  have e2 : Tg.chr A (Tg.at' k + 1) = Tg.hex (A k % 16) := by
    unfold Tg.chr Tg.at'
    rw [show (5 * (k / 2) + 2 * (k % 2) + 1) / 5 = k / 2 by omega, show (5 * (k / 2) + 2 * (k % 2) + 1) % 5 = 2 * (k % 2) + 1 by omega, if_neg (by omega), if_neg (by omega), show 2 * (k / 2) + (2 * (k % 2) + 1) / 2 = k by omega]
  rw [e1, e2, Tg.val_hex (by omega), Tg.val_hex (by omega)]
  simp only [Option.getD_some]
  omega
theorem f6.text (K : Nat) (A : Nat → Nat) (hA : ∀ i, A i < 256) (hK : 39 < K) : f6.F K (mkStr (Tg.text A)) = some (vec 16 A, 0) := by
  rw [f6.ok' K _ (Tg.text_size A) (Tg.text_good A hA) hK, vec_congr fun k hk => Tg.text_oct A hA k hk]
theorem f7.round (K : Nat) (A B : Nat → Nat) (i : Nat) (hi : i < 16) (he : A i = B i) (rec : List Int × Int × List Int → Option (Int ⊕ Unit)) :
    f7.s0 K rec (vec 16 A, (i : Int), vec 16 B) = rec (vec 16 A, ((i + 1 : Nat) : Int), vec 16 B) := by
  simp only [f7.s0, f7.s0t]
  rw [decide_eq_true (show (i : Int) < 16 by omega), cond_t, decide_eq_true (show (0 : Int) ≤ (i : Int) ∧ (i : Int) < 16 by omega), cond_t, cond_t, Int.toNat_natCast, getD_vec hi, getD_vec hi, decide_eq_false (show ¬ ((A i : Nat) : Int) < ((B i : Nat) : Int) by omega), cond_f, cond_t, decide_eq_false (show ¬ ((A i : Nat) : Int) > ((B i : Nat) : Int) by omega), cond_f, wrap_i _ (by omega) (by omega)]
  rfl
theorem f7.less (K : Nat) (A B : Nat → Nat) (i : Nat) (hi : i < 16) (he : ∀ j, j < i → A j = B j) (hl : A i < B i) (hK : 16 < K) : f7.F K (vec 16 A, vec 16 B) = some (-1) := by
  simp only [f7.F, f7.T]
  have := iter_for (stp := f7.s0 K) (N := i) (fun i => (vec 16 A, (i : Int), vec 16 B)) (y := some (.inl (-1))) (fun j hj rec => f7.round K A B j (by omega) (he j hj) rec) (fun rec => ?_) (show i < K by omega)
  · rw [show iter (f7.s0 K) K (vec 16 A, 0, vec 16 B) = _ from this, bind_s, alt_l]
  · simp only [f7.s0, f7.s0t]
    rw [decide_eq_true (show (i : Int) < 16 by omega), cond_t, decide_eq_true (show (0 : Int) ≤ (i : Int) ∧ (i : Int) < 16 by omega), cond_t, cond_t, Int.toNat_natCast, getD_vec hi, getD_vec hi, decide_eq_true (show ((A i : Nat) : Int) < ((B i : Nat) : Int) by omega), cond_t]
theorem f7.more (K : Nat) (A B : Nat → Nat) (i : Nat) (hi : i < 16) (he : ∀ j, j < i → A j = B j) (hl : B i < A i) (hK : 16 < K) : f7.F K (vec 16 A, vec 16 B) = some 1 := by
  simp only [f7.F, f7.T]
  have := iter_for (stp := f7.s0 K) (N := i) (fun i => (vec 16 A, (i : Int), vec 16 B)) (y := some (.inl 1)) (fun j hj rec => f7.round K A B j (by omega) (he j hj) rec) (fun rec => ?_) (show i < K by omega)
  · rw [show iter (f7.s0 K) K (vec 16 A, 0, vec 16 B) = _ from this, bind_s, alt_l]
  · simp only [f7.s0, f7.s0t]
    rw [decide_eq_true (show (i : Int) < 16 by omega), cond_t, decide_eq_true (show (0 : Int) ≤ (i : Int) ∧ (i : Int) < 16 by omega), cond_t, cond_t, Int.toNat_natCast, getD_vec hi, getD_vec hi, decide_eq_false (show ¬ ((A i : Nat) : Int) < ((B i : Nat) : Int) by omega), cond_f, cond_t, decide_eq_true (show ((A i : Nat) : Int) > ((B i : Nat) : Int) by omega), cond_t]
theorem f7.same (K : Nat) (A B : Nat → Nat) (he : ∀ j, j < 16 → A j = B j) (hK : 16 < K) : f7.F K (vec 16 A, vec 16 B) = some 0 := by
  simp only [f7.F, f7.T]
  have := iter_for (stp := f7.s0 K) (N := 16) (fun i => (vec 16 A, (i : Int), vec 16 B)) (y := some (.inr ())) (fun j hj rec => f7.round K A B j hj (he j hj) rec) (fun rec => ?_) (show 16 < K by omega)
  · rw [show iter (f7.s0 K) K (vec 16 A, 0, vec 16 B) = _ from this, bind_s, alt_r]
  · simp only [f7.s0, f7.s0t]
    rw [decide_eq_false (show ¬ ((16 : Nat) : Int) < 16 by omega), cond_f]
end Go.Proofs

namespace Go.Proofs
open Go.VM
theorem less_of : ∀ (p x y : List UInt8) (a b : UInt8), a < b → Op.bytesLess (p ++ a :: x) (p ++ b :: y) = true
  | [], x, y, a, b, h => by simp [Op.bytesLess, h]
  | c :: p, x, y, a, b, h => by simp [Op.bytesLess, less_of p x y a b h]
theorem not_less_of : ∀ (p x y : List UInt8) (a b : UInt8), b < a → Op.bytesLess (p ++ a :: x) (p ++ b :: y) = false
  | [], x, y, a, b, h => by
    have h1 : ¬ a < b := fun h2 => absurd (UInt8.lt_trans h h2) (UInt8.lt_irrefl b)
    have h2 : a ≠ b := fun e => absurd h (by rw [e]; exact UInt8.lt_irrefl b)
    simp [Op.bytesLess, h1, h2]
  | c :: p, x, y, a, b, h => by
    simp [Op.bytesLess, not_less_of p x y a b h, UInt8.lt_irrefl]
theorem not_less_self : ∀ l : List UInt8, Op.bytesLess l l = false
  | [] => rfl
  | c :: l => by simp [Op.bytesLess, not_less_self l, UInt8.lt_irrefl]
def Tg.bytes (f : Nat → Nat) (n : Nat) : List UInt8 := (List.range n).map fun i => UInt8.ofNat (f i)
theorem Tg.bytes_cut (f : Nat → Nat) (n i : Nat) (hi : i < n) : Tg.bytes f n = Tg.bytes f i ++ UInt8.ofNat (f i) :: ((List.range n).drop (i + 1)).map fun i => UInt8.ofNat (f i) := by
  have e : List.range n = List.range i ++ i :: (List.range n).drop (i + 1) := by
    have h1 := List.take_append_drop i (List.range n)
    rw [List.take_range, Nat.min_eq_left (by omega)] at h1
    have h2 : (List.range n).drop i = i :: (List.range n).drop (i + 1) := by
      rw [List.drop_eq_getElem_cons (by simpa using hi)]; simp
    rw [← h2, h1]
  conv => lhs; unfold Tg.bytes; rw [e]
  rw [List.map_append, List.map_cons]
  rfl
theorem Tg.bytes_congr {f g : Nat → Nat} {n : Nat} (h : ∀ i, i < n → f i = g i) : Tg.bytes f n = Tg.bytes g n :=
  List.map_congr_left fun i hi => by rw [h i (by simpa using hi)]
theorem text_list (A : Nat → Nat) : (mkStr (Tg.text A)).toList = Tg.bytes (Tg.chr A) 39 := by
  rw [ByteArray.toList_eq]
  simp [mkStr, Tg.text, Tg.bytes]
theorem ofNat_lt {m n : Nat} (hn : n < 256) (h : m < n) : UInt8.ofNat m < UInt8.ofNat n := by
  rw [UInt8.lt_iff_toNat_lt, UInt8.toNat_ofNat', UInt8.toNat_ofNat']
  rw [Nat.mod_eq_of_lt (by omega), Nat.mod_eq_of_lt (by omega)]
  exact h
theorem chr_less (A B : Nat → Nat) (hA : ∀ i, A i < 256) (hB : ∀ i, B i < 256) (k : Nat) (hk : k < 16) (he : ∀ j, j < k → A j = B j) (hl : A k < B k) :
    ∃ i, i < 39 ∧ (∀ j, j < i → Tg.chr A j = Tg.chr B j) ∧ Tg.chr A i < Tg.chr B i := by
  have ak := hA k
  have bk := hB k
  have before : ∀ j, j < Tg.at' k → Tg.chr A j = Tg.chr B j := by
    intro j hj
    unfold Tg.chr
    by_cases h5 : j % 5 = 4
    · rw [if_pos h5, if_pos h5]
    · rw [he (2 * (j / 5) + j % 5 / 2) (by unfold Tg.at' at hj; omega)]
  have hi : ∀ C : Nat → Nat, Tg.chr C (Tg.at' k) = Tg.hex (C k / 16) := fun C => by
    unfold Tg.chr Tg.at'
    rw [show (5 * (k / 2) + 2 * (k % 2)) / 5 = k / 2 by omega, show (5 * (k / 2) + 2 * (k % 2)) % 5 = 2 * (k % 2) by omega, if_neg (by omega), if_pos (by omega), show 2 * (k / 2) + 2 * (k % 2) / 2 = k by omega]
  have lo : ∀ C : Nat → Nat, Tg.chr C (Tg.at' k + 1) = Tg.hex (C k % 16) := fun C => by
    unfold Tg.chr Tg.at'
    rw [show (5 * (k / 2) + 2 * (k % 2) + 1) / 5 = k / 2 by omega, show (5 * (k / 2) + 2 * (k % 2) + 1) % 5 = 2 * (k % 2) + 1 by omega, if_neg (by omega), if_neg (by omega), show 2 * (k / 2) + (2 * (k % 2) + 1) / 2 = k by omega]
  by_cases h : A k / 16 < B k / 16
  · exact ⟨Tg.at' k, by unfold Tg.at'; omega, before, by rw [hi, hi]; exact (Tg.hex_mono (by omega) (by omega)).2 h⟩
  · refine ⟨Tg.at' k + 1, by unfold Tg.at'; omega, fun j hj => ?_, by rw [lo, lo]; exact (Tg.hex_mono (by omega) (by omega)).2 (by omega)⟩
    by_cases hj2 : j = Tg.at' k
    · subst hj2; rw [hi, hi, show A k / 16 = B k / 16 by omega]
    · exact before j (by omega)
theorem text_less (A B : Nat → Nat) (hA : ∀ i, A i < 256) (hB : ∀ i, B i < 256) (k : Nat) (hk : k < 16) (he : ∀ j, j < k → A j = B j) (hl : A k < B k) :
    strLt (mkStr (Tg.text A)) (mkStr (Tg.text B)) = true ∧ strLt (mkStr (Tg.text B)) (mkStr (Tg.text A)) = false ∧ strEq (mkStr (Tg.text B)) (mkStr (Tg.text A)) = false := by
  obtain ⟨i, hi, h1, h2⟩ := chr_less A B hA hB k hk he hl
  have hb := Tg.chr_lt B hB i
  have hlt : UInt8.ofNat (Tg.chr A i) < UInt8.ofNat (Tg.chr B i) := ofNat_lt (by omega) h2
  unfold strLt strEq
  rw [text_list, text_list, Tg.bytes_cut _ 39 i hi, Tg.bytes_cut (Tg.chr B) 39 i hi, Tg.bytes_congr h1]
  refine ⟨less_of _ _ _ _ _ hlt, not_less_of _ _ _ _ _ hlt, ?_⟩
  rw [beq_eq_false_iff_ne]
  intro e
  have := (List.append_cancel_left e)
  simp only [List.cons.injEq] at this
  rw [this.1] at hlt
  exact absurd hlt (UInt8.lt_irrefl _)
theorem three (A B : Nat → Nat) : ∀ n, (∀ j, j < n → A j = B j) ∨ ∃ k, k < n ∧ (∀ j, j < k → A j = B j) ∧ (A k < B k ∨ B k < A k)
  | 0 => .inl fun j hj => absurd hj (Nat.not_lt_zero j)
  | n + 1 => by
    rcases three A B n with h | ⟨k, h1, h2⟩
    · rcases Nat.lt_trichotomy (A n) (B n) with h3 | h3 | h3
      · exact .inr ⟨n, by omega, h, .inl h3⟩
      · refine .inl fun j hj => ?_
        by_cases hjn : j = n
        · subst hjn; exact h3
        · exact h j (by omega)
      · exact .inr ⟨n, by omega, h, .inr h3⟩
    · exact .inr ⟨k, by omega, h2⟩
theorem eqL_same (A B : Nat → Nat) (h : ∀ j, j < 16 → A j = B j) : eqL 16 (vec 16 A) (vec 16 B) = true := by
  unfold eqL
  rw [List.all_eq_true]
  intro i hi
  have hi' : i < 16 := by simpa using hi
  rw [getD_vec hi', getD_vec hi', h i hi']
  exact beq_self_eq_true _
theorem eqL_other (A B : Nat → Nat) (k : Nat) (hk : k < 16) (h : A k ≠ B k) : eqL 16 (vec 16 A) (vec 16 B) = false := by
  rw [← Bool.not_eq_true]
  intro e
  unfold eqL at e
  rw [List.all_eq_true] at e
  have := e k (by simpa using hk)
  rw [getD_vec hk, getD_vec hk, beq_iff_eq] at this
  omega
def Tg.t0 (i : Nat) : Nat := if i = 0 then 32 else if i = 1 then 1 else if i = 3 then 33 else 0
theorem Tg.t0_lt (i : Nat) : Tg.t0 i < 256 := by unfold Tg.t0; split <;> (try split) <;> (try split) <;> decide
theorem Tg.t0_vec : ([32, 1, 0, 33, 0, 0, 0, 0, 0, 0, 0, 0, 0, 0, 0, 0] : List Int) = vec 16 Tg.t0 := by decide +kernel
theorem f8.spec (K : Nat) (hK : 39 < K) : f8.F K () = some true := by
  simp only [f8.F, f8.T]
  have e1 : strEq (mkStr (Tg.text Tg.t0)) f8.k1 = true := by
    unfold strEq
    rw [text_list, ByteArray.toList_eq]
    decide +kernel
  rw [Tg.t0_vec, f5.spec K Tg.t0 Tg.t0_lt, bind_s, f6.text K Tg.t0 Tg.t0_lt hK, bind_s, f6.other K f8.k0 (by decide), bind_s, e1, cond_t]
  simp only []
  rw [eqL_same _ _ fun _ _ => rfl, Bool.true_and, cond_t, show ((0 : Int) == 0) = true from rfl, cond_t, show ((4 : Int) == 4) = true from rfl, cond_t, f7.same K _ _ (fun _ _ => rfl) (by omega), bind_s]
  rfl
theorem f3.holds (l m : List Int) (hl : l.length = 16 ∧ ∀ x ∈ l, 0 ≤ x ∧ x < 256) (hm : m.length = 16 ∧ ∀ x ∈ m, 0 ≤ x ∧ x < 256) : f3.F 100000 (l, m) = some true := by
  have tag : ∀ l : List Int, (l.length = 16 ∧ ∀ x ∈ l, 0 ≤ x ∧ x < 256) → ∃ A : Nat → Nat, (∀ i, A i < 256) ∧ l = vec 16 A := by
    intro l hl
    have hg : ∀ i, 0 ≤ l.getD i 0 ∧ l.getD i 0 < 256 := fun i => by
      rw [List.getD_eq_getElem?_getD]
      cases e : l[i]? with
      | none => simp
      | some y => exact hl.2 y (List.mem_of_getElem? e)
    exact ⟨fun i => (l.getD i 0).toNat, fun i => by have := hg i; show (l.getD i 0).toNat < 256; omega, eq_vec hl.1 fun i _ => (hg i).1⟩
  obtain ⟨A, hA, rfl⟩ := tag l hl
  obtain ⟨B, hB, rfl⟩ := tag m hm
  simp only [f3.F, f3.T]
  rw [f5.spec _ A hA, bind_s, f5.spec _ B hB, bind_s, f6.text _ A hA (by decide), bind_s, f6.text _ B hB (by decide), bind_s]
  simp only []
  rw [show ((0 : Int) != 0) = false from rfl, cond_f, cond_f, eqL_same A A fun _ _ => rfl, eqL_same B B fun _ _ => rfl, Bool.and_self, Bool.not_true, cond_f, cond_f]
  rcases three A B 16 with h | ⟨k, hk, he, hl | hl⟩
  · rw [f7.same _ A B h (by decide), bind_s, f7.same _ B A (fun j hj => (h j hj).symm) (by decide), bind_s, f8.spec _ (by decide), eqL_same A B h]
    have : Tg.text A = Tg.text B := by
      unfold Tg.text
      refine List.map_congr_left fun i hi => ?_
      have hi' : i < 39 := by simpa using hi
      have : Tg.chr A i = Tg.chr B i := by
        unfold Tg.chr
        by_cases h5 : i % 5 = 4
        · rw [if_pos h5, if_pos h5]
        · rw [h _ (by omega)]
      rw [this]
    rw [this]
    have e1 : strLt (mkStr (Tg.text B)) (mkStr (Tg.text B)) = false := not_less_self _
    have e2 : strEq (mkStr (Tg.text B)) (mkStr (Tg.text B)) = true := beq_self_eq_true _
    rw [e1, e2]
    rfl
  · obtain ⟨t1, t2, t3⟩ := text_less A B hA hB k hk he hl
    have t4 : strEq (mkStr (Tg.text A)) (mkStr (Tg.text B)) = false := by
      unfold strEq at t3 ⊢
      rw [beq_eq_false_iff_ne] at t3 ⊢
      exact fun e => t3 e.symm
    rw [f7.less _ A B k hk he hl (by decide), bind_s, f7.more _ B A k hk (fun j hj => (he j hj).symm) hl (by decide), bind_s, f8.spec _ (by decide), eqL_other A B k hk (by omega), t1, t4]
    rfl
  · obtain ⟨t1, t2, t3⟩ := text_less B A hB hA k hk (fun j hj => (he j hj).symm) hl
    rw [f7.more _ A B k hk he hl (by decide), bind_s, f7.less _ B A k hk (fun j hj => (he j hj).symm) hl (by decide), bind_s, f8.spec _ (by decide), eqL_other A B k hk (by omega), t2, t3]
    rfl
end Go.Proofs
