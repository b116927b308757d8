/- Plain laws: lemmas that hold with no condition but those that each states. -/
import Derived.Test.YtjkelipglcnpmaaDoorPa
import Derived.Test.YtjkelipglcnpmaaDoorFf
import Derived.Laws.Strings
namespace Go.Proofs
open Go.VM
theorem or_i64 (a b : Nat) (ha : a < 9223372036854775808) (hb : b < 9223372036854775808) : bits .or .i64 (a : Int) (b : Int) = ((a ||| b : Nat) : Int) := by
  have hx : a ||| b < 2 ^ 63 := Nat.or_lt_two_pow (by omega) (by omega)
  have h1 : (BitVec.ofInt 64 (a : Int)).toNat = a := by
    rw [BitVec.ofInt_natCast, BitVec.toNat_ofNat]; exact Nat.mod_eq_of_lt (by omega)
  have h2 : (BitVec.ofInt 64 (b : Int)).toNat = b := by
    rw [BitVec.ofInt_natCast, BitVec.toNat_ofNat]; exact Nat.mod_eq_of_lt (by omega)
  show IntKind.i64.wrap ((BitVec.ofInt 64 (a : Int) ||| BitVec.ofInt 64 (b : Int)).toNat : Int) = _
  rw [BitVec.toNat_or, h1, h2, wrap_i _ (by omega) (by omega)]
theorem and_i64 (a b : Nat) (ha : a < 9223372036854775808) (hb : b < 9223372036854775808) : bits .and .i64 (a : Int) (b : Int) = ((a &&& b : Nat) : Int) := by
  have hx : a &&& b < 2 ^ 63 := Nat.and_lt_two_pow _ (by omega)
  have h1 : (BitVec.ofInt 64 (a : Int)).toNat = a := by
    rw [BitVec.ofInt_natCast, BitVec.toNat_ofNat]; exact Nat.mod_eq_of_lt (by omega)
  have h2 : (BitVec.ofInt 64 (b : Int)).toNat = b := by
    rw [BitVec.ofInt_natCast, BitVec.toNat_ofNat]; exact Nat.mod_eq_of_lt (by omega)
  show IntKind.i64.wrap ((BitVec.ofInt 64 (a : Int) &&& BitVec.ofInt 64 (b : Int)).toNat : Int) = _
  rw [BitVec.toNat_and, h1, h2, wrap_i _ (by omega) (by omega)]
theorem wrap_8 (z : Int) (h0 : 0 ≤ z) (h : z < 256) : IntKind.wrap .u8 z = z := by
  simp [IntKind.wrap, IntKind.signed, IntKind.bits]; omega
theorem or_u8 (a b : Nat) (ha : a < 256) (hb : b < 256) : bits .or .u8 (a : Int) (b : Int) = ((a ||| b : Nat) : Int) := by
  have hx : a ||| b < 2 ^ 8 := Nat.or_lt_two_pow (by omega) (by omega)
  have h1 : (BitVec.ofInt 8 (a : Int)).toNat = a := by
    rw [BitVec.ofInt_natCast, BitVec.toNat_ofNat]; exact Nat.mod_eq_of_lt (by omega)
  have h2 : (BitVec.ofInt 8 (b : Int)).toNat = b := by
    rw [BitVec.ofInt_natCast, BitVec.toNat_ofNat]; exact Nat.mod_eq_of_lt (by omega)
  show IntKind.u8.wrap ((BitVec.ofInt 8 (a : Int) ||| BitVec.ofInt 8 (b : Int)).toNat : Int) = _
  rw [BitVec.toNat_or, h1, h2, wrap_8 _ (by omega) (by omega)]
theorem or_add (x y k : Nat) (h : y < 2 ^ k) : x * 2 ^ k ||| y = x * 2 ^ k + y := by
  have := Nat.shiftLeft_add_eq_or_of_lt h x
  rw [Nat.shiftLeft_eq] at this
  exact this.symm
def Tg.hex (n : Nat) : Nat := if n < 10 then 48 + n else 87 + n
theorem Tg.hex_lt {n : Nat} (h : n < 16) : Tg.hex n < 128 := by unfold Tg.hex; split <;> omega
theorem digit (n : Nat) (h : n < 16) : strAt f5.k0 n = (Tg.hex n : Int) := by
  have : ∀ n : Fin 16, strAt f5.k0 n.val = (Tg.hex n.val : Int) := by decide +kernel
  exact this ⟨n, h⟩
def Tg.chr (A : Nat → Nat) (i : Nat) : Nat :=
  if i % 5 = 4 then 58 else if i % 5 % 2 = 0 then Tg.hex (A (2 * (i / 5) + i % 5 / 2) / 16) else Tg.hex (A (2 * (i / 5) + i % 5 / 2) % 16)
def Tg.text (A : Nat → Nat) : List Int := (List.range 39).map fun i => (Tg.chr A i : Int)
theorem four (x y : Nat) (hx : x < 256) (hy : y < 256) :
    bits .and .i64 (Int.fdiv (bits .or .i64 (IntKind.wrap .i64 ((IntKind.wrap .i64 (x : Int)) * 2 ^ 8)) (IntKind.wrap .i64 (y : Int))) (2 ^ 12)) 15 = ((x / 16 : Nat) : Int) ∧
    bits .and .i64 (Int.fdiv (bits .or .i64 (IntKind.wrap .i64 ((IntKind.wrap .i64 (x : Int)) * 2 ^ 8)) (IntKind.wrap .i64 (y : Int))) (2 ^ 8)) 15 = ((x % 16 : Nat) : Int) ∧
    bits .and .i64 (Int.fdiv (bits .or .i64 (IntKind.wrap .i64 ((IntKind.wrap .i64 (x : Int)) * 2 ^ 8)) (IntKind.wrap .i64 (y : Int))) (2 ^ 4)) 15 = ((y / 16 : Nat) : Int) ∧
    bits .and .i64 (Int.fdiv (bits .or .i64 (IntKind.wrap .i64 ((IntKind.wrap .i64 (x : Int)) * 2 ^ 8)) (IntKind.wrap .i64 (y : Int))) (2 ^ 0)) 15 = ((y % 16 : Nat) : Int) := by
  have e : bits .or .i64 (IntKind.wrap .i64 ((IntKind.wrap .i64 (x : Int)) * 2 ^ 8)) (IntKind.wrap .i64 (y : Int)) = ((x * 2 ^ 8 + y : Nat) : Int) := by
    rw [wrap_i (x : Int) (by omega) (by omega), wrap_i (y : Int) (by omega) (by omega), show (x : Int) * 2 ^ 8 = ((x * 2 ^ 8 : Nat) : Int) by omega, wrap_i _ (by omega) (by omega), or_i64 _ _ (by omega) (by omega), or_add x y 8 (by omega)]
  have k : ∀ z : Nat, z < 65536 → bits .and .i64 (z : Int) 15 = ((z % 16 : Nat) : Int) := fun z hz => by
    rw [show (15 : Int) = ((15 : Nat) : Int) from rfl, and_i64 _ _ (by omega) (by omega), show (15 : Nat) = 2 ^ 4 - 1 from rfl, Nat.and_two_pow_sub_one_eq_mod]
  rw [e, fdiv_nat, fdiv_nat, fdiv_nat, fdiv_nat, k _ (by omega), k _ (by omega), k _ (by omega), k _ (by omega)]
  refine ⟨?_, ?_, ?_, ?_⟩ <;> congr 1 <;> omega
theorem f5.spec (K : Nat) (A : Nat → Nat) (hA : ∀ i, A i < 256) : f5.F K (vec 16 A) = some (mkStr (Tg.text A)) := by
  have g : ∀ i, i < 16 → List.getD (vec 16 A) i 0 = (A i : Int) := fun i h => getD_vec h
  simp only [f5.F, f5.T]
  rw [g 0 (by decide), g 1 (by decide), g 2 (by decide), g 3 (by decide), g 4 (by decide), g 5 (by decide), g 6 (by decide), g 7 (by decide), g 8 (by decide), g 9 (by decide), g 10 (by decide), g 11 (by decide), g 12 (by decide), g 13 (by decide), g 14 (by decide), g 15 (by decide)]
  have f := fun i j => four (A i) (A j) (hA i) (hA j)
  have sz : ((ByteArray.size f5.k0 : Nat) : Int) = 16 := rfl
  have c : ∀ n : Nat, n < 16 → decide ((0 : Int) ≤ (n : Int) ∧ (n : Int) < 16) = true := fun n h => decide_eq_true (by omega)
  have hd : ∀ n, A n / 16 < 16 := fun n => by have := hA n; omega
  have hm : ∀ n, A n % 16 < 16 := fun n => Nat.mod_lt _ (by decide)
  simp only [(f 0 1).1, (f 0 1).2.1, (f 0 1).2.2.1, (f 0 1).2.2.2, (f 2 3).1, (f 2 3).2.1, (f 2 3).2.2.1, (f 2 3).2.2.2, (f 4 5).1, (f 4 5).2.1, (f 4 5).2.2.1, (f 4 5).2.2.2, (f 6 7).1, (f 6 7).2.1, (f 6 7).2.2.1, (f 6 7).2.2.2,
    (f 8 9).1, (f 8 9).2.1, (f 8 9).2.2.1, (f 8 9).2.2.2, (f 10 11).1, (f 10 11).2.1, (f 10 11).2.2.1, (f 10 11).2.2.2, (f 12 13).1, (f 12 13).2.1, (f 12 13).2.2.1, (f 12 13).2.2.2, (f 14 15).1, (f 14 15).2.1, (f 14 15).2.2.1, (f 14 15).2.2.2,
    sz, c _ (hd _), c _ (hm _), cond_t, Int.toNat_natCast, digit _ (hd _), digit _ (hm _)]
  rfl
end Go.Proofs

namespace Go.Proofs
open Go.VM
def Tg.byte (s : ByteArray) (i : Nat) : Nat := (s.get! i).toNat
theorem Tg.byte_lt (s : ByteArray) (i : Nat) : Tg.byte s i < 256 := (s.get! i).toNat_lt
theorem decode_low {s : ByteArray} {i : Nat} (h : Tg.byte s i < 128) : Utf8.decode s i = (Tg.byte s i, 1) := by
  unfold Utf8.decode
  simp only [Nat.add_zero]
  rw [if_pos (show (s.get! i).toNat < 128 from h)]
  rfl
theorem decode_high {s : ByteArray} {i : Nat} (h : ¬ Tg.byte s i < 128) : 128 ≤ (Utf8.decode s i).1 ∧ (Utf8.decode s i).1 < 2147483648 := by
  have hb := Tg.byte_lt s i
  have b1 := Tg.byte_lt s (i + 1)
  have b2 := Tg.byte_lt s (i + 2)
  have b3 := Tg.byte_lt s (i + 3)
  unfold Tg.byte at h hb b1 b2 b3
  unfold Utf8.decode Utf8.runeError
  simp only [Nat.add_zero]
  rw [if_neg h]
  split
  · split <;> dsimp only <;> omega
  · split
    · split
      · rename_i h2; simp only [ge_iff_le, Bool.and_eq_true, decide_eq_true_eq] at h2; dsimp only; omega
      · dsimp only; omega
    · split
      · split
        · rename_i h2; simp only [ge_iff_le, Bool.and_eq_true, decide_eq_true_eq] at h2; dsimp only; omega
        · dsimp only; omega
      · dsimp only; omega
def Tg.val (c : Nat) : Option Nat := if 48 ≤ c ∧ c ≤ 57 then some (c - 48) else if 97 ≤ c ∧ c ≤ 102 then some (c - 87) else none
theorem Tg.val_lt {c n : Nat} (h : Tg.val c = some n) : n < 16 ∧ c < 128 ∧ c ≠ 58 := by
  unfold Tg.val at h
  split at h
  · simp only [Option.some.injEq] at h; omega
  · split at h
    · simp only [Option.some.injEq] at h; omega
    · cases h
theorem Tg.val_hex {n : Nat} (h : n < 16) : Tg.val (Tg.hex n) = some n := by
  unfold Tg.val Tg.hex
  split
  · rw [if_pos (by omega)]; congr 1; omega
  · rw [if_neg (by omega), if_pos (by omega)]; congr 1; omega
theorem Tg.hex_val {c n : Nat} (h : Tg.val c = some n) : Tg.hex n = c := by
  unfold Tg.val at h
  unfold Tg.hex
  split at h
  · simp only [Option.some.injEq] at h; split <;> omega
  · split at h
    · simp only [Option.some.injEq] at h; split <;> omega
    · cases h
theorem wrap_32 (z : Int) (h1 : -2147483648 ≤ z) (h2 : z < 2147483648) : IntKind.wrap .i32 z = z := by
  simp only [IntKind.wrap, IntKind.bits, IntKind.signed, Bool.true_and]
  split <;> rename_i h <;> simp at h <;> omega
theorem f9.spec (K c : Nat) (hc : c < 2147483648) : f9.F K (c : Int) = some (match Tg.val c with | some n => (n : Int) | none => -1) := by
  simp only [f9.F, f9.T]
  unfold Tg.val
  by_cases h1 : 48 ≤ c ∧ c ≤ 57
  · rw [if_pos h1, decide_eq_true (show (c : Int) ≥ 48 by omega), cond_t, decide_eq_true (show (c : Int) ≤ 57 by omega), cond_t, wrap_32 _ (by omega) (by omega), wrap_i _ (by omega) (by omega)]
    simp only []
    congr 1; omega
  · rw [if_neg h1]
    by_cases h2 : 97 ≤ c ∧ c ≤ 102
    · rw [if_pos h2, decide_eq_true (show (c : Int) ≥ 48 by omega), cond_t, decide_eq_false (show ¬ (c : Int) ≤ 57 by omega), cond_f, decide_eq_true (show (c : Int) ≥ 97 by omega), cond_t, decide_eq_true (show (c : Int) ≤ 102 by omega), cond_t, wrap_32 _ (by omega) (by omega), wrap_i ((c : Int) - 97) (by omega) (by omega), wrap_i _ (by omega) (by omega)]
      simp only []
      congr 1; omega
    · rw [if_neg h2]
      simp only []
      by_cases h3 : 48 ≤ c
      · rw [decide_eq_true (show (c : Int) ≥ 48 by omega), cond_t, decide_eq_false (show ¬ (c : Int) ≤ 57 by omega), cond_f]
        by_cases h4 : 97 ≤ c
        · rw [decide_eq_true (show (c : Int) ≥ 97 by omega), cond_t, decide_eq_false (show ¬ (c : Int) ≤ 102 by omega), cond_f]
        · rw [decide_eq_false (show ¬ (c : Int) ≥ 97 by omega), cond_f]
      · rw [decide_eq_false (show ¬ (c : Int) ≥ 48 by omega), cond_f, decide_eq_false (show ¬ (c : Int) ≥ 97 by omega), cond_f]
def Tg.good (s : ByteArray) (i : Nat) : Prop := if i % 5 = 4 then Tg.byte s i = 58 else (Tg.val (Tg.byte s i)).isSome = true
instance (s : ByteArray) (i : Nat) : Decidable (Tg.good s i) := by unfold Tg.good; infer_instance
def Tg.at' (k : Nat) : Nat := 5 * (k / 2) + 2 * (k % 2)
def Tg.dig (s : ByteArray) (i : Nat) : Nat := (Tg.val (Tg.byte s i)).getD 0
def Tg.part (s : ByteArray) (i k : Nat) : Nat := (if Tg.at' k < i then 16 * Tg.dig s (Tg.at' k) else 0) + (if Tg.at' k + 1 < i then Tg.dig s (Tg.at' k + 1) else 0)
def Tg.oct (s : ByteArray) (k : Nat) : Nat := 16 * Tg.dig s (Tg.at' k) + Tg.dig s (Tg.at' k + 1)
theorem Tg.dig_lt (s : ByteArray) (i : Nat) : Tg.dig s i < 16 := by
  unfold Tg.dig
  cases h : Tg.val (Tg.byte s i) with
  | none => simp
  | some n => exact (Tg.val_lt h).1
theorem Tg.part_same (s : ByteArray) (i k : Nat) (h1 : Tg.at' k ≠ i) (h2 : Tg.at' k + 1 ≠ i) : Tg.part s i k = Tg.part s (i + 1) k := by
  unfold Tg.part
  congr 1
  · by_cases h : Tg.at' k < i
    · rw [if_pos h, if_pos (by omega)]
    · rw [if_neg h, if_neg (by omega)]
  · by_cases h : Tg.at' k + 1 < i
    · rw [if_pos h, if_pos (by omega)]
    · rw [if_neg h, if_neg (by omega)]
theorem f6.bad (K : Nat) (s : ByteArray) (b : List Int) (i : Nat) (hs : i < s.size) (h : ¬ Tg.good s i) (rec : List Int × ByteArray × Nat → Option ((Int × List Int) ⊕ (List Int))) :
    f6.s0 K rec (b, s, i) = some (.inl (4, [0, 0, 0, 0, 0, 0, 0, 0, 0, 0, 0, 0, 0, 0, 0, 0])) := by
  simp only [f6.s0, f6.s0t]
  rw [show Nat.blt i (ByteArray.size s) = true from by simp [Nat.blt_eq, hs], cond_t]
  have t5 : Int.tmod ((i : Nat) : Int) 5 = ((i % 5 : Nat) : Int) := tmod_nat i 5
  rw [t5]

  obtain ⟨c, hc, h31, hg⟩ : ∃ c, (Utf8.decode s i).1 = c ∧ c < 2147483648 ∧ ((i % 5 = 4 ∧ c ≠ 58) ∨ (i % 5 ≠ 4 ∧ Tg.val c = none)) := by
    by_cases hl : Tg.byte s i < 128
    · refine ⟨Tg.byte s i, by rw [decode_low hl], by omega, ?_⟩
      unfold Tg.good at h
      by_cases h5 : i % 5 = 4
      · rw [if_pos h5] at h; exact .inl ⟨h5, h⟩
      · rw [if_neg h5] at h; exact .inr ⟨h5, by simpa using h⟩
    · obtain ⟨h1, h2⟩ := decode_high hl
      refine ⟨_, rfl, h2, ?_⟩
      by_cases h5 : i % 5 = 4
      · exact .inl ⟨h5, by omega⟩
      · refine .inr ⟨h5, ?_⟩
        unfold Tg.val
        rw [if_neg (by omega), if_neg (by omega)]
  rw [hc, f9.spec K c h31, bind_s]
  rcases hg with ⟨h5, h58⟩ | ⟨h5, hv⟩
  · rw [show (((i % 5 : Nat) : Int) == 4) = true from beq_iff_eq.2 (by omega), show ((c : Int) == 58) = false from beq_eq_false_iff_ne.2 (by omega)]
    rfl
  · rw [hv]
    simp only []
    rw [show (((i % 5 : Nat) : Int) == 4) = false from beq_eq_false_iff_ne.2 (by omega)]
    by_cases h58 : c = 58
    · rw [show ((c : Int) == 58) = true from beq_iff_eq.2 (by omega)]; rfl
    · rw [show ((c : Int) == 58) = false from beq_eq_false_iff_ne.2 (by omega), show (!(false == false)) = false from rfl, cond_f, show (((i % 5 : Nat) : Int) != 4) = true from bne_iff_ne.2 (by omega), cond_t]
      rfl
theorem shift_by (r : Nat) (h : r < 4) : Int.tmod (List.getD [12, 8, 4, 0] (0 + r) 0) 8 = if r % 2 = 0 then (4 : Int) else 0 := by
  match r, h with
  | 0, _ | 1, _ | 2, _ | 3, _ => rfl
theorem f6.good (K : Nat) (s : ByteArray) (i : Nat) (hs : s.size = 39) (hi : i < 39) (h : Tg.good s i) (rec : List Int × ByteArray × Nat → Option ((Int × List Int) ⊕ (List Int))) :
    f6.s0 K rec (vec 16 (Tg.part s i), s, i) = rec (vec 16 (Tg.part s (i + 1)), s, i + 1) := by
  simp only [f6.s0, f6.s0t]
  rw [show Nat.blt i (ByteArray.size s) = true from by simp [Nat.blt_eq, hs, hi], cond_t]
  have t5 : Int.tmod ((i : Nat) : Int) 5 = ((i % 5 : Nat) : Int) := tmod_nat i 5
  unfold Tg.good at h
  by_cases h5 : i % 5 = 4
  · rw [if_pos h5] at h
    rw [t5, decode_low (by omega), h, f9.spec K 58 (by decide), bind_s]
    simp only []
    rw [show (((i % 5 : Nat) : Int) == 4) = true from beq_iff_eq.2 (by omega), show (((58 : Nat) : Int) == 58) = true from rfl, show (!(true == true)) = false from rfl, cond_f, show (((i % 5 : Nat) : Int) != 4) = false from by rw [bne_eq_false_iff_eq]; omega, cond_f, cond_f]
    congr 2
    refine vec_congr fun k _ => ?_
    exact Tg.part_same s i k (by unfold Tg.at'; omega) (by unfold Tg.at'; omega)
  · rw [if_neg h5] at h
    obtain ⟨n, hn⟩ := Option.isSome_iff_exists.1 h
    obtain ⟨n16, c128, c58⟩ := Tg.val_lt hn
    have hd : Tg.dig s i = n := by unfold Tg.dig; rw [hn]; rfl
    have v12 : IntKind.wrap .i64 ((IntKind.wrap .i64 (2 * (IntKind.wrap .i64 (Int.tdiv ((i : Nat) : Int) 5)))) + (IntKind.wrap .i64 (Int.tdiv ((i % 5 : Nat) : Int) 2))) = ((2 * (i / 5) + i % 5 / 2 : Nat) : Int) := by
      rw [show Int.tdiv ((i : Nat) : Int) 5 = ((i / 5 : Nat) : Int) from tdiv_nat i 5, show Int.tdiv ((i % 5 : Nat) : Int) 2 = ((i % 5 / 2 : Nat) : Int) from tdiv_nat _ 2,
        wrap_i ((i / 5 : Nat) : Int) (by omega) (by omega), wrap_i (2 * ((i / 5 : Nat) : Int)) (by omega) (by omega), wrap_i ((i % 5 / 2 : Nat) : Int) (by omega) (by omega), wrap_i _ (by omega) (by omega)]
      omega
    rw [t5, decode_low (by omega), f9.spec K _ (by omega), bind_s, hn]
    simp only []
    rw [show (((i % 5 : Nat) : Int) == 4) = false from beq_eq_false_iff_ne.2 (by omega), show (((Tg.byte s i : Nat) : Int) == 58) = false from beq_eq_false_iff_ne.2 (by omega), show (!(false == false)) = false from rfl, cond_f,
      show (((i % 5 : Nat) : Int) != 4) = true from bne_iff_ne.2 (by omega), cond_t, decide_eq_false (show ¬ ((n : Int) < 0) by omega), cond_f, cond_t, v12]
    have k16 : 2 * (i / 5) + i % 5 / 2 < 16 := by omega
    rw [decide_eq_true (show (0 : Int) ≤ ((2 * (i / 5) + i % 5 / 2 : Nat) : Int) ∧ ((2 * (i / 5) + i % 5 / 2 : Nat) : Int) < 16 by omega), cond_t, decide_eq_true (show (0 : Int) ≤ ((i % 5 : Nat) : Int) ∧ ((i % 5 : Nat) : Int) < 4 by omega), cond_t]
    simp only [Int.toNat_natCast]
    rw [show Nat.blt (0 + i % 5) 4 = true from by simp [Nat.blt_eq]; omega, cond_t]
    simp only [shift_by _ (show i % 5 < 4 by omega)]
    have hk : Tg.at' (2 * (i / 5) + i % 5 / 2) = if i % 5 % 2 = 0 then i else i - 1 := by unfold Tg.at'; split <;> omega
    have fin : ∀ sh : Nat, (sh = if i % 5 % 2 = 0 then 4 else 0) → setD (vec 16 (Tg.part s i)) (2 * (i / 5) + i % 5 / 2) (bits .or .u8 (List.getD (vec 16 (Tg.part s i)) (2 * (i / 5) + i % 5 / 2) 0) (IntKind.wrap .u8 (shiftI .shl .i64 (n : Int) (sh : Int)))) = vec 16 (Tg.part s (i + 1)) := by
      intro sh hsh
      have e1 : shiftI .shl .i64 (n : Int) (sh : Int) = ((n * 2 ^ sh : Nat) : Int) := by
        unfold shiftI
        simp only [Int.toNat_natCast]
        by_cases he : i % 5 % 2 = 0
        · rw [if_pos he] at hsh; subst hsh
          rw [show min 4 IntKind.i64.bits = 4 from rfl, wrap_i _ (by omega) (by omega)]; omega
        · rw [if_neg he] at hsh; subst hsh
          rw [show min 0 IntKind.i64.bits = 0 from rfl, wrap_i _ (by omega) (by omega)]; omega
      have dl := Tg.dig_lt s
      rw [e1, getD_vec k16]
      by_cases he : i % 5 % 2 = 0
      · rw [if_pos he] at hsh hk; subst hsh
        have p0 : Tg.part s i (2 * (i / 5) + i % 5 / 2) = 0 := by unfold Tg.part; rw [hk, if_neg (by omega), if_neg (by omega)]
        rw [p0, wrap_8 _ (by omega) (by omega), or_u8 _ _ (by omega) (by omega), Nat.zero_or, setD_vec k16]
        refine vec_congr fun j _ => ?_
        by_cases hj : j = 2 * (i / 5) + i % 5 / 2
        · subst hj
          rw [if_pos rfl]; unfold Tg.part; rw [hk, if_pos (by omega), if_neg (by omega), hd]; omega
        · rw [if_neg hj]
          exact Tg.part_same s i j (by unfold Tg.at'; omega) (by unfold Tg.at'; omega)
      · rw [if_neg he] at hsh hk; subst hsh
        have p0 : Tg.part s i (2 * (i / 5) + i % 5 / 2) = Tg.dig s (i - 1) * 2 ^ 4 := by unfold Tg.part; rw [hk, if_pos (by omega), if_neg (by omega)]; omega
        have d16 := dl (i - 1)
        rw [p0, Nat.pow_zero, Nat.mul_one, wrap_8 _ (by omega) (by omega), or_u8 _ _ (by omega) (by omega), or_add _ _ 4 (by omega), setD_vec k16]
        refine vec_congr fun j _ => ?_
        by_cases hj : j = 2 * (i / 5) + i % 5 / 2
        · subst hj
          rw [if_pos rfl]; unfold Tg.part; rw [hk, if_pos (by omega), if_pos (by omega), show i - 1 + 1 = i by omega, hd]; omega
        · rw [if_neg hj]
          exact Tg.part_same s i j (by unfold Tg.at'; omega) (by unfold Tg.at'; omega)
    by_cases he : i % 5 % 2 = 0
    · rw [if_pos he, show decide ((0 : Int) ≤ 4) = true from rfl, cond_t, cond_t]
      have := fin 4 (by rw [if_pos he])
      rw [show ((4 : Nat) : Int) = 4 from rfl] at this
      rw [this]
    · rw [if_neg he, show decide ((0 : Int) ≤ 0) = true from rfl, cond_t, cond_t]
      have := fin 0 (by rw [if_neg he])
      rw [show ((0 : Nat) : Int) = 0 from rfl] at this
      rw [this]
end Go.Proofs

namespace Go.Proofs
open Go.VM
theorem alt_l {A B C : Type} (f : A → C) (g : B → C) (a : A) : alt f g (.inl a) = f a := Eq.trans (show alt f g (.inl a) = f a from by unfold alt; rfl) (Eq.symm (Eq.symm rfl))
theorem alt_r {A B C : Type} (f : A → C) (g : B → C) (b : B) : alt f g (.inr b) = g b := Eq.trans (show alt f g (.inr b) = g b from by unfold alt; rfl) (Eq.symm (Eq.symm rfl))
theorem f6.other (K : Nat) (s : ByteArray) (h : s.size ≠ 39) : f6.F K s = some ([0, 0, 0, 0, 0, 0, 0, 0, 0, 0, 0, 0, 0, 0, 0, 0], 4) := by
  simp only [f6.F, f6.T]
  rw [show (((ByteArray.size s : Nat) : Int) != 39) = true from bne_iff_ne.2 (by omega), cond_t]
theorem zeros16 : ([0, 0, 0, 0, 0, 0, 0, 0, 0, 0, 0, 0, 0, 0, 0, 0] : List Int) = vec 16 fun _ => 0 := rfl
theorem Tg.part_zero (s : ByteArray) : vec 16 (Tg.part s 0) = [0, 0, 0, 0, 0, 0, 0, 0, 0, 0, 0, 0, 0, 0, 0, 0] := by
  rw [zeros16]
  exact vec_congr fun k _ => by unfold Tg.part; rw [if_neg (by omega), if_neg (by omega)]
theorem Tg.part_all (s : ByteArray) : vec 16 (Tg.part s 39) = vec 16 (Tg.oct s) :=
  vec_congr fun k hk => by unfold Tg.part Tg.oct; rw [if_pos (by unfold Tg.at'; omega), if_pos (by unfold Tg.at'; omega)]
theorem f6.ok' (K : Nat) (s : ByteArray) (hs : s.size = 39) (hg : ∀ i, i < 39 → Tg.good s i) (hK : 39 < K) : f6.F K s = some (vec 16 (Tg.oct s), 0) := by
  simp only [f6.F, f6.T]
  rw [show (((ByteArray.size s : Nat) : Int) != 39) = false from by rw [bne_eq_false_iff_eq]; omega, cond_f]
  have := iter_for (stp := f6.s0 K) (N := 39) (fun i => (vec 16 (Tg.part s i), s, i)) (y := some (.inr (vec 16 (Tg.oct s)))) (fun i hi rec => f6.good K s i hs hi (hg i hi) rec) (fun rec => ?_) hK
  · simp only [Tg.part_zero] at this
    rw [this, bind_s, alt_r]
  · simp only [f6.s0, f6.s0t]
    rw [show Nat.blt 39 (ByteArray.size s) = false from by rw [hs]; rfl, cond_f, Tg.part_all]
theorem f6.no (K : Nat) (s : ByteArray) (hs : s.size = 39) (hg : ∃ i, i < 39 ∧ ¬ Tg.good s i) (hK : 39 < K) : f6.F K s = some ([0, 0, 0, 0, 0, 0, 0, 0, 0, 0, 0, 0, 0, 0, 0, 0], 4) := by

  have first : ∀ n, (∃ i, i < n ∧ ¬ Tg.good s i) → ∃ i, i < n ∧ ¬ Tg.good s i ∧ ∀ j, j < i → Tg.good s j := by
    intro n
    induction n with
    | zero => rintro ⟨i, hi, _⟩; omega
    | succ n ih =>
      rintro ⟨i, hi, hb⟩
      by_cases h : ∃ j, j < n ∧ ¬ Tg.good s j
      · obtain ⟨j, h1, h2⟩ := ih h; exact ⟨j, by omega, h2⟩
      · refine ⟨i, hi, hb, fun j hj => ?_⟩
        exact Decidable.not_not.1 fun hn => h ⟨j, by omega, hn⟩
  obtain ⟨i, hi, hb, hall⟩ := first 39 hg
  simp only [f6.F, f6.T]
  rw [show (((ByteArray.size s : Nat) : Int) != 39) = false from by rw [bne_eq_false_iff_eq]; omega, cond_f]
  have := iter_for (stp := f6.s0 K) (N := i) (fun i => (vec 16 (Tg.part s i), s, i)) (y := some (.inl (4, [0, 0, 0, 0, 0, 0, 0, 0, 0, 0, 0, 0, 0, 0, 0, 0]))) (fun j hj rec => f6.good K s j hs (by omega) (hall j hj) rec) (fun rec => f6.bad K s _ i (by omega) hb rec) (show i < K by omega)
  simp only [Tg.part_zero] at this
  rw [this, bind_s, alt_l]
theorem mkStr_size (l : List Int) : (mkStr l).size = l.length := by
  show (mkStr l).data.size = l.length
  simp [mkStr]
theorem mkStr_byte (f : Nat → Nat) (n i : Nat) (hi : i < n) (hf : f i < 256) : Tg.byte (mkStr ((List.range n).map fun i => (f i : Int))) i = f i := by
  show ((mkStr _).data[i]!).toNat = f i
  have : (mkStr ((List.range n).map fun i => (f i : Int))).data = ((List.range n).map fun i => UInt8.ofNat (f i)).toArray := by
    simp [mkStr]
  rw [this]
  simp [hi]
  omega
theorem bytes_ext {a b : ByteArray} (hs : a.size = b.size) (h : ∀ i, i < a.size → Tg.byte a i = Tg.byte b i) : a = b := by
  cases a with | mk da => cases b with | mk db =>
  congr 1
  refine Array.ext hs fun i h1 h2 => ?_
  have := h i h1
  have e1 : (da[i]!).toNat = (db[i]!).toNat := this
  rw [getElem!_pos da i h1, getElem!_pos db i h2] at e1
  exact UInt8.toNat_inj.1 e1
theorem Tg.chr_lt (A : Nat → Nat) (hA : ∀ i, A i < 256) (i : Nat) : Tg.chr A i < 128 := by
  unfold Tg.chr
  have := hA (2 * (i / 5) + i % 5 / 2)
  split
  · decide
  · split
    · exact Tg.hex_lt (by omega)
    · exact Tg.hex_lt (by omega)
theorem Tg.text_byte (A : Nat → Nat) (hA : ∀ i, A i < 256) (i : Nat) (hi : i < 39) : Tg.byte (mkStr (Tg.text A)) i = Tg.chr A i :=
  mkStr_byte (Tg.chr A) 39 i hi (by have := Tg.chr_lt A hA i; omega)
theorem Tg.text_size (A : Nat → Nat) : (mkStr (Tg.text A)).size = 39 := by rw [mkStr_size]; simp [Tg.text]
theorem Tg.text_good (A : Nat → Nat) (hA : ∀ i, A i < 256) (i : Nat) (hi : i < 39) : Tg.good (mkStr (Tg.text A)) i := by
  unfold Tg.good
  rw [Tg.text_byte A hA i hi]
  unfold Tg.chr
  have := hA (2 * (i / 5) + i % 5 / 2)
  by_cases h : i % 5 = 4
  · rw [if_pos h, if_pos h]
  · rw [if_neg h, if_neg h]
    split
    · rw [Tg.val_hex (by omega)]; rfl
    · rw [Tg.val_hex (by omega)]; rfl
theorem Tg.text_oct (A : Nat → Nat) (hA : ∀ i, A i < 256) (k : Nat) (hk : k < 16) : Tg.oct (mkStr (Tg.text A)) k = A k := by
  have := hA k
  unfold Tg.oct Tg.dig
  rw [Tg.text_byte A hA _ (by unfold Tg.at'; omega), Tg.text_byte A hA _ (by unfold Tg.at'; omega)]
  have e1 : Tg.chr A (Tg.at' k) = Tg.hex (A k / 16) := by
    unfold Tg.chr Tg.at'
    rw [show (5 * (k / 2) + 2 * (k % 2)) / 5 = k / 2 by omega, show (5 * (k / 2) + 2 * (k % 2)) % 5 = 2 * (k % 2) by omega, if_neg (by omega), if_pos (by omega), show 2 * (k / 2) + 2 * (k % 2) / 2 = k by omega]
  have e2 : Tg.chr A (Tg.at' k + 1) = Tg.hex (A k % 16) := by
    unfold Tg.chr Tg.at'
    rw [show (5 * (k / 2) + 2 * (k % 2) + 1) / 5 = k / 2 by omega, show (5 * (k / 2) + 2 * (k % 2) + 1) % 5 = 2 * (k % 2) + 1 by omega, if_neg (by omega), if_neg (by omega), show 2 * (k / 2) + (2 * (k % 2) + 1) / 2 = k by omega]
  rw [e1, e2, Tg.val_hex (by omega), Tg.val_hex (by omega)]
  simp only [Option.getD_some]
  omega
theorem f6.text (K : Nat) (A : Nat → Nat) (hA : ∀ i, A i < 256) (hK : 39 < K) : f6.F K (mkStr (Tg.text A)) = some (vec 16 A, 0) := by
  rw [f6.ok' K _ (Tg.text_size A) (Tg.text_good A hA) hK, vec_congr fun k hk => Tg.text_oct A hA k hk]
theorem Tg.oct_lt (s : ByteArray) (k : Nat) : Tg.oct s k < 256 := by
  unfold Tg.oct
  have := Tg.dig_lt s (Tg.at' k)
  have := Tg.dig_lt s (Tg.at' k + 1)
  omega
theorem Tg.text_back (s : ByteArray) (hs : s.size = 39) (hg : ∀ i, i < 39 → Tg.good s i) : mkStr (Tg.text (Tg.oct s)) = s := by
  refine bytes_ext (by rw [Tg.text_size, hs]) fun i hi => ?_
  rw [Tg.text_size] at hi
  rw [Tg.text_byte _ (Tg.oct_lt s) i hi]
  have h := hg i hi
  unfold Tg.good at h
  unfold Tg.chr
  by_cases h5 : i % 5 = 4
  · rw [if_pos h5] at h ⊢; exact h.symm
  · rw [if_neg h5] at h ⊢
    obtain ⟨n, hn⟩ := Option.isSome_iff_exists.1 h
    have hd : Tg.dig s i = n := by unfold Tg.dig; rw [hn]; rfl
    have d1 := Tg.dig_lt s (Tg.at' (2 * (i / 5) + i % 5 / 2))
    have d2 := Tg.dig_lt s (Tg.at' (2 * (i / 5) + i % 5 / 2) + 1)
    by_cases he : i % 5 % 2 = 0
    · have e : Tg.at' (2 * (i / 5) + i % 5 / 2) = i := by unfold Tg.at'; omega
      rw [if_pos he]
      unfold Tg.oct
      rw [e] at d1 d2 ⊢
      rw [show (16 * Tg.dig s i + Tg.dig s (i + 1)) / 16 = Tg.dig s i by omega, hd, Tg.hex_val hn]
    · have e : Tg.at' (2 * (i / 5) + i % 5 / 2) + 1 = i := by unfold Tg.at'; omega
      rw [if_neg he]
      unfold Tg.oct
      rw [e] at d2 ⊢
      rw [show (16 * Tg.dig s (Tg.at' (2 * (i / 5) + i % 5 / 2)) + Tg.dig s i) % 16 = Tg.dig s i by omega, hd, Tg.hex_val hn]
theorem f7.round (K : Nat) (A B : Nat → Nat) (i : Nat) (hi : i < 16) (he : A i = B i) (rec : List Int × Int × List Int → Option (Int ⊕ Unit)) :
    f7.s0 K rec (vec 16 A, (i : Int), vec 16 B) = rec (vec 16 A, ((i + 1 : Nat) : Int), vec 16 B) := by
  simp only [f7.s0, f7.s0t]
  rw [decide_eq_true (show (i : Int) < 16 by omega), cond_t, decide_eq_true (show (0 : Int) ≤ (i : Int) ∧ (i : Int) < 16 by omega), cond_t, cond_t, Int.toNat_natCast, getD_vec hi, getD_vec hi, decide_eq_false (show ¬ ((A i : Nat) : Int) < ((B i : Nat) : Int) by omega), cond_f, cond_t, decide_eq_false (show ¬ ((A i : Nat) : Int) > ((B i : Nat) : Int) by omega), cond_f, wrap_i _ (by omega) (by omega)]
  rfl
theorem f7.same (K : Nat) (A B : Nat → Nat) (he : ∀ j, j < 16 → A j = B j) (hK : 16 < K) : f7.F K (vec 16 A, vec 16 B) = some 0 := by
  simp only [f7.F, f7.T]
  have := iter_for (stp := f7.s0 K) (N := 16) (fun i => (vec 16 A, (i : Int), vec 16 B)) (y := some (.inr ())) (fun j hj rec => f7.round K A B j hj (he j hj) rec) (fun rec => ?_) (show 16 < K by omega)
  · rw [show iter (f7.s0 K) K (vec 16 A, 0, vec 16 B) = _ from this, bind_s, alt_r]
  · simp only [f7.s0, f7.s0t]
    rw [decide_eq_false (show ¬ ((16 : Nat) : Int) < 16 by omega), cond_f]
end Go.Proofs

namespace Go.Proofs
open Go.VM
def Tg.bytes (f : Nat → Nat) (n : Nat) : List UInt8 := (List.range n).map fun i => UInt8.ofNat (f i)
theorem text_list (A : Nat → Nat) : (mkStr (Tg.text A)).toList = Tg.bytes (Tg.chr A) 39 := by
  rw [ByteArray.toList_eq]
  simp [mkStr, Tg.text, Tg.bytes]
theorem eqL_same (A B : Nat → Nat) (h : ∀ j, j < 16 → A j = B j) : eqL 16 (vec 16 A) (vec 16 B) = true := by
  unfold eqL
  rw [List.all_eq_true]
  intro i hi
  have hi' : i < 16 := by simpa using hi
  rw [getD_vec hi', getD_vec hi', h i hi']
  exact beq_self_eq_true _
theorem eqL_other (A B : Nat → Nat) (k : Nat) (hk : k < 16) (h : A k ≠ B k) : eqL 16 (vec 16 A) (vec 16 B) = false := by
  rw [← Bool.not_eq_true]
  intro e
  unfold eqL at e
  rw [List.all_eq_true] at e
  have := e k (by simpa using hk)
  rw [getD_vec hk, getD_vec hk, beq_iff_eq] at this
  omega
def Tg.t0 (i : Nat) : Nat := if i = 0 then 32 else if i = 1 then 1 else if i = 3 then 33 else 0
theorem Tg.t0_lt (i : Nat) : Tg.t0 i < 256 := by unfold Tg.t0; split <;> (try split) <;> (try split) <;> decide
theorem Tg.t0_vec : ([32, 1, 0, 33, 0, 0, 0, 0, 0, 0, 0, 0, 0, 0, 0, 0] : List Int) = vec 16 Tg.t0 := by decide +kernel
theorem f8.spec (K : Nat) (hK : 39 < K) : f8.F K () = some true := by
  simp only [f8.F, f8.T]
  have e1 : strEq (mkStr (Tg.text Tg.t0)) f8.k1 = true := by
    unfold strEq
    rw [text_list, ByteArray.toList_eq]
    decide +kernel
  rw [Tg.t0_vec, f5.spec K Tg.t0 Tg.t0_lt, bind_s, f6.text K Tg.t0 Tg.t0_lt hK, bind_s, f6.other K f8.k0 (by decide), bind_s, e1, cond_t]
  simp only []
  rw [eqL_same _ _ fun _ _ => rfl, Bool.true_and, cond_t, show ((0 : Int) == 0) = true from rfl, cond_t, show ((4 : Int) == 4) = true from rfl, cond_t, f7.same K _ _ (fun _ _ => rfl) (by omega), bind_s]
  rfl
end Go.Proofs

namespace Go.Proofs
open Go.VM
theorem strL_byte (s : ByteArray) (i : Nat) (h : i < s.size) : (strL s).getD i 0 = (Tg.byte s i : Int) := by
  have hd : i < s.data.size := h
  have e : Tg.byte s i = (s.data[i]'hd).toNat := by
    show (s.data[i]!).toNat = _
    rw [getElem!_pos s.data i hd]
  rw [e]
  simp [strL, List.getD_eq_getElem?_getD]
  rw [Array.getElem?_eq_getElem hd]
  rfl
theorem mkStr_byte' (l : List Int) (i : Nat) (h : i < l.length) : Tg.byte (mkStr l) i = (l.getD i 0).toNat % 256 := by
  show ((mkStr l).data[i]!).toNat = _
  have : (mkStr l).data = (l.map fun x => UInt8.ofNat x.toNat).toArray := rfl
  rw [this]
  simp [h, List.getD_eq_getElem?_getD]
theorem strL_len (s : ByteArray) : (strL s).length = s.size := by simp [strL]
theorem xor_u8 (a b : Nat) (ha : a < 256) (hb : b < 256) : bits .xor .u8 (a : Int) (b : Int) = ((a ^^^ b : Nat) : Int) := by
  have hx : a ^^^ b < 2 ^ 8 := Nat.xor_lt_two_pow (by omega) (by omega)
  have h1 : (BitVec.ofInt 8 (a : Int)).toNat = a := by
    rw [BitVec.ofInt_natCast, BitVec.toNat_ofNat]; exact Nat.mod_eq_of_lt (by omega)
  have h2 : (BitVec.ofInt 8 (b : Int)).toNat = b := by
    rw [BitVec.ofInt_natCast, BitVec.toNat_ofNat]; exact Nat.mod_eq_of_lt (by omega)
  show IntKind.u8.wrap ((BitVec.ofInt 8 (a : Int) ^^^ BitVec.ofInt 8 (b : Int)).toNat : Int) = _
  rw [BitVec.toNat_xor, h1, h2, wrap_8 _ (by omega) (by omega)]
theorem xor_same (a b : Nat) (h : a ^^^ b = a) : b = 0 := by
  have : a ^^^ (a ^^^ b) = b := by rw [← Nat.xor_assoc, Nat.xor_self, Nat.zero_xor]
  rw [h, Nat.xor_self] at this
  exact this.symm
theorem pad_all (l : List Int) (n : Nat) (h : l.length = n) : padT (subI l 0 n) n = l := by
  refine List.ext_getElem? fun i => ?_
  by_cases hi : i < n
  · have : i < l.length := by omega
    simp [padT, subI, hi, this]
  · rw [List.getElem?_eq_none (by simpa [padT] using hi), List.getElem?_eq_none (by omega)]
def Tg.turned (s : ByteArray) (p by' : Nat) : ByteArray := mkStr (setD (strL s) p (((Tg.byte s p ^^^ by' : Nat)) : Int))
theorem setD_getD (l : List Int) (p : Nat) (x : Int) (i : Nat) (hp : p < l.length) : (setD l p x).getD i 0 = if i = p then x else l.getD i 0 := by
  induction l generalizing p i with
  | nil => simp at hp
  | cons a l ih =>
    cases p with
    | zero => cases i <;> simp [setD]
    | succ p =>
      cases i with
      | zero => simp [setD]
      | succ i =>
        have := ih p i (by simpa using hp)
        simp only [setD, List.getD_cons_succ, this]
        by_cases h : i = p
        · rw [if_pos h, if_pos (by omega)]
        · rw [if_neg h, if_neg (by omega)]
theorem Tg.turned_size (s : ByteArray) (p b : Nat) (hp : p < s.size) : (Tg.turned s p b).size = s.size := by
  unfold Tg.turned
  rw [mkStr_size, length_setD (by rw [strL_len]; exact hp), strL_len]
theorem Tg.turned_byte (s : ByteArray) (p b i : Nat) (hp : p < s.size) (hi : i < s.size) (hb : b < 256) : Tg.byte (Tg.turned s p b) i = if i = p then Tg.byte s p ^^^ b else Tg.byte s i := by
  have hx : Tg.byte s p ^^^ b < 2 ^ 8 := Nat.xor_lt_two_pow (by have := Tg.byte_lt s p; omega) (by omega)
  unfold Tg.turned
  rw [mkStr_byte' _ i (by rw [length_setD (by rw [strL_len]; exact hp), strL_len]; exact hi), setD_getD _ _ _ _ (by rw [strL_len]; exact hp)]
  by_cases h : i = p
  · rw [if_pos h, if_pos h, Int.toNat_natCast]; omega
  · rw [if_neg h, if_neg h, strL_byte s i hi, Int.toNat_natCast]
    have := Tg.byte_lt s i
    omega
theorem strEq_self (s : ByteArray) : strEq s s = true := beq_self_eq_true _
theorem f4.holds (s : ByteArray) (a b : Int) (ha : 0 ≤ a ∧ a < 256) (hb : 0 ≤ b ∧ b < 256) : f4.F 100000 (s, a, b) = some true := by
  obtain ⟨a, rfl⟩ : ∃ n : Nat, a = n := ⟨a.toNat, by omega⟩
  obtain ⟨b, rfl⟩ : ∃ n : Nat, b = n := ⟨b.toNat, by omega⟩
  have refuse : f6.F 100000 s = some ([0, 0, 0, 0, 0, 0, 0, 0, 0, 0, 0, 0, 0, 0, 0, 0], 4) → f4.F 100000 (s, (a : Int), (b : Int)) = some true := fun h => by
    simp only [f4.F, f4.T]
    rw [h, bind_s]
    simp only []
    rw [show ((4 : Int) != 0) = true from rfl, cond_t, show ((4 : Int) == 4) = true from rfl, cond_t, zeros16, eqL_same _ _ fun _ _ => rfl, Bool.and_self, cond_t, f8.spec _ (by decide)]
    rfl
  by_cases hs : s.size = 39
  case neg => exact refuse (f6.other _ s hs)
  by_cases hg : ∀ i, i < 39 → Tg.good s i
  case neg =>
    refine refuse (f6.no _ s hs ?_ (by decide))
    refine Classical.byContradiction fun hn => hg fun i hi => ?_
    exact Decidable.byContradiction fun h => hn ⟨i, hi, h⟩
  have hA := Tg.oct_lt s
  have hp : a % 39 < 39 := Nat.mod_lt _ (by decide)
  have hpb := Tg.byte_lt s (a % 39)
  have e11 : Int.tmod (IntKind.wrap .i64 (a : Int)) ((39 : Nat) : Int) = ((a % 39 : Nat) : Int) := by rw [wrap_i _ (by omega) (by omega)]; exact tmod_nat a 39
  have hturn : padT (subI (setD (strL s) (a % 39) (bits .xor .u8 (List.getD (strL s) (a % 39) 0) (b : Int))) 0 39) 39 = setD (strL s) (a % 39) ((Tg.byte s (a % 39) ^^^ b : Nat) : Int) := by
    rw [strL_byte s _ (by omega), xor_u8 _ _ hpb (by omega), pad_all _ 39 (by rw [length_setD (by rw [strL_len]; omega), strL_len, hs])]
  simp only [f4.F, f4.T]
  rw [f6.ok' _ s hs hg (by decide), bind_s]
  simp only []
  rw [show ((0 : Int) != 0) = false from rfl, cond_f, f5.spec _ _ hA, bind_s, Tg.text_back s hs hg, strEq_self, Bool.not_true, cond_f]
  simp only [hs]
  rw [show (((39 : Nat) : Int) == 0) = false from rfl, cond_f, show decide (((39 : Nat) : Int) ≠ 0) = true from rfl, cond_t]
  simp only [e11, Int.toNat_natCast, Nat.zero_add]
  rw [decide_eq_true (show (0 : Int) ≤ ((a % 39 : Nat) : Int) ∧ ((a % 39 : Nat) : Int) < ((39 : Nat) : Int) by omega), show Nat.blt (a % 39) 39 = true from by simp [Nat.blt_eq, hp], Bool.and_self, cond_t, cond_t, cond_t, cond_t, show Nat.ble 39 39 = true from rfl, cond_t, hturn]
  have ts : (Tg.turned s (a % 39) b).size = 39 := by rw [Tg.turned_size s _ _ (by omega), hs]
  have tb := fun i (hi : i < 39) => Tg.turned_byte s (a % 39) b i (by omega) (by omega) (by omega)
  show (Option.bind (f6.F 100000 (Tg.turned s (a % 39) b)) _) = _
  have hb0 : b = 0 → Tg.turned s (a % 39) b = s := fun h => by
    subst h
    refine bytes_ext (by rw [ts, hs]) fun i hi => ?_
    rw [tb i (by omega)]
    split
    · rename_i h; rw [h, Nat.xor_zero]
    · rfl
  by_cases hg2 : ∀ i, i < 39 → Tg.good (Tg.turned s (a % 39) b) i
  · rw [f6.ok' _ _ ts hg2 (by decide), bind_s]
    simp only []
    rw [show ((0 : Int) == 0) = true from rfl, cond_t]
    by_cases h0 : b = 0
    · rw [hb0 h0, eqL_same _ _ fun _ _ => rfl, show ((b : Int) == 0) = true from beq_iff_eq.2 (by omega), f8.spec _ (by decide)]
      rfl
    · have hne : ∃ k, k < 16 ∧ Tg.oct (Tg.turned s (a % 39) b) k ≠ Tg.oct s k := by
        refine Classical.byContradiction fun hn => ?_
        have heq : ∀ k, k < 16 → Tg.oct (Tg.turned s (a % 39) b) k = Tg.oct s k := fun k hk => Decidable.byContradiction fun h => hn ⟨k, hk, h⟩
        have h1 := Tg.text_back _ ts hg2
        have h2 := Tg.text_back s hs hg
        have h3 : Tg.text (Tg.oct (Tg.turned s (a % 39) b)) = Tg.text (Tg.oct s) := by
          unfold Tg.text
          refine List.map_congr_left fun i hi => ?_
          have hi' : i < 39 := by simpa using hi
          have : Tg.chr (Tg.oct (Tg.turned s (a % 39) b)) i = Tg.chr (Tg.oct s) i := by
            unfold Tg.chr
            by_cases h5 : i % 5 = 4
            · rw [if_pos h5, if_pos h5]
            · rw [heq _ (by omega)]
          rw [this]
        rw [h3, h2] at h1
        have h4 := tb (a % 39) hp
        rw [if_pos rfl, ← h1] at h4
        exact h0 (xor_same _ _ h4.symm)
      obtain ⟨k, hk, hk2⟩ := hne
      rw [eqL_other _ _ k hk hk2, show ((b : Int) == 0) = false from beq_eq_false_iff_ne.2 (by omega), f8.spec _ (by decide)]
      rfl
  · have h0 : b ≠ 0 := fun h => hg2 (by rw [hb0 h]; exact hg)
    rw [f6.no _ _ ts (Classical.byContradiction fun hn => hg2 fun i hi => Decidable.byContradiction fun h => hn ⟨i, hi, h⟩) (by decide), bind_s]
    simp only []
    rw [show ((4 : Int) == 0) = false from rfl, cond_f, show ((4 : Int) == 4) = true from rfl, cond_t, show ((b : Int) != 0) = true from bne_iff_ne.2 (by omega), cond_t, f8.spec _ (by decide)]
    rfl
end Go.Proofs
