/- Plain laws: lemmas that hold with no condition but those that each states. -/
import Derived.Test.YtlncodfolaoilaaQ2
import Derived.Test.YtlncodfolaoilaaQ10
import Derived.Test.YtlncodfolaoilaaQ6
namespace Go.Proofs
open Go.VM
noncomputable def f28.T (K : Nat)  : Option (Bool) :=
  (f31.F K (0, 0, [0, 0, 0, 0, 0, 0, 0, 0, 0, 0, 0, 0, 0, 0, 0, 0, 0, 0, 0, 0, 0, 0, 0, 0, 0, 0, 0, 0, 0, 0, 0, 0], [0, 0, 0, 0, 0, 0, 0, 0, 0, 0, 0, 0, 0, 0, 0, 0], [0, 0, 0, 0, 0, 0, 0, 0, 0, 0, 0, 0, 0, 0, 0, 0])).bind fun y1 =>
  (f24.F K ([0, 0, 0, 0, 0, 0, 0, 0, 0, 0, 0, 0, 0, 0, 0, 0, 0, 0, 0, 0, 0, 0, 0, 0, 0, 0, 0, 0, 0, 0, 0, 0], 0, 13, [0, 0, 0, 0, 0, 0, 0, 0, 0, 0, 0, 0, 0, 0, 0, 0], [0, 0, 0, 0, 0, 0, 0, 0, 0, 0, 0, 0, 0, 0, 0, 0], 1)).bind fun y2 =>
  (f24.F K ([0, 0, 0, 0, 0, 0, 0, 0, 0, 0, 0, 0, 0, 0, 0, 0, 0, 0, 0, 0, 0, 0, 0, 0, 0, 0, 0, 0, 0, 0, 0, 0], 0, 0, [0, 0, 0, 0, 0, 0, 0, 0, 0, 0, 0, 0, 0, 0, 0, 0], [0, 0, 0, 0, 0, 0, 0, 0, 0, 0, 0, 0, 0, 0, 0, 0], 0)).bind fun y3 =>
  (f26.F K 7).bind fun y4 =>
  bif (y4 == 0) then
    (f26.F K 8).bind fun y5 =>
    bif (y5 == 1) then
      (f26.F K 16).bind fun y6 =>
      bif (y6 == 2) then
        (f26.F K 1000000).bind fun y7 =>
        bif (y7 == 12) then
          (f26.F K (-1)).bind fun y8 =>
          bif (y8 == 0) then
            bif (eqL 32 y1.1 [0, 0, 0, 0, 0, 0, 0, 0, 0, 0, 0, 0, 0, 0, 0, 0, 0, 0, 0, 0, 0, 0, 0, 0, 0, 0, 0, 0, 0, 0, 0, 0] && true) then
              bif (y1.2 == 0) then
                bif (y2.2.2.2 == 1) then
                  bif (y3.2.2.2 == 1) then
                    (f29.F K (0, 0, [0, 0, 0, 0, 0, 0, 0, 0, 0, 0, 0, 0, 0, 0, 0, 0, 0, 0, 0, 0, 0, 0, 0, 0, 0, 0, 0, 0, 0, 0, 0, 0], [0, 0, 0, 0, 0, 0, 0, 0, 0, 0, 0, 0, 0, 0, 0, 0], [0, 0, 0, 0, 0, 0, 0, 0, 0, 0, 0, 0, 0, 0, 0, 0], [1, 0, 0, 0, 0, 0, 0, 0, 0, 0, 0, 0, 0, 0, 0, 0, 0, 0, 0, 0, 0, 0, 0, 0, 0, 0, 0, 0, 0, 0, 0, 0])).bind fun y12 =>
                    some y12
                  else
                    some false
                else
                  some false
              else
                some false
            else
              some false
          else
            some false
        else
          some false
      else
        some false
    else
      some false
  else
    some false
noncomputable def f28.F (K : Nat) (_x : Unit) : Option (Bool) := f28.T K
noncomputable def f28.av (_x : Unit) : List VV := []
noncomputable def f28.bl (_x : Unit) : List (Nat × Blk) := []
noncomputable def f28.inA : VS → Option (Unit)
  | ⟨[], [], 0⟩ => some ()
  | _ => none
noncomputable def f28.o0 (y : Bool) : VS := ⟨[(0, .bool y)], [], 0⟩
noncomputable def f28.inR : VS → Option (Bool)
  | ⟨[(0, .bool y)], [], 0⟩ => some y
  | _ => none
noncomputable def f28.E (K : Nat) : Entry := genE 0 f28.inA (f28.F K) (dv1 f28.o0)
theorem f28.ok (K : Nat) : EntryOK Try.prog 28 (f28.E K) := gen_ok mix tys_ok (tab_ok ((tab_cons (f31.ok K) (tab_cons (f24.ok K) (tab_cons (f26.ok K) (tab_cons (f29.ok K) tab_nil)))))) Try.func28 (c := bodyOf Try.f28) (by kernel_rfl) (by kernel_rfl) (loops_none (lp := lpNone) (by kernel_rfl)) (av := f28.av) (bl := f28.bl) (inR := f28.inR) (out := f28.o0) (fuel := 400)
  (by intro s x h; unfold f28.inA at h; split at h <;> simp at h; rfl) (fun _ => Nat.le_of_ble_eq_true rfl)
  (by intro s y h; unfold f28.inR at h; split at h <;> simp at h <;> subst h <;> rfl) (fun _ _ _ => rfl) (fun _ => by kernel_rfl)
end Go.Proofs

namespace Go.Proofs
open Go.VM
def So.low (h : List Int) : Nat := (h.getD 30 0).toNat * 256 + (h.getD 31 0).toNat
def So.ck (b : Nat) (h : List Int) : Bool := So.low h % 2 ^ b == 0
theorem So.shl32 (b : Nat) (hb : b ≤ 12) : shiftI .shl .u32 1 (b : Int) = ((2 ^ b : Nat) : Int) := by
  have : ∀ c : Fin 13, shiftI .shl .u32 1 ((c.val : Nat) : Int) = ((2 ^ c.val : Nat) : Int) := by decide
  exact this ⟨b, by omega⟩
theorem So.pow12 (b : Nat) (hb : b ≤ 12) : 1 ≤ 2 ^ b ∧ 2 ^ b ≤ 4096 :=
  ⟨Nat.one_le_two_pow, Nat.pow_le_pow_right (by decide) hb⟩
theorem So.and_low (x : Nat) (hx : x < 65536) (b : Nat) (hb : b ≤ 12) : bits .and .u32 (x : Int) (IntKind.wrap .u32 ((shiftI .shl .u32 1 (b : Int)) - 1)) = ((x % 2 ^ b : Nat) : Int) := by
  obtain ⟨h1, h2⟩ := So.pow12 b hb
  rw [So.shl32 b hb, show ((2 ^ b : Nat) : Int) - 1 = ((2 ^ b - 1 : Nat) : Int) by omega, wrap_32n _ (by omega), bits_and, BitVec.toNat_and]
  simp only [bv, BitVec.ofInt_natCast, BitVec.toNat_ofNat]
  rw [Nat.mod_eq_of_lt (show x < 2 ^ 32 by omega), Nat.mod_eq_of_lt (show 2 ^ b - 1 < 2 ^ 32 by omega), Nat.and_two_pow_sub_one_eq_mod]
theorem So.or32 (a c : Nat) (ha : a < 256) (hc : c < 256) : bits .or .u32 (IntKind.wrap .u32 ((IntKind.wrap .u32 (a : Int)) * 2 ^ 8)) (IntKind.wrap .u32 (c : Int)) = ((a * 256 + c : Nat) : Int) := by
  have h := Nat.shiftLeft_add_eq_or_of_lt (show c < 2 ^ 8 by omega) a
  rw [Nat.shiftLeft_eq] at h
  rw [wrap_32n a (by omega), wrap_32n c (by omega), show (a : Int) * 2 ^ 8 = ((a * 2 ^ 8 : Nat) : Int) by omega, wrap_32n _ (by omega), bits_or, BitVec.toNat_or]
  simp only [bv, BitVec.ofInt_natCast, BitVec.toNat_ofNat]
  rw [Nat.mod_eq_of_lt (show a * 2 ^ 8 < 2 ^ 32 by omega), Nat.mod_eq_of_lt (show c < 2 ^ 32 by omega), ← h]
theorem So.int_nat (n : Nat) : (((n : Nat) : Int) == 0) = (n == 0) := by
  cases h : (n == 0)
  · simp at h ⊢; omega
  · simp at h ⊢; omega
theorem f29.spec (K b : Nat) (hb : b ≤ 12) (g : Int) (I f t j : List Int) (lI : I.length = 32) (oI : octets I) (lf : f.length = 16) (of' : octets f) (lt : t.length = 16) (ot : octets t) (lj : j.length = 32) (oj : octets j) (hK : 10000 < K) :
    f29.F K ((b : Int), g, I, f, t, j) = some (So.ck b (Sh.sha (strL f29.k0) [I, f, t, j])) := by
  have hs : f29.k0.size = 4 := rfl
  simp only [f29.F, f29.T]
  rw [decide_eq_false (show ¬ ((b : Int) > 12) by omega), cond_f, subI_self I lI, subI_self f lf, subI_self t lt, subI_self j lj,
    f50.spec K f29.k0 32 I 16 f 16 t 32 j (by omega) lI oI (by omega) lf of' (by omega) lt ot (by omega) lj oj (by omega) (by omega) (by omega) (by omega) (by omega) (by omega), bind_s]
  simp only []
  rw [decide_eq_true (show (0 : Int) ≤ (b : Int) by omega), cond_t]
  have ho : octets (Sh.sha (strL f29.k0) [I, f, t, j]) := sum_octets _
  obtain ⟨a, ha, ea⟩ := getD_oct ho 30
  obtain ⟨c, hc, ec⟩ := getD_oct ho 31
  rw [ea, ec, So.or32 a c ha hc, So.and_low _ (by omega) b hb, So.int_nat, So.ck, So.low, ea, ec]
  rfl
theorem So.oct {l : List Int} (h : l.all (fun x => decide (0 ≤ x ∧ x < 256)) = true) : octets l := fun x hx => of_decide_eq_true (List.all_eq_true.1 h x hx)
theorem f24.big (K : Nat) (S f t : List Int) (g b s : Int) (hb : 12 < b) : f24.F K (S, g, b, f, t, s) = some (0, 0, List.replicate 32 0, 1) := by
  simp only [f24.F, f24.T]
  rw [decide_eq_true (show b > 12 by omega), cond_t]
  rfl
theorem f24.none (K : Nat) (S f t : List Int) (g b : Int) (hb : b ≤ 12) : f24.F K (S, g, b, f, t, 0) = some (0, 0, List.replicate 32 0, 1) := by
  simp only [f24.F, f24.T]
  rw [decide_eq_false (show ¬ b > 12 by omega), cond_f, show (((0 : Int)) == 0) = true from rfl, cond_t]
  rfl
def So.asked (n : Nat) : Nat := if n < 8 then 0 else min (blen (n / 4) - 1) 12
theorem So.asked_le (n : Nat) : So.asked n ≤ 12 := by unfold So.asked; split <;> omega
theorem f26.spec (K n : Nat) (hn : n < 9223372036854775808) : f26.F K (n : Int) = some ((So.asked n : Nat) : Int) := by
  simp only [f26.F, f26.T]
  unfold So.asked
  by_cases h : n < 8
  · rw [decide_eq_true (show (n : Int) < 8 by omega), cond_t, if_pos h]
    rfl
  · have hb : blen (n / 4) ≤ 63 := blen_le (by omega)
    have hb0 : 0 < blen (n / 4) := (blen_ge (x := n / 4) (by omega)).2
    rw [decide_eq_false (show ¬ (n : Int) < 8 by omega), cond_f, show Int.tdiv (n : Int) 4 = ((n / 4 : Nat) : Int) from tdiv_nat n 4, wrap_i _ (by omega) (by omega), wrap_u _ (by omega) (by omega)]
    have e : f49.F K ((n / 4 : Nat) : Int) = some ((blen (n / 4) : Nat) : Int) := by
      simp only [f49.F, f49.T]
      rw [f68.spec K _ (by omega), bind_s]
    rw [e, bind_s, wrap_i _ (by omega) (by omega), if_neg h]
    congr 1
    unfold minE
    by_cases h2 : 12 < ((blen (n / 4) : Nat) : Int) - 1
    · rw [decide_eq_true h2, cond_t, Nat.min_eq_right (by omega)]; rfl
    · rw [decide_eq_false h2, cond_f, wrap8, Nat.min_eq_left (by omega)]; omega
theorem f26.neg (K : Nat) : f26.F K (-1) = some 0 := by
  simp only [f26.F, f26.T]
  rfl
theorem So.cand_length (k : Nat) : (So.cand k).length = 32 := by simp [So.cand, be_length]
theorem So.cand_octets (k : Nat) : octets (So.cand k) := octets_append (octets_zeros 24) (be_octets 8 k)
theorem So.ck0 (h : List Int) : So.ck 0 h = true := by
  simp [So.ck, Nat.mod_one]
theorem f28.holds (K : Nat) (hK : 10000 < K) : f28.F K () = some true := by
  have z32 : octets (List.replicate 32 0) := octets_zeros 32
  have z16 : octets (List.replicate 16 0) := octets_zeros 16
  have hc : ∀ j, j.length = 32 → octets j → f29.F K (0, 0, List.replicate 32 0, List.replicate 16 0, List.replicate 16 0, j) = some true := fun j hj oj =>
    (f29.spec K 0 (by omega) 0 (List.replicate 32 0) (List.replicate 16 0) (List.replicate 16 0) j (by simp) z32 (by simp) z16 (by simp) z16 hj oj hK).trans (by rw [So.ck0])
  have h31 : f31.F K (0, 0, List.replicate 32 0, List.replicate 16 0, List.replicate 16 0) = some (List.replicate 32 0, 0) := by
    unfold f31.F
    simp only
    rw [if_neg (by decide), if_pos (fun k => ⟨true, hc _ (So.cand_length k) (So.cand_octets k)⟩), show (65536 : Nat) = 65535 + 1 from rfl, So.first, if_pos (show So.pass K _ 0 = true from by unfold So.pass; simp only; rw [hc _ (So.cand_length 0) (So.cand_octets 0)]; rfl)]
    rfl
  have l1 : f29.F K (0, 0, List.replicate 32 0, List.replicate 16 0, List.replicate 16 0, [1, 0, 0, 0, 0, 0, 0, 0, 0, 0, 0, 0, 0, 0, 0, 0, 0, 0, 0, 0, 0, 0, 0, 0, 0, 0, 0, 0, 0, 0, 0, 0]) = some true := hc _ rfl (So.oct rfl)
  simp only [f28.F, f28.T]
  rw [show f31.F K (0, 0, [0, 0, 0, 0, 0, 0, 0, 0, 0, 0, 0, 0, 0, 0, 0, 0, 0, 0, 0, 0, 0, 0, 0, 0, 0, 0, 0, 0, 0, 0, 0, 0], [0, 0, 0, 0, 0, 0, 0, 0, 0, 0, 0, 0, 0, 0, 0, 0], [0, 0, 0, 0, 0, 0, 0, 0, 0, 0, 0, 0, 0, 0, 0, 0]) = _ from h31, bind_s,
    f24.big K _ _ _ 0 13 1 (by decide), bind_s, f24.none K _ _ _ 0 0 (by decide), bind_s,
    show f26.F K 7 = some 0 from f26.spec K 7 (by decide), bind_s, show f26.F K 8 = some 1 from f26.spec K 8 (by decide), bind_s, show f26.F K 16 = some 2 from f26.spec K 16 (by decide), bind_s, show f26.F K 1000000 = some 12 from f26.spec K 1000000 (by decide), bind_s, f26.neg, bind_s, show f29.F K (0, 0, [0, 0, 0, 0, 0, 0, 0, 0, 0, 0, 0, 0, 0, 0, 0, 0, 0, 0, 0, 0, 0, 0, 0, 0, 0, 0, 0, 0, 0, 0, 0, 0], [0, 0, 0, 0, 0, 0, 0, 0, 0, 0, 0, 0, 0, 0, 0, 0], [0, 0, 0, 0, 0, 0, 0, 0, 0, 0, 0, 0, 0, 0, 0, 0], [1, 0, 0, 0, 0, 0, 0, 0, 0, 0, 0, 0, 0, 0, 0, 0, 0, 0, 0, 0, 0, 0, 0, 0, 0, 0, 0, 0, 0, 0, 0, 0]) = _ from l1, bind_s]
  rfl
end Go.Proofs

namespace Go.Proofs
open Go.VM
end Go.Proofs

namespace Go.Proofs
open Go.VM
end Go.Proofs

namespace Go.Proofs
open Go.VM
end Go.Proofs

namespace Go.Proofs
open Go.VM
end Go.Proofs

namespace Go.Proofs
open Go.VM
end Go.Proofs

namespace Go.Proofs
open Go.VM
end Go.Proofs

namespace Go.Proofs
open Go.VM
end Go.Proofs

namespace Go.Proofs
open Go.VM
end Go.Proofs

namespace Go.Proofs
open Go.VM
end Go.Proofs

namespace Go.Proofs
open Go.VM
end Go.Proofs

namespace Go.Proofs
open Go.VM
end Go.Proofs

namespace Go.Proofs
open Go.VM
end Go.Proofs

namespace Go.Proofs
open Go.VM
end Go.Proofs

namespace Go.Proofs
open Go.VM
end Go.Proofs

namespace Go.Proofs
open Go.VM
end Go.Proofs

namespace Go.Proofs
open Go.VM
end Go.Proofs

namespace Go.Proofs
open Go.VM
end Go.Proofs

namespace Go.Proofs
open Go.VM
end Go.Proofs

namespace Go.Proofs
open Go.VM
end Go.Proofs

namespace Go.Proofs
open Go.VM
end Go.Proofs

namespace Go.Proofs
open Go.VM
end Go.Proofs

namespace Go.Proofs
open Go.VM
def Dr.sum (s : List Int) (n : Nat) : List Int := Sh.mac s ([100, 114, 97, 119] ++ be 8 n)
end Go.Proofs

namespace Go.Proofs
open Go.VM
end Go.Proofs

namespace Go.Proofs
open Go.VM
end Go.Proofs

namespace Go.Proofs
open Go.VM
noncomputable def f11.T (K : Nat) (a0 : Int) (a1 : Int) : Option (Bool) :=
  (f26.F K (IntKind.wrap .i64 a0)).bind fun y2 =>
  (f26.F K (IntKind.wrap .i64 ((IntKind.wrap .i64 a0) + (IntKind.wrap .i64 a1)))).bind fun y6 =>
  (f26.F K (IntKind.wrap .i64 (2 * (IntKind.wrap .i64 a0)))).bind fun y9 =>
  bif (decide (y2 ≤ y6)) then
    bif (decide (y6 ≤ 12)) then
      bif (decide (y9 ≤ (IntKind.wrap .u8 (y2 + 1)))) then
        bif (decide (a0 < 8)) then
          (f28.F K ()).bind fun y15 =>
          some y15
        else
          bif (decide (a0 ≥ 16384)) then
            (f28.F K ()).bind fun y17 =>
            some y17
          else
            bif (y9 == (IntKind.wrap .u8 (y2 + 1))) then
              (f28.F K ()).bind fun y19 =>
              some y19
            else
              some false
      else
        some false
    else
      some false
  else
    some false
noncomputable def f11.F (K : Nat) (x : Int × Int) : Option (Bool) := f11.T K x.1 x.2
noncomputable def f11.av (x : Int × Int) : List VV := [.int .u32 x.1, .int .u16 x.2]
noncomputable def f11.bl (_x : Int × Int) : List (Nat × Blk) := []
noncomputable def f11.inA : VS → Option (Int × Int)
  | ⟨[(0, .int .u32 a0), (1, .int .u16 a1)], [], 0⟩ => some (a0, a1)
  | _ => none
noncomputable def f11.o0 (y : Bool) : VS := ⟨[(0, .bool y)], [], 0⟩
noncomputable def f11.inR : VS → Option (Bool)
  | ⟨[(0, .bool y)], [], 0⟩ => some y
  | _ => none
noncomputable def f11.E (K : Nat) : Entry := genE 0 f11.inA (f11.F K) (dv1 f11.o0)
theorem f11.ok (K : Nat) : EntryOK Try.prog 11 (f11.E K) := gen_ok mix tys_ok (tab_ok ((tab_cons (f26.ok K) (tab_cons (f28.ok K) tab_nil)))) Try.func11 (c := bodyOf Try.f11) (by kernel_rfl) (by kernel_rfl) (loops_none (lp := lpNone) (by kernel_rfl)) (av := f11.av) (bl := f11.bl) (inR := f11.inR) (out := f11.o0) (fuel := 400)
  (by intro s x h; unfold f11.inA at h; split at h <;> simp at h; subst h; rfl) (fun _ => Nat.le_of_ble_eq_true rfl)
  (by intro s y h; unfold f11.inR at h; split at h <;> simp at h <;> subst h <;> rfl) (fun _ _ _ => rfl) (fun _ => by kernel_rfl)
end Go.Proofs

namespace Go.Proofs
open Go.VM
theorem So.asked_mono {m n : Nat} (h : m ≤ n) : So.asked m ≤ So.asked n := by
  unfold So.asked
  have hb : blen (m / 4) ≤ blen (n / 4) := by
    rcases Nat.lt_or_ge (blen (n / 4)) (blen (m / 4)) with h1 | h1
    · exfalso
      have h2 := blen_lt (n / 4)
      have h3 := blen_pos.1 h1
      have h4 : m / 4 / 2 ^ blen (n / 4) = 0 := Nat.div_eq_of_lt (by omega)
      exact h3 h4
    · exact h1
  split <;> split <;> omega
theorem So.asked_two (a : Nat) : So.asked (2 * a) ≤ So.asked a + 1 ∧ (8 ≤ a → a < 16384 → So.asked (2 * a) = So.asked a + 1) := by
  rcases Nat.lt_or_ge a 4 with h | h
  · unfold So.asked; rw [if_pos (by omega)]; omega
  · have hs : blen (2 * a / 4) = 1 + blen (2 * a / 4 / 2 ^ 1) := by
      rcases Nat.lt_or_ge (2 * a / 4 / 2 ^ 1) 1 with h1 | h1
      · omega
      · exact blen_shift _ 1 (by omega)
    rw [show 2 * a / 4 / 2 ^ 1 = a / 4 by omega] at hs
    have hp : 0 < blen (a / 4) := (blen_ge (x := a / 4) (by omega)).2
    unfold So.asked
    rw [if_neg (show ¬ 2 * a < 8 by omega), hs]
    have h7 : a < 8 → blen (a / 4) = 1 := fun h => by rw [show a / 4 = 1 by omega]; decide
    refine ⟨by split <;> omega, fun h8 h9 => ?_⟩
    have : blen (a / 4) ≤ 12 := blen_le (by omega)
    rw [if_neg (by omega)]
    omega
theorem f11.nat (a : Nat) (ha : a < 4294967296) (c : Nat) (hc : c < 65536) : f11.F 100000 ((a : Int), (c : Int)) = some true := by
  simp only [f11.F, f11.T]
  have h1 := So.asked_mono (show a ≤ a + c by omega)
  have h2 := So.asked_le (a + c)
  have h0 := So.asked_le a
  obtain ⟨h3, h4⟩ := So.asked_two a
  rw [wrap_i (a : Int) (by omega) (by omega), wrap_i (c : Int) (by omega) (by omega), wrap_i ((a : Int) + (c : Int)) (by omega) (by omega), wrap_i (2 * (a : Int)) (by omega) (by omega), show (a : Int) + (c : Int) = ((a + c : Nat) : Int) by omega, show 2 * (a : Int) = ((2 * a : Nat) : Int) by omega,
    f26.spec 100000 a (by omega), bind_s, f26.spec 100000 (a + c) (by omega), bind_s, f26.spec 100000 (2 * a) (by omega), bind_s, decide_eq_true (show ((So.asked a : Nat) : Int) ≤ ((So.asked (a + c) : Nat) : Int) by omega), cond_t, decide_eq_true (show ((So.asked (a + c) : Nat) : Int) ≤ 12 by omega), cond_t, show IntKind.wrap .u8 (((So.asked a : Nat) : Int) + 1) = ((So.asked a + 1 : Nat) : Int) by rw [wrap8]; omega, decide_eq_true (show ((So.asked (2 * a) : Nat) : Int) ≤ ((So.asked a + 1 : Nat) : Int) by omega), cond_t]
  by_cases h5 : a < 8
  · rw [decide_eq_true (show (a : Int) < 8 by omega), cond_t, f28.holds 100000 (by omega), bind_s]
  · rw [decide_eq_false (show ¬ (a : Int) < 8 by omega), cond_f]
    by_cases h6 : 16384 ≤ a
    · rw [decide_eq_true (show (a : Int) ≥ 16384 by omega), cond_t, f28.holds 100000 (by omega), bind_s]
    · rw [decide_eq_false (show ¬ (a : Int) ≥ 16384 by omega), cond_f, h4 (by omega) (by omega), beq_self_eq_true, cond_t, f28.holds 100000 (by omega), bind_s]
theorem f11.holds (a : Int) (ha : 0 ≤ a ∧ a < 4294967296) (c : Int) (hc : 0 ≤ c ∧ c < 65536) : f11.F 100000 (a, c) = some true := by
  obtain ⟨a, rfl⟩ := Int.eq_ofNat_of_zero_le ha.1
  obtain ⟨c, rfl⟩ := Int.eq_ofNat_of_zero_le hc.1
  exact f11.nat a (by omega) c (by omega)
end Go.Proofs
