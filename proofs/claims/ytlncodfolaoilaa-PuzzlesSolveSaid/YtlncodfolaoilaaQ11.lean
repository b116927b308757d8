/- Plain laws: lemmas that hold with no condition but those that each states. -/
import Derived.Test.YtlncodfolaoilaaQ2
import Derived.Test.YtlncodfolaoilaaQ10
import Derived.Test.YtlncodfolaoilaaQ6
namespace Go.Proofs
open Go.VM
noncomputable def f28.T (K : Nat)  : Option (Bool) :=
  (f31.F K (0, 0, [0, 0, 0, 0, 0, 0, 0, 0, 0, 0, 0, 0, 0, 0, 0, 0, 0, 0, 0, 0, 0, 0, 0, 0, 0, 0, 0, 0, 0, 0, 0, 0], [0, 0, 0, 0, 0, 0, 0, 0, 0, 0, 0, 0, 0, 0, 0, 0], [0, 0, 0, 0, 0, 0, 0, 0, 0, 0, 0, 0, 0, 0, 0, 0])).bind fun y1 =>
  (f24.F K ([0, 0, 0, 0, 0, 0, 0, 0, 0, 0, 0, 0, 0, 0, 0, 0, 0, 0, 0, 0, 0, 0, 0, 0, 0, 0, 0, 0, 0, 0, 0, 0], 0, 13, [0, 0, 0, 0, 0, 0, 0, 0, 0, 0, 0, 0, 0, 0, 0, 0], [0, 0, 0, 0, 0, 0, 0, 0, 0, 0, 0, 0, 0, 0, 0, 0], 1)).bind fun y2 =>
  (f24.F K ([0, 0, 0, 0, 0, 0, 0, 0, 0, 0, 0, 0, 0, 0, 0, 0, 0, 0, 0, 0, 0, 0, 0, 0, 0, 0, 0, 0, 0, 0, 0, 0], 0, 0, [0, 0, 0, 0, 0, 0, 0, 0, 0, 0, 0, 0, 0, 0, 0, 0], [0, 0, 0, 0, 0, 0, 0, 0, 0, 0, 0, 0, 0, 0, 0, 0], 0)).bind fun y3 =>
  (f26.F K 7).bind fun y4 =>
  bif (y4 == 0) then
    (f26.F K 8).bind fun y5 =>
    bif (y5 == 1) then
      (f26.F K 16).bind fun y6 =>
      bif (y6 == 2) then
        (f26.F K 1000000).bind fun y7 =>
        bif (y7 == 12) then
          (f26.F K (-1)).bind fun y8 =>
          bif (y8 == 0) then
            bif (eqL 32 y1.1 [0, 0, 0, 0, 0, 0, 0, 0, 0, 0, 0, 0, 0, 0, 0, 0, 0, 0, 0, 0, 0, 0, 0, 0, 0, 0, 0, 0, 0, 0, 0, 0] && true) then
              bif (y1.2 == 0) then
                bif (y2.2.2.2 == 1) then
                  bif (y3.2.2.2 == 1) then
                    (f29.F K (0, 0, [0, 0, 0, 0, 0, 0, 0, 0, 0, 0, 0, 0, 0, 0, 0, 0, 0, 0, 0, 0, 0, 0, 0, 0, 0, 0, 0, 0, 0, 0, 0, 0], [0, 0, 0, 0, 0, 0, 0, 0, 0, 0, 0, 0, 0, 0, 0, 0], [0, 0, 0, 0, 0, 0, 0, 0, 0, 0, 0, 0, 0, 0, 0, 0], [1, 0, 0, 0, 0, 0, 0, 0, 0, 0, 0, 0, 0, 0, 0, 0, 0, 0, 0, 0, 0, 0, 0, 0, 0, 0, 0, 0, 0, 0, 0, 0])).bind fun y12 =>
                    some y12
                  else
                    some false
                else
                  some false
              else
                some false
            else
              some false
          else
            some false
        else
          some false
      else
        some false
    else
      some false
  else
    some false
noncomputable def f28.F (K : Nat) (_x : Unit) : Option (Bool) := f28.T K
noncomputable def f28.av (_x : Unit) : List VV := []
noncomputable def f28.bl (_x : Unit) : List (Nat × Blk) := []
noncomputable def f28.inA : VS → Option (Unit)
  | ⟨[], [], 0⟩ => some ()
  | _ => none
noncomputable def f28.o0 (y : Bool) : VS := ⟨[(0, .bool y)], [], 0⟩
noncomputable def f28.inR : VS → Option (Bool)
  | ⟨[(0, .bool y)], [], 0⟩ => some y
  | _ => none
noncomputable def f28.E (K : Nat) : Entry := genE 0 f28.inA (f28.F K) (dv1 f28.o0)
theorem f28.ok (K : Nat) : EntryOK Try.prog 28 (f28.E K) := gen_ok mix tys_ok (tab_ok ((tab_cons (f31.ok K) (tab_cons (f24.ok K) (tab_cons (f26.ok K) (tab_cons (f29.ok K) tab_nil)))))) Try.func28 (c := bodyOf Try.f28) (by kernel_rfl) (by kernel_rfl) (loops_none (lp := lpNone) (by kernel_rfl)) (av := f28.av) (bl := f28.bl) (inR := f28.inR) (out := f28.o0) (fuel := 400)
  (by intro s x h; unfold f28.inA at h; split at h <;> simp at h; rfl) (fun _ => Nat.le_of_ble_eq_true rfl)
  (by intro s y h; unfold f28.inR at h; split at h <;> simp at h <;> subst h <;> rfl) (fun _ _ _ => rfl) (fun _ => by kernel_rfl)
end Go.Proofs

namespace Go.Proofs
open Go.VM
def So.low (h : List Int) : Nat := (h.getD 30 0).toNat * 256 + (h.getD 31 0).toNat
def So.ck (b : Nat) (h : List Int) : Bool := So.low h % 2 ^ b == 0
theorem So.shl32 (b : Nat) (hb : b ≤ 12) : shiftI .shl .u32 1 (b : Int) = ((2 ^ b : Nat) : Int) := by
  have : ∀ c : Fin 13, shiftI .shl .u32 1 ((c.val : Nat) : Int) = ((2 ^ c.val : Nat) : Int) := by decide
  exact this ⟨b, by omega⟩
theorem So.pow12 (b : Nat) (hb : b ≤ 12) : 1 ≤ 2 ^ b ∧ 2 ^ b ≤ 4096 :=
  ⟨Nat.one_le_two_pow, Nat.pow_le_pow_right (by decide) hb⟩
theorem So.and_low (x : Nat) (hx : x < 65536) (b : Nat) (hb : b ≤ 12) : bits .and .u32 (x : Int) (IntKind.wrap .u32 ((shiftI .shl .u32 1 (b : Int)) - 1)) = ((x % 2 ^ b : Nat) : Int) := by
  obtain ⟨h1, h2⟩ := So.pow12 b hb
  rw [So.shl32 b hb, show ((2 ^ b : Nat) : Int) - 1 = ((2 ^ b - 1 : Nat) : Int) by omega, wrap_32n _ (by omega), bits_and, BitVec.toNat_and]
  simp only [bv, BitVec.ofInt_natCast, BitVec.toNat_ofNat]
  rw [Nat.mod_eq_of_lt (show x < 2 ^ 32 by omega), Nat.mod_eq_of_lt (show 2 ^ b - 1 < 2 ^ 32 by omega), Nat.and_two_pow_sub_one_eq_mod]
theorem So.or32 (a c : Nat) (ha : a < 256) (hc : c < 256) : bits .or .u32 (IntKind.wrap .u32 ((IntKind.wrap .u32 (a : Int)) * 2 ^ 8)) (IntKind.wrap .u32 (c : Int)) = ((a * 256 + c : Nat) : Int) := by
  have h := Nat.shiftLeft_add_eq_or_of_lt (show c < 2 ^ 8 by omega) a
  rw [Nat.shiftLeft_eq] at h
  rw [wrap_32n a (by omega), wrap_32n c (by omega), show (a : Int) * 2 ^ 8 = ((a * 2 ^ 8 : Nat) : Int) by omega, wrap_32n _ (by omega), bits_or, BitVec.toNat_or]
  simp only [bv, BitVec.ofInt_natCast, BitVec.toNat_ofNat]
  rw [Nat.mod_eq_of_lt (show a * 2 ^ 8 < 2 ^ 32 by omega), Nat.mod_eq_of_lt (show c < 2 ^ 32 by omega), ← h]
theorem So.int_nat (n : Nat) : (((n : Nat) : Int) == 0) = (n == 0) := by
  cases h : (n == 0)
  · simp at h ⊢; omega
  · simp at h ⊢; omega
theorem f29.spec (K b : Nat) (hb : b ≤ 12) (g : Int) (I f t j : List Int) (lI : I.length = 32) (oI : octets I) (lf : f.length = 16) (of' : octets f) (lt : t.length = 16) (ot : octets t) (lj : j.length = 32) (oj : octets j) (hK : 10000 < K) :
    f29.F K ((b : Int), g, I, f, t, j) = some (So.ck b (Sh.sha (strL f29.k0) [I, f, t, j])) := by
  have hs : f29.k0.size = 4 := rfl
  simp only [f29.F, f29.T]
  rw [decide_eq_false (show ¬ ((b : Int) > 12) by omega), cond_f, subI_self I lI, subI_self f lf, subI_self t lt, subI_self j lj,
    f50.spec K f29.k0 32 I 16 f 16 t 32 j (by omega) lI oI (by omega) lf of' (by omega) lt ot (by omega) lj oj (by omega) (by omega) (by omega) (by omega) (by omega) (by omega), bind_s]
  simp only []
  rw [decide_eq_true (show (0 : Int) ≤ (b : Int) by omega), cond_t]
  have ho : octets (Sh.sha (strL f29.k0) [I, f, t, j]) := sum_octets _
  obtain ⟨a, ha, ea⟩ := getD_oct ho 30
  obtain ⟨c, hc, ec⟩ := getD_oct ho 31
  rw [ea, ec, So.or32 a c ha hc, So.and_low _ (by omega) b hb, So.int_nat, So.ck, So.low, ea, ec]
  rfl
theorem So.oct {l : List Int} (h : l.all (fun x => decide (0 ≤ x ∧ x < 256)) = true) : octets l := fun x hx => of_decide_eq_true (List.all_eq_true.1 h x hx)
def So.word : List Int := [112, 117, 122, 122, 108, 101]
theorem f24.spec (K g b s : Nat) (S f t : List Int) (lS : S.length = 32) (oS : octets S) (hg : g < 18446744073709551616) (hb : b ≤ 12) (lf : f.length = 16) (of' : octets f) (lt : t.length = 16) (ot : octets t) (hs : s < 4294967296) (h0 : s ≠ 0) (hK : 1000 < K) :
    f24.F K (S, (g : Int), (b : Int), f, t, (s : Int)) = some ((b : Int), (g : Int), Sh.mac S (So.word ++ be 8 g ++ [(b : Int)] ++ f ++ t ++ be 4 s), 0) := by
  simp only [f24.F, f24.T]
  have e8 : f41.F K (0, (g : Int), 8, 0, []) = some (0 + 8, 0 + 8, 0, [], 0 + 8, [] ++ be 8 g) := f41.spec K 0 8 g [] rfl hg (by omega) (by omega)
  have e4 : f41.F K (0, (s : Int), 4, 0, []) = some (0 + 4, 0 + 4, 0, [], 0 + 4, [] ++ be 4 s) := f41.spec K 0 4 s [] rfl (by omega) (by omega) (by omega)
  have ob : octets [(b : Int)] := by intro x hx; rw [List.mem_singleton] at hx; subst hx; omega
  have ow : octets So.word := So.oct rfl
  rw [decide_eq_false (show ¬ ((b : Int) > 12) by omega), cond_f, show (((s : Int)) == 0) = false by simp; omega, cond_f, wrap_u (s : Int) (by omega) (by omega), e8, bind_s, e4, bind_s]
  simp only [Nat.zero_add, List.nil_append]
  rw [ble_true (Nat.le_refl 8), ble_true (Nat.le_refl 4), Bool.and_self, Bool.and_self, Bool.and_self, cond_t, subI_self S lS, subI_self f lf, subI_self t lt, subI_self _ (be_length 8 g), subI_self _ (be_length 4 s),
    show ([112, 117, 122, 122, 108, 101] : List Int) = So.word from rfl,
    f22.spec K 32 S 6 So.word 8 (be 8 g) 1 [(b : Int)] 16 f 16 t 4 (be 4 s) lS oS (by omega) rfl ow (by omega) (be_length _ _) (be_octets _ _) (by omega) rfl ob (by omega) lf of' (by omega) lt ot (by omega) (be_length _ _) (be_octets _ _) (by omega) (by omega), bind_s]
theorem f24.big (K : Nat) (S f t : List Int) (g b s : Int) (hb : 12 < b) : f24.F K (S, g, b, f, t, s) = some (0, 0, List.replicate 32 0, 1) := by
  simp only [f24.F, f24.T]
  rw [decide_eq_true (show b > 12 by omega), cond_t]
  rfl
theorem f24.none (K : Nat) (S f t : List Int) (g b : Int) (hb : b ≤ 12) : f24.F K (S, g, b, f, t, 0) = some (0, 0, List.replicate 32 0, 1) := by
  simp only [f24.F, f24.T]
  rw [decide_eq_false (show ¬ b > 12 by omega), cond_f, show (((0 : Int)) == 0) = true from rfl, cond_t]
  rfl
def So.asked (n : Nat) : Nat := if n < 8 then 0 else min (blen (n / 4) - 1) 12
theorem f26.spec (K n : Nat) (hn : n < 9223372036854775808) : f26.F K (n : Int) = some ((So.asked n : Nat) : Int) := by
  simp only [f26.F, f26.T]
  unfold So.asked
  by_cases h : n < 8
  · rw [decide_eq_true (show (n : Int) < 8 by omega), cond_t, if_pos h]
    rfl
  · have hb : blen (n / 4) ≤ 63 := blen_le (by omega)
    have hb0 : 0 < blen (n / 4) := (blen_ge (x := n / 4) (by omega)).2
    rw [decide_eq_false (show ¬ (n : Int) < 8 by omega), cond_f, show Int.tdiv (n : Int) 4 = ((n / 4 : Nat) : Int) from tdiv_nat n 4, wrap_i _ (by omega) (by omega), wrap_u _ (by omega) (by omega)]
    have e : f49.F K ((n / 4 : Nat) : Int) = some ((blen (n / 4) : Nat) : Int) := by
      simp only [f49.F, f49.T]
      rw [f68.spec K _ (by omega), bind_s]
    rw [e, bind_s, wrap_i _ (by omega) (by omega), if_neg h]
    congr 1
    unfold minE
    by_cases h2 : 12 < ((blen (n / 4) : Nat) : Int) - 1
    · rw [decide_eq_true h2, cond_t, Nat.min_eq_right (by omega)]; rfl
    · rw [decide_eq_false h2, cond_f, wrap8, Nat.min_eq_left (by omega)]; omega
theorem f26.neg (K : Nat) : f26.F K (-1) = some 0 := by
  simp only [f26.F, f26.T]
  rfl
theorem So.cand_length (k : Nat) : (So.cand k).length = 32 := by simp [So.cand, be_length]
theorem So.cand_octets (k : Nat) : octets (So.cand k) := octets_append (octets_zeros 24) (be_octets 8 k)
theorem So.ck0 (h : List Int) : So.ck 0 h = true := by
  simp [So.ck, Nat.mod_one]
theorem f28.holds (K : Nat) (hK : 10000 < K) : f28.F K () = some true := by
  have z32 : octets (List.replicate 32 0) := octets_zeros 32
  have z16 : octets (List.replicate 16 0) := octets_zeros 16
  have hc : ∀ j, j.length = 32 → octets j → f29.F K (0, 0, List.replicate 32 0, List.replicate 16 0, List.replicate 16 0, j) = some true := fun j hj oj =>
    (f29.spec K 0 (by omega) 0 (List.replicate 32 0) (List.replicate 16 0) (List.replicate 16 0) j (by simp) z32 (by simp) z16 (by simp) z16 hj oj hK).trans (by rw [So.ck0])
  have h31 : f31.F K (0, 0, List.replicate 32 0, List.replicate 16 0, List.replicate 16 0) = some (List.replicate 32 0, 0) := by
    unfold f31.F
    simp only
    rw [if_neg (by decide), if_pos (fun k => ⟨true, hc _ (So.cand_length k) (So.cand_octets k)⟩), show (65536 : Nat) = 65535 + 1 from rfl, So.first, if_pos (show So.pass K _ 0 = true from by unfold So.pass; simp only; rw [hc _ (So.cand_length 0) (So.cand_octets 0)]; rfl)]
    rfl
  have l1 : f29.F K (0, 0, List.replicate 32 0, List.replicate 16 0, List.replicate 16 0, [1, 0, 0, 0, 0, 0, 0, 0, 0, 0, 0, 0, 0, 0, 0, 0, 0, 0, 0, 0, 0, 0, 0, 0, 0, 0, 0, 0, 0, 0, 0, 0]) = some true := hc _ rfl (So.oct rfl)
  simp only [f28.F, f28.T]
  rw [show f31.F K (0, 0, [0, 0, 0, 0, 0, 0, 0, 0, 0, 0, 0, 0, 0, 0, 0, 0, 0, 0, 0, 0, 0, 0, 0, 0, 0, 0, 0, 0, 0, 0, 0, 0], [0, 0, 0, 0, 0, 0, 0, 0, 0, 0, 0, 0, 0, 0, 0, 0], [0, 0, 0, 0, 0, 0, 0, 0, 0, 0, 0, 0, 0, 0, 0, 0]) = _ from h31, bind_s,
    f24.big K _ _ _ 0 13 1 (by decide), bind_s, f24.none K _ _ _ 0 0 (by decide), bind_s,
    show f26.F K 7 = some 0 from f26.spec K 7 (by decide), bind_s, show f26.F K 8 = some 1 from f26.spec K 8 (by decide), bind_s, show f26.F K 16 = some 2 from f26.spec K 16 (by decide), bind_s, show f26.F K 1000000 = some 12 from f26.spec K 1000000 (by decide), bind_s, f26.neg, bind_s, show f29.F K (0, 0, [0, 0, 0, 0, 0, 0, 0, 0, 0, 0, 0, 0, 0, 0, 0, 0, 0, 0, 0, 0, 0, 0, 0, 0, 0, 0, 0, 0, 0, 0, 0, 0], [0, 0, 0, 0, 0, 0, 0, 0, 0, 0, 0, 0, 0, 0, 0, 0], [0, 0, 0, 0, 0, 0, 0, 0, 0, 0, 0, 0, 0, 0, 0, 0], [1, 0, 0, 0, 0, 0, 0, 0, 0, 0, 0, 0, 0, 0, 0, 0, 0, 0, 0, 0, 0, 0, 0, 0, 0, 0, 0, 0, 0, 0, 0, 0]) = _ from l1, bind_s]
  rfl
end Go.Proofs

namespace Go.Proofs
open Go.VM
end Go.Proofs

namespace Go.Proofs
open Go.VM
end Go.Proofs

namespace Go.Proofs
open Go.VM
end Go.Proofs

namespace Go.Proofs
open Go.VM
end Go.Proofs

namespace Go.Proofs
open Go.VM
end Go.Proofs

namespace Go.Proofs
open Go.VM
end Go.Proofs

namespace Go.Proofs
open Go.VM
end Go.Proofs

namespace Go.Proofs
open Go.VM
end Go.Proofs

namespace Go.Proofs
open Go.VM
end Go.Proofs

namespace Go.Proofs
open Go.VM
end Go.Proofs

namespace Go.Proofs
open Go.VM
end Go.Proofs

namespace Go.Proofs
open Go.VM
end Go.Proofs

namespace Go.Proofs
open Go.VM
end Go.Proofs

namespace Go.Proofs
open Go.VM
end Go.Proofs

namespace Go.Proofs
open Go.VM
end Go.Proofs

namespace Go.Proofs
open Go.VM
end Go.Proofs

namespace Go.Proofs
open Go.VM
end Go.Proofs

namespace Go.Proofs
open Go.VM
end Go.Proofs

namespace Go.Proofs
open Go.VM
end Go.Proofs

namespace Go.Proofs
open Go.VM
end Go.Proofs

namespace Go.Proofs
open Go.VM
end Go.Proofs

namespace Go.Proofs
open Go.VM
def Dr.sum (s : List Int) (n : Nat) : List Int := Sh.mac s ([100, 114, 97, 119] ++ be 8 n)
end Go.Proofs

namespace Go.Proofs
open Go.VM
end Go.Proofs

namespace Go.Proofs
open Go.VM
end Go.Proofs

namespace Go.Proofs
open Go.VM
end Go.Proofs

namespace Go.Proofs
open Go.VM
end Go.Proofs

namespace Go.Proofs
open Go.VM
end Go.Proofs

namespace Go.Proofs
open Go.VM
end Go.Proofs

namespace Go.Proofs
open Go.VM
end Go.Proofs

namespace Go.Proofs
open Go.VM
end Go.Proofs

namespace Go.Proofs
open Go.VM
theorem wf_u32 {z : Int} (h : (Lit.int .u32 z).wf = true) : ∃ n : Nat, n < 4294967296 ∧ z = (n : Int) := by
  simp [Lit.wf, IntKind.min, IntKind.max, IntKind.signed, IntKind.bits] at h
  exact ⟨z.toNat, by omega, by omega⟩
end Go.Proofs

namespace Go.Proofs
open Go.VM
end Go.Proofs

namespace Go.Proofs
open Go.VM
end Go.Proofs

namespace Go.Proofs
open Go.VM
end Go.Proofs

namespace Go.Proofs
open Go.VM
end Go.Proofs

namespace Go.Proofs
open Go.VM
end Go.Proofs

namespace Go.Proofs
open Go.VM
end Go.Proofs

namespace Go.Proofs
open Go.VM
end Go.Proofs

namespace Go.Proofs
open Go.VM
end Go.Proofs

namespace Go.Proofs
open Go.VM
end Go.Proofs

namespace Go.Proofs
open Go.VM
end Go.Proofs

namespace Go.Proofs
open Go.VM
end Go.Proofs

namespace Go.Proofs
open Go.VM
end Go.Proofs

namespace Go.Proofs
open Go.VM
end Go.Proofs

namespace Go.Proofs
open Go.VM
end Go.Proofs

namespace Go.Proofs
open Go.VM
end Go.Proofs

namespace Go.Proofs
open Go.VM
end Go.Proofs

namespace Go.Proofs
open Go.VM
theorem So.first_cases (p : Nat → Bool) : ∀ n i, (∃ m, i ≤ m ∧ m < i + n ∧ p m = true ∧ (∀ j, i ≤ j → j < m → p j = false) ∧ So.first p n i = some m) ∨ (So.first p n i = none ∧ ∀ j, i ≤ j → j < i + n → p j = false)
  | 0, i => Or.inr ⟨rfl, fun j h1 h2 => by omega⟩
  | n + 1, i => by
    rw [So.first]
    by_cases h : p i = true
    · rw [if_pos h]
      exact Or.inl ⟨i, by omega, by omega, h, fun j h1 h2 => by omega, rfl⟩
    · rw [if_neg h]
      have h' : p i = false := by simpa using h
      rcases So.first_cases p n (i + 1) with ⟨m, h1, h2, h3, h4, h5⟩ | ⟨h1, h2⟩
      · exact Or.inl ⟨m, by omega, by omega, h3, fun j g1 g2 => by
          by_cases e : j = i
          · subst e; exact h'
          · exact h4 j (by omega) g2, h5⟩
      · exact Or.inr ⟨h1, fun j g1 g2 => by
          by_cases e : j = i
          · subst e; exact h'
          · exact h2 j (by omega) (by omega)⟩
def So.good (b : Nat) (I f t : List Int) (k : Nat) : Bool := So.ck b (Sh.sha (strL f29.k0) [I, f, t, So.cand k])
def So.found : Option Nat → List Int × Int
  | some k => (So.cand k, 0)
  | none => (List.replicate 32 0, 12)
theorem f31.spec (K b : Nat) (hb : b ≤ 12) (g : Int) (I f t : List Int) (lI : I.length = 32) (oI : octets I) (lf : f.length = 16) (of' : octets f) (lt : t.length = 16) (ot : octets t) (hK : 10000 < K) :
    f31.F K ((b : Int), g, I, f, t) = some (So.found (So.first (So.good b I f t) 65536 0)) := by
  have hc : ∀ k, f29.F K ((b : Int), g, I, f, t, So.cand k) = some (So.good b I f t k) := fun k => f29.spec K b hb g I f t _ lI oI lf of' lt ot (So.cand_length k) (So.cand_octets k) hK
  have hp : So.pass K ((b : Int), g, I, f, t) = So.good b I f t := funext fun k => by unfold So.pass; simp only; rw [hc]; rfl
  unfold f31.F
  simp only
  rw [if_neg (show ¬ ((b : Int) > 12) by omega), if_pos (fun k => ⟨_, hc k⟩), hp]
  cases So.first (So.good b I f t) 65536 0 <;> rfl
end Go.Proofs

namespace Go.Proofs
open Go.VM
abbrev f9.Ty0 := List Int × Int × Int × List Int × List Int × Int × Int × Int × List Int × List Int × Int × Int × List Int
abbrev f9.Ty1 := Int × Int × List Int × Int × Int × List Int × List Int × Int × Int × Int × List Int × List Int
abbrev f9.Ty2 := Bool × List Int × Int × Int × List Int × List Int × Int × Int × Int × List Int × List Int
abbrev f9.Ty3 := Int × List Int × Int × Int × List Int × List Int × Int × Int × Int × List Int × List Int
abbrev f9.Ty4 := List Int × Int × Int × List Int × List Int × Int × Int × Int × List Int × List Int
abbrev f9.Ty5 := List Int × Int × Int × List Int × List Int × Int
noncomputable def f9.c : Code := bodyOf Try.f9
noncomputable def f9.s0t (_K : Nat) (rec : f9.Ty3 → Option ((f9.Ty2) ⊕ (f9.Ty4))) (t7 : Int) (b0_0 : List Int) (b0_1 : Int) (b0_2 : Int) (b0_3 : List Int) (b0_4 : List Int) (b0_5 : Int) (b1_0 : Int) (b1_1 : Int) (b1_2 : List Int) (b2 : List Int) : Option ((f9.Ty2) ⊕ (f9.Ty4)) :=
  bif (decide (t7 < 24)) then
    bif decide (0 ≤ t7 ∧ t7 < 32) then
      bif ((List.getD b2 (Int.toNat t7) 0) != 0) then
        some (.inl (false, b0_0, b0_1, b0_2, b0_3, b0_4, b0_5, b1_0, b1_1, b1_2, b2))
      else
        rec ((IntKind.wrap .i64 (t7 + 1)), b0_0, b0_1, b0_2, b0_3, b0_4, b0_5, b1_0, b1_1, b1_2, b2)
    else
      none
  else
    some (.inr (b0_0, b0_1, b0_2, b0_3, b0_4, b0_5, b1_0, b1_1, b1_2, b2))
noncomputable def f9.s0 (K : Nat) (rec : f9.Ty3 → Option ((f9.Ty2) ⊕ (f9.Ty4))) (x : f9.Ty3) : Option ((f9.Ty2) ⊕ (f9.Ty4)) := f9.s0t K rec x.1 x.2.1 x.2.2.1 x.2.2.2.1 x.2.2.2.2.1 x.2.2.2.2.2.1 x.2.2.2.2.2.2.1 x.2.2.2.2.2.2.2.1 x.2.2.2.2.2.2.2.2.1 x.2.2.2.2.2.2.2.2.2.1 x.2.2.2.2.2.2.2.2.2.2
noncomputable def f9.s0.b : Code := (findLoop 0 f9.c).getD .skip
noncomputable def f9.s0.h : Hint := { lv := [1, 3, 5, 7] }
noncomputable def f9.s0.ho : Hint := { lv := [1, 2, 3, 5] }
noncomputable def f9.s0.shp (x : f9.Ty3) : VS := ⟨[(1, .ptr 0 0), (3, .ptr 1 0), (5, .ptr 2 0), (7, .int .i64 x.1)], [(0, ([.ints .u8 32 x.2.1, .int .u64 x.2.2.1, .int .u8 x.2.2.2.1, .ints .u8 16 x.2.2.2.2.1, .ints .u8 16 x.2.2.2.2.2.1, .int .u32 x.2.2.2.2.2.2.1], 51, .norm)), (1, ([.int .u8 x.2.2.2.2.2.2.2.1, .int .u64 x.2.2.2.2.2.2.2.2.1, .ints .u8 32 x.2.2.2.2.2.2.2.2.2.1], 53, .norm)), (2, ([.ints .u8 32 x.2.2.2.2.2.2.2.2.2.2], 35, .norm))], 3⟩
noncomputable def f9.s0.inX : VS → Option (f9.Ty3)
  | ⟨[(1, .ptr 0 0), (3, .ptr 1 0), (5, .ptr 2 0), (7, .int .i64 t7)], [(0, ([.ints .u8 32 b0_0, .int .u64 b0_1, .int .u8 b0_2, .ints .u8 16 b0_3, .ints .u8 16 b0_4, .int .u32 b0_5], 51, .norm)), (1, ([.int .u8 b1_0, .int .u64 b1_1, .ints .u8 32 b1_2], 53, .norm)), (2, ([.ints .u8 32 b2], 35, .norm))], 3⟩ => some (t7, b0_0, b0_1, b0_2, b0_3, b0_4, b0_5, b1_0, b1_1, b1_2, b2)
  | _ => none
noncomputable def f9.s0.o0 (y : f9.Ty2) : VS := ⟨[(1, .ptr 0 0), (2, .bool y.1), (3, .ptr 1 0), (5, .ptr 2 0)], [(0, ([.ints .u8 32 y.2.1, .int .u64 y.2.2.1, .int .u8 y.2.2.2.1, .ints .u8 16 y.2.2.2.2.1, .ints .u8 16 y.2.2.2.2.2.1, .int .u32 y.2.2.2.2.2.2.1], 51, .norm)), (1, ([.int .u8 y.2.2.2.2.2.2.2.1, .int .u64 y.2.2.2.2.2.2.2.2.1, .ints .u8 32 y.2.2.2.2.2.2.2.2.2.1], 53, .norm)), (2, ([.ints .u8 32 y.2.2.2.2.2.2.2.2.2.2], 35, .norm))], 3⟩
noncomputable def f9.s0.o1 (y : f9.Ty4) : VS := ⟨[(1, .ptr 0 0), (3, .ptr 1 0), (5, .ptr 2 0)], [(0, ([.ints .u8 32 y.1, .int .u64 y.2.1, .int .u8 y.2.2.1, .ints .u8 16 y.2.2.2.1, .ints .u8 16 y.2.2.2.2.1, .int .u32 y.2.2.2.2.2.1], 51, .norm)), (1, ([.int .u8 y.2.2.2.2.2.2.1, .int .u64 y.2.2.2.2.2.2.2.1, .ints .u8 32 y.2.2.2.2.2.2.2.2.1], 53, .norm)), (2, ([.ints .u8 32 y.2.2.2.2.2.2.2.2.2], 35, .norm))], 3⟩
noncomputable def f9.s0.des : ∀ α : Type, ((f9.Ty2) ⊕ (f9.Ty4)) → (Ex → VS → Option α) → Option α := (desA (des1 (.ret) f9.s0.o0) (des1 (.exit 0) f9.s0.o1))
noncomputable def f9.s0.out : (f9.Ty2) ⊕ (f9.Ty4) → Ex × VS := (alt (fun y => (.ret, f9.s0.o0 y)) (fun y => (.exit 0, f9.s0.o1 y)))
theorem f9.s0.desOK : ∀ α y (k : Ex → VS → Option α), f9.s0.des α y k = k (f9.s0.out y).1 (f9.s0.out y).2 := (desA_ok (fun _ _ _ => rfl) (fun _ _ _ => rfl))
noncomputable def f9.s0.inY : Ex → VS → Option ((f9.Ty2) ⊕ (f9.Ty4))
  | .ret, ⟨[(1, .ptr 0 0), (2, .bool t2), (3, .ptr 1 0), (5, .ptr 2 0)], [(0, ([.ints .u8 32 b0_0, .int .u64 b0_1, .int .u8 b0_2, .ints .u8 16 b0_3, .ints .u8 16 b0_4, .int .u32 b0_5], 51, .norm)), (1, ([.int .u8 b1_0, .int .u64 b1_1, .ints .u8 32 b1_2], 53, .norm)), (2, ([.ints .u8 32 b2], 35, .norm))], 3⟩ => some (.inl (t2, b0_0, b0_1, b0_2, b0_3, b0_4, b0_5, b1_0, b1_1, b1_2, b2))
  | .exit 0, ⟨[(1, .ptr 0 0), (3, .ptr 1 0), (5, .ptr 2 0)], [(0, ([.ints .u8 32 b0_0, .int .u64 b0_1, .int .u8 b0_2, .ints .u8 16 b0_3, .ints .u8 16 b0_4, .int .u32 b0_5], 51, .norm)), (1, ([.int .u8 b1_0, .int .u64 b1_1, .ints .u8 32 b1_2], 53, .norm)), (2, ([.ints .u8 32 b2], 35, .norm))], 3⟩ => some (.inr (b0_0, b0_1, b0_2, b0_3, b0_4, b0_5, b1_0, b1_1, b1_2, b2))
  | _, _ => none
noncomputable def f9.s2t (_K : Nat) (rec : f9.Ty1 → Option (f9.Ty3)) (t8 : Int) (t9 : Int) (b0_0 : List Int) (b0_1 : Int) (b0_2 : Int) (b0_3 : List Int) (b0_4 : List Int) (b0_5 : Int) (b1_0 : Int) (b1_1 : Int) (b1_2 : List Int) (b2 : List Int) : Option (f9.Ty3) :=
  bif (decide (t9 < 32)) then
    bif decide (0 ≤ t9 ∧ t9 < 32) then
      rec ((bits .or .i64 (IntKind.wrap .i64 (t8 * 2 ^ 8)) (IntKind.wrap .i64 (List.getD b2 (Int.toNat t9) 0))), (IntKind.wrap .i64 (t9 + 1)), b0_0, b0_1, b0_2, b0_3, b0_4, b0_5, b1_0, b1_1, b1_2, b2)
    else
      none
  else
    some (t8, b0_0, b0_1, b0_2, b0_3, b0_4, b0_5, b1_0, b1_1, b1_2, b2)
noncomputable def f9.s2 (K : Nat) (rec : f9.Ty1 → Option (f9.Ty3)) (x : f9.Ty1) : Option (f9.Ty3) := f9.s2t K rec x.1 x.2.1 x.2.2.1 x.2.2.2.1 x.2.2.2.2.1 x.2.2.2.2.2.1 x.2.2.2.2.2.2.1 x.2.2.2.2.2.2.2.1 x.2.2.2.2.2.2.2.2.1 x.2.2.2.2.2.2.2.2.2.1 x.2.2.2.2.2.2.2.2.2.2.1 x.2.2.2.2.2.2.2.2.2.2.2
noncomputable def f9.s2.b : Code := (findLoop 2 f9.c).getD .skip
noncomputable def f9.s2.h : Hint := { lv := [1, 3, 5, 8, 9] }
noncomputable def f9.s2.ho : Hint := { lv := [1, 3, 5, 8] }
noncomputable def f9.s2.shp (x : f9.Ty1) : VS := ⟨[(1, .ptr 0 0), (3, .ptr 1 0), (5, .ptr 2 0), (8, .int .i64 x.1), (9, .int .i64 x.2.1)], [(0, ([.ints .u8 32 x.2.2.1, .int .u64 x.2.2.2.1, .int .u8 x.2.2.2.2.1, .ints .u8 16 x.2.2.2.2.2.1, .ints .u8 16 x.2.2.2.2.2.2.1, .int .u32 x.2.2.2.2.2.2.2.1], 51, .norm)), (1, ([.int .u8 x.2.2.2.2.2.2.2.2.1, .int .u64 x.2.2.2.2.2.2.2.2.2.1, .ints .u8 32 x.2.2.2.2.2.2.2.2.2.2.1], 53, .norm)), (2, ([.ints .u8 32 x.2.2.2.2.2.2.2.2.2.2.2], 35, .norm))], 3⟩
noncomputable def f9.s2.inX : VS → Option (f9.Ty1)
  | ⟨[(1, .ptr 0 0), (3, .ptr 1 0), (5, .ptr 2 0), (8, .int .i64 t8), (9, .int .i64 t9)], [(0, ([.ints .u8 32 b0_0, .int .u64 b0_1, .int .u8 b0_2, .ints .u8 16 b0_3, .ints .u8 16 b0_4, .int .u32 b0_5], 51, .norm)), (1, ([.int .u8 b1_0, .int .u64 b1_1, .ints .u8 32 b1_2], 53, .norm)), (2, ([.ints .u8 32 b2], 35, .norm))], 3⟩ => some (t8, t9, b0_0, b0_1, b0_2, b0_3, b0_4, b0_5, b1_0, b1_1, b1_2, b2)
  | _ => none
noncomputable def f9.s2.o0 (y : f9.Ty3) : VS := ⟨[(1, .ptr 0 0), (3, .ptr 1 0), (5, .ptr 2 0), (8, .int .i64 y.1)], [(0, ([.ints .u8 32 y.2.1, .int .u64 y.2.2.1, .int .u8 y.2.2.2.1, .ints .u8 16 y.2.2.2.2.1, .ints .u8 16 y.2.2.2.2.2.1, .int .u32 y.2.2.2.2.2.2.1], 51, .norm)), (1, ([.int .u8 y.2.2.2.2.2.2.2.1, .int .u64 y.2.2.2.2.2.2.2.2.1, .ints .u8 32 y.2.2.2.2.2.2.2.2.2.1], 53, .norm)), (2, ([.ints .u8 32 y.2.2.2.2.2.2.2.2.2.2], 35, .norm))], 3⟩
noncomputable def f9.s2.des : ∀ α : Type, (f9.Ty3) → (Ex → VS → Option α) → Option α := (des1 (.exit 2) f9.s2.o0)
noncomputable def f9.s2.out : f9.Ty3 → Ex × VS := (fun y => (.exit 2, f9.s2.o0 y))
theorem f9.s2.desOK : ∀ α y (k : Ex → VS → Option α), f9.s2.des α y k = k (f9.s2.out y).1 (f9.s2.out y).2 := (fun _ _ _ => rfl)
noncomputable def f9.s2.inY : Ex → VS → Option (f9.Ty3)
  | .exit 2, ⟨[(1, .ptr 0 0), (3, .ptr 1 0), (5, .ptr 2 0), (8, .int .i64 t8)], [(0, ([.ints .u8 32 b0_0, .int .u64 b0_1, .int .u8 b0_2, .ints .u8 16 b0_3, .ints .u8 16 b0_4, .int .u32 b0_5], 51, .norm)), (1, ([.int .u8 b1_0, .int .u64 b1_1, .ints .u8 32 b1_2], 53, .norm)), (2, ([.ints .u8 32 b2], 35, .norm))], 3⟩ => some (t8, b0_0, b0_1, b0_2, b0_3, b0_4, b0_5, b1_0, b1_1, b1_2, b2)
  | _, _ => none
noncomputable def f9.s4t (K : Nat) (rec : f9.Ty1 → Option ((f9.Ty2) ⊕ (f9.Ty4))) (t8 : Int) (t10 : Int) (b0_0 : List Int) (b0_1 : Int) (b0_2 : Int) (b0_3 : List Int) (b0_4 : List Int) (b0_5 : Int) (b1_0 : Int) (b1_1 : Int) (b1_2 : List Int) (b2 : List Int) : Option ((f9.Ty2) ⊕ (f9.Ty4)) :=
  bif (decide (t10 < t8)) then
    bif (decide (t10 > 65535)) then
      some (.inl (false, b0_0, b0_1, b0_2, b0_3, b0_4, b0_5, b1_0, b1_1, b1_2, b2))
    else
      (f29.F K (b1_0, b1_1, b1_2, b0_3, b0_4, [0, 0, 0, 0, 0, 0, 0, 0, 0, 0, 0, 0, 0, 0, 0, 0, 0, 0, 0, 0, 0, 0, 0, 0, 0, 0, 0, 0, 0, 0, (IntKind.wrap .u8 (Int.fdiv t10 (2 ^ 8))), (IntKind.wrap .u8 t10)])).bind fun y29 =>
      bif y29 then
        some (.inl (false, b0_0, b0_1, b0_2, b0_3, b0_4, b0_5, b1_0, b1_1, b1_2, b2))
      else
        rec (t8, (IntKind.wrap .i64 (t10 + 1)), b0_0, b0_1, b0_2, b0_3, b0_4, b0_5, b1_0, b1_1, b1_2, b2)
  else
    some (.inr (b0_0, b0_1, b0_2, b0_3, b0_4, b0_5, b1_0, b1_1, b1_2, b2))
noncomputable def f9.s4 (K : Nat) (rec : f9.Ty1 → Option ((f9.Ty2) ⊕ (f9.Ty4))) (x : f9.Ty1) : Option ((f9.Ty2) ⊕ (f9.Ty4)) := f9.s4t K rec x.1 x.2.1 x.2.2.1 x.2.2.2.1 x.2.2.2.2.1 x.2.2.2.2.2.1 x.2.2.2.2.2.2.1 x.2.2.2.2.2.2.2.1 x.2.2.2.2.2.2.2.2.1 x.2.2.2.2.2.2.2.2.2.1 x.2.2.2.2.2.2.2.2.2.2.1 x.2.2.2.2.2.2.2.2.2.2.2
noncomputable def f9.s4.b : Code := (findLoop 4 f9.c).getD .skip
noncomputable def f9.s4.h : Hint := { lv := [1, 3, 5, 8, 10] }
noncomputable def f9.s4.ho : Hint := { lv := [1, 2, 3, 5] }
noncomputable def f9.s4.shp (x : f9.Ty1) : VS := ⟨[(1, .ptr 0 0), (3, .ptr 1 0), (5, .ptr 2 0), (8, .int .i64 x.1), (10, .int .i64 x.2.1)], [(0, ([.ints .u8 32 x.2.2.1, .int .u64 x.2.2.2.1, .int .u8 x.2.2.2.2.1, .ints .u8 16 x.2.2.2.2.2.1, .ints .u8 16 x.2.2.2.2.2.2.1, .int .u32 x.2.2.2.2.2.2.2.1], 51, .norm)), (1, ([.int .u8 x.2.2.2.2.2.2.2.2.1, .int .u64 x.2.2.2.2.2.2.2.2.2.1, .ints .u8 32 x.2.2.2.2.2.2.2.2.2.2.1], 53, .norm)), (2, ([.ints .u8 32 x.2.2.2.2.2.2.2.2.2.2.2], 35, .norm))], 3⟩
noncomputable def f9.s4.inX : VS → Option (f9.Ty1)
  | ⟨[(1, .ptr 0 0), (3, .ptr 1 0), (5, .ptr 2 0), (8, .int .i64 t8), (10, .int .i64 t10)], [(0, ([.ints .u8 32 b0_0, .int .u64 b0_1, .int .u8 b0_2, .ints .u8 16 b0_3, .ints .u8 16 b0_4, .int .u32 b0_5], 51, .norm)), (1, ([.int .u8 b1_0, .int .u64 b1_1, .ints .u8 32 b1_2], 53, .norm)), (2, ([.ints .u8 32 b2], 35, .norm))], 3⟩ => some (t8, t10, b0_0, b0_1, b0_2, b0_3, b0_4, b0_5, b1_0, b1_1, b1_2, b2)
  | _ => none
noncomputable def f9.s4.o0 (y : f9.Ty2) : VS := ⟨[(1, .ptr 0 0), (2, .bool y.1), (3, .ptr 1 0), (5, .ptr 2 0)], [(0, ([.ints .u8 32 y.2.1, .int .u64 y.2.2.1, .int .u8 y.2.2.2.1, .ints .u8 16 y.2.2.2.2.1, .ints .u8 16 y.2.2.2.2.2.1, .int .u32 y.2.2.2.2.2.2.1], 51, .norm)), (1, ([.int .u8 y.2.2.2.2.2.2.2.1, .int .u64 y.2.2.2.2.2.2.2.2.1, .ints .u8 32 y.2.2.2.2.2.2.2.2.2.1], 53, .norm)), (2, ([.ints .u8 32 y.2.2.2.2.2.2.2.2.2.2], 35, .norm))], 3⟩
noncomputable def f9.s4.o1 (y : f9.Ty4) : VS := ⟨[(1, .ptr 0 0), (3, .ptr 1 0), (5, .ptr 2 0)], [(0, ([.ints .u8 32 y.1, .int .u64 y.2.1, .int .u8 y.2.2.1, .ints .u8 16 y.2.2.2.1, .ints .u8 16 y.2.2.2.2.1, .int .u32 y.2.2.2.2.2.1], 51, .norm)), (1, ([.int .u8 y.2.2.2.2.2.2.1, .int .u64 y.2.2.2.2.2.2.2.1, .ints .u8 32 y.2.2.2.2.2.2.2.2.1], 53, .norm)), (2, ([.ints .u8 32 y.2.2.2.2.2.2.2.2.2], 35, .norm))], 3⟩
noncomputable def f9.s4.des : ∀ α : Type, ((f9.Ty2) ⊕ (f9.Ty4)) → (Ex → VS → Option α) → Option α := (desA (des1 (.ret) f9.s4.o0) (des1 (.exit 4) f9.s4.o1))
noncomputable def f9.s4.out : (f9.Ty2) ⊕ (f9.Ty4) → Ex × VS := (alt (fun y => (.ret, f9.s4.o0 y)) (fun y => (.exit 4, f9.s4.o1 y)))
theorem f9.s4.desOK : ∀ α y (k : Ex → VS → Option α), f9.s4.des α y k = k (f9.s4.out y).1 (f9.s4.out y).2 := (desA_ok (fun _ _ _ => rfl) (fun _ _ _ => rfl))
noncomputable def f9.s4.inY : Ex → VS → Option ((f9.Ty2) ⊕ (f9.Ty4))
  | .ret, ⟨[(1, .ptr 0 0), (2, .bool t2), (3, .ptr 1 0), (5, .ptr 2 0)], [(0, ([.ints .u8 32 b0_0, .int .u64 b0_1, .int .u8 b0_2, .ints .u8 16 b0_3, .ints .u8 16 b0_4, .int .u32 b0_5], 51, .norm)), (1, ([.int .u8 b1_0, .int .u64 b1_1, .ints .u8 32 b1_2], 53, .norm)), (2, ([.ints .u8 32 b2], 35, .norm))], 3⟩ => some (.inl (t2, b0_0, b0_1, b0_2, b0_3, b0_4, b0_5, b1_0, b1_1, b1_2, b2))
  | .exit 4, ⟨[(1, .ptr 0 0), (3, .ptr 1 0), (5, .ptr 2 0)], [(0, ([.ints .u8 32 b0_0, .int .u64 b0_1, .int .u8 b0_2, .ints .u8 16 b0_3, .ints .u8 16 b0_4, .int .u32 b0_5], 51, .norm)), (1, ([.int .u8 b1_0, .int .u64 b1_1, .ints .u8 32 b1_2], 53, .norm)), (2, ([.ints .u8 32 b2], 35, .norm))], 3⟩ => some (.inr (b0_0, b0_1, b0_2, b0_3, b0_4, b0_5, b1_0, b1_1, b1_2, b2))
  | _, _ => none
noncomputable def f9.s6t (K : Nat) (rec : f9.Ty0 → Option ((f9.Ty2) ⊕ (f9.Ty4))) (b0_0 : List Int) (b0_1 : Int) (b0_2 : Int) (b0_3 : List Int) (b0_4 : List Int) (b0_5 : Int) (b1_0 : Int) (b1_1 : Int) (b1_2 : List Int) (b2 : List Int) (b3_0 : Int) (b3_1 : Int) (b3_2 : List Int) : Option ((f9.Ty2) ⊕ (f9.Ty4)) :=
  bif (decide (b3_0 > 0)) then
    let v38 := IntKind.wrap .u8 (b3_0 - 1)
    (f29.F K (v38, b3_1, b3_2, b0_3, b0_4, b2)).bind fun y39 =>
    bif !y39 then
      some (.inl (false, b0_0, b0_1, b0_2, b0_3, b0_4, b0_5, b1_0, b1_1, b1_2, b2))
    else
      rec (b0_0, b0_1, b0_2, b0_3, b0_4, b0_5, b1_0, b1_1, b1_2, b2, v38, b3_1, b3_2)
  else
    some (.inr (b0_0, b0_1, b0_2, b0_3, b0_4, b0_5, b1_0, b1_1, b1_2, b2))
noncomputable def f9.s6 (K : Nat) (rec : f9.Ty0 → Option ((f9.Ty2) ⊕ (f9.Ty4))) (x : f9.Ty0) : Option ((f9.Ty2) ⊕ (f9.Ty4)) := f9.s6t K rec x.1 x.2.1 x.2.2.1 x.2.2.2.1 x.2.2.2.2.1 x.2.2.2.2.2.1 x.2.2.2.2.2.2.1 x.2.2.2.2.2.2.2.1 x.2.2.2.2.2.2.2.2.1 x.2.2.2.2.2.2.2.2.2.1 x.2.2.2.2.2.2.2.2.2.2.1 x.2.2.2.2.2.2.2.2.2.2.2.1 x.2.2.2.2.2.2.2.2.2.2.2.2
noncomputable def f9.s6.b : Code := (findLoop 6 f9.c).getD .skip
noncomputable def f9.s6.h : Hint := { lv := [1, 3, 5, 12] }
noncomputable def f9.s6.ho : Hint := { lv := [1, 2, 3, 5] }
noncomputable def f9.s6.shp (x : f9.Ty0) : VS := ⟨[(1, .ptr 0 0), (3, .ptr 1 0), (5, .ptr 2 0), (12, .ptr 3 0)], [(0, ([.ints .u8 32 x.1, .int .u64 x.2.1, .int .u8 x.2.2.1, .ints .u8 16 x.2.2.2.1, .ints .u8 16 x.2.2.2.2.1, .int .u32 x.2.2.2.2.2.1], 51, .norm)), (1, ([.int .u8 x.2.2.2.2.2.2.1, .int .u64 x.2.2.2.2.2.2.2.1, .ints .u8 32 x.2.2.2.2.2.2.2.2.1], 53, .norm)), (2, ([.ints .u8 32 x.2.2.2.2.2.2.2.2.2.1], 35, .norm)), (3, ([.int .u8 x.2.2.2.2.2.2.2.2.2.2.1, .int .u64 x.2.2.2.2.2.2.2.2.2.2.2.1, .ints .u8 32 x.2.2.2.2.2.2.2.2.2.2.2.2], 53, .norm))], 4⟩
noncomputable def f9.s6.inX : VS → Option (f9.Ty0)
  | ⟨[(1, .ptr 0 0), (3, .ptr 1 0), (5, .ptr 2 0), (12, .ptr 3 0)], [(0, ([.ints .u8 32 b0_0, .int .u64 b0_1, .int .u8 b0_2, .ints .u8 16 b0_3, .ints .u8 16 b0_4, .int .u32 b0_5], 51, .norm)), (1, ([.int .u8 b1_0, .int .u64 b1_1, .ints .u8 32 b1_2], 53, .norm)), (2, ([.ints .u8 32 b2], 35, .norm)), (3, ([.int .u8 b3_0, .int .u64 b3_1, .ints .u8 32 b3_2], 53, .norm))], 4⟩ => some (b0_0, b0_1, b0_2, b0_3, b0_4, b0_5, b1_0, b1_1, b1_2, b2, b3_0, b3_1, b3_2)
  | _ => none
noncomputable def f9.s6.o0 (y : f9.Ty2) : VS := ⟨[(1, .ptr 0 0), (2, .bool y.1), (3, .ptr 1 0), (5, .ptr 2 0)], [(0, ([.ints .u8 32 y.2.1, .int .u64 y.2.2.1, .int .u8 y.2.2.2.1, .ints .u8 16 y.2.2.2.2.1, .ints .u8 16 y.2.2.2.2.2.1, .int .u32 y.2.2.2.2.2.2.1], 51, .norm)), (1, ([.int .u8 y.2.2.2.2.2.2.2.1, .int .u64 y.2.2.2.2.2.2.2.2.1, .ints .u8 32 y.2.2.2.2.2.2.2.2.2.1], 53, .norm)), (2, ([.ints .u8 32 y.2.2.2.2.2.2.2.2.2.2], 35, .norm))], 3⟩
noncomputable def f9.s6.o1 (y : f9.Ty4) : VS := ⟨[(1, .ptr 0 0), (3, .ptr 1 0), (5, .ptr 2 0)], [(0, ([.ints .u8 32 y.1, .int .u64 y.2.1, .int .u8 y.2.2.1, .ints .u8 16 y.2.2.2.1, .ints .u8 16 y.2.2.2.2.1, .int .u32 y.2.2.2.2.2.1], 51, .norm)), (1, ([.int .u8 y.2.2.2.2.2.2.1, .int .u64 y.2.2.2.2.2.2.2.1, .ints .u8 32 y.2.2.2.2.2.2.2.2.1], 53, .norm)), (2, ([.ints .u8 32 y.2.2.2.2.2.2.2.2.2], 35, .norm))], 3⟩
noncomputable def f9.s6.des : ∀ α : Type, ((f9.Ty2) ⊕ (f9.Ty4)) → (Ex → VS → Option α) → Option α := (desA (des1 (.ret) f9.s6.o0) (des1 (.exit 6) f9.s6.o1))
noncomputable def f9.s6.out : (f9.Ty2) ⊕ (f9.Ty4) → Ex × VS := (alt (fun y => (.ret, f9.s6.o0 y)) (fun y => (.exit 6, f9.s6.o1 y)))
theorem f9.s6.desOK : ∀ α y (k : Ex → VS → Option α), f9.s6.des α y k = k (f9.s6.out y).1 (f9.s6.out y).2 := (desA_ok (fun _ _ _ => rfl) (fun _ _ _ => rfl))
noncomputable def f9.s6.inY : Ex → VS → Option ((f9.Ty2) ⊕ (f9.Ty4))
  | .ret, ⟨[(1, .ptr 0 0), (2, .bool t2), (3, .ptr 1 0), (5, .ptr 2 0)], [(0, ([.ints .u8 32 b0_0, .int .u64 b0_1, .int .u8 b0_2, .ints .u8 16 b0_3, .ints .u8 16 b0_4, .int .u32 b0_5], 51, .norm)), (1, ([.int .u8 b1_0, .int .u64 b1_1, .ints .u8 32 b1_2], 53, .norm)), (2, ([.ints .u8 32 b2], 35, .norm))], 3⟩ => some (.inl (t2, b0_0, b0_1, b0_2, b0_3, b0_4, b0_5, b1_0, b1_1, b1_2, b2))
  | .exit 6, ⟨[(1, .ptr 0 0), (3, .ptr 1 0), (5, .ptr 2 0)], [(0, ([.ints .u8 32 b0_0, .int .u64 b0_1, .int .u8 b0_2, .ints .u8 16 b0_3, .ints .u8 16 b0_4, .int .u32 b0_5], 51, .norm)), (1, ([.int .u8 b1_0, .int .u64 b1_1, .ints .u8 32 b1_2], 53, .norm)), (2, ([.ints .u8 32 b2], 35, .norm))], 3⟩ => some (.inr (b0_0, b0_1, b0_2, b0_3, b0_4, b0_5, b1_0, b1_1, b1_2, b2))
  | _, _ => none
noncomputable def f9.lp (K : Nat) : Nat → Option (Hint × Summ) := tabLp [(0, f9.s0.h, summOf (iter (f9.s0 K) K) f9.s0.inX f9.s0.des), (2, f9.s2.h, summOf (iter (f9.s2 K) K) f9.s2.inX f9.s2.des), (4, f9.s4.h, summOf (iter (f9.s4 K) K) f9.s4.inX f9.s4.des), (6, f9.s6.h, summOf (iter (f9.s6 K) K) f9.s6.inX f9.s6.des)]
noncomputable def f9.tab (K : Nat) : List (Nat × Entry) := [(24, (f24.E K)), (28, (f28.E K)), (31, (f31.E K)), (29, (f29.E K))]
theorem f9.tabOK (K : Nat) : SpecOK Try.prog (tabSp (f9.tab K)) := tab_ok ((tab_cons (f24.ok K) (tab_cons (f28.ok K) (tab_cons (f31.ok K) (tab_cons (f29.ok K) tab_nil)))))
theorem f9.s0.eq (K : Nat) (rec : f9.Ty3 → Option ((f9.Ty2) ⊕ (f9.Ty4))) (x : f9.Ty3) : f9.s0 K rec x = roundL (getA tys) (tabSp (f9.tab K)) 126 0 (f9.lp K) 400 f9.s0.b f9.s0.h f9.s0.ho f9.s0.shp f9.s0.inX f9.s0.inY rec x := by kernel_rfl
theorem f9.s0.lok (K : Nat) : LoopsOK Try.prog 126 0 (f9.lp K) f9.s0.b := loops_ok (by
  have h : loopsIn (f9.lp K) f9.s0.b = [] := by kernel_rfl
  rw [h]; simp)
theorem f9.s0.ok (K : Nat) : SummOK Try.prog 126 0 (summOf (iter (f9.s0 K) K) f9.s0.inX f9.s0.des) f9.s0.b :=
  loop_ok mix tys_ok (f9.tabOK K) (h := f9.s0.h) (ho := f9.s0.ho) (shp := f9.s0.shp) (inX := f9.s0.inX) (des := f9.s0.des) (out := f9.s0.out) (inY := f9.s0.inY) (fuel := 400)
    (by intro st x h; unfold f9.s0.inX at h; split at h <;> simp at h; subst h; rfl)
    (by intro e st y h; unfold f9.s0.inY at h; split at h <;> simp at h <;> subst h <;> rfl)
    f9.s0.desOK (f9.s0.lok K) (f9.s0 K) (f9.s0.eq K) K
theorem f9.s2.eq (K : Nat) (rec : f9.Ty1 → Option (f9.Ty3)) (x : f9.Ty1) : f9.s2 K rec x = roundL (getA tys) (tabSp (f9.tab K)) 126 0 (f9.lp K) 400 f9.s2.b f9.s2.h f9.s2.ho f9.s2.shp f9.s2.inX f9.s2.inY rec x := by kernel_rfl
theorem f9.s2.lok (K : Nat) : LoopsOK Try.prog 126 0 (f9.lp K) f9.s2.b := loops_ok (by
  have h : loopsIn (f9.lp K) f9.s2.b = [] := by kernel_rfl
  rw [h]; simp)
theorem f9.s2.ok (K : Nat) : SummOK Try.prog 126 0 (summOf (iter (f9.s2 K) K) f9.s2.inX f9.s2.des) f9.s2.b :=
  loop_ok mix tys_ok (f9.tabOK K) (h := f9.s2.h) (ho := f9.s2.ho) (shp := f9.s2.shp) (inX := f9.s2.inX) (des := f9.s2.des) (out := f9.s2.out) (inY := f9.s2.inY) (fuel := 400)
    (by intro st x h; unfold f9.s2.inX at h; split at h <;> simp at h; subst h; rfl)
    (by intro e st y h; unfold f9.s2.inY at h; split at h <;> simp at h <;> subst h <;> rfl)
    f9.s2.desOK (f9.s2.lok K) (f9.s2 K) (f9.s2.eq K) K
theorem f9.s4.eq (K : Nat) (rec : f9.Ty1 → Option ((f9.Ty2) ⊕ (f9.Ty4))) (x : f9.Ty1) : f9.s4 K rec x = roundL (getA tys) (tabSp (f9.tab K)) 126 0 (f9.lp K) 400 f9.s4.b f9.s4.h f9.s4.ho f9.s4.shp f9.s4.inX f9.s4.inY rec x := by kernel_rfl
theorem f9.s4.lok (K : Nat) : LoopsOK Try.prog 126 0 (f9.lp K) f9.s4.b := loops_ok (by
  have h : loopsIn (f9.lp K) f9.s4.b = [] := by kernel_rfl
  rw [h]; simp)
theorem f9.s4.ok (K : Nat) : SummOK Try.prog 126 0 (summOf (iter (f9.s4 K) K) f9.s4.inX f9.s4.des) f9.s4.b :=
  loop_ok mix tys_ok (f9.tabOK K) (h := f9.s4.h) (ho := f9.s4.ho) (shp := f9.s4.shp) (inX := f9.s4.inX) (des := f9.s4.des) (out := f9.s4.out) (inY := f9.s4.inY) (fuel := 400)
    (by intro st x h; unfold f9.s4.inX at h; split at h <;> simp at h; subst h; rfl)
    (by intro e st y h; unfold f9.s4.inY at h; split at h <;> simp at h <;> subst h <;> rfl)
    f9.s4.desOK (f9.s4.lok K) (f9.s4 K) (f9.s4.eq K) K
theorem f9.s6.eq (K : Nat) (rec : f9.Ty0 → Option ((f9.Ty2) ⊕ (f9.Ty4))) (x : f9.Ty0) : f9.s6 K rec x = roundL (getA tys) (tabSp (f9.tab K)) 126 0 (f9.lp K) 400 f9.s6.b f9.s6.h f9.s6.ho f9.s6.shp f9.s6.inX f9.s6.inY rec x := by kernel_rfl
theorem f9.s6.lok (K : Nat) : LoopsOK Try.prog 126 0 (f9.lp K) f9.s6.b := loops_ok (by
  have h : loopsIn (f9.lp K) f9.s6.b = [] := by kernel_rfl
  rw [h]; simp)
theorem f9.s6.ok (K : Nat) : SummOK Try.prog 126 0 (summOf (iter (f9.s6 K) K) f9.s6.inX f9.s6.des) f9.s6.b :=
  loop_ok mix tys_ok (f9.tabOK K) (h := f9.s6.h) (ho := f9.s6.ho) (shp := f9.s6.shp) (inX := f9.s6.inX) (des := f9.s6.des) (out := f9.s6.out) (inY := f9.s6.inY) (fuel := 400)
    (by intro st x h; unfold f9.s6.inX at h; split at h <;> simp at h; subst h; rfl)
    (by intro e st y h; unfold f9.s6.inY at h; split at h <;> simp at h <;> subst h <;> rfl)
    f9.s6.desOK (f9.s6.lok K) (f9.s6 K) (f9.s6.eq K) K
theorem f9.loops (K : Nat) : LoopsOK Try.prog 126 0 (f9.lp K) f9.c := loops_ok (by
  have h : loopsIn (f9.lp K) f9.c = [(0, f9.s0.b), (2, f9.s2.b), (4, f9.s4.b), (6, f9.s6.b)] := by kernel_rfl
  rw [h]
  intro p hp
  simp only [List.mem_cons, List.not_mem_nil, or_false] at hp
  rcases hp with rfl | rfl | rfl | rfl
  · exact ⟨_, rfl, (f9.s0.ok K)⟩
  · exact ⟨_, rfl, (f9.s2.ok K)⟩
  · exact ⟨_, rfl, (f9.s4.ok K)⟩
  · exact ⟨_, rfl, (f9.s6.ok K)⟩)
noncomputable def f9.T (K : Nat) (a0_0 : List Int) (a0_1 : Int) (a0_2 : Int) (a0_3 : List Int) (a0_4 : List Int) (a0_5 : Int) : Option (Bool) :=
  (f24.F K (a0_0, a0_1, (Int.tmod a0_2 9), a0_3, a0_4, a0_5)).bind fun y2 =>
  bif (y2.2.2.2 != 0) then
    bif (y2.2.2.2 == 1) then
      bif (a0_5 == 0) then
        (f28.F K ()).bind fun y5 =>
        some y5
      else
        some false
    else
      some false
  else
    (f31.F K (y2.1, y2.2.1, y2.2.2.1, a0_3, a0_4)).bind fun y6 =>
    bif (y6.2 != 0) then
      bif (y6.2 == 12) then
        (f28.F K ()).bind fun y8 =>
        some y8
      else
        some false
    else
      (iter (f9.s0 K) K (0, a0_0, a0_1, a0_2, a0_3, a0_4, a0_5, y2.1, y2.2.1, y2.2.2.1, y6.1)).bind fun y13 =>
      alt (fun y14 =>
        some y14.1) (fun y15 =>
        (iter (f9.s2 K) K (0, 24, y15.1, y15.2.1, y15.2.2.1, y15.2.2.2.1, y15.2.2.2.2.1, y15.2.2.2.2.2.1, y15.2.2.2.2.2.2.1, y15.2.2.2.2.2.2.2.1, y15.2.2.2.2.2.2.2.2.1, y15.2.2.2.2.2.2.2.2.2)).bind fun y23 =>
        (iter (f9.s4 K) K (y23.1, 0, y23.2.1, y23.2.2.1, y23.2.2.2.1, y23.2.2.2.2.1, y23.2.2.2.2.2.1, y23.2.2.2.2.2.2.1, y23.2.2.2.2.2.2.2.1, y23.2.2.2.2.2.2.2.2.1, y23.2.2.2.2.2.2.2.2.2.1, y23.2.2.2.2.2.2.2.2.2.2)).bind fun y31 =>
        alt (fun y32 =>
          some y32.1) (fun y33 =>
          (iter (f9.s6 K) K (y33.1, y33.2.1, y33.2.2.1, y33.2.2.2.1, y33.2.2.2.2.1, y33.2.2.2.2.2.1, y33.2.2.2.2.2.2.1, y33.2.2.2.2.2.2.2.1, y33.2.2.2.2.2.2.2.2.1, y33.2.2.2.2.2.2.2.2.2, y33.2.2.2.2.2.2.1, y33.2.2.2.2.2.2.2.1, y33.2.2.2.2.2.2.2.2.1)).bind fun y40 =>
          alt (fun y41 =>
            some y41.1) (fun y42 =>
            (f29.F K (y42.2.2.2.2.2.2.1, y42.2.2.2.2.2.2.2.1, y42.2.2.2.2.2.2.2.2.1, y42.2.2.2.1, y42.2.2.2.2.1, y42.2.2.2.2.2.2.2.2.2)).bind fun y48 =>
            bif y48 then
              (f28.F K ()).bind fun y49 =>
              some y49
            else
              some false) y40) y31) y13
noncomputable def f9.F (K : Nat) (x : f9.Ty5) : Option (Bool) := f9.T K x.1 x.2.1 x.2.2.1 x.2.2.2.1 x.2.2.2.2.1 x.2.2.2.2.2
noncomputable def f9.av (x : f9.Ty5) : List VV := [.agg [.ints .u8 32 x.1, .int .u64 x.2.1, .int .u8 x.2.2.1, .ints .u8 16 x.2.2.2.1, .ints .u8 16 x.2.2.2.2.1, .int .u32 x.2.2.2.2.2]]
noncomputable def f9.bl (_x : f9.Ty5) : List (Nat × Blk) := []
noncomputable def f9.inA : VS → Option (f9.Ty5)
  | ⟨[(0, .agg [.ints .u8 32 a0_0, .int .u64 a0_1, .int .u8 a0_2, .ints .u8 16 a0_3, .ints .u8 16 a0_4, .int .u32 a0_5])], [], 0⟩ => some (a0_0, a0_1, a0_2, a0_3, a0_4, a0_5)
  | _ => none
noncomputable def f9.o0 (y : Bool) : VS := ⟨[(0, .bool y)], [], 0⟩
noncomputable def f9.des : ∀ α : Type, Bool → (VS → Option α) → Option α := (dv1 f9.o0)
noncomputable def f9.out : Bool → VS := f9.o0
noncomputable def f9.inR : VS → Option (Bool)
  | ⟨[(0, .bool y)], [], 0⟩ => some y
  | _ => none
noncomputable def f9.E (K : Nat) : Entry := genE 0 f9.inA (f9.F K) f9.des
theorem f9.eq (K : Nat) (x : f9.Ty5) : f9.F K x = xrun (getA tys) (tabSp (f9.tab K)) Try.f9.ntmps 0 (f9.lp K) 400 f9.c ⟨initL 0 (f9.av x), f9.bl x, 0⟩ (contF (getA tys) 0 Try.f9.results.toList f9.inR) := by kernel_rfl
theorem f9.ok (K : Nat) : EntryOK Try.prog 9 (f9.E K) :=
  gen_ok mix tys_ok (f9.tabOK K) Try.func9 (by kernel_rfl : Try.f9.body = some f9.c) (by kernel_rfl) (f9.loops K) (av := f9.av) (bl := f9.bl) (out := f9.out) (fuel := 400)
    (by intro s x h; unfold f9.inA at h; split at h <;> simp at h; subst h; rfl) (fun _ => Nat.le_of_ble_eq_true rfl)
    (by intro s y h; unfold f9.inR at h; split at h <;> simp at h <;> subst h <;> rfl) (fun _ _ _ => rfl) (f9.eq K)
end Go.Proofs

namespace Go.Proofs
open Go.VM
theorem So.good_down (b : Nat) (I f t : List Int) (k : Nat) (h : So.good (b + 1) I f t k = true) : So.good b I f t k = true := by
  unfold So.good So.ck at *
  generalize So.low (Sh.sha (strL f29.k0) [I, f, t, So.cand k]) = x at *
  have h : x % 2 ^ (b + 1) = 0 := by simpa using h
  have h2 : x % 2 ^ b = 0 := by
    rw [← Nat.mod_mod_of_dvd x (⟨2, Nat.pow_succ 2 b⟩ : 2 ^ b ∣ 2 ^ (b + 1)), h, Nat.zero_mod]
  simp [h2]
theorem So.cand_get (k i : Nat) (hi : i < 24) : (So.cand k).getD i 0 = 0 := by
  rw [So.cand, List.getD_eq_getElem?_getD, List.getElem?_append_left (by simp; omega), List.getElem?_replicate, if_pos hi]
  rfl
theorem be8_two (k : Nat) (hk : k < 65536) : be 8 k = [0, 0, 0, 0, 0, 0, ((k / 256 % 256 : Nat) : Int), ((k % 256 : Nat) : Int)] := by
  have h0 : k / 256 / 256 = 0 := by omega
  simp [be, h0]
theorem So.cand_two (k : Nat) (hk : k < 65536) : [0, 0, 0, 0, 0, 0, 0, 0, 0, 0, 0, 0, 0, 0, 0, 0, 0, 0, 0, 0, 0, 0, 0, 0, 0, 0, 0, 0, 0, 0, (IntKind.wrap .u8 (Int.fdiv (k : Int) (2 ^ 8))), (IntKind.wrap .u8 (k : Int))] = So.cand k := by
  rw [So.cand, be8_two k hk, wrap8, wrap8, fdiv_nat]
  have e1 : (((k / 2 ^ 8 : Nat) : Int) % 256) = ((k / 256 % 256 : Nat) : Int) := by omega
  have e2 : ((k : Int) % 256) = ((k % 256 : Nat) : Int) := by omega
  rw [e1, e2]
  rfl
theorem or_i64 (x y : Nat) (hx : x < 16777216) (hy : y < 256) : bits .or .i64 (IntKind.wrap .i64 ((x : Int) * 2 ^ 8)) (IntKind.wrap .i64 (y : Int)) = ((x * 256 + y : Nat) : Int) := by
  have h := Nat.shiftLeft_add_eq_or_of_lt (show y < 2 ^ 8 by omega) x
  rw [Nat.shiftLeft_eq] at h
  rw [show (x : Int) * 2 ^ 8 = ((x * 2 ^ 8 : Nat) : Int) by omega, wrap_i _ (by omega) (by omega), wrap_i _ (by omega) (by omega)]
  show IntKind.wrap .i64 (((BitVec.ofInt 64 ((x * 2 ^ 8 : Nat) : Int) ||| BitVec.ofInt 64 (y : Int)).toNat : Nat) : Int) = _
  rw [BitVec.toNat_or, BitVec.ofInt_natCast, BitVec.ofInt_natCast, BitVec.toNat_ofNat, BitVec.toNat_ofNat, Nat.mod_eq_of_lt (show x * 2 ^ 8 < 2 ^ 64 by omega), Nat.mod_eq_of_lt (show y < 2 ^ 64 by omega), ← h, wrap_i _ (by omega) (by omega)]
theorem So.cand_tail (k i : Nat) (hk : k < 65536) (hi : i < 8) : (So.cand k).getD (24 + i) 0 = ((k / 256 ^ (7 - i) % 256 : Nat) : Int) := by
  have h : ∀ q : List Int, (List.replicate 24 0 ++ q).getD (24 + i) 0 = q.getD i 0 := fun q => by
    rw [List.getD_eq_getElem?_getD, List.getElem?_append_right (by simp), List.getD_eq_getElem?_getD]
    simp
  rw [So.cand, be8_two k hk, h]
  rcases (by omega : i = 0 ∨ i = 1 ∨ i = 2 ∨ i = 3 ∨ i = 4 ∨ i = 5 ∨ i = 6 ∨ i = 7) with rfl | rfl | rfl | rfl | rfl | rfl | rfl | rfl
  all_goals simp only [List.getD_cons_zero, List.getD_cons_succ]
  all_goals omega
section
variable (K : Nat) (S : List Int) (g b : Int) (f t : List Int) (s : Int) (b' g' : Int) (I : List Int)
theorem f9.zeros (k : Nat) (hK : 100 < K) : iter (f9.s0 K) K (0, S, g, b, f, t, s, b', g', I, So.cand k) = some (.inr (S, g, b, f, t, s, b', g', I, So.cand k)) := by
  have := iter_for (stp := f9.s0 K) (N := 24) (fun i => ((i : Int), S, g, b, f, t, s, b', g', I, So.cand k)) (y := some (.inr (S, g, b, f, t, s, b', g', I, So.cand k))) ?_ ?_ (show 24 < K by omega)
  · exact this
  · intro i hi rec
    simp only [f9.s0, f9.s0t]
    rw [decide_eq_true (show (i : Int) < 24 by omega), cond_t, decide_eq_true (show (0 : Int) ≤ (i : Int) ∧ (i : Int) < 32 by omega), cond_t, Int.toNat_natCast, So.cand_get k i hi, show (((0 : Int)) != 0) = false from rfl, cond_f, wrap_i _ (by omega) (by omega)]
    rfl
  · intro rec
    simp only [f9.s0, f9.s0t]
    rw [decide_eq_false (show ¬ (((24 : Nat) : Int) < 24) by omega), cond_f]
theorem f9.number (k : Nat) (hk : k < 65536) (hK : 100 < K) : iter (f9.s2 K) K (0, 24, S, g, b, f, t, s, b', g', I, So.cand k) = some ((k : Int), S, g, b, f, t, s, b', g', I, So.cand k) := by
  have := iter_for (stp := f9.s2 K) (N := 8) (fun i => (((k / 256 ^ (8 - i) : Nat) : Int), ((24 + i : Nat) : Int), S, g, b, f, t, s, b', g', I, So.cand k)) (y := some ((k : Int), S, g, b, f, t, s, b', g', I, So.cand k)) ?_ ?_ (show 8 < K by omega)
  · simp only [Nat.sub_zero, show k / 256 ^ 8 = 0 by omega, Nat.add_zero] at this
    exact this
  · intro i hi rec
    simp only [f9.s2, f9.s2t]
    have hp : 256 ^ (8 - i) = 256 ^ (7 - i) * 256 := by rw [show 8 - i = 7 - i + 1 by omega, Nat.pow_succ]
    have hd : k / 256 ^ (8 - i) = k / 256 ^ (7 - i) / 256 := by rw [hp, Nat.div_div_eq_div_mul]
    have hle : k / 256 ^ (7 - i) ≤ k := Nat.div_le_self _ _
    rw [decide_eq_true (show ((24 + i : Nat) : Int) < 32 by omega), cond_t, decide_eq_true (show (0 : Int) ≤ ((24 + i : Nat) : Int) ∧ ((24 + i : Nat) : Int) < 32 by omega), cond_t, Int.toNat_natCast, So.cand_tail k i hk hi, hd, show 8 - (i + 1) = 7 - i by omega]
    generalize k / 256 ^ (7 - i) = q at hle
    rw [or_i64 (q / 256) (q % 256) (by omega) (by omega), show q / 256 * 256 + q % 256 = q by omega, wrap_i _ (by omega) (by omega)]
    rfl
  · intro rec
    simp only [f9.s2, f9.s2t]
    rw [decide_eq_false (show ¬ (((24 + 8 : Nat) : Int) < 32) by omega), cond_f, Nat.sub_self, Nat.pow_zero, Nat.div_one]
end
theorem f9.none_before (K b : Nat) (hb : b ≤ 12) (g' : Int) (I f t : List Int) (lI : I.length = 32) (oI : octets I) (lf : f.length = 16) (of' : octets f) (lt : t.length = 16) (ot : octets t) (S : List Int) (g bb s : Int) (w : List Int) (k : Nat) (hk : k < 65536) (h : ∀ j, j < k → So.good b I f t j = false) (hK : 70000 < K) :
    iter (f9.s4 K) K ((k : Int), 0, S, g, bb, f, t, s, (b : Int), g', I, w) = some (.inr (S, g, bb, f, t, s, (b : Int), g', I, w)) := by
  have := iter_for (stp := f9.s4 K) (N := k) (fun i => ((k : Int), (i : Int), S, g, bb, f, t, s, (b : Int), g', I, w)) (y := some (.inr (S, g, bb, f, t, s, (b : Int), g', I, w))) ?_ ?_ (show k < K by omega)
  · exact this
  · intro i hi rec
    simp only [f9.s4, f9.s4t]
    rw [decide_eq_true (show (i : Int) < (k : Int) by omega), cond_t, decide_eq_false (show ¬ ((i : Int) > 65535) by omega), cond_f, So.cand_two i (by omega), f29.spec K b hb g' I f t _ lI oI lf of' lt ot (So.cand_length i) (So.cand_octets i) (by omega), bind_s, show So.ck b (Sh.sha (strL f29.k0) [I, f, t, So.cand i]) = false from h i hi, cond_f, wrap_i _ (by omega) (by omega)]
    rfl
  · intro rec
    simp only [f9.s4, f9.s4t]
    rw [decide_eq_false (show ¬ ((k : Int) < (k : Int)) by omega), cond_f]
theorem f9.fewer (K : Nat) (g' : Int) (I f t : List Int) (lI : I.length = 32) (oI : octets I) (lf : f.length = 16) (of' : octets f) (lt : t.length = 16) (ot : octets t) (S : List Int) (g bb s b1 g1 : Int) (I1 : List Int) (k : Nat) (hK : 70000 < K) : ∀ b, b ≤ 12 → So.good b I f t k = true → ∀ n, b < n →
    iter (f9.s6 K) n (S, g, bb, f, t, s, b1, g1, I1, So.cand k, (b : Int), g', I) = some (.inr (S, g, bb, f, t, s, b1, g1, I1, So.cand k))
  | 0, _, _, n, hn => by
    obtain ⟨m, rfl⟩ : ∃ m, n = m + 1 := ⟨n - 1, by omega⟩
    simp only [iter, f9.s6, f9.s6t]
    rw [decide_eq_false (show ¬ (((0 : Nat) : Int) > 0) by omega), cond_f]
  | b + 1, hb, h, n, hn => by
    obtain ⟨m, rfl⟩ : ∃ m, n = m + 1 := ⟨n - 1, by omega⟩
    have hd := So.good_down b I f t k h
    have ih := f9.fewer K g' I f t lI oI lf of' lt ot S g bb s b1 g1 I1 k hK b (by omega) hd m (by omega)
    simp only [iter, f9.s6, f9.s6t]
    rw [decide_eq_true (show ((b + 1 : Nat) : Int) > 0 by omega), cond_t, show IntKind.wrap .u8 (((b + 1 : Nat) : Int) - 1) = (b : Int) by rw [wrap8]; omega, f29.spec K b (by omega) g' I f t _ lI oI lf of' lt ot (So.cand_length k) (So.cand_octets k) (by omega), bind_s, show So.ck b (Sh.sha (strL f29.k0) [I, f, t, So.cand k]) = true from hd, Bool.not_true, cond_f]
    exact ih
theorem f9.holds (k : List Int) (a b : Int) (l m : List Int) (c : Int) (hk : k.length = 32 ∧ ∀ x ∈ k, 0 ≤ x ∧ x < 256) (ha : 0 ≤ a ∧ a < 18446744073709551616) (hb : 0 ≤ b ∧ b < 256) (hl : l.length = 16 ∧ ∀ x ∈ l, 0 ≤ x ∧ x < 256) (hm : m.length = 16 ∧ ∀ x ∈ m, 0 ≤ x ∧ x < 256) (hc : 0 ≤ c ∧ c < 4294967296) :
    f9.F 100000 (k, a, b, l, m, c) = some true := by
  obtain ⟨a, rfl⟩ := Int.eq_ofNat_of_zero_le ha.1
  obtain ⟨b, rfl⟩ := Int.eq_ofNat_of_zero_le hb.1
  obtain ⟨c, rfl⟩ := Int.eq_ofNat_of_zero_le hc.1
  have h28 := f28.holds 100000 (by omega)
  simp only [f9.F, f9.T]
  rw [show Int.tmod (b : Int) 9 = ((b % 9 : Nat) : Int) from tmod_nat b 9]
  by_cases h0 : c = 0
  · subst h0
    rw [show f24.F 100000 (k, (a : Int), ((b % 9 : Nat) : Int), l, m, ((0 : Nat) : Int)) = _ from f24.none 100000 k l m _ _ (by omega), bind_s]
    simp only []
    rw [show (((1 : Int)) != 0) = true from rfl, cond_t, show (((1 : Int)) == 1) = true from rfl, cond_t, show (((0 : Nat) : Int) == 0) = true from rfl, cond_t, h28, bind_s]
  · rw [f24.spec 100000 a (b % 9) c k l m hk.1 hk.2 (by omega) (by omega) hl.1 hl.2 hm.1 hm.2 (by omega) h0 (by omega), bind_s]
    simp only []
    have lI := mac_length k (So.word ++ be 8 a ++ [((b % 9 : Nat) : Int)] ++ l ++ m ++ be 4 c)
    have oI := mac_octets k (So.word ++ be 8 a ++ [((b % 9 : Nat) : Int)] ++ l ++ m ++ be 4 c)
    generalize Sh.mac k (So.word ++ be 8 a ++ [((b % 9 : Nat) : Int)] ++ l ++ m ++ be 4 c) = I at lI oI
    have hd : b % 9 ≤ 12 := by omega
    generalize b % 9 = d at hd
    rw [show (((0 : Int)) != 0) = false from rfl, cond_f, f31.spec 100000 d hd _ I l m lI oI hl.1 hl.2 hm.1 hm.2 (by omega), bind_s]
    rcases So.first_cases (So.good d I l m) 65536 0 with ⟨n, h1, h2, h3, h4, h5⟩ | ⟨h1, h2⟩
    · rw [h5]
      simp only [So.found]
      rw [show (((0 : Int)) != 0) = false from rfl, cond_f, f9.zeros 100000 k (a : Int) (b : Int) l m (c : Int) (d : Int) (a : Int) I n (by omega), bind_s, altr]
      simp only []
      rw [f9.number 100000 k (a : Int) (b : Int) l m (c : Int) (d : Int) (a : Int) I n (by omega) (by omega), bind_s]
      simp only []
      rw [f9.none_before 100000 d hd (a : Int) I l m lI oI hl.1 hl.2 hm.1 hm.2 k (a : Int) (b : Int) (c : Int) (So.cand n) n (by omega) (fun j hj => h4 j (by omega) hj) (by omega), bind_s, altr]
      simp only []
      rw [f9.fewer 100000 (a : Int) I l m lI oI hl.1 hl.2 hm.1 hm.2 k (a : Int) (b : Int) (c : Int) (d : Int) (a : Int) I n (by omega) d hd h3 100000 (by omega), bind_s, altr]
      simp only []
      rw [f29.spec 100000 d hd (a : Int) I l m _ lI oI hl.1 hl.2 hm.1 hm.2 (So.cand_length n) (So.cand_octets n) (by omega), bind_s, show So.ck d (Sh.sha (strL f29.k0) [I, l, m, So.cand n]) = true from h3, cond_t, h28, bind_s]
    · rw [h1]
      simp only [So.found]
      rw [show (((12 : Int)) != 0) = true from rfl, cond_t, show (((12 : Int)) == 12) = true from rfl, cond_t, h28, bind_s]
end Go.Proofs
