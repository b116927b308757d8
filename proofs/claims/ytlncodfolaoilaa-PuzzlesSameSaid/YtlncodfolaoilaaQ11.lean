/- Plain laws: lemmas that hold with no condition but those that each states. -/
import Derived.Test.YtlncodfolaoilaaQ2
import Derived.Test.YtlncodfolaoilaaQ10
import Derived.Test.YtlncodfolaoilaaQ6
namespace Go.Proofs
open Go.VM
noncomputable def f28.T (K : Nat)  : Option (Bool) :=
  (f31.F K (0, 0, [0, 0, 0, 0, 0, 0, 0, 0, 0, 0, 0, 0, 0, 0, 0, 0, 0, 0, 0, 0, 0, 0, 0, 0, 0, 0, 0, 0, 0, 0, 0, 0], [0, 0, 0, 0, 0, 0, 0, 0, 0, 0, 0, 0, 0, 0, 0, 0], [0, 0, 0, 0, 0, 0, 0, 0, 0, 0, 0, 0, 0, 0, 0, 0])).bind fun y1 =>
  (f24.F K ([0, 0, 0, 0, 0, 0, 0, 0, 0, 0, 0, 0, 0, 0, 0, 0, 0, 0, 0, 0, 0, 0, 0, 0, 0, 0, 0, 0, 0, 0, 0, 0], 0, 13, [0, 0, 0, 0, 0, 0, 0, 0, 0, 0, 0, 0, 0, 0, 0, 0], [0, 0, 0, 0, 0, 0, 0, 0, 0, 0, 0, 0, 0, 0, 0, 0], 1)).bind fun y2 =>
  (f24.F K ([0, 0, 0, 0, 0, 0, 0, 0, 0, 0, 0, 0, 0, 0, 0, 0, 0, 0, 0, 0, 0, 0, 0, 0, 0, 0, 0, 0, 0, 0, 0, 0], 0, 0, [0, 0, 0, 0, 0, 0, 0, 0, 0, 0, 0, 0, 0, 0, 0, 0], [0, 0, 0, 0, 0, 0, 0, 0, 0, 0, 0, 0, 0, 0, 0, 0], 0)).bind fun y3 =>
  (f26.F K 7).bind fun y4 =>
  bif (y4 == 0) then
    (f26.F K 8).bind fun y5 =>
    bif (y5 == 1) then
      (f26.F K 16).bind fun y6 =>
      bif (y6 == 2) then
        (f26.F K 1000000).bind fun y7 =>
        bif (y7 == 12) then
          (f26.F K (-1)).bind fun y8 =>
          bif (y8 == 0) then
            bif (eqL 32 y1.1 [0, 0, 0, 0, 0, 0, 0, 0, 0, 0, 0, 0, 0, 0, 0, 0, 0, 0, 0, 0, 0, 0, 0, 0, 0, 0, 0, 0, 0, 0, 0, 0] && true) then
              bif (y1.2 == 0) then
                bif (y2.2.2.2 == 1) then
                  bif (y3.2.2.2 == 1) then
                    (f29.F K (0, 0, [0, 0, 0, 0, 0, 0, 0, 0, 0, 0, 0, 0, 0, 0, 0, 0, 0, 0, 0, 0, 0, 0, 0, 0, 0, 0, 0, 0, 0, 0, 0, 0], [0, 0, 0, 0, 0, 0, 0, 0, 0, 0, 0, 0, 0, 0, 0, 0], [0, 0, 0, 0, 0, 0, 0, 0, 0, 0, 0, 0, 0, 0, 0, 0], [1, 0, 0, 0, 0, 0, 0, 0, 0, 0, 0, 0, 0, 0, 0, 0, 0, 0, 0, 0, 0, 0, 0, 0, 0, 0, 0, 0, 0, 0, 0, 0])).bind fun y12 =>
                    some y12
                  else
                    some false
                else
                  some false
              else
                some false
            else
              some false
          else
            some false
        else
          some false
      else
        some false
    else
      some false
  else
    some false
noncomputable def f28.F (K : Nat) (_x : Unit) : Option (Bool) := f28.T K
noncomputable def f28.av (_x : Unit) : List VV := []
noncomputable def f28.bl (_x : Unit) : List (Nat × Blk) := []
noncomputable def f28.inA : VS → Option (Unit)
  | ⟨[], [], 0⟩ => some ()
  | _ => none
noncomputable def f28.o0 (y : Bool) : VS := ⟨[(0, .bool y)], [], 0⟩
noncomputable def f28.inR : VS → Option (Bool)
  | ⟨[(0, .bool y)], [], 0⟩ => some y
  | _ => none
noncomputable def f28.E (K : Nat) : Entry := genE 0 f28.inA (f28.F K) (dv1 f28.o0)
theorem f28.ok (K : Nat) : EntryOK Try.prog 28 (f28.E K) := gen_ok mix tys_ok (tab_ok ((tab_cons (f31.ok K) (tab_cons (f24.ok K) (tab_cons (f26.ok K) (tab_cons (f29.ok K) tab_nil)))))) Try.func28 (c := bodyOf Try.f28) (by kernel_rfl) (by kernel_rfl) (loops_none (lp := lpNone) (by kernel_rfl)) (av := f28.av) (bl := f28.bl) (inR := f28.inR) (out := f28.o0) (fuel := 400)
  (by intro s x h; unfold f28.inA at h; split at h <;> simp at h; rfl) (fun _ => Nat.le_of_ble_eq_true rfl)
  (by intro s y h; unfold f28.inR at h; split at h <;> simp at h <;> subst h <;> rfl) (fun _ _ _ => rfl) (fun _ => by kernel_rfl)
end Go.Proofs

namespace Go.Proofs
open Go.VM
def So.low (h : List Int) : Nat := (h.getD 30 0).toNat * 256 + (h.getD 31 0).toNat
def So.ck (b : Nat) (h : List Int) : Bool := So.low h % 2 ^ b == 0
theorem So.shl32 (b : Nat) (hb : b ≤ 12) : shiftI .shl .u32 1 (b : Int) = ((2 ^ b : Nat) : Int) := by
  have : ∀ c : Fin 13, shiftI .shl .u32 1 ((c.val : Nat) : Int) = ((2 ^ c.val : Nat) : Int) := by decide
  exact this ⟨b, by omega⟩
theorem So.pow12 (b : Nat) (hb : b ≤ 12) : 1 ≤ 2 ^ b ∧ 2 ^ b ≤ 4096 :=
  ⟨Nat.one_le_two_pow, Nat.pow_le_pow_right (by decide) hb⟩
theorem So.and_low (x : Nat) (hx : x < 65536) (b : Nat) (hb : b ≤ 12) : bits .and .u32 (x : Int) (IntKind.wrap .u32 ((shiftI .shl .u32 1 (b : Int)) - 1)) = ((x % 2 ^ b : Nat) : Int) := by
  obtain ⟨h1, h2⟩ := So.pow12 b hb
  rw [So.shl32 b hb, show ((2 ^ b : Nat) : Int) - 1 = ((2 ^ b - 1 : Nat) : Int) by omega, wrap_32n _ (by omega), bits_and, BitVec.toNat_and]
  simp only [bv, BitVec.ofInt_natCast, BitVec.toNat_ofNat]
  rw [Nat.mod_eq_of_lt (show x < 2 ^ 32 by omega), Nat.mod_eq_of_lt (show 2 ^ b - 1 < 2 ^ 32 by omega), Nat.and_two_pow_sub_one_eq_mod]
theorem So.or32 (a c : Nat) (ha : a < 256) (hc : c < 256) : bits .or .u32 (IntKind.wrap .u32 ((IntKind.wrap .u32 (a : Int)) * 2 ^ 8)) (IntKind.wrap .u32 (c : Int)) = ((a * 256 + c : Nat) : Int) := by
  have h := Nat.shiftLeft_add_eq_or_of_lt (show c < 2 ^ 8 by omega) a
  rw [Nat.shiftLeft_eq] at h
  rw [wrap_32n a (by omega), wrap_32n c (by omega), show (a : Int) * 2 ^ 8 = ((a * 2 ^ 8 : Nat) : Int) by omega, wrap_32n _ (by omega), bits_or, BitVec.toNat_or]
  simp only [bv, BitVec.ofInt_natCast, BitVec.toNat_ofNat]
  rw [Nat.mod_eq_of_lt (show a * 2 ^ 8 < 2 ^ 32 by omega), Nat.mod_eq_of_lt (show c < 2 ^ 32 by omega), ← h]
theorem So.int_nat (n : Nat) : (((n : Nat) : Int) == 0) = (n == 0) := by
  cases h : (n == 0)
  · simp at h ⊢; omega
  · simp at h ⊢; omega
theorem f29.spec (K b : Nat) (hb : b ≤ 12) (g : Int) (I f t j : List Int) (lI : I.length = 32) (oI : octets I) (lf : f.length = 16) (of' : octets f) (lt : t.length = 16) (ot : octets t) (lj : j.length = 32) (oj : octets j) (hK : 10000 < K) :
    f29.F K ((b : Int), g, I, f, t, j) = some (So.ck b (Sh.sha (strL f29.k0) [I, f, t, j])) := by
  have hs : f29.k0.size = 4 := rfl
  simp only [f29.F, f29.T]
  rw [decide_eq_false (show ¬ ((b : Int) > 12) by omega), cond_f, subI_self I lI, subI_self f lf, subI_self t lt, subI_self j lj,
    f50.spec K f29.k0 32 I 16 f 16 t 32 j (by omega) lI oI (by omega) lf of' (by omega) lt ot (by omega) lj oj (by omega) (by omega) (by omega) (by omega) (by omega) (by omega), bind_s]
  simp only []
  rw [decide_eq_true (show (0 : Int) ≤ (b : Int) by omega), cond_t]
  have ho : octets (Sh.sha (strL f29.k0) [I, f, t, j]) := sum_octets _
  obtain ⟨a, ha, ea⟩ := getD_oct ho 30
  obtain ⟨c, hc, ec⟩ := getD_oct ho 31
  rw [ea, ec, So.or32 a c ha hc, So.and_low _ (by omega) b hb, So.int_nat, So.ck, So.low, ea, ec]
  rfl
theorem So.oct {l : List Int} (h : l.all (fun x => decide (0 ≤ x ∧ x < 256)) = true) : octets l := fun x hx => of_decide_eq_true (List.all_eq_true.1 h x hx)
def So.word : List Int := [112, 117, 122, 122, 108, 101]
theorem f24.spec (K g b s : Nat) (S f t : List Int) (lS : S.length = 32) (oS : octets S) (hg : g < 18446744073709551616) (hb : b ≤ 12) (lf : f.length = 16) (of' : octets f) (lt : t.length = 16) (ot : octets t) (hs : s < 4294967296) (h0 : s ≠ 0) (hK : 1000 < K) :
    f24.F K (S, (g : Int), (b : Int), f, t, (s : Int)) = some ((b : Int), (g : Int), Sh.mac S (So.word ++ be 8 g ++ [(b : Int)] ++ f ++ t ++ be 4 s), 0) := by
  simp only [f24.F, f24.T]
  have e8 : f41.F K (0, (g : Int), 8, 0, []) = some (0 + 8, 0 + 8, 0, [], 0 + 8, [] ++ be 8 g) := f41.spec K 0 8 g [] rfl hg (by omega) (by omega)
  have e4 : f41.F K (0, (s : Int), 4, 0, []) = some (0 + 4, 0 + 4, 0, [], 0 + 4, [] ++ be 4 s) := f41.spec K 0 4 s [] rfl (by omega) (by omega) (by omega)
  have ob : octets [(b : Int)] := by intro x hx; rw [List.mem_singleton] at hx; subst hx; omega
  have ow : octets So.word := So.oct rfl
  rw [decide_eq_false (show ¬ ((b : Int) > 12) by omega), cond_f, show (((s : Int)) == 0) = false by simp; omega, cond_f, wrap_u (s : Int) (by omega) (by omega), e8, bind_s, e4, bind_s]
  simp only [Nat.zero_add, List.nil_append]
  rw [ble_true (Nat.le_refl 8), ble_true (Nat.le_refl 4), Bool.and_self, Bool.and_self, Bool.and_self, cond_t, subI_self S lS, subI_self f lf, subI_self t lt, subI_self _ (be_length 8 g), subI_self _ (be_length 4 s),
    show ([112, 117, 122, 122, 108, 101] : List Int) = So.word from rfl,
    f22.spec K 32 S 6 So.word 8 (be 8 g) 1 [(b : Int)] 16 f 16 t 4 (be 4 s) lS oS (by omega) rfl ow (by omega) (be_length _ _) (be_octets _ _) (by omega) rfl ob (by omega) lf of' (by omega) lt ot (by omega) (be_length _ _) (be_octets _ _) (by omega) (by omega), bind_s]
theorem f24.big (K : Nat) (S f t : List Int) (g b s : Int) (hb : 12 < b) : f24.F K (S, g, b, f, t, s) = some (0, 0, List.replicate 32 0, 1) := by
  simp only [f24.F, f24.T]
  rw [decide_eq_true (show b > 12 by omega), cond_t]
  rfl
theorem f24.none (K : Nat) (S f t : List Int) (g b : Int) (hb : b ≤ 12) : f24.F K (S, g, b, f, t, 0) = some (0, 0, List.replicate 32 0, 1) := by
  simp only [f24.F, f24.T]
  rw [decide_eq_false (show ¬ b > 12 by omega), cond_f, show (((0 : Int)) == 0) = true from rfl, cond_t]
  rfl
def So.asked (n : Nat) : Nat := if n < 8 then 0 else min (blen (n / 4) - 1) 12
theorem f26.spec (K n : Nat) (hn : n < 9223372036854775808) : f26.F K (n : Int) = some ((So.asked n : Nat) : Int) := by
  simp only [f26.F, f26.T]
  unfold So.asked
  by_cases h : n < 8
  · rw [decide_eq_true (show (n : Int) < 8 by omega), cond_t, if_pos h]
    rfl
  · have hb : blen (n / 4) ≤ 63 := blen_le (by omega)
    have hb0 : 0 < blen (n / 4) := (blen_ge (x := n / 4) (by omega)).2
    rw [decide_eq_false (show ¬ (n : Int) < 8 by omega), cond_f, show Int.tdiv (n : Int) 4 = ((n / 4 : Nat) : Int) from tdiv_nat n 4, wrap_i _ (by omega) (by omega), wrap_u _ (by omega) (by omega)]
    have e : f49.F K ((n / 4 : Nat) : Int) = some ((blen (n / 4) : Nat) : Int) := by
      simp only [f49.F, f49.T]
      rw [f68.spec K _ (by omega), bind_s]
    rw [e, bind_s, wrap_i _ (by omega) (by omega), if_neg h]
    congr 1
    unfold minE
    by_cases h2 : 12 < ((blen (n / 4) : Nat) : Int) - 1
    · rw [decide_eq_true h2, cond_t, Nat.min_eq_right (by omega)]; rfl
    · rw [decide_eq_false h2, cond_f, wrap8, Nat.min_eq_left (by omega)]; omega
theorem f26.neg (K : Nat) : f26.F K (-1) = some 0 := by
  simp only [f26.F, f26.T]
  rfl
theorem So.cand_length (k : Nat) : (So.cand k).length = 32 := by simp [So.cand, be_length]
theorem So.cand_octets (k : Nat) : octets (So.cand k) := octets_append (octets_zeros 24) (be_octets 8 k)
theorem So.ck0 (h : List Int) : So.ck 0 h = true := by
  simp [So.ck, Nat.mod_one]
theorem f28.holds (K : Nat) (hK : 10000 < K) : f28.F K () = some true := by
  have z32 : octets (List.replicate 32 0) := octets_zeros 32
  have z16 : octets (List.replicate 16 0) := octets_zeros 16
  have hc : ∀ j, j.length = 32 → octets j → f29.F K (0, 0, List.replicate 32 0, List.replicate 16 0, List.replicate 16 0, j) = some true := fun j hj oj =>
    (f29.spec K 0 (by omega) 0 (List.replicate 32 0) (List.replicate 16 0) (List.replicate 16 0) j (by simp) z32 (by simp) z16 (by simp) z16 hj oj hK).trans (by rw [So.ck0])
  have h31 : f31.F K (0, 0, List.replicate 32 0, List.replicate 16 0, List.replicate 16 0) = some (List.replicate 32 0, 0) := by
    unfold f31.F
    simp only
    rw [if_neg (by decide), if_pos (fun k => ⟨true, hc _ (So.cand_length k) (So.cand_octets k)⟩), show (65536 : Nat) = 65535 + 1 from rfl, So.first, if_pos (show So.pass K _ 0 = true from by unfold So.pass; simp only; rw [hc _ (So.cand_length 0) (So.cand_octets 0)]; rfl)]
    rfl
  have l1 : f29.F K (0, 0, List.replicate 32 0, List.replicate 16 0, List.replicate 16 0, [1, 0, 0, 0, 0, 0, 0, 0, 0, 0, 0, 0, 0, 0, 0, 0, 0, 0, 0, 0, 0, 0, 0, 0, 0, 0, 0, 0, 0, 0, 0, 0]) = some true := hc _ rfl (So.oct rfl)
  simp only [f28.F, f28.T]
  rw [show f31.F K (0, 0, [0, 0, 0, 0, 0, 0, 0, 0, 0, 0, 0, 0, 0, 0, 0, 0, 0, 0, 0, 0, 0, 0, 0, 0, 0, 0, 0, 0, 0, 0, 0, 0], [0, 0, 0, 0, 0, 0, 0, 0, 0, 0, 0, 0, 0, 0, 0, 0], [0, 0, 0, 0, 0, 0, 0, 0, 0, 0, 0, 0, 0, 0, 0, 0]) = _ from h31, bind_s,
    f24.big K _ _ _ 0 13 1 (by decide), bind_s, f24.none K _ _ _ 0 0 (by decide), bind_s,
    show f26.F K 7 = some 0 from f26.spec K 7 (by decide), bind_s, show f26.F K 8 = some 1 from f26.spec K 8 (by decide), bind_s, show f26.F K 16 = some 2 from f26.spec K 16 (by decide), bind_s, show f26.F K 1000000 = some 12 from f26.spec K 1000000 (by decide), bind_s, f26.neg, bind_s, show f29.F K (0, 0, [0, 0, 0, 0, 0, 0, 0, 0, 0, 0, 0, 0, 0, 0, 0, 0, 0, 0, 0, 0, 0, 0, 0, 0, 0, 0, 0, 0, 0, 0, 0, 0], [0, 0, 0, 0, 0, 0, 0, 0, 0, 0, 0, 0, 0, 0, 0, 0], [0, 0, 0, 0, 0, 0, 0, 0, 0, 0, 0, 0, 0, 0, 0, 0], [1, 0, 0, 0, 0, 0, 0, 0, 0, 0, 0, 0, 0, 0, 0, 0, 0, 0, 0, 0, 0, 0, 0, 0, 0, 0, 0, 0, 0, 0, 0, 0]) = _ from l1, bind_s]
  rfl
end Go.Proofs

namespace Go.Proofs
open Go.VM
end Go.Proofs

namespace Go.Proofs
open Go.VM
end Go.Proofs

namespace Go.Proofs
open Go.VM
end Go.Proofs

namespace Go.Proofs
open Go.VM
end Go.Proofs

namespace Go.Proofs
open Go.VM
end Go.Proofs

namespace Go.Proofs
open Go.VM
end Go.Proofs

namespace Go.Proofs
open Go.VM
end Go.Proofs

namespace Go.Proofs
open Go.VM
end Go.Proofs

namespace Go.Proofs
open Go.VM
end Go.Proofs

namespace Go.Proofs
open Go.VM
end Go.Proofs

namespace Go.Proofs
open Go.VM
end Go.Proofs

namespace Go.Proofs
open Go.VM
end Go.Proofs

namespace Go.Proofs
open Go.VM
end Go.Proofs

namespace Go.Proofs
open Go.VM
end Go.Proofs

namespace Go.Proofs
open Go.VM
end Go.Proofs

namespace Go.Proofs
open Go.VM
end Go.Proofs

namespace Go.Proofs
open Go.VM
end Go.Proofs

namespace Go.Proofs
open Go.VM
end Go.Proofs

namespace Go.Proofs
open Go.VM
end Go.Proofs

namespace Go.Proofs
open Go.VM
end Go.Proofs

namespace Go.Proofs
open Go.VM
end Go.Proofs

namespace Go.Proofs
open Go.VM
def Dr.sum (s : List Int) (n : Nat) : List Int := Sh.mac s ([100, 114, 97, 119] ++ be 8 n)
end Go.Proofs

namespace Go.Proofs
open Go.VM
theorem eqL_refl (n : Nat) (l : List Int) : eqL n l l = true := by simp [eqL]
end Go.Proofs

namespace Go.Proofs
open Go.VM
abbrev f10.Ty0 := List Int × Int × Int × List Int × List Int × Int
noncomputable def f10.T (K : Nat) (a0_0 : List Int) (a0_1 : Int) (a0_2 : Int) (a0_3 : List Int) (a0_4 : List Int) (a0_5 : Int) : Option (Bool) :=
  (f24.F K (a0_0, a0_1, a0_2, a0_3, a0_4, a0_5)).bind fun y1 =>
  (f24.F K (a0_0, a0_1, a0_2, a0_3, a0_4, a0_5)).bind fun y2 =>
  bif (y1.2.2.2 != 0) then
    bif (y2.2.2.2 == y1.2.2.2) then
      bif (decide (a0_2 > 12)) then
        (f28.F K ()).bind fun y6 =>
        some y6
      else
        bif (a0_5 == 0) then
          (f28.F K ()).bind fun y7 =>
          some y7
        else
          some false
    else
      some false
  else
    bif ((y1.1 == y2.1) && ((y1.2.1 == y2.2.1) && (eqL 32 y1.2.2.1 y2.2.2.1 && true))) then
      bif (y1.1 == a0_2) then
        bif (y1.2.1 == a0_1) then
          bif (decide (a0_2 ≤ 12)) then
            bif (a0_5 != 0) then
              (f28.F K ()).bind fun y12 =>
              some y12
            else
              some false
          else
            some false
        else
          some false
      else
        some false
    else
      some false
noncomputable def f10.F (K : Nat) (x : f10.Ty0) : Option (Bool) := f10.T K x.1 x.2.1 x.2.2.1 x.2.2.2.1 x.2.2.2.2.1 x.2.2.2.2.2
noncomputable def f10.av (x : f10.Ty0) : List VV := [.agg [.ints .u8 32 x.1, .int .u64 x.2.1, .int .u8 x.2.2.1, .ints .u8 16 x.2.2.2.1, .ints .u8 16 x.2.2.2.2.1, .int .u32 x.2.2.2.2.2]]
noncomputable def f10.bl (_x : f10.Ty0) : List (Nat × Blk) := []
noncomputable def f10.inA : VS → Option (f10.Ty0)
  | ⟨[(0, .agg [.ints .u8 32 a0_0, .int .u64 a0_1, .int .u8 a0_2, .ints .u8 16 a0_3, .ints .u8 16 a0_4, .int .u32 a0_5])], [], 0⟩ => some (a0_0, a0_1, a0_2, a0_3, a0_4, a0_5)
  | _ => none
noncomputable def f10.o0 (y : Bool) : VS := ⟨[(0, .bool y)], [], 0⟩
noncomputable def f10.inR : VS → Option (Bool)
  | ⟨[(0, .bool y)], [], 0⟩ => some y
  | _ => none
noncomputable def f10.E (K : Nat) : Entry := genE 0 f10.inA (f10.F K) (dv1 f10.o0)
theorem f10.ok (K : Nat) : EntryOK Try.prog 10 (f10.E K) := gen_ok mix tys_ok (tab_ok ((tab_cons (f24.ok K) (tab_cons (f28.ok K) tab_nil)))) Try.func10 (c := bodyOf Try.f10) (by kernel_rfl) (by kernel_rfl) (loops_none (lp := lpNone) (by kernel_rfl)) (av := f10.av) (bl := f10.bl) (inR := f10.inR) (out := f10.o0) (fuel := 400)
  (by intro s x h; unfold f10.inA at h; split at h <;> simp at h; subst h; rfl) (fun _ => Nat.le_of_ble_eq_true rfl)
  (by intro s y h; unfold f10.inR at h; split at h <;> simp at h <;> subst h <;> rfl) (fun _ _ _ => rfl) (fun _ => by kernel_rfl)
end Go.Proofs

namespace Go.Proofs
open Go.VM
end Go.Proofs

namespace Go.Proofs
open Go.VM
theorem f10.nat (S : List Int) (lS : S.length = 32) (oS : octets S) (g : Nat) (hg : g < 18446744073709551616) (b : Nat) (hb : b < 256) (f : List Int) (lf : f.length = 16) (of' : octets f) (t : List Int) (lt : t.length = 16) (ot : octets t) (s : Nat) (hs : s < 4294967296) :
    f10.F 100000 (S, (g : Int), (b : Int), f, t, (s : Int)) = some true := by
  simp only [f10.F, f10.T]
  by_cases h : 12 < b
  · rw [f24.big 100000 S f t (g : Int) (b : Int) (s : Int) (by omega), bind_s, bind_s]
    simp only []
    rw [show (((1 : Int)) != 0) = true from rfl, cond_t, show (((1 : Int)) == 1) = true from rfl, cond_t, decide_eq_true (show (b : Int) > 12 by omega), cond_t, f28.holds 100000 (by omega), bind_s]
  · by_cases h0 : s = 0
    · subst h0
      rw [show f24.F 100000 (S, (g : Int), (b : Int), f, t, ((0 : Nat) : Int)) = _ from f24.none 100000 S f t (g : Int) (b : Int) (by omega), bind_s, bind_s]
      simp only []
      rw [show (((1 : Int)) != 0) = true from rfl, cond_t, show (((1 : Int)) == 1) = true from rfl, cond_t, decide_eq_false (show ¬ (b : Int) > 12 by omega), cond_f, show (((0 : Nat) : Int) == 0) = true from rfl, cond_t, f28.holds 100000 (by omega), bind_s]
    · rw [f24.spec 100000 g b s S f t lS oS hg (by omega) lf of' lt ot hs h0 (by omega), bind_s, bind_s]
      simp only []
      rw [show (((0 : Int)) != 0) = false from rfl, cond_f, eqL_refl, beq_self_eq_true, beq_self_eq_true, Bool.and_self, Bool.and_self, Bool.and_self, cond_t, cond_t, cond_t, decide_eq_true (show (b : Int) ≤ 12 by omega), cond_t, show (((s : Int)) != 0) = true by simp [bne]; omega, cond_t, f28.holds 100000 (by omega), bind_s]
theorem f10.holds (k : List Int) (a b : Int) (l m : List Int) (c : Int) (hk : k.length = 32 ∧ ∀ x ∈ k, 0 ≤ x ∧ x < 256) (ha : 0 ≤ a ∧ a < 18446744073709551616) (hb : 0 ≤ b ∧ b < 256) (hl : l.length = 16 ∧ ∀ x ∈ l, 0 ≤ x ∧ x < 256) (hm : m.length = 16 ∧ ∀ x ∈ m, 0 ≤ x ∧ x < 256) (hc : 0 ≤ c ∧ c < 4294967296) :
    f10.F 100000 (k, a, b, l, m, c) = some true := by
  obtain ⟨a, rfl⟩ := Int.eq_ofNat_of_zero_le ha.1
  obtain ⟨b, rfl⟩ := Int.eq_ofNat_of_zero_le hb.1
  obtain ⟨c, rfl⟩ := Int.eq_ofNat_of_zero_le hc.1
  exact f10.nat k hk.1 hk.2 a (by omega) b (by omega) l hl.1 hl.2 m hm.1 hm.2 c (by omega)
end Go.Proofs
