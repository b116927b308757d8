/- Plain laws: lemmas that hold with no condition but those that each states. -/
import Derived.Test.YtlncodfolaoilaaQ2
import Derived.Test.YtlncodfolaoilaaQ11
import Derived.Test.YtlncodfolaoilaaQ7
import Derived.Test.YtlncodfolaoilaaQ6
namespace Go.Proofs
open Go.VM
noncomputable def f28.T (K : Nat)  : Option (Bool) :=
  (f31.F K (0, 0, [0, 0, 0, 0, 0, 0, 0, 0, 0, 0, 0, 0, 0, 0, 0, 0, 0, 0, 0, 0, 0, 0, 0, 0, 0, 0, 0, 0, 0, 0, 0, 0], [0, 0, 0, 0, 0, 0, 0, 0, 0, 0, 0, 0, 0, 0, 0, 0], [0, 0, 0, 0, 0, 0, 0, 0, 0, 0, 0, 0, 0, 0, 0, 0])).bind fun y1 =>
  (f24.F K ([0, 0, 0, 0, 0, 0, 0, 0, 0, 0, 0, 0, 0, 0, 0, 0, 0, 0, 0, 0, 0, 0, 0, 0, 0, 0, 0, 0, 0, 0, 0, 0], 0, 13, [0, 0, 0, 0, 0, 0, 0, 0, 0, 0, 0, 0, 0, 0, 0, 0], [0, 0, 0, 0, 0, 0, 0, 0, 0, 0, 0, 0, 0, 0, 0, 0], 1)).bind fun y2 =>
  (f24.F K ([0, 0, 0, 0, 0, 0, 0, 0, 0, 0, 0, 0, 0, 0, 0, 0, 0, 0, 0, 0, 0, 0, 0, 0, 0, 0, 0, 0, 0, 0, 0, 0], 0, 0, [0, 0, 0, 0, 0, 0, 0, 0, 0, 0, 0, 0, 0, 0, 0, 0], [0, 0, 0, 0, 0, 0, 0, 0, 0, 0, 0, 0, 0, 0, 0, 0], 0)).bind fun y3 =>
  (f26.F K 7).bind fun y4 =>
  bif (y4 == 0) then
    (f26.F K 8).bind fun y5 =>
    bif (y5 == 1) then
      (f26.F K 16).bind fun y6 =>
      bif (y6 == 2) then
        (f26.F K 1000000).bind fun y7 =>
        bif (y7 == 12) then
          (f26.F K (-1)).bind fun y8 =>
          bif (y8 == 0) then
            bif (eqL 32 y1.1 [0, 0, 0, 0, 0, 0, 0, 0, 0, 0, 0, 0, 0, 0, 0, 0, 0, 0, 0, 0, 0, 0, 0, 0, 0, 0, 0, 0, 0, 0, 0, 0] && true) then
              bif (y1.2 == 0) then
                bif (y2.2.2.2 == 1) then
                  bif (y3.2.2.2 == 1) then
                    (f29.F K (0, 0, [0, 0, 0, 0, 0, 0, 0, 0, 0, 0, 0, 0, 0, 0, 0, 0, 0, 0, 0, 0, 0, 0, 0, 0, 0, 0, 0, 0, 0, 0, 0, 0], [0, 0, 0, 0, 0, 0, 0, 0, 0, 0, 0, 0, 0, 0, 0, 0], [0, 0, 0, 0, 0, 0, 0, 0, 0, 0, 0, 0, 0, 0, 0, 0], [1, 0, 0, 0, 0, 0, 0, 0, 0, 0, 0, 0, 0, 0, 0, 0, 0, 0, 0, 0, 0, 0, 0, 0, 0, 0, 0, 0, 0, 0, 0, 0])).bind fun y12 =>
                    some y12
                  else
                    some false
                else
                  some false
              else
                some false
            else
              some false
          else
            some false
        else
          some false
      else
        some false
    else
      some false
  else
    some false
noncomputable def f28.F (K : Nat) (_x : Unit) : Option (Bool) := f28.T K
noncomputable def f28.av (_x : Unit) : List VV := []
noncomputable def f28.bl (_x : Unit) : List (Nat × Blk) := []
noncomputable def f28.inA : VS → Option (Unit)
  | ⟨[], [], 0⟩ => some ()
  | _ => none
noncomputable def f28.o0 (y : Bool) : VS := ⟨[(0, .bool y)], [], 0⟩
noncomputable def f28.inR : VS → Option (Bool)
  | ⟨[(0, .bool y)], [], 0⟩ => some y
  | _ => none
noncomputable def f28.E (K : Nat) : Entry := genE 0 f28.inA (f28.F K) (dv1 f28.o0)
theorem f28.ok (K : Nat) : EntryOK Try.prog 28 (f28.E K) := gen_ok mix tys_ok (tab_ok ((tab_cons (f31.ok K) (tab_cons (f24.ok K) (tab_cons (f26.ok K) (tab_cons (f29.ok K) tab_nil)))))) Try.func28 (c := bodyOf Try.f28) (by kernel_rfl) (by kernel_rfl) (loops_none (lp := lpNone) (by kernel_rfl)) (av := f28.av) (bl := f28.bl) (inR := f28.inR) (out := f28.o0) (fuel := 400)
  (by intro s x h; unfold f28.inA at h; split at h <;> simp at h; rfl) (fun _ => Nat.le_of_ble_eq_true rfl)
  (by intro s y h; unfold f28.inR at h; split at h <;> simp at h <;> subst h <;> rfl) (fun _ _ _ => rfl) (fun _ => by kernel_rfl)
end Go.Proofs

namespace Go.Proofs
open Go.VM
def So.low (h : List Int) : Nat := (h.getD 30 0).toNat * 256 + (h.getD 31 0).toNat
def So.ck (b : Nat) (h : List Int) : Bool := So.low h % 2 ^ b == 0
theorem So.shl32 (b : Nat) (hb : b ≤ 12) : shiftI .shl .u32 1 (b : Int) = ((2 ^ b : Nat) : Int) := by
  have : ∀ c : Fin 13, shiftI .shl .u32 1 ((c.val : Nat) : Int) = ((2 ^ c.val : Nat) : Int) := by decide
  exact this ⟨b, by omega⟩
theorem So.pow12 (b : Nat) (hb : b ≤ 12) : 1 ≤ 2 ^ b ∧ 2 ^ b ≤ 4096 :=
  ⟨Nat.one_le_two_pow, Nat.pow_le_pow_right (by decide) hb⟩
theorem So.and_low (x : Nat) (hx : x < 65536) (b : Nat) (hb : b ≤ 12) : bits .and .u32 (x : Int) (IntKind.wrap .u32 ((shiftI .shl .u32 1 (b : Int)) - 1)) = ((x % 2 ^ b : Nat) : Int) := by
  obtain ⟨h1, h2⟩ := So.pow12 b hb
  rw [So.shl32 b hb, show ((2 ^ b : Nat) : Int) - 1 = ((2 ^ b - 1 : Nat) : Int) by omega, wrap_32n _ (by omega), bits_and, BitVec.toNat_and]
  simp only [bv, BitVec.ofInt_natCast, BitVec.toNat_ofNat]
  rw [Nat.mod_eq_of_lt (show x < 2 ^ 32 by omega), Nat.mod_eq_of_lt (show 2 ^ b - 1 < 2 ^ 32 by omega), Nat.and_two_pow_sub_one_eq_mod]
theorem So.or32 (a c : Nat) (ha : a < 256) (hc : c < 256) : bits .or .u32 (IntKind.wrap .u32 ((IntKind.wrap .u32 (a : Int)) * 2 ^ 8)) (IntKind.wrap .u32 (c : Int)) = ((a * 256 + c : Nat) : Int) := by
  have h := Nat.shiftLeft_add_eq_or_of_lt (show c < 2 ^ 8 by omega) a
  rw [Nat.shiftLeft_eq] at h
  rw [wrap_32n a (by omega), wrap_32n c (by omega), show (a : Int) * 2 ^ 8 = ((a * 2 ^ 8 : Nat) : Int) by omega, wrap_32n _ (by omega), bits_or, BitVec.toNat_or]
  simp only [bv, BitVec.ofInt_natCast, BitVec.toNat_ofNat]
  rw [Nat.mod_eq_of_lt (show a * 2 ^ 8 < 2 ^ 32 by omega), Nat.mod_eq_of_lt (show c < 2 ^ 32 by omega), ← h]
theorem So.int_nat (n : Nat) : (((n : Nat) : Int) == 0) = (n == 0) := by
  cases h : (n == 0)
  · simp at h ⊢; omega
  · simp at h ⊢; omega
theorem f29.spec (K b : Nat) (hb : b ≤ 12) (g : Int) (I f t j : List Int) (lI : I.length = 32) (oI : octets I) (lf : f.length = 16) (of' : octets f) (lt : t.length = 16) (ot : octets t) (lj : j.length = 32) (oj : octets j) (hK : 10000 < K) :
    f29.F K ((b : Int), g, I, f, t, j) = some (So.ck b (Sh.sha (strL f29.k0) [I, f, t, j])) := by
  have hs : f29.k0.size = 4 := rfl
  simp only [f29.F, f29.T]
  rw [decide_eq_false (show ¬ ((b : Int) > 12) by omega), cond_f, subI_self I lI, subI_self f lf, subI_self t lt, subI_self j lj,
    f50.spec K f29.k0 32 I 16 f 16 t 32 j (by omega) lI oI (by omega) lf of' (by omega) lt ot (by omega) lj oj (by omega) (by omega) (by omega) (by omega) (by omega) (by omega), bind_s]
  simp only []
  rw [decide_eq_true (show (0 : Int) ≤ (b : Int) by omega), cond_t]
  have ho : octets (Sh.sha (strL f29.k0) [I, f, t, j]) := sum_octets _
  obtain ⟨a, ha, ea⟩ := getD_oct ho 30
  obtain ⟨c, hc, ec⟩ := getD_oct ho 31
  rw [ea, ec, So.or32 a c ha hc, So.and_low _ (by omega) b hb, So.int_nat, So.ck, So.low, ea, ec]
  rfl
theorem So.oct {l : List Int} (h : l.all (fun x => decide (0 ≤ x ∧ x < 256)) = true) : octets l := fun x hx => of_decide_eq_true (List.all_eq_true.1 h x hx)
def So.word : List Int := [112, 117, 122, 122, 108, 101]
theorem f24.spec (K g b s : Nat) (S f t : List Int) (lS : S.length = 32) (oS : octets S) (hg : g < 18446744073709551616) (hb : b ≤ 12) (lf : f.length = 16) (of' : octets f) (lt : t.length = 16) (ot : octets t) (hs : s < 4294967296) (h0 : s ≠ 0) (hK : 1000 < K) :
    f24.F K (S, (g : Int), (b : Int), f, t, (s : Int)) = some ((b : Int), (g : Int), Sh.mac S (So.word ++ be 8 g ++ [(b : Int)] ++ f ++ t ++ be 4 s), 0) := by
  simp only [f24.F, f24.T]
  have e8 : f41.F K (0, (g : Int), 8, 0, []) = some (0 + 8, 0 + 8, 0, [], 0 + 8, [] ++ be 8 g) := f41.spec K 0 8 g [] rfl hg (by omega) (by omega)
  have e4 : f41.F K (0, (s : Int), 4, 0, []) = some (0 + 4, 0 + 4, 0, [], 0 + 4, [] ++ be 4 s) := f41.spec K 0 4 s [] rfl (by omega) (by omega) (by omega)
  have ob : octets [(b : Int)] := by intro x hx; rw [List.mem_singleton] at hx; subst hx; omega
  have ow : octets So.word := So.oct rfl
  rw [decide_eq_false (show ¬ ((b : Int) > 12) by omega), cond_f, show (((s : Int)) == 0) = false by simp; omega, cond_f, wrap_u (s : Int) (by omega) (by omega), e8, bind_s, e4, bind_s]
  simp only [Nat.zero_add, List.nil_append]
  rw [ble_true (Nat.le_refl 8), ble_true (Nat.le_refl 4), Bool.and_self, Bool.and_self, Bool.and_self, cond_t, subI_self S lS, subI_self f lf, subI_self t lt, subI_self _ (be_length 8 g), subI_self _ (be_length 4 s),
    show ([112, 117, 122, 122, 108, 101] : List Int) = So.word from rfl,
    f22.spec K 32 S 6 So.word 8 (be 8 g) 1 [(b : Int)] 16 f 16 t 4 (be 4 s) lS oS (by omega) rfl ow (by omega) (be_length _ _) (be_octets _ _) (by omega) rfl ob (by omega) lf of' (by omega) lt ot (by omega) (be_length _ _) (be_octets _ _) (by omega) (by omega), bind_s]
theorem f24.big (K : Nat) (S f t : List Int) (g b s : Int) (hb : 12 < b) : f24.F K (S, g, b, f, t, s) = some (0, 0, List.replicate 32 0, 1) := by
  simp only [f24.F, f24.T]
  rw [decide_eq_true (show b > 12 by omega), cond_t]
  rfl
theorem f24.none (K : Nat) (S f t : List Int) (g b : Int) (hb : b ≤ 12) : f24.F K (S, g, b, f, t, 0) = some (0, 0, List.replicate 32 0, 1) := by
  simp only [f24.F, f24.T]
  rw [decide_eq_false (show ¬ b > 12 by omega), cond_f, show (((0 : Int)) == 0) = true from rfl, cond_t]
  rfl
def So.asked (n : Nat) : Nat := if n < 8 then 0 else min (blen (n / 4) - 1) 12
theorem f26.spec (K n : Nat) (hn : n < 9223372036854775808) : f26.F K (n : Int) = some ((So.asked n : Nat) : Int) := by
  simp only [f26.F, f26.T]
  unfold So.asked
  by_cases h : n < 8
  · rw [decide_eq_true (show (n : Int) < 8 by omega), cond_t, if_pos h]
    rfl
  · have hb : blen (n / 4) ≤ 63 := blen_le (by omega)
    have hb0 : 0 < blen (n / 4) := (blen_ge (x := n / 4) (by omega)).2
    rw [decide_eq_false (show ¬ (n : Int) < 8 by omega), cond_f, show Int.tdiv (n : Int) 4 = ((n / 4 : Nat) : Int) from tdiv_nat n 4, wrap_i _ (by omega) (by omega), wrap_u _ (by omega) (by omega)]
    have e : f49.F K ((n / 4 : Nat) : Int) = some ((blen (n / 4) : Nat) : Int) := by
      simp only [f49.F, f49.T]
      rw [f68.spec K _ (by omega), bind_s]
    rw [e, bind_s, wrap_i _ (by omega) (by omega), if_neg h]
    congr 1
    unfold minE
    by_cases h2 : 12 < ((blen (n / 4) : Nat) : Int) - 1
    · rw [decide_eq_true h2, cond_t, Nat.min_eq_right (by omega)]; rfl
    · rw [decide_eq_false h2, cond_f, wrap8, Nat.min_eq_left (by omega)]; omega
theorem f26.neg (K : Nat) : f26.F K (-1) = some 0 := by
  simp only [f26.F, f26.T]
  rfl
theorem So.cand_length (k : Nat) : (So.cand k).length = 32 := by simp [So.cand, be_length]
theorem So.cand_octets (k : Nat) : octets (So.cand k) := octets_append (octets_zeros 24) (be_octets 8 k)
theorem So.ck0 (h : List Int) : So.ck 0 h = true := by
  simp [So.ck, Nat.mod_one]
theorem f28.holds (K : Nat) (hK : 10000 < K) : f28.F K () = some true := by
  have z32 : octets (List.replicate 32 0) := octets_zeros 32
  have z16 : octets (List.replicate 16 0) := octets_zeros 16
  have hc : ∀ j, j.length = 32 → octets j → f29.F K (0, 0, List.replicate 32 0, List.replicate 16 0, List.replicate 16 0, j) = some true := fun j hj oj =>
    (f29.spec K 0 (by omega) 0 (List.replicate 32 0) (List.replicate 16 0) (List.replicate 16 0) j (by simp) z32 (by simp) z16 (by simp) z16 hj oj hK).trans (by rw [So.ck0])
  have h31 : f31.F K (0, 0, List.replicate 32 0, List.replicate 16 0, List.replicate 16 0) = some (List.replicate 32 0, 0) := by
    unfold f31.F
    simp only
    rw [if_neg (by decide), if_pos (fun k => ⟨true, hc _ (So.cand_length k) (So.cand_octets k)⟩), show (65536 : Nat) = 65535 + 1 from rfl, So.first, if_pos (show So.pass K _ 0 = true from by unfold So.pass; simp only; rw [hc _ (So.cand_length 0) (So.cand_octets 0)]; rfl)]
    rfl
  have l1 : f29.F K (0, 0, List.replicate 32 0, List.replicate 16 0, List.replicate 16 0, [1, 0, 0, 0, 0, 0, 0, 0, 0, 0, 0, 0, 0, 0, 0, 0, 0, 0, 0, 0, 0, 0, 0, 0, 0, 0, 0, 0, 0, 0, 0, 0]) = some true := hc _ rfl (So.oct rfl)
  simp only [f28.F, f28.T]
  rw [show f31.F K (0, 0, [0, 0, 0, 0, 0, 0, 0, 0, 0, 0, 0, 0, 0, 0, 0, 0, 0, 0, 0, 0, 0, 0, 0, 0, 0, 0, 0, 0, 0, 0, 0, 0], [0, 0, 0, 0, 0, 0, 0, 0, 0, 0, 0, 0, 0, 0, 0, 0], [0, 0, 0, 0, 0, 0, 0, 0, 0, 0, 0, 0, 0, 0, 0, 0]) = _ from h31, bind_s,
    f24.big K _ _ _ 0 13 1 (by decide), bind_s, f24.none K _ _ _ 0 0 (by decide), bind_s,
    show f26.F K 7 = some 0 from f26.spec K 7 (by decide), bind_s, show f26.F K 8 = some 1 from f26.spec K 8 (by decide), bind_s, show f26.F K 16 = some 2 from f26.spec K 16 (by decide), bind_s, show f26.F K 1000000 = some 12 from f26.spec K 1000000 (by decide), bind_s, f26.neg, bind_s, show f29.F K (0, 0, [0, 0, 0, 0, 0, 0, 0, 0, 0, 0, 0, 0, 0, 0, 0, 0, 0, 0, 0, 0, 0, 0, 0, 0, 0, 0, 0, 0, 0, 0, 0, 0], [0, 0, 0, 0, 0, 0, 0, 0, 0, 0, 0, 0, 0, 0, 0, 0], [0, 0, 0, 0, 0, 0, 0, 0, 0, 0, 0, 0, 0, 0, 0, 0], [1, 0, 0, 0, 0, 0, 0, 0, 0, 0, 0, 0, 0, 0, 0, 0, 0, 0, 0, 0, 0, 0, 0, 0, 0, 0, 0, 0, 0, 0, 0, 0]) = _ from l1, bind_s]
  rfl
end Go.Proofs

namespace Go.Proofs
open Go.VM
end Go.Proofs

namespace Go.Proofs
open Go.VM
end Go.Proofs

namespace Go.Proofs
open Go.VM
end Go.Proofs

namespace Go.Proofs
open Go.VM
end Go.Proofs

namespace Go.Proofs
open Go.VM
end Go.Proofs

namespace Go.Proofs
open Go.VM
end Go.Proofs

namespace Go.Proofs
open Go.VM
end Go.Proofs

namespace Go.Proofs
open Go.VM
end Go.Proofs

namespace Go.Proofs
open Go.VM
end Go.Proofs

namespace Go.Proofs
open Go.VM
end Go.Proofs

namespace Go.Proofs
open Go.VM
end Go.Proofs

namespace Go.Proofs
open Go.VM
end Go.Proofs

namespace Go.Proofs
open Go.VM
end Go.Proofs

namespace Go.Proofs
open Go.VM
end Go.Proofs

namespace Go.Proofs
open Go.VM
end Go.Proofs

namespace Go.Proofs
open Go.VM
end Go.Proofs

namespace Go.Proofs
open Go.VM
end Go.Proofs

namespace Go.Proofs
open Go.VM
end Go.Proofs

namespace Go.Proofs
open Go.VM
end Go.Proofs

namespace Go.Proofs
open Go.VM
end Go.Proofs

namespace Go.Proofs
open Go.VM
end Go.Proofs

namespace Go.Proofs
open Go.VM
def Dr.sum (s : List Int) (n : Nat) : List Int := Sh.mac s ([100, 114, 97, 119] ++ be 8 n)
end Go.Proofs

namespace Go.Proofs
open Go.VM
theorem eqL_refl (n : Nat) (l : List Int) : eqL n l l = true := by simp [eqL]
end Go.Proofs

namespace Go.Proofs
open Go.VM
end Go.Proofs

namespace Go.Proofs
open Go.VM
end Go.Proofs

namespace Go.Proofs
open Go.VM
end Go.Proofs

namespace Go.Proofs
open Go.VM
abbrev f19.Ty0 := Nat × Int × Nat × List Int × List Int × Nat × List Int × List Int × List Int
abbrev f19.Ty1 := Nat × Int × Int × Nat × List Int × List Int × Nat × List Int
abbrev f19.Ty2 := Nat × Nat × Nat × List Int × List Int × Nat × List Int
abbrev f19.Ty3 := Int × Nat × List Int × List Int × List Int × List Int
abbrev f19.Ty4 := Nat × Nat × List Int × List Int × Nat × List Int
abbrev f19.Ty5 := Nat × List Int × List Int × List Int
abbrev f19.Ty6 := List Int × Nat × List Int
abbrev f19.Ty7 := Nat × Nat × List Int
noncomputable def f19.c : Code := bodyOf Try.f19
def f19.s0t (_K : Nat) (rec : f19.Ty2 → Option (f19.Ty2)) (t0 : Nat) (t3 : Nat) (b0_0 : Nat) (b0_1 : List Int) (b2 : List Int) (b3_0 : Nat) (b3_1 : List Int) : Option (f19.Ty2) :=
  bif ((Int.tmod ((t3 : Nat) : Int) 64) != 56) then
    bif (Nat.ble t3 b3_0 && (fitB ((t3 + 1) * 1))) then
      rec (t0, (t3 + 1), b0_0, b0_1, b2, (t3 + 1), ((padT b3_1 t3) ++ [0]))
    else
      none
  else
    some (t0, t3, b0_0, b0_1, b2, b3_0, b3_1)
def f19.s0 (K : Nat) (rec : f19.Ty2 → Option (f19.Ty2)) (x : f19.Ty2) : Option (f19.Ty2) := f19.s0t K rec x.1 x.2.1 x.2.2.1 x.2.2.2.1 x.2.2.2.2.1 x.2.2.2.2.2.1 x.2.2.2.2.2.2
noncomputable def f19.s0.b : Code := (findLoop 0 f19.c).getD .skip
def f19.s0.h : Hint := { lv := [0, 2, 3] }
def f19.s0.ho : Hint := { lv := [0, 2, 3] }
def f19.s0.shp (x : f19.Ty2) : VS := ⟨[(0, .vw true 0 0 x.1 1), (2, .ptr 2 0), (3, .vec 3 0 x.2.1 4)], [(0, ([.ints .u8 x.2.2.1 x.2.2.2.1], 0, .ro)), (2, ([.ints .u8 32 x.2.2.2.2.1], 35, .norm)), (3, ([.ints .u8 x.2.2.2.2.2.1 x.2.2.2.2.2.2], 5, .vec 4))], 5⟩
def f19.s0.inX : VS → Option (f19.Ty2)
  | ⟨[(0, .vw true 0 0 t0 1), (2, .ptr 2 0), (3, .vec 3 0 t3 4)], [(0, ([.ints .u8 b0_0 b0_1], 0, .ro)), (2, ([.ints .u8 32 b2], 35, .norm)), (3, ([.ints .u8 b3_0 b3_1], 5, .vec 4))], 5⟩ => some (t0, t3, b0_0, b0_1, b2, b3_0, b3_1)
  | _ => none
def f19.s0.o0 (y : f19.Ty2) : VS := ⟨[(0, .vw true 0 0 y.1 1), (2, .ptr 2 0), (3, .vec 3 0 y.2.1 4)], [(0, ([.ints .u8 y.2.2.1 y.2.2.2.1], 0, .ro)), (2, ([.ints .u8 32 y.2.2.2.2.1], 35, .norm)), (3, ([.ints .u8 y.2.2.2.2.2.1 y.2.2.2.2.2.2], 5, .vec 4))], 5⟩
def f19.s0.des : ∀ α : Type, (f19.Ty2) → (Ex → VS → Option α) → Option α := (des1 (.exit 0) f19.s0.o0)
def f19.s0.out : f19.Ty2 → Ex × VS := (fun y => (.exit 0, f19.s0.o0 y))
theorem f19.s0.desOK : ∀ α y (k : Ex → VS → Option α), f19.s0.des α y k = k (f19.s0.out y).1 (f19.s0.out y).2 := (fun _ _ _ => rfl)
def f19.s0.inY : Ex → VS → Option (f19.Ty2)
  | .exit 0, ⟨[(0, .vw true 0 0 t0 1), (2, .ptr 2 0), (3, .vec 3 0 t3 4)], [(0, ([.ints .u8 b0_0 b0_1], 0, .ro)), (2, ([.ints .u8 32 b2], 35, .norm)), (3, ([.ints .u8 b3_0 b3_1], 5, .vec 4))], 5⟩ => some (t0, t3, b0_0, b0_1, b2, b3_0, b3_1)
  | _, _ => none
def f19.s2t (_K : Nat) (rec : f19.Ty1 → Option (f19.Ty4)) (t3 : Nat) (t4 : Int) (t5 : Int) (b0_0 : Nat) (b0_1 : List Int) (b2 : List Int) (b3_0 : Nat) (b3_1 : List Int) : Option (f19.Ty4) :=
  bif (decide (t5 < 8)) then
    let v12 := IntKind.wrap .i64 (56 - (IntKind.wrap .i64 (8 * t5)))
    bif decide (0 ≤ v12) then
      bif (Nat.ble t3 b3_0 && (fitB ((t3 + 1) * 1))) then
        rec ((t3 + 1), t4, (IntKind.wrap .i64 (t5 + 1)), b0_0, b0_1, b2, (t3 + 1), ((padT b3_1 t3) ++ [(IntKind.wrap .u8 (shiftI .shr .u64 t4 v12))]))
      else
        none
    else
      none
  else
    some (t3, b0_0, b0_1, b2, b3_0, b3_1)
def f19.s2 (K : Nat) (rec : f19.Ty1 → Option (f19.Ty4)) (x : f19.Ty1) : Option (f19.Ty4) := f19.s2t K rec x.1 x.2.1 x.2.2.1 x.2.2.2.1 x.2.2.2.2.1 x.2.2.2.2.2.1 x.2.2.2.2.2.2.1 x.2.2.2.2.2.2.2
noncomputable def f19.s2.b : Code := (findLoop 2 f19.c).getD .skip
def f19.s2.h : Hint := { lv := [2, 3, 4, 5] }
def f19.s2.ho : Hint := { lv := [2, 3] }
def f19.s2.shp (x : f19.Ty1) : VS := ⟨[(2, .ptr 2 0), (3, .vec 3 0 x.1 4), (4, .int .u64 x.2.1), (5, .int .i64 x.2.2.1)], [(0, ([.ints .u8 x.2.2.2.1 x.2.2.2.2.1], 0, .ro)), (2, ([.ints .u8 32 x.2.2.2.2.2.1], 35, .norm)), (3, ([.ints .u8 x.2.2.2.2.2.2.1 x.2.2.2.2.2.2.2], 5, .vec 4))], 5⟩
def f19.s2.inX : VS → Option (f19.Ty1)
  | ⟨[(2, .ptr 2 0), (3, .vec 3 0 t3 4), (4, .int .u64 t4), (5, .int .i64 t5)], [(0, ([.ints .u8 b0_0 b0_1], 0, .ro)), (2, ([.ints .u8 32 b2], 35, .norm)), (3, ([.ints .u8 b3_0 b3_1], 5, .vec 4))], 5⟩ => some (t3, t4, t5, b0_0, b0_1, b2, b3_0, b3_1)
  | _ => none
def f19.s2.o0 (y : f19.Ty4) : VS := ⟨[(2, .ptr 2 0), (3, .vec 3 0 y.1 4)], [(0, ([.ints .u8 y.2.1 y.2.2.1], 0, .ro)), (2, ([.ints .u8 32 y.2.2.2.1], 35, .norm)), (3, ([.ints .u8 y.2.2.2.2.1 y.2.2.2.2.2], 5, .vec 4))], 5⟩
def f19.s2.des : ∀ α : Type, (f19.Ty4) → (Ex → VS → Option α) → Option α := (des1 (.exit 2) f19.s2.o0)
def f19.s2.out : f19.Ty4 → Ex × VS := (fun y => (.exit 2, f19.s2.o0 y))
theorem f19.s2.desOK : ∀ α y (k : Ex → VS → Option α), f19.s2.des α y k = k (f19.s2.out y).1 (f19.s2.out y).2 := (fun _ _ _ => rfl)
def f19.s2.inY : Ex → VS → Option (f19.Ty4)
  | .exit 2, ⟨[(2, .ptr 2 0), (3, .vec 3 0 t3 4)], [(0, ([.ints .u8 b0_0 b0_1], 0, .ro)), (2, ([.ints .u8 32 b2], 35, .norm)), (3, ([.ints .u8 b3_0 b3_1], 5, .vec 4))], 5⟩ => some (t3, b0_0, b0_1, b2, b3_0, b3_1)
  | _, _ => none
def f19.s4t (K : Nat) (rec : f19.Ty0 → Option (f19.Ty5)) (t3 : Nat) (t8 : Int) (b0_0 : Nat) (b0_1 : List Int) (b2 : List Int) (b3_0 : Nat) (b3_1 : List Int) (b5 : List Int) (b6 : List Int) : Option (f19.Ty5) :=
  bif (decide (t8 < ((t3 : Nat) : Int))) then
    let v21 := IntKind.wrap .i64 (t8 + 64)
    bif ((decide (0 ≤ v21 ∧ v21 ≤ ((t3 : Nat) : Int)) && (decide (0 ≤ t8 ∧ t8 ≤ ((Int.toNat v21 : Nat) : Int)))) && (Nat.ble (0 + t3) b3_0)) then
      let v22 := 0 + (Int.toNat t8)
      let v23 := (Int.toNat v21) - (Int.toNat t8)
      bif ((Nat.ble (v22 + v23) b3_0 && true) && true) then
        (f44.F K (b5, v23, 64, v23, (subI b3_1 v22 v23), 64, (subI b6 0 64))).bind fun y24 =>
        rec (t3, (IntKind.wrap .i64 (t8 + 64)), b0_0, b0_1, b2, b3_0, b3_1, y24.1, b6)
      else
        none
    else
      none
  else
    some (b0_0, b0_1, b2, b5)
def f19.s4 (K : Nat) (rec : f19.Ty0 → Option (f19.Ty5)) (x : f19.Ty0) : Option (f19.Ty5) := f19.s4t K rec x.1 x.2.1 x.2.2.1 x.2.2.2.1 x.2.2.2.2.1 x.2.2.2.2.2.1 x.2.2.2.2.2.2.1 x.2.2.2.2.2.2.2.1 x.2.2.2.2.2.2.2.2
noncomputable def f19.s4.b : Code := (findLoop 4 f19.c).getD .skip
def f19.s4.h : Hint := { lv := [2, 3, 6, 7, 8] }
def f19.s4.ho : Hint := { lv := [2, 6] }
def f19.s4.shp (x : f19.Ty0) : VS := ⟨[(2, .ptr 2 0), (3, .vec 3 0 x.1 4), (6, .ptr 5 0), (7, .sl 6 0 64 64), (8, .int .i64 x.2.1)], [(0, ([.ints .u8 x.2.2.1 x.2.2.2.1], 0, .ro)), (2, ([.ints .u8 32 x.2.2.2.2.1], 35, .norm)), (3, ([.ints .u8 x.2.2.2.2.2.1 x.2.2.2.2.2.2.1], 5, .vec 4)), (5, ([.ints .u32 8 x.2.2.2.2.2.2.2.1], 88, .norm)), (6, ([.ints .u32 64 x.2.2.2.2.2.2.2.2], 48, .norm))], 7⟩
def f19.s4.inX : VS → Option (f19.Ty0)
  | ⟨[(2, .ptr 2 0), (3, .vec 3 0 t3 4), (6, .ptr 5 0), (7, .sl 6 0 64 64), (8, .int .i64 t8)], [(0, ([.ints .u8 b0_0 b0_1], 0, .ro)), (2, ([.ints .u8 32 b2], 35, .norm)), (3, ([.ints .u8 b3_0 b3_1], 5, .vec 4)), (5, ([.ints .u32 8 b5], 88, .norm)), (6, ([.ints .u32 64 b6], 48, .norm))], 7⟩ => some (t3, t8, b0_0, b0_1, b2, b3_0, b3_1, b5, b6)
  | _ => none
def f19.s4.o0 (y : f19.Ty5) : VS := ⟨[(2, .ptr 2 0), (6, .ptr 3 0)], [(0, ([.ints .u8 y.1 y.2.1], 0, .ro)), (2, ([.ints .u8 32 y.2.2.1], 35, .norm)), (3, ([.ints .u32 8 y.2.2.2], 88, .norm))], 4⟩
def f19.s4.des : ∀ α : Type, (f19.Ty5) → (Ex → VS → Option α) → Option α := (des1 (.exit 4) f19.s4.o0)
def f19.s4.out : f19.Ty5 → Ex × VS := (fun y => (.exit 4, f19.s4.o0 y))
theorem f19.s4.desOK : ∀ α y (k : Ex → VS → Option α), f19.s4.des α y k = k (f19.s4.out y).1 (f19.s4.out y).2 := (fun _ _ _ => rfl)
def f19.s4.inY : Ex → VS → Option (f19.Ty5)
  | .exit 4, ⟨[(2, .ptr 2 0), (6, .ptr 3 0)], [(0, ([.ints .u8 b0_0 b0_1], 0, .ro)), (2, ([.ints .u8 32 b2], 35, .norm)), (3, ([.ints .u32 8 b3], 88, .norm))], 4⟩ => some (b0_0, b0_1, b2, b3)
  | _, _ => none
def f19.s6t (_K : Nat) (rec : f19.Ty3 → Option (f19.Ty5)) (t10 : Int) (b0_0 : Nat) (b0_1 : List Int) (b2 : List Int) (b3 : List Int) (b4 : List Int) : Option (f19.Ty5) :=
  bif (decide (t10 < 32)) then
    let v28 := IntKind.wrap .i64 (Int.tdiv t10 4)
    bif decide (0 ≤ v28 ∧ v28 < 8) then
      let v33 := IntKind.wrap .i64 (24 - (IntKind.wrap .i64 (8 * (Int.tmod t10 4))))
      bif decide (0 ≤ v33) then
        bif decide (0 ≤ t10 ∧ t10 < 32) then
          rec ((IntKind.wrap .i64 (t10 + 1)), b0_0, b0_1, b2, b3, (setD b4 (Int.toNat t10) (IntKind.wrap .u8 (shiftI .shr .u32 (List.getD b3 (Int.toNat v28) 0) v33))))
        else
          none
      else
        none
    else
      none
  else
    some (b0_0, b0_1, b2, b4)
def f19.s6 (K : Nat) (rec : f19.Ty3 → Option (f19.Ty5)) (x : f19.Ty3) : Option (f19.Ty5) := f19.s6t K rec x.1 x.2.1 x.2.2.1 x.2.2.2.1 x.2.2.2.2.1 x.2.2.2.2.2
noncomputable def f19.s6.b : Code := (findLoop 6 f19.c).getD .skip
def f19.s6.h : Hint := { lv := [2, 6, 9, 10] }
def f19.s6.ho : Hint := { lv := [2, 9] }
def f19.s6.shp (x : f19.Ty3) : VS := ⟨[(2, .ptr 2 0), (6, .ptr 3 0), (9, .ptr 4 0), (10, .int .i64 x.1)], [(0, ([.ints .u8 x.2.1 x.2.2.1], 0, .ro)), (2, ([.ints .u8 32 x.2.2.2.1], 35, .norm)), (3, ([.ints .u32 8 x.2.2.2.2.1], 88, .norm)), (4, ([.ints .u8 32 x.2.2.2.2.2], 35, .norm))], 5⟩
def f19.s6.inX : VS → Option (f19.Ty3)
  | ⟨[(2, .ptr 2 0), (6, .ptr 3 0), (9, .ptr 4 0), (10, .int .i64 t10)], [(0, ([.ints .u8 b0_0 b0_1], 0, .ro)), (2, ([.ints .u8 32 b2], 35, .norm)), (3, ([.ints .u32 8 b3], 88, .norm)), (4, ([.ints .u8 32 b4], 35, .norm))], 5⟩ => some (t10, b0_0, b0_1, b2, b3, b4)
  | _ => none
def f19.s6.o0 (y : f19.Ty5) : VS := ⟨[(2, .ptr 2 0), (9, .ptr 3 0)], [(0, ([.ints .u8 y.1 y.2.1], 0, .ro)), (2, ([.ints .u8 32 y.2.2.1], 35, .norm)), (3, ([.ints .u8 32 y.2.2.2], 35, .norm))], 4⟩
def f19.s6.des : ∀ α : Type, (f19.Ty5) → (Ex → VS → Option α) → Option α := (des1 (.exit 6) f19.s6.o0)
def f19.s6.out : f19.Ty5 → Ex × VS := (fun y => (.exit 6, f19.s6.o0 y))
theorem f19.s6.desOK : ∀ α y (k : Ex → VS → Option α), f19.s6.des α y k = k (f19.s6.out y).1 (f19.s6.out y).2 := (fun _ _ _ => rfl)
def f19.s6.inY : Ex → VS → Option (f19.Ty5)
  | .exit 6, ⟨[(2, .ptr 2 0), (9, .ptr 3 0)], [(0, ([.ints .u8 b0_0 b0_1], 0, .ro)), (2, ([.ints .u8 32 b2], 35, .norm)), (3, ([.ints .u8 32 b3], 35, .norm))], 4⟩ => some (b0_0, b0_1, b2, b3)
  | _, _ => none
def f19.lp (K : Nat) : Nat → Option (Hint × Summ) := tabLp [(0, f19.s0.h, summOf (iter (f19.s0 K) K) f19.s0.inX f19.s0.des), (2, f19.s2.h, summOf (iter (f19.s2 K) K) f19.s2.inX f19.s2.des), (4, f19.s4.h, summOf (iter (f19.s4 K) K) f19.s4.inX f19.s4.des), (6, f19.s6.h, summOf (iter (f19.s6 K) K) f19.s6.inX f19.s6.des)]
noncomputable def f19.tab (K : Nat) : List (Nat × Entry) := [(43, (f43.E K)), (44, (viewE [(1, .u8), (2, .u32)] (f44.E K)))]
theorem f19.tabOK (K : Nat) : SpecOK Try.prog (tabSp (f19.tab K)) := tab_ok ((tab_cons (f43.ok K) (tab_cons (view_ok (f44.ok K)) tab_nil)))
theorem f19.s0.eq (K : Nat) (rec : f19.Ty2 → Option (f19.Ty2)) (x : f19.Ty2) : f19.s0 K rec x = roundL (getA tys) (tabSp (f19.tab K)) 72 2 (f19.lp K) 400 f19.s0.b f19.s0.h f19.s0.ho f19.s0.shp f19.s0.inX f19.s0.inY rec x := by kernel_rfl
theorem f19.s0.lok (K : Nat) : LoopsOK Try.prog 72 2 (f19.lp K) f19.s0.b := loops_ok (by
  have h : loopsIn (f19.lp K) f19.s0.b = [] := by kernel_rfl
  rw [h]; simp)
theorem f19.s0.ok (K : Nat) : SummOK Try.prog 72 2 (summOf (iter (f19.s0 K) K) f19.s0.inX f19.s0.des) f19.s0.b :=
  loop_ok mix tys_ok (f19.tabOK K) (h := f19.s0.h) (ho := f19.s0.ho) (shp := f19.s0.shp) (inX := f19.s0.inX) (des := f19.s0.des) (out := f19.s0.out) (inY := f19.s0.inY) (fuel := 400)
    (by intro st x h; unfold f19.s0.inX at h; split at h <;> simp at h; subst h; rfl)
    (by intro e st y h; unfold f19.s0.inY at h; split at h <;> simp at h <;> subst h <;> rfl)
    f19.s0.desOK (f19.s0.lok K) (f19.s0 K) (f19.s0.eq K) K
theorem f19.s2.eq (K : Nat) (rec : f19.Ty1 → Option (f19.Ty4)) (x : f19.Ty1) : f19.s2 K rec x = roundL (getA tys) (tabSp (f19.tab K)) 72 2 (f19.lp K) 400 f19.s2.b f19.s2.h f19.s2.ho f19.s2.shp f19.s2.inX f19.s2.inY rec x := by kernel_rfl
theorem f19.s2.lok (K : Nat) : LoopsOK Try.prog 72 2 (f19.lp K) f19.s2.b := loops_ok (by
  have h : loopsIn (f19.lp K) f19.s2.b = [] := by kernel_rfl
  rw [h]; simp)
theorem f19.s2.ok (K : Nat) : SummOK Try.prog 72 2 (summOf (iter (f19.s2 K) K) f19.s2.inX f19.s2.des) f19.s2.b :=
  loop_ok mix tys_ok (f19.tabOK K) (h := f19.s2.h) (ho := f19.s2.ho) (shp := f19.s2.shp) (inX := f19.s2.inX) (des := f19.s2.des) (out := f19.s2.out) (inY := f19.s2.inY) (fuel := 400)
    (by intro st x h; unfold f19.s2.inX at h; split at h <;> simp at h; subst h; rfl)
    (by intro e st y h; unfold f19.s2.inY at h; split at h <;> simp at h <;> subst h <;> rfl)
    f19.s2.desOK (f19.s2.lok K) (f19.s2 K) (f19.s2.eq K) K
theorem f19.s4.eq (K : Nat) (rec : f19.Ty0 → Option (f19.Ty5)) (x : f19.Ty0) : f19.s4 K rec x = roundL (getA tys) (tabSp (f19.tab K)) 72 2 (f19.lp K) 400 f19.s4.b f19.s4.h f19.s4.ho f19.s4.shp f19.s4.inX f19.s4.inY rec x := by kernel_rfl
theorem f19.s4.lok (K : Nat) : LoopsOK Try.prog 72 2 (f19.lp K) f19.s4.b := loops_ok (by
  have h : loopsIn (f19.lp K) f19.s4.b = [] := by kernel_rfl
  rw [h]; simp)
theorem f19.s4.ok (K : Nat) : SummOK Try.prog 72 2 (summOf (iter (f19.s4 K) K) f19.s4.inX f19.s4.des) f19.s4.b :=
  loop_ok mix tys_ok (f19.tabOK K) (h := f19.s4.h) (ho := f19.s4.ho) (shp := f19.s4.shp) (inX := f19.s4.inX) (des := f19.s4.des) (out := f19.s4.out) (inY := f19.s4.inY) (fuel := 400)
    (by intro st x h; unfold f19.s4.inX at h; split at h <;> simp at h; subst h; rfl)
    (by intro e st y h; unfold f19.s4.inY at h; split at h <;> simp at h <;> subst h <;> rfl)
    f19.s4.desOK (f19.s4.lok K) (f19.s4 K) (f19.s4.eq K) K
theorem f19.s6.eq (K : Nat) (rec : f19.Ty3 → Option (f19.Ty5)) (x : f19.Ty3) : f19.s6 K rec x = roundL (getA tys) (tabSp (f19.tab K)) 72 2 (f19.lp K) 400 f19.s6.b f19.s6.h f19.s6.ho f19.s6.shp f19.s6.inX f19.s6.inY rec x := by kernel_rfl
theorem f19.s6.lok (K : Nat) : LoopsOK Try.prog 72 2 (f19.lp K) f19.s6.b := loops_ok (by
  have h : loopsIn (f19.lp K) f19.s6.b = [] := by kernel_rfl
  rw [h]; simp)
theorem f19.s6.ok (K : Nat) : SummOK Try.prog 72 2 (summOf (iter (f19.s6 K) K) f19.s6.inX f19.s6.des) f19.s6.b :=
  loop_ok mix tys_ok (f19.tabOK K) (h := f19.s6.h) (ho := f19.s6.ho) (shp := f19.s6.shp) (inX := f19.s6.inX) (des := f19.s6.des) (out := f19.s6.out) (inY := f19.s6.inY) (fuel := 400)
    (by intro st x h; unfold f19.s6.inX at h; split at h <;> simp at h; subst h; rfl)
    (by intro e st y h; unfold f19.s6.inY at h; split at h <;> simp at h <;> subst h <;> rfl)
    f19.s6.desOK (f19.s6.lok K) (f19.s6 K) (f19.s6.eq K) K
theorem f19.loops (K : Nat) : LoopsOK Try.prog 72 2 (f19.lp K) f19.c := loops_ok (by
  have h : loopsIn (f19.lp K) f19.c = [(0, f19.s0.b), (2, f19.s2.b), (4, f19.s4.b), (6, f19.s6.b)] := by kernel_rfl
  rw [h]
  intro p hp
  simp only [List.mem_cons, List.not_mem_nil, or_false] at hp
  rcases hp with rfl | rfl | rfl | rfl
  · exact ⟨_, rfl, (f19.s0.ok K)⟩
  · exact ⟨_, rfl, (f19.s2.ok K)⟩
  · exact ⟨_, rfl, (f19.s4.ok K)⟩
  · exact ⟨_, rfl, (f19.s6.ok K)⟩)
def f19.T (K : Nat) (a0 : Nat) (m0_0 : Nat) (m0_1 : List Int) : Option (f19.Ty6) :=
  bif (Nat.ble (0 + a0) m0_0 && (fitB (a0 * 1))) then
    bif (Nat.ble a0 a0 && (fitB ((a0 + 1) * 1))) then
      (iter (f19.s0 K) K (a0, (a0 + 1), m0_0, m0_1, [0, 0, 0, 0, 0, 0, 0, 0, 0, 0, 0, 0, 0, 0, 0, 0, 0, 0, 0, 0, 0, 0, 0, 0, 0, 0, 0, 0, 0, 0, 0, 0], (a0 + 1), ((padT (subI m0_1 0 a0) a0) ++ [128]))).bind fun y6 =>
      (iter (f19.s2 K) K (y6.2.1, (IntKind.wrap .u64 (8 * (IntKind.wrap .u64 ((y6.1 : Nat) : Int)))), 0, y6.2.2.1, y6.2.2.2.1, y6.2.2.2.2.1, y6.2.2.2.2.2.1, y6.2.2.2.2.2.2)).bind fun y17 =>
      (f43.F K ()).bind fun y18 =>
      (iter (f19.s4 K) K (y17.1, 0, y17.2.1, y17.2.2.1, y17.2.2.2.1, y17.2.2.2.2.1, y17.2.2.2.2.2, [1779033703, 3144134277, 1013904242, 2773480762, 1359893119, 2600822924, 528734635, 1541459225], y18)).bind fun y26 =>
      (iter (f19.s6 K) K (0, y26.1, y26.2.1, y26.2.2.1, y26.2.2.2, [0, 0, 0, 0, 0, 0, 0, 0, 0, 0, 0, 0, 0, 0, 0, 0, 0, 0, 0, 0, 0, 0, 0, 0, 0, 0, 0, 0, 0, 0, 0, 0])).bind fun y39 =>
      some (y39.2.2.2, y39.1, y39.2.1)
    else
      none
  else
    none
def f19.F (K : Nat) (x : f19.Ty7) : Option (f19.Ty6) := f19.T K x.1 x.2.1 x.2.2
def f19.av (x : f19.Ty7) : List VV := [.vw true 0 0 x.1 1]
def f19.bl (x : f19.Ty7) : List (Nat × Blk) := [(0, ([.ints .u8 x.2.1 x.2.2], 0, .ro))]
def f19.inA : VS → Option (f19.Ty7)
  | ⟨[(0, .vw true 0 0 a0 1)], [(0, ([.ints .u8 m0_0 m0_1], 0, .ro))], 2⟩ => some (a0, m0_0, m0_1)
  | _ => none
def f19.o0 (y : f19.Ty6) : VS := ⟨[(0, .agg [.ints .u8 32 y.1])], [(0, ([.ints .u8 y.2.1 y.2.2], 0, .ro))], 2⟩
def f19.des : ∀ α : Type, (f19.Ty6) → (VS → Option α) → Option α := (dv1 f19.o0)
def f19.out : f19.Ty6 → VS := f19.o0
def f19.inR : VS → Option (f19.Ty6)
  | ⟨[(0, .agg [.ints .u8 32 y])], [(0, ([.ints .u8 z0_0 z0_1], 0, .ro))], 2⟩ => some (y, z0_0, z0_1)
  | _ => none
noncomputable def f19.E (K : Nat) : Entry := genE 2 f19.inA (f19.F K) f19.des
theorem f19.eq (K : Nat) (x : f19.Ty7) : f19.F K x = xrun (getA tys) (tabSp (f19.tab K)) Try.f19.ntmps 2 (f19.lp K) 400 f19.c ⟨initL 0 (f19.av x), f19.bl x, 2⟩ (contF (getA tys) 2 Try.f19.results.toList f19.inR) := by kernel_rfl
theorem f19.ok (K : Nat) : EntryOK Try.prog 19 (f19.E K) :=
  gen_ok mix tys_ok (f19.tabOK K) Try.func19 (by kernel_rfl : Try.f19.body = some f19.c) (by kernel_rfl) (f19.loops K) (av := f19.av) (bl := f19.bl) (out := f19.out) (fuel := 400)
    (by intro s x h; unfold f19.inA at h; split at h <;> simp at h; subst h; rfl) (fun _ => Nat.le_of_ble_eq_true rfl)
    (by intro s y h; unfold f19.inR at h; split at h <;> simp at h <;> subst h <;> rfl) (fun _ _ _ => rfl) (f19.eq K)
end Go.Proofs

namespace Go.Proofs
open Go.VM
theorem f44.third (K : Nat) (b k4 z : List Int) (s : List Int) (hK : 64 < K) :
    iter (f44.s4 K) K (64, 0, 64, b, 64, Sh.consts, k4, z, Rf.tab b 64, s) = some (64, b, 64, Sh.consts, k4, z, Rf.rounds s b 64) := by
  have := iter_for (stp := f44.s4 K) (N := 64) (fun i => (64, (i : Int), 64, b, 64, Sh.consts, k4, z, Rf.tab b 64, Rf.rounds s b i)) (y := some (64, b, 64, Sh.consts, k4, z, Rf.rounds s b 64)) ?_ ?_ hK
  · exact this
  · intro i hi rec
    simp only [f44.s4, f44.s4t]
    rw [decide_eq_true (show (i : Int) < 64 by omega), cond_t]
    have r : ∀ (x : Int) (n : Nat), 1 ≤ n → n ≤ 31 → f64.F K (x, (n : Int)) = some (Rf.round x n) := fun x n h1 h2 => f64.spec K x n h1 h2
    rw [show ((6 : Int)) = ((6 : Nat) : Int) from rfl, show ((11 : Int)) = ((11 : Nat) : Int) from rfl, show ((25 : Int)) = ((25 : Nat) : Int) from rfl, r _ 6 (by omega) (by omega), bind_s, r _ 11 (by omega) (by omega), bind_s, r _ 25 (by omega) (by omega), bind_s,
      decide_eq_true (show (0 : Int) ≤ (i : Int) ∧ (i : Int) < ((64 : Nat) : Int) by omega), cond_t]
    simp only [Int.toNat_natCast, Nat.zero_add]
    rw [show Nat.blt i 64 = true from by simp [Nat.blt_eq]; omega, cond_t, decide_eq_true (show (0 : Int) ≤ (i : Int) ∧ (i : Int) < 64 by omega), cond_t,
      show ((2 : Int)) = ((2 : Nat) : Int) from rfl, show ((13 : Int)) = ((13 : Nat) : Int) from rfl, show ((22 : Int)) = ((22 : Nat) : Int) from rfl, r _ 2 (by omega) (by omega), bind_s, r _ 13 (by omega) (by omega), bind_s, r _ 22 (by omega) (by omega), bind_s, Rf.tab_at b 64 i (by omega) (by omega), wrap_i _ (by omega) (by omega)]
    rfl
  · intro rec
    simp only [f44.s4, f44.s4t]
    rfl
theorem f44.fourth (K : Nat) (b s v z : List Int) (k2 : Nat) (k2l : List Int) (hK : 8 < K) :
    iter (f44.s6 K) K (0, 64, b, k2, k2l, s, z, v) = some (64, b, k2, k2l, z, Sh.added s v 8) := by
  have := iter_for (stp := f44.s6 K) (N := 8) (fun i => ((i : Int), 64, b, k2, k2l, s, z, Sh.added s v i)) (y := some (64, b, k2, k2l, z, Sh.added s v 8)) ?_ ?_ hK
  · exact this
  · intro i hi rec
    simp only [f44.s6, f44.s6t]
    rw [decide_eq_true (show (i : Int) < 8 by omega), cond_t, decide_eq_true (show (0 : Int) ≤ (i : Int) ∧ (i : Int) < 8 by omega), cond_t, cond_t, cond_t, Int.toNat_natCast, wrap_i _ (by omega) (by omega)]
    rfl
  · intro rec
    simp only [f44.s6, f44.s6t]
    rfl
theorem f44.spec (K : Nat) (s b : List Int) (hs : s.length = 8) (hb : b.length = 64) (ho : octets b) (hK : 64 < K) :
    f44.F K (s, 64, 64, 64, b, 64, Sh.consts) = some (Sh.comp s b, 64, b, 64, Sh.consts) := by
  simp only [f44.F, f44.T]
  have h1 := f44.first K 64 b s [0, 0, 0, 0, 0, 0, 0, 0] ho hb (by omega) 64 Sh.consts
  rw [show iter (f44.s0 K) K (64, 64, 0, 64, b, 64, Sh.consts, s, [0, 0, 0, 0, 0, 0, 0, 0], [0, 0, 0, 0, 0, 0, 0, 0, 0, 0, 0, 0, 0, 0, 0, 0, 0, 0, 0, 0, 0, 0, 0, 0, 0, 0, 0, 0, 0, 0, 0, 0, 0, 0, 0, 0, 0, 0, 0, 0, 0, 0, 0, 0, 0, 0, 0, 0, 0, 0, 0, 0, 0, 0, 0, 0, 0, 0, 0, 0, 0, 0, 0, 0]) = _ from h1, bind_s]
  dsimp only
  rw [f44.second K 64 b s _ hK, bind_s]
  dsimp only
  rw [f44.third K b s _ s hK, bind_s]
  dsimp only
  rw [f44.fourth K b s _ _ 64 Sh.consts (by omega), bind_s]
  dsimp only
  rw [comp_same s b hs]
theorem added_len (v s : List Int) (hs : s.length = 8) : ∀ i, i ≤ 8 → (Sh.added v s i).length = 8
  | 0, _ => hs
  | i + 1, h => by
    have := added_len v s hs i (by omega)
    rw [Sh.added, length_setD (by omega)]; exact this
theorem rounds_len (s b : List Int) (hs : s.length = 8) (t : Nat) : (Rf.rounds s b t).length = 8 := (rounds_same s b hs t).2
theorem comp_len (s b : List Int) (hs : s.length = 8) : (Sh.comp s b).length = 8 := by
  rw [comp_same s b hs]; exact added_len _ _ (rounds_len s b hs 64) 8 (by omega)
theorem chain_len (m : List Int) : ∀ n, (Sh.chain m n).length = 8
  | 0 => rfl
  | n + 1 => comp_len _ _ (chain_len m n)
theorem f19.zeros (K n0 : Nat) (l0 z : List Int) (m : List Int) (a : Nat) (hm : m.length + 100 ≤ 140737488355328) (hK : 64 < K) :
    iter (f19.s0 K) K (a, m.length, n0, l0, z, m.length, m) = some (a, m.length + (119 - (m.length + 63) % 64) % 64, n0, l0, z, m.length + (119 - (m.length + 63) % 64) % 64, m ++ List.replicate ((119 - (m.length + 63) % 64) % 64) 0) := by
  generalize hN : (119 - (m.length + 63) % 64) % 64 = N
  have := iter_for (stp := f19.s0 K) (N := N) (fun i => (a, m.length + i, n0, l0, z, m.length + i, m ++ List.replicate i 0)) (y := some (a, m.length + N, n0, l0, z, m.length + N, m ++ List.replicate N 0)) ?_ ?_ (show N < K by omega)
  · simp only [Nat.add_zero, List.replicate_zero, List.append_nil] at this
    exact this
  · intro i hi rec
    simp only [f19.s0, f19.s0t]
    have e : Int.tmod ((m.length + i : Nat) : Int) 64 = (((m.length + i) % 64 : Nat) : Int) := tmod_nat _ 64
    rw [e, show ((((m.length + i) % 64 : Nat) : Int) != 56) = true from bne_iff_ne.2 (by omega), cond_t, ble_true (Nat.le_refl _), fitB_true (by omega), Bool.and_self, cond_t, padT_self _ (by simp), List.append_assoc, ← List.replicate_succ']
    rfl
  · intro rec
    simp only [f19.s0, f19.s0t]
    have e : Int.tmod ((m.length + N : Nat) : Int) 64 = (((m.length + N) % 64 : Nat) : Int) := tmod_nat _ 64
    rw [e, show ((((m.length + N) % 64 : Nat) : Int) != 56) = false from by rw [bne_eq_false_iff_eq]; omega, cond_f]
theorem f19.eight (K n0 : Nat) (l0 z : List Int) (m : List Int) (x : Nat) (hx : x < 18446744073709551616) (hm : m.length + 100 ≤ 140737488355328) (hK : 64 < K) :
    iter (f19.s2 K) K (m.length, (x : Int), 0, n0, l0, z, m.length, m) = some (m.length + 8, n0, l0, z, m.length + 8, m ++ be 8 x) := by
  have top : ∀ i, i < 8 → be (i + 1) (x / 256 ^ (7 - i)) = be i (x / 256 ^ (8 - i)) ++ [((x / 256 ^ (7 - i) % 256 : Nat) : Int)] := fun i hi => by
    rw [be, Nat.div_div_eq_div_mul, ← Nat.pow_succ, show (7 - i).succ = 8 - i by omega]
  have := iter_for (stp := f19.s2 K) (N := 8) (fun i => (m.length + i, (x : Int), (i : Int), n0, l0, z, m.length + i, m ++ be i (x / 256 ^ (8 - i)))) (y := some (m.length + 8, n0, l0, z, m.length + 8, m ++ be 8 x)) ?_ ?_ (show 8 < K by omega)
  · simp only [Nat.add_zero, be, List.append_nil] at this
    exact this
  · intro i hi rec
    simp only [f19.s2, f19.s2t]
    have e12 : IntKind.wrap .i64 (56 - (IntKind.wrap .i64 (8 * (i : Int)))) = ((56 - 8 * i : Nat) : Int) := by rw [wrap_i (8 * (i : Int)) (by omega) (by omega), wrap_i _ (by omega) (by omega)]; omega
    have sh : IntKind.wrap .u8 (shiftI .shr .u64 (x : Int) ((56 - 8 * i : Nat) : Int)) = ((x / 256 ^ (7 - i) % 256 : Nat) : Int) := by
      unfold shiftI
      dsimp only
      rw [Int.toNat_natCast, show min (56 - 8 * i) IntKind.u64.bits = 56 - 8 * i from Nat.min_eq_left (by show _ ≤ 64; omega), fdiv_nat, show (2 : Nat) ^ (56 - 8 * i) = 256 ^ (7 - i) by rw [show (256 : Nat) = 2 ^ 8 from rfl, ← Nat.pow_mul]; congr 1; omega]
      simp [IntKind.wrap, IntKind.signed, IntKind.bits]
    rw [decide_eq_true (show (i : Int) < 8 by omega), cond_t]
    simp only [e12]
    rw [decide_eq_true (show (0 : Int) ≤ ((56 - 8 * i : Nat) : Int) by omega), cond_t, ble_true (Nat.le_refl _), fitB_true (by omega), Bool.and_self, cond_t, padT_self _ (by simp [be_length]), sh, wrap_i _ (by omega) (by omega), List.append_assoc, show 8 - (i + 1) = 7 - i by omega, top i hi]
    rfl
  · intro rec
    simp only [f19.s2, f19.s2t]
    rw [show 8 - 8 = 0 from rfl, Nat.pow_zero, Nat.div_one]
    rfl
end Go.Proofs

namespace Go.Proofs
open Go.VM
theorem octets_drop {l : List Int} (h : octets l) (a b : Nat) : octets ((l.drop a).take b) := fun x hx => h x (List.mem_of_mem_drop (List.mem_of_mem_take hx))
theorem f19.blocks (K n0 : Nat) (l0 z : List Int) (m : List Int) (n : Nat) (hm : m.length = 64 * n) (ho : octets m) (hs : m.length ≤ 140737488355328) (hK : 64 + n < K) :
    iter (f19.s4 K) K (m.length, 0, n0, l0, z, m.length, m, Sh.init, Sh.consts) = some (n0, l0, z, Sh.chain m n) := by
  have := iter_for (stp := f19.s4 K) (N := n) (fun i => (m.length, ((64 * i : Nat) : Int), n0, l0, z, m.length, m, Sh.chain m i, Sh.consts)) (y := some (n0, l0, z, Sh.chain m n)) ?_ ?_ (show n < K by omega)
  · exact this
  · intro i hi rec
    simp only [f19.s4, f19.s4t]
    have e21 : IntKind.wrap .i64 (((64 * i : Nat) : Int) + 64) = ((64 * (i + 1) : Nat) : Int) := by rw [wrap_i _ (by omega) (by omega)]; omega
    rw [decide_eq_true (show ((64 * i : Nat) : Int) < ((m.length : Nat) : Int) by omega), cond_t]
    simp only [e21, Int.toNat_natCast]
    rw [decide_eq_true (show (0 : Int) ≤ ((64 * (i + 1) : Nat) : Int) ∧ ((64 * (i + 1) : Nat) : Int) ≤ ((m.length : Nat) : Int) by omega), decide_eq_true (show (0 : Int) ≤ ((64 * i : Nat) : Int) ∧ ((64 * i : Nat) : Int) ≤ ((64 * (i + 1) : Nat) : Int) by omega), Nat.zero_add, ble_true (Nat.le_refl _), Bool.and_self, Bool.and_self, cond_t,
      Nat.zero_add, show 64 * (i + 1) - 64 * i = 64 by omega, ble_true (show 64 * i + 64 ≤ m.length by omega), Bool.and_self, Bool.and_self, cond_t, subI_self Sh.consts (show _ = 64 from rfl), subI_cut m (64 * i) 64 (by omega)]
    rw [f44.spec K _ _ (chain_len m i) (by rw [List.length_take, List.length_drop]; omega) (octets_drop ho _ _) (by omega), bind_s]
    dsimp only
    rw [← show Sh.chain m (i + 1) = Sh.comp (Sh.chain m i) ((m.drop (64 * i)).take 64) from rfl]
  · intro rec
    simp only [f19.s4, f19.s4t]
    rw [decide_eq_false (show ¬ ((64 * n : Nat) : Int) < ((m.length : Nat) : Int) by omega), cond_f]
theorem added_range (v : List Int) (s : List Int) (hs : s.length = 8) : ∀ i, i ≤ 8 → ∀ k, k < i → 0 ≤ (Sh.added v s i).getD k 0 ∧ (Sh.added v s i).getD k 0 < 4294967296
  | 0, _, k, hk => absurd hk (Nat.not_lt_zero k)
  | i + 1, h, k, hk => by
    have hl := added_len v s hs i (by omega)
    rw [Sh.added, setD_at _ _ _ _ (by omega)]
    by_cases hki : k = i
    · rw [if_pos hki, wrap32_mod]; omega
    · rw [if_neg hki]; exact added_range v s hs i (by omega) k (by omega)
theorem chain_range (m : List Int) (n k : Nat) (hk : k < 8) : 0 ≤ (Sh.chain m n).getD k 0 ∧ (Sh.chain m n).getD k 0 < 4294967296 := by
  cases n with
  | zero =>
    have : ∀ k : Fin 8, 0 ≤ Sh.init.getD k.val 0 ∧ Sh.init.getD k.val 0 < 4294967296 := by decide
    exact this ⟨k, hk⟩
  | succ n =>
    rw [Sh.chain, comp_same _ _ (chain_len m n)]
    exact added_range _ _ (rounds_len _ _ (chain_len m n) 64) 8 (by omega) k hk
def Rf.dig (s : List Int) (i : Nat) : Int := (((s.getD (i / 4) 0).toNat / 256 ^ (3 - i % 4) % 256 : Nat) : Int)
def Rf.digs (s : List Int) (i : Nat) : List Int := (List.range 32).map fun k => if k < i then Rf.dig s k else 0
theorem Rf.digs_set (s : List Int) (i : Nat) (hi : i < 32) : setD (Rf.digs s i) i (Rf.dig s i) = Rf.digs s (i + 1) := by
  have hl : ∀ j, (Rf.digs s j).length = 32 := fun j => by simp [Rf.digs]
  refine ext_getD (by rw [length_setD (by rw [hl]; exact hi), hl, hl]) fun k hk => ?_
  rw [length_setD (by rw [hl]; exact hi), hl] at hk
  rw [setD_at _ _ _ _ (by rw [hl]; exact hi)]
  have g : ∀ j, (Rf.digs s j).getD k 0 = if k < j then Rf.dig s k else 0 := fun j => by simp [Rf.digs, List.getD_eq_getElem?_getD, hk]
  rw [g, g]
  by_cases h : k = i
  · subst h; rw [if_pos rfl, if_pos (by omega)]
  · rw [if_neg h]
    by_cases h2 : k < i
    · rw [if_pos h2, if_pos (by omega)]
    · rw [if_neg h2, if_neg (by omega)]
theorem Rf.digs_all (s : List Int) (h : ∀ k, k < 8 → 0 ≤ s.getD k 0 ∧ s.getD k 0 < 4294967296) : Rf.digs s 32 = Sh.digest s := by
  have w : ∀ k, k < 8 → (IntKind.wrap .u64 (s.getD k 0)).toNat = (s.getD k 0).toNat := fun k hk => by
    obtain ⟨h1, h2⟩ := h k hk
    rw [wrap_u _ h1 (by omega)]
  have b4 : ∀ x : Nat, be 4 x = [((x / 256 ^ 3 % 256 : Nat) : Int), ((x / 256 ^ 2 % 256 : Nat) : Int), ((x / 256 ^ 1 % 256 : Nat) : Int), ((x / 256 ^ 0 % 256 : Nat) : Int)] := fun x => by
    simp only [be, List.nil_append, List.cons_append, Nat.div_div_eq_div_mul]
    simp
  simp only [Sh.digest, List.range, List.range.loop, List.flatMap_cons, List.flatMap_nil, w 0 (by omega), w 1 (by omega), w 2 (by omega), w 3 (by omega), w 4 (by omega), w 5 (by omega), w 6 (by omega), w 7 (by omega), b4, List.cons_append, List.nil_append, List.append_nil]
  rfl
theorem f19.digest (K n0 : Nat) (l0 z s : List Int) (h : ∀ k, k < 8 → 0 ≤ s.getD k 0 ∧ s.getD k 0 < 4294967296) (hK : 32 < K) :
    iter (f19.s6 K) K (0, n0, l0, z, s, Rf.digs s 0) = some (n0, l0, z, Rf.digs s 32) := by
  have := iter_for (stp := f19.s6 K) (N := 32) (fun i => ((i : Int), n0, l0, z, s, Rf.digs s i)) (y := some (n0, l0, z, Rf.digs s 32)) ?_ ?_ hK
  · exact this
  · intro i hi rec
    simp only [f19.s6, f19.s6t]
    have e28 : IntKind.wrap .i64 (Int.tdiv (i : Int) 4) = ((i / 4 : Nat) : Int) := by rw [show Int.tdiv (i : Int) 4 = ((i / 4 : Nat) : Int) from tdiv_nat i 4, wrap_i _ (by omega) (by omega)]
    have e33 : IntKind.wrap .i64 (24 - (IntKind.wrap .i64 (8 * (Int.tmod (i : Int) 4)))) = ((24 - 8 * (i % 4) : Nat) : Int) := by
      rw [show Int.tmod (i : Int) 4 = ((i % 4 : Nat) : Int) from tmod_nat i 4, wrap_i (8 * ((i % 4 : Nat) : Int)) (by omega) (by omega), wrap_i _ (by omega) (by omega)]; omega
    obtain ⟨r1, r2⟩ := h (i / 4) (by omega)
    have sh : IntKind.wrap .u8 (shiftI .shr .u32 (List.getD s (i / 4) 0) ((24 - 8 * (i % 4) : Nat) : Int)) = Rf.dig s i := by
      unfold shiftI Rf.dig
      dsimp only
      obtain ⟨x, hx⟩ : ∃ x : Nat, List.getD s (i / 4) 0 = (x : Int) := ⟨(List.getD s (i / 4) 0).toNat, by omega⟩
      rw [hx, Int.toNat_natCast, Int.toNat_natCast, show min (24 - 8 * (i % 4)) IntKind.u32.bits = 24 - 8 * (i % 4) from Nat.min_eq_left (by show _ ≤ 32; omega), fdiv_nat, show (2 : Nat) ^ (24 - 8 * (i % 4)) = 256 ^ (3 - i % 4) by rw [show (256 : Nat) = 2 ^ 8 from rfl, ← Nat.pow_mul]; congr 1; omega]
      simp [IntKind.wrap, IntKind.signed, IntKind.bits]
    rw [decide_eq_true (show (i : Int) < 32 by omega), cond_t]
    simp only [e28, e33, Int.toNat_natCast]
    rw [decide_eq_true (show (0 : Int) ≤ ((i / 4 : Nat) : Int) ∧ ((i / 4 : Nat) : Int) < 8 by omega), cond_t, decide_eq_true (show (0 : Int) ≤ ((24 - 8 * (i % 4) : Nat) : Int) by omega), cond_t, decide_eq_true (show (0 : Int) ≤ (i : Int) ∧ (i : Int) < 32 by omega), cond_t, sh, Rf.digs_set s i hi, wrap_i _ (by omega) (by omega)]
    rfl
  · intro rec
    simp only [f19.s6, f19.s6t]
    rfl
theorem f19.spec (K n : Nat) (m : List Int) (hm : m.length = n) (ho : octets m) (hn : n ≤ 100000000000) (hK : 200 + n / 64 < K) : f19.F K (n, n, m) = some (Sh.sum m, n, m) := by
  simp only [f19.F, f19.T]
  rw [Nat.zero_add, ble_true (Nat.le_refl n), fitB_true (by omega), Bool.and_self, cond_t, fitB_true (by omega), Bool.and_self, cond_t, subI_self m hm, padT_self m hm]
  have l1 : (m ++ [128]).length = n + 1 := by simp [hm]
  have z := f19.zeros K n m [0, 0, 0, 0, 0, 0, 0, 0, 0, 0, 0, 0, 0, 0, 0, 0, 0, 0, 0, 0, 0, 0, 0, 0, 0, 0, 0, 0, 0, 0, 0, 0] (m ++ [128]) n (by omega) (by omega)
  rw [l1, show (119 - (n + 1 + 63) % 64) % 64 = (119 - m.length % 64) % 64 by omega] at z
  generalize hN : (119 - m.length % 64) % 64 = N at z
  rw [z, bind_s]
  dsimp only
  have w8 : IntKind.wrap .u64 (8 * (IntKind.wrap .u64 ((n : Nat) : Int))) = ((8 * n : Nat) : Int) := by rw [wrap_u (n : Int) (by omega) (by omega), wrap_u _ (by omega) (by omega)]; omega
  have l2 : (m ++ [128] ++ List.replicate N 0).length = n + 1 + N := by rw [List.length_append, l1, List.length_replicate]
  have e := f19.eight K n m [0, 0, 0, 0, 0, 0, 0, 0, 0, 0, 0, 0, 0, 0, 0, 0, 0, 0, 0, 0, 0, 0, 0, 0, 0, 0, 0, 0, 0, 0, 0, 0] (m ++ [128] ++ List.replicate N 0) (8 * n) (by omega) (by omega) (by omega)
  rw [l2] at e
  rw [w8, e, bind_s, show f43.F K () = some Sh.consts from rfl, bind_s]
  dsimp only
  have hp : m ++ [128] ++ List.replicate N 0 ++ be 8 (8 * n) = Sh.padded m := by rw [Sh.padded, hN, hm]
  have lp : (Sh.padded m).length = n + 1 + N + 8 := by rw [← hp, List.length_append, l2, be_length]
  have op : octets (Sh.padded m) := by
    rw [← hp]
    exact octets_append (octets_append (octets_append ho (by intro x hx; simp only [List.mem_singleton] at hx; omega)) (octets_zeros N)) (be_octets _ _)
  have b := f19.blocks K n m [0, 0, 0, 0, 0, 0, 0, 0, 0, 0, 0, 0, 0, 0, 0, 0, 0, 0, 0, 0, 0, 0, 0, 0, 0, 0, 0, 0, 0, 0, 0, 0] (Sh.padded m) ((Sh.padded m).length / 64) (by omega) op (by omega) (by omega)
  rw [hp, ← lp]
  rw [show [1779033703, 3144134277, 1013904242, 2773480762, 1359893119, 2600822924, 528734635, 1541459225] = Sh.init from rfl, b, bind_s]
  dsimp only
  have d := f19.digest K n m [0, 0, 0, 0, 0, 0, 0, 0, 0, 0, 0, 0, 0, 0, 0, 0, 0, 0, 0, 0, 0, 0, 0, 0, 0, 0, 0, 0, 0, 0, 0, 0] (Sh.chain (Sh.padded m) ((Sh.padded m).length / 64)) (fun k hk => chain_range _ _ k hk) (by omega)
  rw [show Rf.digs (Sh.chain (Sh.padded m) ((Sh.padded m).length / 64)) 0 = [0, 0, 0, 0, 0, 0, 0, 0, 0, 0, 0, 0, 0, 0, 0, 0, 0, 0, 0, 0, 0, 0, 0, 0, 0, 0, 0, 0, 0, 0, 0, 0] from rfl] at d
  rw [d, bind_s]
  dsimp only
  rw [Rf.digs_all _ (fun k hk => chain_range _ _ k hk), ← Sh.sum]
end Go.Proofs

namespace Go.Proofs
open Go.VM
end Go.Proofs

namespace Go.Proofs
open Go.VM
theorem wf_u32 {z : Int} (h : (Lit.int .u32 z).wf = true) : ∃ n : Nat, n < 4294967296 ∧ z = (n : Int) := by
  simp [Lit.wf, IntKind.min, IntKind.max, IntKind.signed, IntKind.bits] at h
  exact ⟨z.toNat, by omega, by omega⟩
end Go.Proofs

namespace Go.Proofs
open Go.VM
end Go.Proofs

namespace Go.Proofs
open Go.VM
end Go.Proofs

namespace Go.Proofs
open Go.VM
end Go.Proofs

namespace Go.Proofs
open Go.VM
end Go.Proofs

namespace Go.Proofs
open Go.VM
abbrev f47.Ty0 := Nat × Nat × List Int × Nat × List Int
abbrev f47.Ty1 := Nat × Int × Int × Nat × List Int
def f47.T (K : Nat) (a0 : Nat) (a1 : Int) (a2 : Int) (m0_0 : Nat) (m0_1 : List Int) : Option (f47.Ty0) :=
  (f66.F K (a1, (minE a2 8))).bind fun y1 =>
  alt (fun y2 =>
    bif ((Nat.ble (0 + a0) m0_0 && true) && true) then
      (f65.F K (a0, 0, a0, (subI m0_1 0 a0), 0, [])).bind fun y4 =>
      some (y4.1, m0_0, m0_1, y4.2.2.2.2.2.1, y4.2.2.2.2.2.2)
    else
      none) (fun y3 =>
    bif ((Nat.ble (0 + a0) m0_0 && true) && ((Nat.ble (0 + y3.1) y3.2.1 && true) && true)) then
      (f65.F K (a0, y3.1, a0, (subI m0_1 0 a0), y3.1, (subI y3.2.2 0 y3.1))).bind fun y5 =>
      some (y5.1, m0_0, m0_1, y5.2.2.2.2.2.1, y5.2.2.2.2.2.2)
    else
      none) y1
def f47.F (K : Nat) (x : f47.Ty1) : Option (f47.Ty0) := f47.T K x.1 x.2.1 x.2.2.1 x.2.2.2.1 x.2.2.2.2
def f47.av (x : f47.Ty1) : List VV := [.vw true 0 0 x.1 1, .int .u64 x.2.1, .int .i64 x.2.2.1]
def f47.bl (x : f47.Ty1) : List (Nat × Blk) := [(0, ([.ints .u8 x.2.2.2.1 x.2.2.2.2], 0, .ro))]
def f47.inA : VS → Option (f47.Ty1)
  | ⟨[(0, .vw true 0 0 a0 1), (1, .int .u64 a1), (2, .int .i64 a2)], [(0, ([.ints .u8 m0_0 m0_1], 0, .ro))], 2⟩ => some (a0, a1, a2, m0_0, m0_1)
  | _ => none
def f47.o0 (y : f47.Ty0) : VS := ⟨[(0, .vec 2 0 y.1 3)], [(0, ([.ints .u8 y.2.1 y.2.2.1], 0, .ro)), (2, ([.ints .u8 y.2.2.2.1 y.2.2.2.2], 5, .vec 3))], 4⟩
def f47.inR : VS → Option (f47.Ty0)
  | ⟨[(0, .vec 2 0 y 3)], [(0, ([.ints .u8 z0_0 z0_1], 0, .ro)), (2, ([.ints .u8 z2_0 z2_1], 5, .vec 3))], 4⟩ => some (y, z0_0, z0_1, z2_0, z2_1)
  | _ => none
noncomputable def f47.E (K : Nat) : Entry := genE 2 f47.inA (f47.F K) (dv1 f47.o0)
theorem f47.ok (K : Nat) : EntryOK Try.prog 47 (f47.E K) := gen_ok mix tys_ok (sp := tabSp [(66, (f66.E K)), (65, (viewE [(0, .u8), (1, .u8)] (f65.E K)))]) (tab_ok ((tab_cons (f66.ok K) (tab_cons (view_ok (f65.ok K)) tab_nil)))) Try.func47 (c := bodyOf Try.f47) (by kernel_rfl) (by kernel_rfl) (loops_none (lp := lpNone) (by kernel_rfl)) (av := f47.av) (bl := f47.bl) (inR := f47.inR) (out := f47.o0) (fuel := 400)
  (by intro s x h; unfold f47.inA at h; split at h <;> simp at h; subst h; rfl) (fun _ => Nat.le_of_ble_eq_true rfl)
  (by intro s y h; unfold f47.inR at h; split at h <;> simp at h <;> subst h <;> rfl) (fun _ _ _ => rfl) (fun _ => by kernel_rfl)
end Go.Proofs

namespace Go.Proofs
open Go.VM
end Go.Proofs

namespace Go.Proofs
open Go.VM
end Go.Proofs

namespace Go.Proofs
open Go.VM
end Go.Proofs

namespace Go.Proofs
open Go.VM
theorem f47.spec (K a x : Nat) (l : List Int) (hl : l.length = a) (hx : x < 18446744073709551616) (ha : a ≤ 10000000000) (hK : 10 < K) :
    f47.F K (a, (x : Int), 4, a, l) = some (a + 4, a, l, a + 4, l ++ be 4 x) := by
  simp only [f47.F, f47.T]
  have e := f66.spec 4 K x hx (by omega) (by omega)
  rw [if_neg (by omega)] at e
  rw [show minE 4 8 = ((4 : Nat) : Int) from rfl, e, bind_s, altr]
  dsimp only
  rw [Nat.zero_add, Nat.zero_add, ble_true (Nat.le_refl a), ble_true (Nat.le_refl 4), Bool.and_self, Bool.and_self, Bool.and_self, cond_t, subI_self _ (be_length 4 x), subI_self _ hl, f65.spec K a 4 l _ hl (be_length _ _) (by omega), bind_s]
end Go.Proofs

namespace Go.Proofs
open Go.VM
abbrev f48.Ty0 := Nat × Nat × Nat × Int × Nat × List Int × Nat × Nat × List Int × List Int × Nat × List Int × Nat × List Int × Nat × List Int
abbrev f48.Ty1 := Nat × Nat × Nat × List Int × Nat × Nat × List Int × List Int × Nat × List Int × Nat × List Int
abbrev f48.Ty2 := Nat × Nat × List Int × Nat × Nat × List Int × List Int × Nat × List Int
abbrev f48.Ty3 := List Int × Nat × List Int × Nat × Nat × List Int
abbrev f48.Ty4 := Nat × Nat × List Int × Nat × Nat × List Int
noncomputable def f48.c : Code := bodyOf Try.f48
def f48.s0t (_K : Nat) (rec : f48.Ty2 → Option (f48.Ty2)) (t5 : Nat) (b0_0 : Nat) (b0_1 : List Int) (b2 : Nat) (b4_0 : Nat) (b4_1 : List Int) (b6 : List Int) (b7_0 : Nat) (b7_1 : List Int) : Option (f48.Ty2) :=
  bif (decide (((t5 : Nat) : Int) < 64)) then
    bif (Nat.ble t5 b7_0 && (fitB ((t5 + 1) * 1))) then
      rec ((t5 + 1), b0_0, b0_1, b2, b4_0, b4_1, b6, (t5 + 1), ((padT b7_1 t5) ++ [0]))
    else
      none
  else
    some (t5, b0_0, b0_1, b2, b4_0, b4_1, b6, b7_0, b7_1)
def f48.s0 (K : Nat) (rec : f48.Ty2 → Option (f48.Ty2)) (x : f48.Ty2) : Option (f48.Ty2) := f48.s0t K rec x.1 x.2.1 x.2.2.1 x.2.2.2.1 x.2.2.2.2.1 x.2.2.2.2.2.1 x.2.2.2.2.2.2.1 x.2.2.2.2.2.2.2.1 x.2.2.2.2.2.2.2.2
noncomputable def f48.s0.b : Code := (findLoop 0 f48.c).getD .skip
def f48.s0.h : Hint := { lv := [1, 4, 5] }
def f48.s0.ho : Hint := { lv := [1, 4, 5] }
def f48.s0.shp (x : f48.Ty2) : VS := ⟨[(1, .vw true 2 0 1 3), (4, .ptr 6 0), (5, .vec 7 0 x.1 8)], [(0, ([.ints .u8 x.2.1 x.2.2.1], 0, .ro)), (2, ([.vw true 4 0 x.2.2.2.1 5], 0, .ro)), (4, ([.ints .u8 x.2.2.2.2.1 x.2.2.2.2.2.1], 0, .ro)), (6, ([.ints .u8 32 x.2.2.2.2.2.2.1], 35, .norm)), (7, ([.ints .u8 x.2.2.2.2.2.2.2.1 x.2.2.2.2.2.2.2.2], 5, .vec 8))], 9⟩
def f48.s0.inX : VS → Option (f48.Ty2)
  | ⟨[(1, .vw true 2 0 1 3), (4, .ptr 6 0), (5, .vec 7 0 t5 8)], [(0, ([.ints .u8 b0_0 b0_1], 0, .ro)), (2, ([.vw true 4 0 b2 5], 0, .ro)), (4, ([.ints .u8 b4_0 b4_1], 0, .ro)), (6, ([.ints .u8 32 b6], 35, .norm)), (7, ([.ints .u8 b7_0 b7_1], 5, .vec 8))], 9⟩ => some (t5, b0_0, b0_1, b2, b4_0, b4_1, b6, b7_0, b7_1)
  | _ => none
def f48.s0.o0 (y : f48.Ty2) : VS := ⟨[(1, .vw true 2 0 1 3), (4, .ptr 6 0), (5, .vec 7 0 y.1 8)], [(0, ([.ints .u8 y.2.1 y.2.2.1], 0, .ro)), (2, ([.vw true 4 0 y.2.2.2.1 5], 0, .ro)), (4, ([.ints .u8 y.2.2.2.2.1 y.2.2.2.2.2.1], 0, .ro)), (6, ([.ints .u8 32 y.2.2.2.2.2.2.1], 35, .norm)), (7, ([.ints .u8 y.2.2.2.2.2.2.2.1 y.2.2.2.2.2.2.2.2], 5, .vec 8))], 9⟩
def f48.s0.des : ∀ α : Type, (f48.Ty2) → (Ex → VS → Option α) → Option α := (des1 (.exit 0) f48.s0.o0)
def f48.s0.out : f48.Ty2 → Ex × VS := (fun y => (.exit 0, f48.s0.o0 y))
theorem f48.s0.desOK : ∀ α y (k : Ex → VS → Option α), f48.s0.des α y k = k (f48.s0.out y).1 (f48.s0.out y).2 := (fun _ _ _ => rfl)
def f48.s0.inY : Ex → VS → Option (f48.Ty2)
  | .exit 0, ⟨[(1, .vw true 2 0 1 3), (4, .ptr 6 0), (5, .vec 7 0 t5 8)], [(0, ([.ints .u8 b0_0 b0_1], 0, .ro)), (2, ([.vw true 4 0 b2 5], 0, .ro)), (4, ([.ints .u8 b4_0 b4_1], 0, .ro)), (6, ([.ints .u8 32 b6], 35, .norm)), (7, ([.ints .u8 b7_0 b7_1], 5, .vec 8))], 9⟩ => some (t5, b0_0, b0_1, b2, b4_0, b4_1, b6, b7_0, b7_1)
  | _, _ => none
def f48.s2t (_K : Nat) (rec : f48.Ty0 → Option (f48.Ty1)) (t5 : Nat) (t7 : Nat) (t8 : Nat) (t9 : Int) (b0_0 : Nat) (b0_1 : List Int) (b2 : Nat) (b4_0 : Nat) (b4_1 : List Int) (b6 : List Int) (b7_0 : Nat) (b7_1 : List Int) (b9_0 : Nat) (b9_1 : List Int) (b11_0 : Nat) (b11_1 : List Int) : Option (f48.Ty1) :=
  bif (decide (t9 < 64)) then
    bif (decide (0 ≤ t9 ∧ t9 < ((t5 : Nat) : Int)) && (Nat.blt (0 + (Int.toNat t9)) b7_0)) then
      let v11 := 0 + (Int.toNat t9)
      bif Nat.blt v11 b7_0 then
        bif (Nat.ble t7 b9_0 && (fitB ((t7 + 1) * 1))) then
          bif (decide (0 ≤ t9 ∧ t9 < ((t5 : Nat) : Int)) && (Nat.blt (0 + (Int.toNat t9)) b7_0)) then
            let v15 := 0 + (Int.toNat t9)
            bif Nat.blt v15 b7_0 then
              bif (Nat.ble t8 b11_0 && (fitB ((t8 + 1) * 1))) then
                rec (t5, (t7 + 1), (t8 + 1), (IntKind.wrap .i64 (t9 + 1)), b0_0, b0_1, b2, b4_0, b4_1, b6, b7_0, b7_1, (t7 + 1), ((padT b9_1 t7) ++ [(bits .xor .u8 (List.getD b7_1 v11 0) 54)]), (t8 + 1), ((padT b11_1 t8) ++ [(bits .xor .u8 (List.getD b7_1 v15 0) 92)]))
              else
                none
            else
              none
          else
            none
        else
          none
      else
        none
    else
      none
  else
    some (t7, t8, b0_0, b0_1, b2, b4_0, b4_1, b6, b9_0, b9_1, b11_0, b11_1)
def f48.s2 (K : Nat) (rec : f48.Ty0 → Option (f48.Ty1)) (x : f48.Ty0) : Option (f48.Ty1) := f48.s2t K rec x.1 x.2.1 x.2.2.1 x.2.2.2.1 x.2.2.2.2.1 x.2.2.2.2.2.1 x.2.2.2.2.2.2.1 x.2.2.2.2.2.2.2.1 x.2.2.2.2.2.2.2.2.1 x.2.2.2.2.2.2.2.2.2.1 x.2.2.2.2.2.2.2.2.2.2.1 x.2.2.2.2.2.2.2.2.2.2.2.1 x.2.2.2.2.2.2.2.2.2.2.2.2.1 x.2.2.2.2.2.2.2.2.2.2.2.2.2.1 x.2.2.2.2.2.2.2.2.2.2.2.2.2.2.1 x.2.2.2.2.2.2.2.2.2.2.2.2.2.2.2
noncomputable def f48.s2.b : Code := (findLoop 2 f48.c).getD .skip
def f48.s2.h : Hint := { lv := [1, 4, 5, 7, 8, 9], co := [(7, 5, [.ints .u8 0 []]), (8, 5, [.ints .u8 0 []])] }
def f48.s2.ho : Hint := { lv := [1, 4, 7, 8] }
def f48.s2.shp (x : f48.Ty0) : VS := ⟨[(1, .vw true 2 0 1 3), (4, .ptr 6 0), (5, .vec 7 0 x.1 8), (7, .vec 9 0 x.2.1 10), (8, .vec 11 0 x.2.2.1 12), (9, .int .i64 x.2.2.2.1)], [(0, ([.ints .u8 x.2.2.2.2.1 x.2.2.2.2.2.1], 0, .ro)), (2, ([.vw true 4 0 x.2.2.2.2.2.2.1 5], 0, .ro)), (4, ([.ints .u8 x.2.2.2.2.2.2.2.1 x.2.2.2.2.2.2.2.2.1], 0, .ro)), (6, ([.ints .u8 32 x.2.2.2.2.2.2.2.2.2.1], 35, .norm)), (7, ([.ints .u8 x.2.2.2.2.2.2.2.2.2.2.1 x.2.2.2.2.2.2.2.2.2.2.2.1], 5, .vec 8)), (9, ([.ints .u8 x.2.2.2.2.2.2.2.2.2.2.2.2.1 x.2.2.2.2.2.2.2.2.2.2.2.2.2.1], 5, .vec 10)), (11, ([.ints .u8 x.2.2.2.2.2.2.2.2.2.2.2.2.2.2.1 x.2.2.2.2.2.2.2.2.2.2.2.2.2.2.2], 5, .vec 12))], 13⟩
def f48.s2.inX : VS → Option (f48.Ty0)
  | ⟨[(1, .vw true 2 0 1 3), (4, .ptr 6 0), (5, .vec 7 0 t5 8), (7, .vec 9 0 t7 10), (8, .vec 11 0 t8 12), (9, .int .i64 t9)], [(0, ([.ints .u8 b0_0 b0_1], 0, .ro)), (2, ([.vw true 4 0 b2 5], 0, .ro)), (4, ([.ints .u8 b4_0 b4_1], 0, .ro)), (6, ([.ints .u8 32 b6], 35, .norm)), (7, ([.ints .u8 b7_0 b7_1], 5, .vec 8)), (9, ([.ints .u8 b9_0 b9_1], 5, .vec 10)), (11, ([.ints .u8 b11_0 b11_1], 5, .vec 12))], 13⟩ => some (t5, t7, t8, t9, b0_0, b0_1, b2, b4_0, b4_1, b6, b7_0, b7_1, b9_0, b9_1, b11_0, b11_1)
  | _ => none
def f48.s2.o0 (y : f48.Ty1) : VS := ⟨[(1, .vw true 2 0 1 3), (4, .ptr 6 0), (7, .vec 7 0 y.1 8), (8, .vec 9 0 y.2.1 10)], [(0, ([.ints .u8 y.2.2.1 y.2.2.2.1], 0, .ro)), (2, ([.vw true 4 0 y.2.2.2.2.1 5], 0, .ro)), (4, ([.ints .u8 y.2.2.2.2.2.1 y.2.2.2.2.2.2.1], 0, .ro)), (6, ([.ints .u8 32 y.2.2.2.2.2.2.2.1], 35, .norm)), (7, ([.ints .u8 y.2.2.2.2.2.2.2.2.1 y.2.2.2.2.2.2.2.2.2.1], 5, .vec 8)), (9, ([.ints .u8 y.2.2.2.2.2.2.2.2.2.2.1 y.2.2.2.2.2.2.2.2.2.2.2], 5, .vec 10))], 11⟩
def f48.s2.des : ∀ α : Type, (f48.Ty1) → (Ex → VS → Option α) → Option α := (des1 (.exit 2) f48.s2.o0)
def f48.s2.out : f48.Ty1 → Ex × VS := (fun y => (.exit 2, f48.s2.o0 y))
theorem f48.s2.desOK : ∀ α y (k : Ex → VS → Option α), f48.s2.des α y k = k (f48.s2.out y).1 (f48.s2.out y).2 := (fun _ _ _ => rfl)
def f48.s2.inY : Ex → VS → Option (f48.Ty1)
  | .exit 2, ⟨[(1, .vw true 2 0 1 3), (4, .ptr 6 0), (7, .vec 7 0 t7 8), (8, .vec 9 0 t8 10)], [(0, ([.ints .u8 b0_0 b0_1], 0, .ro)), (2, ([.vw true 4 0 b2 5], 0, .ro)), (4, ([.ints .u8 b4_0 b4_1], 0, .ro)), (6, ([.ints .u8 32 b6], 35, .norm)), (7, ([.ints .u8 b7_0 b7_1], 5, .vec 8)), (9, ([.ints .u8 b9_0 b9_1], 5, .vec 10))], 11⟩ => some (t7, t8, b0_0, b0_1, b2, b4_0, b4_1, b6, b7_0, b7_1, b9_0, b9_1)
  | _, _ => none
def f48.lp (K : Nat) : Nat → Option (Hint × Summ) := tabLp [(0, f48.s0.h, summOf (iter (f48.s0 K) K) f48.s0.inX f48.s0.des), (2, f48.s2.h, summOf (iter (f48.s2 K) K) f48.s2.inX f48.s2.des)]
noncomputable def f48.tab (K : Nat) : List (Nat × Entry) := [(19, (viewE [(0, .u8)] (f19.E K)))]
theorem f48.tabOK (K : Nat) : SpecOK Try.prog (tabSp (f48.tab K)) := tab_ok ((tab_cons (view_ok (f19.ok K)) tab_nil))
theorem f48.s0.eq (K : Nat) (rec : f48.Ty2 → Option (f48.Ty2)) (x : f48.Ty2) : f48.s0 K rec x = roundL (getA tys) (tabSp (f48.tab K)) 65 6 (f48.lp K) 400 f48.s0.b f48.s0.h f48.s0.ho f48.s0.shp f48.s0.inX f48.s0.inY rec x := by kernel_rfl
theorem f48.s0.lok (K : Nat) : LoopsOK Try.prog 65 6 (f48.lp K) f48.s0.b := loops_ok (by
  have h : loopsIn (f48.lp K) f48.s0.b = [] := by kernel_rfl
  rw [h]; simp)
theorem f48.s0.ok (K : Nat) : SummOK Try.prog 65 6 (summOf (iter (f48.s0 K) K) f48.s0.inX f48.s0.des) f48.s0.b :=
  loop_ok mix tys_ok (f48.tabOK K) (h := f48.s0.h) (ho := f48.s0.ho) (shp := f48.s0.shp) (inX := f48.s0.inX) (des := f48.s0.des) (out := f48.s0.out) (inY := f48.s0.inY) (fuel := 400)
    (by intro st x h; unfold f48.s0.inX at h; split at h <;> simp at h; subst h; rfl)
    (by intro e st y h; unfold f48.s0.inY at h; split at h <;> simp at h <;> subst h <;> rfl)
    f48.s0.desOK (f48.s0.lok K) (f48.s0 K) (f48.s0.eq K) K
theorem f48.s2.eq (K : Nat) (rec : f48.Ty0 → Option (f48.Ty1)) (x : f48.Ty0) : f48.s2 K rec x = roundL (getA tys) (tabSp (f48.tab K)) 65 6 (f48.lp K) 400 f48.s2.b f48.s2.h f48.s2.ho f48.s2.shp f48.s2.inX f48.s2.inY rec x := by kernel_rfl
theorem f48.s2.lok (K : Nat) : LoopsOK Try.prog 65 6 (f48.lp K) f48.s2.b := loops_ok (by
  have h : loopsIn (f48.lp K) f48.s2.b = [] := by kernel_rfl
  rw [h]; simp)
theorem f48.s2.ok (K : Nat) : SummOK Try.prog 65 6 (summOf (iter (f48.s2 K) K) f48.s2.inX f48.s2.des) f48.s2.b :=
  loop_ok mix tys_ok (f48.tabOK K) (h := f48.s2.h) (ho := f48.s2.ho) (shp := f48.s2.shp) (inX := f48.s2.inX) (des := f48.s2.des) (out := f48.s2.out) (inY := f48.s2.inY) (fuel := 400)
    (by intro st x h; unfold f48.s2.inX at h; split at h <;> simp at h; subst h; rfl)
    (by intro e st y h; unfold f48.s2.inY at h; split at h <;> simp at h <;> subst h <;> rfl)
    f48.s2.desOK (f48.s2.lok K) (f48.s2 K) (f48.s2.eq K) K
theorem f48.loops (K : Nat) : LoopsOK Try.prog 65 6 (f48.lp K) f48.c := loops_ok (by
  have h : loopsIn (f48.lp K) f48.c = [(0, f48.s0.b), (2, f48.s2.b)] := by kernel_rfl
  rw [h]
  intro p hp
  simp only [List.mem_cons, List.not_mem_nil, or_false] at hp
  rcases hp with rfl | rfl
  · exact ⟨_, rfl, (f48.s0.ok K)⟩
  · exact ⟨_, rfl, (f48.s2.ok K)⟩)
def f48.T (K : Nat) (a0 : Nat) (m0_0 : Nat) (m0_1 : List Int) (m2 : Nat) (m4_0 : Nat) (m4_1 : List Int) : Option (f48.Ty3) :=
  bif (Nat.ble (0 + a0) m0_0 && (fitB (a0 * 1))) then
    let v1 := subI m0_1 0 a0
    bif (decide (((a0 : Nat) : Int) > 64)) then
      bif ((Nat.ble (0 + a0) a0 && true) && true) then
        (f19.F K (a0, a0, (subI v1 0 a0))).bind fun y4 =>
        (iter (f48.s0 K) K (32, m0_0, m0_1, m2, m4_0, m4_1, [0, 0, 0, 0, 0, 0, 0, 0, 0, 0, 0, 0, 0, 0, 0, 0, 0, 0, 0, 0, 0, 0, 0, 0, 0, 0, 0, 0, 0, 0, 0, 0], 32, (subI y4.1 0 32))).bind fun y9 =>
        (iter (f48.s2 K) K (y9.1, 0, 0, 0, y9.2.1, y9.2.2.1, y9.2.2.2.1, y9.2.2.2.2.1, y9.2.2.2.2.2.1, y9.2.2.2.2.2.2.1, y9.2.2.2.2.2.2.2.1, y9.2.2.2.2.2.2.2.2, 0, [], 0, [])).bind fun y20 =>
        let v21 := y20.2.2.2.2.1
        bif ((Nat.ble (0 + v21) y20.2.2.2.2.2.1 && (Nat.ble y20.1 y20.2.2.2.2.2.2.2.2.1)) && (fitB ((y20.1 + v21) * 1))) then
          bif ((Nat.ble (0 + (y20.1 + v21)) (y20.1 + v21) && true) && true) then
            (f19.F K ((y20.1 + v21), (y20.1 + v21), (subI ((padT y20.2.2.2.2.2.2.2.2.2.1 y20.1) ++ (padT (subI y20.2.2.2.2.2.2.1 0 v21) v21)) 0 (y20.1 + v21)))).bind fun y23 =>
            bif (Nat.ble y20.2.1 y20.2.2.2.2.2.2.2.2.2.2.1 && (fitB ((y20.2.1 + 32) * 1))) then
              let v24 := y20.2.1 + 32
              bif ((Nat.ble (0 + v24) (y20.2.1 + 32) && true) && true) then
                (f19.F K (v24, v24, (subI ((padT y20.2.2.2.2.2.2.2.2.2.2.2 y20.2.1) ++ (padT (subI y23.1 0 32) 32)) 0 v24))).bind fun y27 =>
                some (y27.1, y20.2.2.1, y20.2.2.2.1, y20.2.2.2.2.1, y20.2.2.2.2.2.1, y20.2.2.2.2.2.2.1)
              else
                none
            else
              none
          else
            none
        else
          none
      else
        none
    else
      (iter (f48.s0 K) K (a0, m0_0, m0_1, m2, m4_0, m4_1, [0, 0, 0, 0, 0, 0, 0, 0, 0, 0, 0, 0, 0, 0, 0, 0, 0, 0, 0, 0, 0, 0, 0, 0, 0, 0, 0, 0, 0, 0, 0, 0], a0, v1)).bind fun y28 =>
      (iter (f48.s2 K) K (y28.1, 0, 0, 0, y28.2.1, y28.2.2.1, y28.2.2.2.1, y28.2.2.2.2.1, y28.2.2.2.2.2.1, y28.2.2.2.2.2.2.1, y28.2.2.2.2.2.2.2.1, y28.2.2.2.2.2.2.2.2, 0, [], 0, [])).bind fun y29 =>
      let v30 := y29.2.2.2.2.1
      bif ((Nat.ble (0 + v30) y29.2.2.2.2.2.1 && (Nat.ble y29.1 y29.2.2.2.2.2.2.2.2.1)) && (fitB ((y29.1 + v30) * 1))) then
        bif ((Nat.ble (0 + (y29.1 + v30)) (y29.1 + v30) && true) && true) then
          (f19.F K ((y29.1 + v30), (y29.1 + v30), (subI ((padT y29.2.2.2.2.2.2.2.2.2.1 y29.1) ++ (padT (subI y29.2.2.2.2.2.2.1 0 v30) v30)) 0 (y29.1 + v30)))).bind fun y32 =>
          bif (Nat.ble y29.2.1 y29.2.2.2.2.2.2.2.2.2.2.1 && (fitB ((y29.2.1 + 32) * 1))) then
            let v33 := y29.2.1 + 32
            bif ((Nat.ble (0 + v33) (y29.2.1 + 32) && true) && true) then
              (f19.F K (v33, v33, (subI ((padT y29.2.2.2.2.2.2.2.2.2.2.2 y29.2.1) ++ (padT (subI y32.1 0 32) 32)) 0 v33))).bind fun y36 =>
              some (y36.1, y29.2.2.1, y29.2.2.2.1, y29.2.2.2.2.1, y29.2.2.2.2.2.1, y29.2.2.2.2.2.2.1)
            else
              none
          else
            none
        else
          none
      else
        none
  else
    none
def f48.F (K : Nat) (x : f48.Ty4) : Option (f48.Ty3) := f48.T K x.1 x.2.1 x.2.2.1 x.2.2.2.1 x.2.2.2.2.1 x.2.2.2.2.2
def f48.av (x : f48.Ty4) : List VV := [.vw true 0 0 x.1 1, .vw true 2 0 1 3]
def f48.bl (x : f48.Ty4) : List (Nat × Blk) := [(0, ([.ints .u8 x.2.1 x.2.2.1], 0, .ro)), (2, ([.vw true 4 0 x.2.2.2.1 5], 0, .ro)), (4, ([.ints .u8 x.2.2.2.2.1 x.2.2.2.2.2], 0, .ro))]
def f48.inA : VS → Option (f48.Ty4)
  | ⟨[(0, .vw true 0 0 a0 1), (1, .vw true 2 0 1 3)], [(0, ([.ints .u8 m0_0 m0_1], 0, .ro)), (2, ([.vw true 4 0 m2 5], 0, .ro)), (4, ([.ints .u8 m4_0 m4_1], 0, .ro))], 6⟩ => some (a0, m0_0, m0_1, m2, m4_0, m4_1)
  | _ => none
def f48.o0 (y : f48.Ty3) : VS := ⟨[(0, .agg [.ints .u8 32 y.1])], [(0, ([.ints .u8 y.2.1 y.2.2.1], 0, .ro)), (2, ([.vw true 4 0 y.2.2.2.1 5], 0, .ro)), (4, ([.ints .u8 y.2.2.2.2.1 y.2.2.2.2.2], 0, .ro))], 6⟩
def f48.des : ∀ α : Type, (f48.Ty3) → (VS → Option α) → Option α := (dv1 f48.o0)
def f48.out : f48.Ty3 → VS := f48.o0
def f48.inR : VS → Option (f48.Ty3)
  | ⟨[(0, .agg [.ints .u8 32 y])], [(0, ([.ints .u8 z0_0 z0_1], 0, .ro)), (2, ([.vw true 4 0 z2 5], 0, .ro)), (4, ([.ints .u8 z4_0 z4_1], 0, .ro))], 6⟩ => some (y, z0_0, z0_1, z2, z4_0, z4_1)
  | _ => none
noncomputable def f48.E (K : Nat) : Entry := genE 6 f48.inA (f48.F K) f48.des
theorem f48.eq (K : Nat) (x : f48.Ty4) : f48.F K x = xrun (getA tys) (tabSp (f48.tab K)) Try.f48.ntmps 6 (f48.lp K) 400 f48.c ⟨initL 0 (f48.av x), f48.bl x, 6⟩ (contF (getA tys) 6 Try.f48.results.toList f48.inR) := by kernel_rfl
theorem f48.ok (K : Nat) : EntryOK Try.prog 48 (f48.E K) :=
  gen_ok mix tys_ok (f48.tabOK K) Try.func48 (by kernel_rfl : Try.f48.body = some f48.c) (by kernel_rfl) (f48.loops K) (av := f48.av) (bl := f48.bl) (out := f48.out) (fuel := 400)
    (by intro s x h; unfold f48.inA at h; split at h <;> simp at h; subst h; rfl) (fun _ => Nat.le_of_ble_eq_true rfl)
    (by intro s y h; unfold f48.inR at h; split at h <;> simp at h <;> subst h <;> rfl) (fun _ _ _ => rfl) (f48.eq K)
end Go.Proofs

namespace Go.Proofs
open Go.VM
abbrev f25.Ty0 := List Int × Int × Int × List Int × List Int × Int
abbrev f25.Ty1 := Int × Int × List Int × Int
def f25.T (K : Nat) (a0 : List Int) (a1 : Int) (a2 : Int) (a3 : List Int) (a4 : List Int) (a5 : Int) : Option (f25.Ty1) :=
  bif (decide (a2 > 12)) then
    some (0, 0, [0, 0, 0, 0, 0, 0, 0, 0, 0, 0, 0, 0, 0, 0, 0, 0, 0, 0, 0, 0, 0, 0, 0, 0, 0, 0, 0, 0, 0, 0, 0, 0], 1)
  else
    bif (a5 == 0) then
      some (0, 0, [0, 0, 0, 0, 0, 0, 0, 0, 0, 0, 0, 0, 0, 0, 0, 0, 0, 0, 0, 0, 0, 0, 0, 0, 0, 0, 0, 0, 0, 0, 0, 0], 1)
    else
      (f47.F K (6, a1, 8, 6, [112, 117, 122, 122, 108, 101])).bind fun y2 =>
      bif (Nat.ble y2.1 y2.2.2.2.1 && (fitB ((y2.1 + 1) * 1))) then
        bif (Nat.ble (y2.1 + 1) (y2.1 + 1) && (fitB (((y2.1 + 1) + 16) * 1))) then
          let v4 := (y2.1 + 1) + 16
          bif (Nat.ble v4 ((y2.1 + 1) + 16) && (fitB ((v4 + 16) * 1))) then
            bif ((Nat.ble (0 + (v4 + 16)) (v4 + 16) && true) && true) then
              (f47.F K ((v4 + 16), (IntKind.wrap .u64 a5), 4, (v4 + 16), (subI ((padT ((padT ((padT y2.2.2.2.2 y2.1) ++ [a2]) (y2.1 + 1)) ++ (padT (subI a3 0 16) 16)) v4) ++ (padT (subI a4 0 16) 16)) 0 (v4 + 16)))).bind fun y9 =>
              bif ((Nat.ble (0 + y9.1) y9.2.2.2.1 && true) && true) then
                (f48.F K (32, 32, (subI a0 0 32), y9.1, y9.1, (subI y9.2.2.2.2 0 y9.1))).bind fun y10 =>
                some (a2, a1, y10.1, 0)
              else
                none
            else
              none
          else
            none
        else
          none
      else
        none
def f25.F (K : Nat) (x : f25.Ty0) : Option (f25.Ty1) := f25.T K x.1 x.2.1 x.2.2.1 x.2.2.2.1 x.2.2.2.2.1 x.2.2.2.2.2
def f25.av (x : f25.Ty0) : List VV := [.agg [.ints .u8 32 x.1], .int .u64 x.2.1, .int .u8 x.2.2.1, .agg [.ints .u8 16 x.2.2.2.1], .agg [.ints .u8 16 x.2.2.2.2.1], .int .u32 x.2.2.2.2.2]
def f25.bl (_x : f25.Ty0) : List (Nat × Blk) := []
def f25.inA : VS → Option (f25.Ty0)
  | ⟨[(0, .agg [.ints .u8 32 a0]), (1, .int .u64 a1), (2, .int .u8 a2), (3, .agg [.ints .u8 16 a3]), (4, .agg [.ints .u8 16 a4]), (5, .int .u32 a5)], [], 0⟩ => some (a0, a1, a2, a3, a4, a5)
  | _ => none
def f25.o0 (y : f25.Ty1) : VS := ⟨[(0, .tup [.agg [.int .u8 y.1, .int .u64 y.2.1, .ints .u8 32 y.2.2.1], .int .i64 y.2.2.2])], [], 0⟩
def f25.inR : VS → Option (f25.Ty1)
  | ⟨[(0, .tup [.agg [.int .u8 y_0, .int .u64 y_1, .ints .u8 32 y_2], .int .i64 y_3])], [], 0⟩ => some (y_0, y_1, y_2, y_3)
  | _ => none
noncomputable def f25.E (K : Nat) : Entry := genE 0 f25.inA (f25.F K) (dv1 f25.o0)
theorem f25.ok (K : Nat) : EntryOK Try.prog 25 (f25.E K) := gen_ok mix tys_ok (sp := tabSp [(47, (viewE [(0, .u8)] (f47.E K))), (48, (rowsE 1 .u8 (viewE [(0, .u8)] (f48.E K))))]) (tab_ok ((tab_cons (view_ok (f47.ok K)) (tab_cons (rows_ok (view_ok (f48.ok K))) tab_nil)))) Try.func25 (c := bodyOf Try.f25) (by kernel_rfl) (by kernel_rfl) (loops_none (lp := lpNone) (by kernel_rfl)) (av := f25.av) (bl := f25.bl) (inR := f25.inR) (out := f25.o0) (fuel := 400)
  (by intro s x h; unfold f25.inA at h; split at h <;> simp at h; subst h; rfl) (fun _ => Nat.le_of_ble_eq_true rfl)
  (by intro s y h; unfold f25.inR at h; split at h <;> simp at h <;> subst h <;> rfl) (fun _ _ _ => rfl) (fun _ => by kernel_rfl)
end Go.Proofs

namespace Go.Proofs
open Go.VM
noncomputable def f27.c : Code := bodyOf Try.f27
def f27.s0t (_K : Nat) (rec : Int × Int → Option (Int)) (t3 : Int) (t4 : Int) : Option (Int) :=
  bif (decide (t4 > 0)) then
    rec ((IntKind.wrap .i64 (t3 + 1)), (IntKind.wrap .i64 (Int.tdiv t4 2)))
  else
    some t3
def f27.s0 (K : Nat) (rec : Int × Int → Option (Int)) (x : Int × Int) : Option (Int) := f27.s0t K rec x.1 x.2
noncomputable def f27.s0.b : Code := (findLoop 0 f27.c).getD .skip
def f27.s0.h : Hint := { lv := [3, 4] }
def f27.s0.ho : Hint := { lv := [3] }
def f27.s0.shp (x : Int × Int) : VS := ⟨[(3, .int .i64 x.1), (4, .int .i64 x.2)], [], 0⟩
def f27.s0.inX : VS → Option (Int × Int)
  | ⟨[(3, .int .i64 t3), (4, .int .i64 t4)], [], 0⟩ => some (t3, t4)
  | _ => none
def f27.s0.o0 (y : Int) : VS := ⟨[(3, .int .i64 y)], [], 0⟩
def f27.s0.des : ∀ α : Type, Int → (Ex → VS → Option α) → Option α := (des1 (.exit 0) f27.s0.o0)
def f27.s0.out : Int → Ex × VS := (fun y => (.exit 0, f27.s0.o0 y))
theorem f27.s0.desOK : ∀ α y (k : Ex → VS → Option α), f27.s0.des α y k = k (f27.s0.out y).1 (f27.s0.out y).2 := (fun _ _ _ => rfl)
def f27.s0.inY : Ex → VS → Option (Int)
  | .exit 0, ⟨[(3, .int .i64 t3)], [], 0⟩ => some t3
  | _, _ => none
def f27.lp (K : Nat) : Nat → Option (Hint × Summ) := tabLp [(0, f27.s0.h, summOf (iter (f27.s0 K) K) f27.s0.inX f27.s0.des)]
noncomputable def f27.tab (_K : Nat) : List (Nat × Entry) := []
theorem f27.tabOK (K : Nat) : SpecOK Try.prog (tabSp (f27.tab K)) := tab_ok ( tab_nil)
theorem f27.s0.eq (K : Nat) (rec : Int × Int → Option (Int)) (x : Int × Int) : f27.s0 K rec x = roundL (getA tys) (tabSp (f27.tab K)) 18 0 (f27.lp K) 400 f27.s0.b f27.s0.h f27.s0.ho f27.s0.shp f27.s0.inX f27.s0.inY rec x := by kernel_rfl
theorem f27.s0.lok (K : Nat) : LoopsOK Try.prog 18 0 (f27.lp K) f27.s0.b := loops_ok (by
  have h : loopsIn (f27.lp K) f27.s0.b = [] := by kernel_rfl
  rw [h]; simp)
theorem f27.s0.ok (K : Nat) : SummOK Try.prog 18 0 (summOf (iter (f27.s0 K) K) f27.s0.inX f27.s0.des) f27.s0.b :=
  loop_ok mix tys_ok (f27.tabOK K) (h := f27.s0.h) (ho := f27.s0.ho) (shp := f27.s0.shp) (inX := f27.s0.inX) (des := f27.s0.des) (out := f27.s0.out) (inY := f27.s0.inY) (fuel := 400)
    (by intro st x h; unfold f27.s0.inX at h; split at h <;> simp at h; subst h; rfl)
    (by intro e st y h; unfold f27.s0.inY at h; split at h <;> simp at h <;> subst h <;> rfl)
    f27.s0.desOK (f27.s0.lok K) (f27.s0 K) (f27.s0.eq K) K
theorem f27.loops (K : Nat) : LoopsOK Try.prog 18 0 (f27.lp K) f27.c := loops_ok (by
  have h : loopsIn (f27.lp K) f27.c = [(0, f27.s0.b)] := by kernel_rfl
  rw [h]
  intro p hp
  simp only [List.mem_cons, List.not_mem_nil, or_false] at hp
  rcases hp with rfl
  · exact ⟨_, rfl, (f27.s0.ok K)⟩)
def f27.T (K : Nat) (a0 : Int) : Option (Int) :=
  bif (decide (a0 < 8)) then
    some (0)
  else
    (iter (f27.s0 K) K ((-1), (IntKind.wrap .i64 (Int.tdiv a0 4)))).bind fun y6 =>
    some (IntKind.wrap .u8 (minE y6 12))
def f27.F (K : Nat) (x : Int) : Option (Int) := f27.T K x
def f27.av (x : Int) : List VV := [.int .i64 x]
def f27.bl (_x : Int) : List (Nat × Blk) := []
def f27.inA : VS → Option (Int)
  | ⟨[(0, .int .i64 a0)], [], 0⟩ => some a0
  | _ => none
def f27.o0 (y : Int) : VS := ⟨[(0, .int .u8 y)], [], 0⟩
def f27.des : ∀ α : Type, Int → (VS → Option α) → Option α := (dv1 f27.o0)
def f27.out : Int → VS := f27.o0
def f27.inR : VS → Option (Int)
  | ⟨[(0, .int .u8 y)], [], 0⟩ => some y
  | _ => none
noncomputable def f27.E (K : Nat) : Entry := genE 0 f27.inA (f27.F K) f27.des
theorem f27.eq (K : Nat) (x : Int) : f27.F K x = xrun (getA tys) (tabSp (f27.tab K)) Try.f27.ntmps 0 (f27.lp K) 400 f27.c ⟨initL 0 (f27.av x), f27.bl x, 0⟩ (contF (getA tys) 0 Try.f27.results.toList f27.inR) := by kernel_rfl
theorem f27.ok (K : Nat) : EntryOK Try.prog 27 (f27.E K) :=
  gen_ok mix tys_ok (f27.tabOK K) Try.func27 (by kernel_rfl : Try.f27.body = some f27.c) (by kernel_rfl) (f27.loops K) (av := f27.av) (bl := f27.bl) (out := f27.out) (fuel := 400)
    (by intro s x h; unfold f27.inA at h; split at h <;> simp at h; subst h; rfl) (fun _ => Nat.le_of_ble_eq_true rfl)
    (by intro s y h; unfold f27.inR at h; split at h <;> simp at h <;> subst h <;> rfl) (fun _ _ _ => rfl) (f27.eq K)
end Go.Proofs

namespace Go.Proofs
open Go.VM
end Go.Proofs

namespace Go.Proofs
open Go.VM
theorem f27.spec (K n : Nat) (hn : n < 9223372036854775808) (hK : 100 < K) : f27.F K (n : Int) = some ((So.asked n : Nat) : Int) := by
  simp only [f27.F, f27.T]
  unfold So.asked
  by_cases h : n < 8
  · rw [decide_eq_true (show (n : Int) < 8 by omega), cond_t, if_pos h]
    rfl
  · have hb : blen (n / 4) ≤ 63 := blen_le (by omega)
    have hb0 : 0 < blen (n / 4) := (blen_ge (x := n / 4) (by omega)).2
    rw [decide_eq_false (show ¬ (n : Int) < 8 by omega), cond_f, show Int.tdiv (n : Int) 4 = ((n / 4 : Nat) : Int) from tdiv_nat n 4, wrap_i _ (by omega) (by omega), if_neg h]
    generalize hm : n / 4 = m at hb hb0
    have hm2 : m < 9223372036854775808 := by omega
    have := iter_for (stp := f27.s0 K) (N := blen m) (fun i => ((i : Int) - 1, ((m / 2 ^ i : Nat) : Int))) (y := some ((blen m : Int) - 1)) ?_ ?_ (show blen m < K by omega)
    · simp only [Nat.pow_zero, Nat.div_one] at this
      rw [show ((-1 : Int)) = ((0 : Nat) : Int) - 1 from rfl, this, bind_s]
      congr 1
      unfold minE
      by_cases h2 : 12 < ((blen m : Nat) : Int) - 1
      · rw [decide_eq_true h2, cond_t, Nat.min_eq_right (by omega)]; rfl
      · rw [decide_eq_false h2, cond_f, wrap8, Nat.min_eq_left (by omega)]; omega
    · intro i hi rec
      have hp := blen_pos.1 hi
      have hle : m / 2 ^ i ≤ m := Nat.div_le_self _ _
      have hq2 : m / 2 ^ (i + 1) = m / 2 ^ i / 2 := by rw [Nat.pow_succ, Nat.div_div_eq_div_mul]
      simp only [f27.s0, f27.s0t]
      rw [hq2]
      generalize m / 2 ^ i = q at hp hle
      rw [decide_eq_true (show ((q : Nat) : Int) > 0 by omega), cond_t, wrap_i ((i : Int) - 1 + 1) (by omega) (by omega), show Int.tdiv ((q : Nat) : Int) 2 = ((q / 2 : Nat) : Int) from tdiv_nat _ 2, wrap_i _ (by omega) (by omega), show (i : Int) - 1 + 1 = ((i + 1 : Nat) : Int) - 1 by omega]
    · intro rec
      simp only [f27.s0, f27.s0t]
      have hz : m / 2 ^ blen m = 0 := Nat.div_eq_of_lt (blen_lt m)
      rw [hz, decide_eq_false (show ¬ (((0 : Nat) : Int) > 0) by omega), cond_f]
theorem f48.pads (K n p : Nat) (k l z : List Int) (hk : k.length = n) (hn : n ≤ 64) (hK : 100 < K) :
    iter (f48.s0 K) K (n, n, k, p, p, l, z, n, k) = some (64, n, k, p, p, l, z, 64, padT k 64) := by
  have hl : ∀ i, (k ++ List.replicate i (0 : Int)).length = n + i := fun i => by simp [hk]
  have := iter_for (stp := f48.s0 K) (N := 64 - n) (fun i => (n + i, n, k, p, p, l, z, n + i, k ++ List.replicate i 0)) (y := some (64, n, k, p, p, l, z, 64, padT k 64)) ?_ ?_ (show 64 - n < K by omega)
  · simpa using this
  · intro i hi rec
    simp only [f48.s0, f48.s0t]
    rw [decide_eq_true (show ((n + i : Nat) : Int) < 64 by omega), cond_t, ble_true (Nat.le_refl _), fitB_true (by omega), Bool.and_self, cond_t, padT_self _ (hl i), List.append_assoc, show ([0] : List Int) = List.replicate 1 0 from rfl, List.replicate_append_replicate]
    rfl
  · intro rec
    simp only [f48.s0, f48.s0t]
    rw [decide_eq_false (show ¬ ((n + (64 - n) : Nat) : Int) < 64 by omega), cond_f, show n + (64 - n) = 64 by omega]
    congr 9
    refine list_getD (by rw [hl, padT_length]; omega) fun i hi => ?_
    rw [hl] at hi
    rw [getD_padT, if_pos (by omega)]
    simp only [List.getD_eq_getElem?_getD, List.getElem?_append]
    by_cases h : i < k.length
    · rw [if_pos h]
    · rw [if_neg h, List.getElem?_eq_none (show k.length ≤ i by omega), List.getElem?_replicate]
      split <;> rfl
theorem f48.both (K n p : Nat) (k l z q : List Int) (hq : q.length = 64) (hK : 100 < K) :
    iter (f48.s2 K) K (64, 0, 0, 0, n, k, p, p, l, z, 64, q, 0, [], 0, []) = some (64, 64, n, k, p, p, l, z, 64, Sh.xr 54 q, 64, Sh.xr 92 q) := by
  have ht : ∀ y i, i ≤ 64 → (Sh.xr y (q.take i)).length = i := fun y i hi => by rw [xr_length, List.length_take]; omega
  have := iter_for (stp := f48.s2 K) (N := 64) (fun i => (64, i, i, (i : Int), n, k, p, p, l, z, 64, q, i, Sh.xr 54 (q.take i), i, Sh.xr 92 (q.take i))) (y := some (64, 64, n, k, p, p, l, z, 64, Sh.xr 54 q, 64, Sh.xr 92 q)) ?_ ?_ (show 64 < K by omega)
  · exact this
  · intro i hi rec
    simp only [f48.s2, f48.s2t]
    have e2 : q.take (i + 1) = q.take i ++ [q.getD i 0] := by
      rw [List.take_add_one, List.getElem?_eq_getElem (by omega)]; simp [List.getD_eq_getElem?_getD, show i < q.length by omega]
    have e3 : ∀ y, Sh.xr y (q.take (i + 1)) = Sh.xr y (q.take i) ++ [bits .xor .u8 (q.getD i 0) y] := fun y => by rw [e2, Sh.xr, List.map_append]; rfl
    rw [decide_eq_true (show ((i : Nat) : Int) < 64 by omega), cond_t, decide_eq_true (show (0 : Int) ≤ (i : Int) ∧ (i : Int) < ((64 : Nat) : Int) by omega), Int.toNat_natCast, Nat.zero_add, show Nat.blt i 64 = true by simp [Nat.blt_eq]; omega, Bool.and_self, cond_t, cond_t,
      ble_true (Nat.le_refl i), fitB_true (by omega), Bool.and_self, cond_t, cond_t, cond_t, cond_t, padT_self _ (ht 54 i (by omega)), padT_self _ (ht 92 i (by omega)), ← e3, ← e3, wrap_i _ (by omega) (by omega)]
    rfl
  · intro rec
    simp only [f48.s2, f48.s2t]
    rw [decide_eq_false (show ¬ ((64 : Nat) : Int) < 64 by omega), cond_f, List.take_of_length_le (by omega)]
theorem f48.spec (K n p : Nat) (k l : List Int) (hk : k.length = n) (hn : n ≤ 64) (hl : l.length = p) (ol : octets l) (hp : p ≤ 1000) (hK : 1000 < K) :
    f48.F K (n, n, k, p, p, l) = some (Sh.mac k l, n, k, p, p, l) := by
  simp only [f48.F, f48.T]
  rw [Nat.zero_add, ble_true (Nat.le_refl n), fitB_true (by omega), Bool.and_self, cond_t, decide_eq_false (show ¬ ((n : Nat) : Int) > 64 by omega), cond_f, subI_self k hk,
    f48.pads K n p k l _ hk hn (by omega), bind_s]
  simp only []
  rw [f48.both K n p k l _ _ (padT_length k 64) (by omega), bind_s]
  simp only [Nat.zero_add]
  have x1 : (Sh.xr 54 (padT k 64)).length = 64 := by rw [xr_length, padT_length]
  have x2 : (Sh.xr 92 (padT k 64)).length = 64 := by rw [xr_length, padT_length]
  have m1 : (Sh.xr 54 (padT k 64) ++ l).length = 64 + p := by rw [List.length_append, x1, hl]
  have m2 : ∀ s, (Sh.xr 92 (padT k 64) ++ Sh.sum s).length = 64 + 32 := fun s => by rw [List.length_append, x2, sum_length]
  rw [ble_true (Nat.le_refl p), ble_true (Nat.le_refl 64), Bool.and_self, fitB_true (by omega), Bool.and_self, cond_t, ble_true (Nat.le_refl (64 + p)), Bool.and_self, Bool.and_self, cond_t, subI_self l hl, padT_self _ x1, padT_self l hl, subI_self _ m1,
    f19.spec K (64 + p) _ m1 (octets_append (xr_octets _ _) ol) (by omega) (by omega), bind_s]
  simp only []
  rw [fitB_true (by omega), Bool.and_self, cond_t, ble_true (Nat.le_refl (64 + 32)), Bool.and_self, Bool.and_self, cond_t, subI_self _ (sum_length _), padT_self _ x2, padT_self _ (sum_length _), subI_self _ (m2 _),
    f19.spec K (64 + 32) _ (m2 _) (octets_append (xr_octets _ _) (sum_octets _)) (by omega) (by omega), bind_s]
  simp only [Sh.mac, Sh.key, if_neg (show ¬ 64 < k.length by omega)]
theorem f47.spec8 (K a x : Nat) (l : List Int) (hl : l.length = a) (hx : x < 18446744073709551616) (ha : a ≤ 10000000000) (hK : 10 < K) :
    f47.F K (a, (x : Int), 8, a, l) = some (a + 8, a, l, a + 8, l ++ be 8 x) := by
  simp only [f47.F, f47.T]
  have e := f66.spec 8 K x hx (by omega) (by omega)
  rw [if_neg (by omega)] at e
  rw [show minE 8 8 = ((8 : Nat) : Int) from rfl, e, bind_s, altr]
  dsimp only
  rw [Nat.zero_add, Nat.zero_add, ble_true (Nat.le_refl a), ble_true (Nat.le_refl 8), Bool.and_self, Bool.and_self, Bool.and_self, cond_t, subI_self _ (be_length 8 x), subI_self _ hl, f65.spec K a 8 l _ hl (be_length _ _) (by omega), bind_s]
theorem f25.spec (K g b s : Nat) (S f t : List Int) (lS : S.length = 32) (hg : g < 18446744073709551616) (hb : b ≤ 12) (lf : f.length = 16) (of' : octets f) (lt : t.length = 16) (ot : octets t) (hs : s < 4294967296) (h0 : s ≠ 0) (hK : 1000 < K) :
    f25.F K (S, (g : Int), (b : Int), f, t, (s : Int)) = some ((b : Int), (g : Int), Sh.mac S (So.word ++ be 8 g ++ [(b : Int)] ++ f ++ t ++ be 4 s), 0) := by
  simp only [f25.F, f25.T]
  have e8 : f47.F K (6, (g : Int), 8, 6, So.word) = some (14, 6, So.word, 14, So.word ++ be 8 g) := f47.spec8 K 6 g So.word rfl hg (by omega) (by omega)
  have ob : octets [(b : Int)] := by intro x hx; rw [List.mem_singleton] at hx; subst hx; omega
  have ow : octets So.word := So.oct rfl
  have M1 : (So.word ++ be 8 g).length = 14 := by rw [List.length_append, be_length]; rfl
  have M2 : (So.word ++ be 8 g ++ [(b : Int)]).length = 14 + 1 := by rw [List.length_append, M1]; rfl
  have M3 : (So.word ++ be 8 g ++ [(b : Int)] ++ f).length = 14 + 1 + 16 := by rw [List.length_append, M2, lf]
  have M4 : (So.word ++ be 8 g ++ [(b : Int)] ++ f ++ t).length = 14 + 1 + 16 + 16 := by rw [List.length_append, M3, lt]
  have M5 : (So.word ++ be 8 g ++ [(b : Int)] ++ f ++ t ++ be 4 s).length = 51 := by rw [List.length_append, M4, be_length]
  have e4 : f47.F K (14 + 1 + 16 + 16, (s : Int), 4, 14 + 1 + 16 + 16, So.word ++ be 8 g ++ [(b : Int)] ++ f ++ t) = some (51, 47, So.word ++ be 8 g ++ [(b : Int)] ++ f ++ t, 51, So.word ++ be 8 g ++ [(b : Int)] ++ f ++ t ++ be 4 s) := f47.spec K 47 s _ M4 (by omega) (by omega) (by omega)
  rw [decide_eq_false (show ¬ ((b : Int) > 12) by omega), cond_f, show (((s : Int)) == 0) = false by simp; omega, cond_f, show ([112, 117, 122, 122, 108, 101] : List Int) = So.word from rfl, e8, bind_s]
  simp only []
  rw [show (Nat.ble 14 14 && fitB ((14 + 1) * 1)) = true from rfl, cond_t, show (Nat.ble (14 + 1) (14 + 1) && fitB ((14 + 1 + 16) * 1)) = true from rfl, cond_t, show (Nat.ble (14 + 1 + 16) (14 + 1 + 16) && fitB ((14 + 1 + 16 + 16) * 1)) = true from rfl, cond_t, show (Nat.ble (0 + (14 + 1 + 16 + 16)) (14 + 1 + 16 + 16) && true && true) = true from rfl, cond_t,
    wrap_u (s : Int) (by omega) (by omega), subI_self f lf, subI_self t lt, subI_self S lS, padT_self f lf, padT_self t lt, padT_self _ M1, padT_self _ M2, padT_self _ M3, subI_self _ M4, e4, bind_s]
  simp only []
  rw [show (Nat.ble (0 + 51) 51 && true && true) = true from rfl, cond_t, subI_self _ M5,
    f48.spec K 32 51 S _ lS (by omega) M5 (octets_append (octets_append (octets_append (octets_append (octets_append ow (be_octets _ _)) ob) of') ot) (be_octets _ _)) (by omega) hK, bind_s]
theorem f25.big (K : Nat) (S f t : List Int) (g b s : Int) (hb : 12 < b) : f25.F K (S, g, b, f, t, s) = some (0, 0, List.replicate 32 0, 1) := by
  simp only [f25.F, f25.T]
  rw [decide_eq_true (show b > 12 by omega), cond_t]
  rfl
theorem f25.none (K : Nat) (S f t : List Int) (g b : Int) (hb : b ≤ 12) : f25.F K (S, g, b, f, t, 0) = some (0, 0, List.replicate 32 0, 1) := by
  simp only [f25.F, f25.T]
  rw [decide_eq_false (show ¬ b > 12 by omega), cond_f, show (((0 : Int)) == 0) = true from rfl, cond_t]
  rfl
end Go.Proofs

namespace Go.Proofs
open Go.VM
abbrev f7.Ty0 := List Int × Int × Int × List Int × List Int × Int × Int
noncomputable def f7.T (K : Nat) (a0_0 : List Int) (a0_1 : Int) (a0_2 : Int) (a0_3 : List Int) (a0_4 : List Int) (a0_5 : Int) (a1 : Int) : Option (Bool) :=
  (f24.F K (a0_0, a0_1, a0_2, a0_3, a0_4, a0_5)).bind fun y1 =>
  (f25.F K (a0_0, a0_1, a0_2, a0_3, a0_4, a0_5)).bind fun y2 =>
  bif ((y1.1 == y2.1) && ((y1.2.1 == y2.2.1) && (eqL 32 y1.2.2.1 y2.2.2.1 && true))) then
    bif (y1.2.2.2 == y2.2.2.2) then
      (f26.F K a1).bind fun y5 =>
      (f27.F K a1).bind fun y6 =>
      bif (y5 == y6) then
        (f28.F K ()).bind fun y7 =>
        some y7
      else
        some false
    else
      some false
  else
    some false
noncomputable def f7.F (K : Nat) (x : f7.Ty0) : Option (Bool) := f7.T K x.1 x.2.1 x.2.2.1 x.2.2.2.1 x.2.2.2.2.1 x.2.2.2.2.2.1 x.2.2.2.2.2.2
noncomputable def f7.av (x : f7.Ty0) : List VV := [.agg [.ints .u8 32 x.1, .int .u64 x.2.1, .int .u8 x.2.2.1, .ints .u8 16 x.2.2.2.1, .ints .u8 16 x.2.2.2.2.1, .int .u32 x.2.2.2.2.2.1], .int .i64 x.2.2.2.2.2.2]
noncomputable def f7.bl (_x : f7.Ty0) : List (Nat × Blk) := []
noncomputable def f7.inA : VS → Option (f7.Ty0)
  | ⟨[(0, .agg [.ints .u8 32 a0_0, .int .u64 a0_1, .int .u8 a0_2, .ints .u8 16 a0_3, .ints .u8 16 a0_4, .int .u32 a0_5]), (1, .int .i64 a1)], [], 0⟩ => some (a0_0, a0_1, a0_2, a0_3, a0_4, a0_5, a1)
  | _ => none
noncomputable def f7.o0 (y : Bool) : VS := ⟨[(0, .bool y)], [], 0⟩
noncomputable def f7.inR : VS → Option (Bool)
  | ⟨[(0, .bool y)], [], 0⟩ => some y
  | _ => none
noncomputable def f7.E (K : Nat) : Entry := genE 0 f7.inA (f7.F K) (dv1 f7.o0)
theorem f7.ok (K : Nat) : EntryOK Try.prog 7 (f7.E K) := gen_ok mix tys_ok (tab_ok ((tab_cons (f24.ok K) (tab_cons (f25.ok K) (tab_cons (f26.ok K) (tab_cons (f27.ok K) (tab_cons (f28.ok K) tab_nil))))))) Try.func7 (c := bodyOf Try.f7) (by kernel_rfl) (by kernel_rfl) (loops_none (lp := lpNone) (by kernel_rfl)) (av := f7.av) (bl := f7.bl) (inR := f7.inR) (out := f7.o0) (fuel := 400)
  (by intro s x h; unfold f7.inA at h; split at h <;> simp at h; subst h; rfl) (fun _ => Nat.le_of_ble_eq_true rfl)
  (by intro s y h; unfold f7.inR at h; split at h <;> simp at h <;> subst h <;> rfl) (fun _ _ _ => rfl) (fun _ => by kernel_rfl)
end Go.Proofs

namespace Go.VM
theorem wf_i64 {z : Int} (h : (Lit.int .i64 z).wf = true) : -9223372036854775808 ≤ z ∧ z < 9223372036854775808 := by
  simp [Lit.wf, IntKind.min, IntKind.max, IntKind.signed, IntKind.bits] at h
  omega
end Go.VM
namespace Go.Proofs
open Go.VM
theorem f24.f25 (k : List Int) (hk : k.length = 32 ∧ octets k) (a : Nat) (ha : a < 18446744073709551616) (b : Nat) (l : List Int) (hl : l.length = 16 ∧ octets l) (m : List Int) (hm : m.length = 16 ∧ octets m) (c : Nat) (hc : c < 4294967296) :
    ∃ y, f24.F 100000 (k, (a : Int), (b : Int), l, m, (c : Int)) = some y ∧ f25.F 100000 (k, (a : Int), (b : Int), l, m, (c : Int)) = some y := by
  by_cases h : 12 < b
  · exact ⟨_, f24.big 100000 k l m _ _ _ (by omega), f25.big 100000 k l m _ _ _ (by omega)⟩
  · by_cases h0 : c = 0
    · subst h0
      exact ⟨_, f24.none 100000 k l m _ _ (by omega), f25.none 100000 k l m _ _ (by omega)⟩
    · exact ⟨_, f24.spec 100000 a b c k l m hk.1 hk.2 ha (by omega) hl.1 hl.2 hm.1 hm.2 hc h0 (by omega), f25.spec 100000 a b c k l m hk.1 ha (by omega) hl.1 hl.2 hm.1 hm.2 hc h0 (by omega)⟩
theorem f26.f27 (z : Int) (hz : z < 9223372036854775808) : ∃ y, f26.F 100000 z = some y ∧ f27.F 100000 z = some y := by
  by_cases h : z < 8
  · refine ⟨0, ?_, ?_⟩
    · simp only [f26.F, f26.T]; rw [decide_eq_true h, cond_t]
    · simp only [f27.F, f27.T]; rw [decide_eq_true h, cond_t]
  · obtain ⟨n, rfl⟩ := Int.eq_ofNat_of_zero_le (show 0 ≤ z by omega)
    exact ⟨_, f26.spec 100000 n (by omega), f27.spec 100000 n (by omega) (by omega)⟩
theorem f7.holds (k : List Int) (a b : Int) (l m : List Int) (c : Int) (hk : k.length = 32 ∧ ∀ x ∈ k, 0 ≤ x ∧ x < 256) (ha : 0 ≤ a ∧ a < 18446744073709551616) (hb : 0 ≤ b ∧ b < 256) (hl : l.length = 16 ∧ ∀ x ∈ l, 0 ≤ x ∧ x < 256) (hm : m.length = 16 ∧ ∀ x ∈ m, 0 ≤ x ∧ x < 256) (hc : 0 ≤ c ∧ c < 4294967296) (z : Int) (hz : -9223372036854775808 ≤ z ∧ z < 9223372036854775808) :
    f7.F 100000 (k, a, b, l, m, c, z) = some true := by
  obtain ⟨a, rfl⟩ := Int.eq_ofNat_of_zero_le ha.1
  obtain ⟨b, rfl⟩ := Int.eq_ofNat_of_zero_le hb.1
  obtain ⟨c, rfl⟩ := Int.eq_ofNat_of_zero_le hc.1
  obtain ⟨y, h1, h2⟩ := f24.f25 k hk a (by omega) b l hl m hm c (by omega)
  obtain ⟨v, h3, h4⟩ := f26.f27 z hz.2
  simp only [f7.F, f7.T]
  rw [h1, bind_s, h2, bind_s, beq_self_eq_true, beq_self_eq_true, beq_self_eq_true, eqL_refl, Bool.and_self, Bool.and_self, Bool.and_self, cond_t, cond_t, h3, bind_s, h4, bind_s, beq_self_eq_true, cond_t, f28.holds 100000 (by omega), bind_s]
end Go.Proofs
