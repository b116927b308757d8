/- Plain laws: lemmas that hold with no condition but those that each states. -/
import Derived.Test.YtlncodfolaoilaaQ2
import Derived.Test.YtlncodfolaoilaaQ11
import Derived.Test.YtlncodfolaoilaaQ7
import Derived.Test.YtlncodfolaoilaaQ6
namespace Go.Proofs
open Go.VM
noncomputable def f28.T (K : Nat)  : Option (Bool) :=
  (f31.F K (0, 0, [0, 0, 0, 0, 0, 0, 0, 0, 0, 0, 0, 0, 0, 0, 0, 0, 0, 0, 0, 0, 0, 0, 0, 0, 0, 0, 0, 0, 0, 0, 0, 0], [0, 0, 0, 0, 0, 0, 0, 0, 0, 0, 0, 0, 0, 0, 0, 0], [0, 0, 0, 0, 0, 0, 0, 0, 0, 0, 0, 0, 0, 0, 0, 0])).bind fun y1 =>
  (f24.F K ([0, 0, 0, 0, 0, 0, 0, 0, 0, 0, 0, 0, 0, 0, 0, 0, 0, 0, 0, 0, 0, 0, 0, 0, 0, 0, 0, 0, 0, 0, 0, 0], 0, 13, [0, 0, 0, 0, 0, 0, 0, 0, 0, 0, 0, 0, 0, 0, 0, 0], [0, 0, 0, 0, 0, 0, 0, 0, 0, 0, 0, 0, 0, 0, 0, 0], 1)).bind fun y2 =>
  (f24.F K ([0, 0, 0, 0, 0, 0, 0, 0, 0, 0, 0, 0, 0, 0, 0, 0, 0, 0, 0, 0, 0, 0, 0, 0, 0, 0, 0, 0, 0, 0, 0, 0], 0, 0, [0, 0, 0, 0, 0, 0, 0, 0, 0, 0, 0, 0, 0, 0, 0, 0], [0, 0, 0, 0, 0, 0, 0, 0, 0, 0, 0, 0, 0, 0, 0, 0], 0)).bind fun y3 =>
  (f26.F K 7).bind fun y4 =>
  bif (y4 == 0) then
    (f26.F K 8).bind fun y5 =>
    bif (y5 == 1) then
      (f26.F K 16).bind fun y6 =>
      bif (y6 == 2) then
        (f26.F K 1000000).bind fun y7 =>
        bif (y7 == 12) then
          (f26.F K (-1)).bind fun y8 =>
          bif (y8 == 0) then
            bif (eqL 32 y1.1 [0, 0, 0, 0, 0, 0, 0, 0, 0, 0, 0, 0, 0, 0, 0, 0, 0, 0, 0, 0, 0, 0, 0, 0, 0, 0, 0, 0, 0, 0, 0, 0] && true) then
              bif (y1.2 == 0) then
                bif (y2.2.2.2 == 1) then
                  bif (y3.2.2.2 == 1) then
                    (f29.F K (0, 0, [0, 0, 0, 0, 0, 0, 0, 0, 0, 0, 0, 0, 0, 0, 0, 0, 0, 0, 0, 0, 0, 0, 0, 0, 0, 0, 0, 0, 0, 0, 0, 0], [0, 0, 0, 0, 0, 0, 0, 0, 0, 0, 0, 0, 0, 0, 0, 0], [0, 0, 0, 0, 0, 0, 0, 0, 0, 0, 0, 0, 0, 0, 0, 0], [1, 0, 0, 0, 0, 0, 0, 0, 0, 0, 0, 0, 0, 0, 0, 0, 0, 0, 0, 0, 0, 0, 0, 0, 0, 0, 0, 0, 0, 0, 0, 0])).bind fun y12 =>
                    some y12
                  else
                    some false
                else
                  some false
              else
                some false
            else
              some false
          else
            some false
        else
          some false
      else
        some false
    else
      some false
  else
    some false
noncomputable def f28.F (K : Nat) (_x : Unit) : Option (Bool) := f28.T K
noncomputable def f28.av (_x : Unit) : List VV := []
noncomputable def f28.bl (_x : Unit) : List (Nat × Blk) := []
noncomputable def f28.inA : VS → Option (Unit)
  | ⟨[], [], 0⟩ => some ()
  | _ => none
noncomputable def f28.o0 (y : Bool) : VS := ⟨[(0, .bool y)], [], 0⟩
noncomputable def f28.inR : VS → Option (Bool)
  | ⟨[(0, .bool y)], [], 0⟩ => some y
  | _ => none
noncomputable def f28.E (K : Nat) : Entry := genE 0 f28.inA (f28.F K) (dv1 f28.o0)
theorem f28.ok (K : Nat) : EntryOK Try.prog 28 (f28.E K) := gen_ok mix tys_ok (tab_ok ((tab_cons (f31.ok K) (tab_cons (f24.ok K) (tab_cons (f26.ok K) (tab_cons (f29.ok K) tab_nil)))))) Try.func28 (c := bodyOf Try.f28) (by kernel_rfl) (by kernel_rfl) (loops_none (lp := lpNone) (by kernel_rfl)) (av := f28.av) (bl := f28.bl) (inR := f28.inR) (out := f28.o0) (fuel := 400)
  (by intro s x h; unfold f28.inA at h; split at h <;> simp at h; rfl) (fun _ => Nat.le_of_ble_eq_true rfl)
  (by intro s y h; unfold f28.inR at h; split at h <;> simp at h <;> subst h <;> rfl) (fun _ _ _ => rfl) (fun _ => by kernel_rfl)
end Go.Proofs

namespace Go.Proofs
open Go.VM
def So.low (h : List Int) : Nat := (h.getD 30 0).toNat * 256 + (h.getD 31 0).toNat
def So.ck (b : Nat) (h : List Int) : Bool := So.low h % 2 ^ b == 0
theorem So.shl32 (b : Nat) (hb : b ≤ 12) : shiftI .shl .u32 1 (b : Int) = ((2 ^ b : Nat) : Int) := by
  have : ∀ c : Fin 13, shiftI .shl .u32 1 ((c.val : Nat) : Int) = ((2 ^ c.val : Nat) : Int) := by decide
  exact this ⟨b, by omega⟩
theorem So.pow12 (b : Nat) (hb : b ≤ 12) : 1 ≤ 2 ^ b ∧ 2 ^ b ≤ 4096 :=
  ⟨Nat.one_le_two_pow, Nat.pow_le_pow_right (by decide) hb⟩
theorem So.and_low (x : Nat) (hx : x < 65536) (b : Nat) (hb : b ≤ 12) : bits .and .u32 (x : Int) (IntKind.wrap .u32 ((shiftI .shl .u32 1 (b : Int)) - 1)) = ((x % 2 ^ b : Nat) : Int) := by
  obtain ⟨h1, h2⟩ := So.pow12 b hb
  rw [So.shl32 b hb, show ((2 ^ b : Nat) : Int) - 1 = ((2 ^ b - 1 : Nat) : Int) by omega, wrap_32n _ (by omega), bits_and, BitVec.toNat_and]
  simp only [bv, BitVec.ofInt_natCast, BitVec.toNat_ofNat]
  rw [Nat.mod_eq_of_lt (show x < 2 ^ 32 by omega), Nat.mod_eq_of_lt (show 2 ^ b - 1 < 2 ^ 32 by omega), Nat.and_two_pow_sub_one_eq_mod]
theorem So.or32 (a c : Nat) (ha : a < 256) (hc : c < 256) : bits .or .u32 (IntKind.wrap .u32 ((IntKind.wrap .u32 (a : Int)) * 2 ^ 8)) (IntKind.wrap .u32 (c : Int)) = ((a * 256 + c : Nat) : Int) := by
  have h := Nat.shiftLeft_add_eq_or_of_lt (show c < 2 ^ 8 by omega) a
  rw [Nat.shiftLeft_eq] at h
  rw [wrap_32n a (by omega), wrap_32n c (by omega), show (a : Int) * 2 ^ 8 = ((a * 2 ^ 8 : Nat) : Int) by omega, wrap_32n _ (by omega), bits_or, BitVec.toNat_or]
  simp only [bv, BitVec.ofInt_natCast, BitVec.toNat_ofNat]
  rw [Nat.mod_eq_of_lt (show a * 2 ^ 8 < 2 ^ 32 by omega), Nat.mod_eq_of_lt (show c < 2 ^ 32 by omega), ← h]
theorem So.int_nat (n : Nat) : (((n : Nat) : Int) == 0) = (n == 0) := by
  cases h : (n == 0)
  · simp at h ⊢; omega
  · simp at h ⊢; omega
theorem f29.big (K : Nat) (b g : Int) (I f t j : List Int) (hb : 12 < b) : f29.F K (b, g, I, f, t, j) = some false := by
  simp only [f29.F, f29.T]
  rw [decide_eq_true (show b > 12 by omega), cond_t]
theorem f29.spec (K b : Nat) (hb : b ≤ 12) (g : Int) (I f t j : List Int) (lI : I.length = 32) (oI : octets I) (lf : f.length = 16) (of' : octets f) (lt : t.length = 16) (ot : octets t) (lj : j.length = 32) (oj : octets j) (hK : 10000 < K) :
    f29.F K ((b : Int), g, I, f, t, j) = some (So.ck b (Sh.sha (strL f29.k0) [I, f, t, j])) := by
  have hs : f29.k0.size = 4 := rfl
  simp only [f29.F, f29.T]
  rw [decide_eq_false (show ¬ ((b : Int) > 12) by omega), cond_f, subI_self I lI, subI_self f lf, subI_self t lt, subI_self j lj,
    f50.spec K f29.k0 32 I 16 f 16 t 32 j (by omega) lI oI (by omega) lf of' (by omega) lt ot (by omega) lj oj (by omega) (by omega) (by omega) (by omega) (by omega) (by omega), bind_s]
  simp only []
  rw [decide_eq_true (show (0 : Int) ≤ (b : Int) by omega), cond_t]
  have ho : octets (Sh.sha (strL f29.k0) [I, f, t, j]) := sum_octets _
  obtain ⟨a, ha, ea⟩ := getD_oct ho 30
  obtain ⟨c, hc, ec⟩ := getD_oct ho 31
  rw [ea, ec, So.or32 a c ha hc, So.and_low _ (by omega) b hb, So.int_nat, So.ck, So.low, ea, ec]
  rfl
theorem So.oct {l : List Int} (h : l.all (fun x => decide (0 ≤ x ∧ x < 256)) = true) : octets l := fun x hx => of_decide_eq_true (List.all_eq_true.1 h x hx)
theorem f24.big (K : Nat) (S f t : List Int) (g b s : Int) (hb : 12 < b) : f24.F K (S, g, b, f, t, s) = some (0, 0, List.replicate 32 0, 1) := by
  simp only [f24.F, f24.T]
  rw [decide_eq_true (show b > 12 by omega), cond_t]
  rfl
theorem f24.none (K : Nat) (S f t : List Int) (g b : Int) (hb : b ≤ 12) : f24.F K (S, g, b, f, t, 0) = some (0, 0, List.replicate 32 0, 1) := by
  simp only [f24.F, f24.T]
  rw [decide_eq_false (show ¬ b > 12 by omega), cond_f, show (((0 : Int)) == 0) = true from rfl, cond_t]
  rfl
def So.asked (n : Nat) : Nat := if n < 8 then 0 else min (blen (n / 4) - 1) 12
theorem f26.spec (K n : Nat) (hn : n < 9223372036854775808) : f26.F K (n : Int) = some ((So.asked n : Nat) : Int) := by
  simp only [f26.F, f26.T]
  unfold So.asked
  by_cases h : n < 8
  · rw [decide_eq_true (show (n : Int) < 8 by omega), cond_t, if_pos h]
    rfl
  · have hb : blen (n / 4) ≤ 63 := blen_le (by omega)
    have hb0 : 0 < blen (n / 4) := (blen_ge (x := n / 4) (by omega)).2
    rw [decide_eq_false (show ¬ (n : Int) < 8 by omega), cond_f, show Int.tdiv (n : Int) 4 = ((n / 4 : Nat) : Int) from tdiv_nat n 4, wrap_i _ (by omega) (by omega), wrap_u _ (by omega) (by omega)]
    have e : f49.F K ((n / 4 : Nat) : Int) = some ((blen (n / 4) : Nat) : Int) := by
      simp only [f49.F, f49.T]
      rw [f68.spec K _ (by omega), bind_s]
    rw [e, bind_s, wrap_i _ (by omega) (by omega), if_neg h]
    congr 1
    unfold minE
    by_cases h2 : 12 < ((blen (n / 4) : Nat) : Int) - 1
    · rw [decide_eq_true h2, cond_t, Nat.min_eq_right (by omega)]; rfl
    · rw [decide_eq_false h2, cond_f, wrap8, Nat.min_eq_left (by omega)]; omega
theorem f26.neg (K : Nat) : f26.F K (-1) = some 0 := by
  simp only [f26.F, f26.T]
  rfl
theorem So.cand_length (k : Nat) : (So.cand k).length = 32 := by simp [So.cand, be_length]
theorem So.cand_octets (k : Nat) : octets (So.cand k) := octets_append (octets_zeros 24) (be_octets 8 k)
theorem So.ck0 (h : List Int) : So.ck 0 h = true := by
  simp [So.ck, Nat.mod_one]
theorem f28.holds (K : Nat) (hK : 10000 < K) : f28.F K () = some true := by
  have z32 : octets (List.replicate 32 0) := octets_zeros 32
  have z16 : octets (List.replicate 16 0) := octets_zeros 16
  have hc : ∀ j, j.length = 32 → octets j → f29.F K (0, 0, List.replicate 32 0, List.replicate 16 0, List.replicate 16 0, j) = some true := fun j hj oj =>
    (f29.spec K 0 (by omega) 0 (List.replicate 32 0) (List.replicate 16 0) (List.replicate 16 0) j (by simp) z32 (by simp) z16 (by simp) z16 hj oj hK).trans (by rw [So.ck0])
  have h31 : f31.F K (0, 0, List.replicate 32 0, List.replicate 16 0, List.replicate 16 0) = some (List.replicate 32 0, 0) := by
    unfold f31.F
    simp only
    rw [if_neg (by decide), if_pos (fun k => ⟨true, hc _ (So.cand_length k) (So.cand_octets k)⟩), show (65536 : Nat) = 65535 + 1 from rfl, So.first, if_pos (show So.pass K _ 0 = true from by unfold So.pass; simp only; rw [hc _ (So.cand_length 0) (So.cand_octets 0)]; rfl)]
    rfl
  have l1 : f29.F K (0, 0, List.replicate 32 0, List.replicate 16 0, List.replicate 16 0, [1, 0, 0, 0, 0, 0, 0, 0, 0, 0, 0, 0, 0, 0, 0, 0, 0, 0, 0, 0, 0, 0, 0, 0, 0, 0, 0, 0, 0, 0, 0, 0]) = some true := hc _ rfl (So.oct rfl)
  simp only [f28.F, f28.T]
  rw [show f31.F K (0, 0, [0, 0, 0, 0, 0, 0, 0, 0, 0, 0, 0, 0, 0, 0, 0, 0, 0, 0, 0, 0, 0, 0, 0, 0, 0, 0, 0, 0, 0, 0, 0, 0], [0, 0, 0, 0, 0, 0, 0, 0, 0, 0, 0, 0, 0, 0, 0, 0], [0, 0, 0, 0, 0, 0, 0, 0, 0, 0, 0, 0, 0, 0, 0, 0]) = _ from h31, bind_s,
    f24.big K _ _ _ 0 13 1 (by decide), bind_s, f24.none K _ _ _ 0 0 (by decide), bind_s,
    show f26.F K 7 = some 0 from f26.spec K 7 (by decide), bind_s, show f26.F K 8 = some 1 from f26.spec K 8 (by decide), bind_s, show f26.F K 16 = some 2 from f26.spec K 16 (by decide), bind_s, show f26.F K 1000000 = some 12 from f26.spec K 1000000 (by decide), bind_s, f26.neg, bind_s, show f29.F K (0, 0, [0, 0, 0, 0, 0, 0, 0, 0, 0, 0, 0, 0, 0, 0, 0, 0, 0, 0, 0, 0, 0, 0, 0, 0, 0, 0, 0, 0, 0, 0, 0, 0], [0, 0, 0, 0, 0, 0, 0, 0, 0, 0, 0, 0, 0, 0, 0, 0], [0, 0, 0, 0, 0, 0, 0, 0, 0, 0, 0, 0, 0, 0, 0, 0], [1, 0, 0, 0, 0, 0, 0, 0, 0, 0, 0, 0, 0, 0, 0, 0, 0, 0, 0, 0, 0, 0, 0, 0, 0, 0, 0, 0, 0, 0, 0, 0]) = _ from l1, bind_s]
  rfl
end Go.Proofs

namespace Go.Proofs
open Go.VM
end Go.Proofs

namespace Go.Proofs
open Go.VM
end Go.Proofs

namespace Go.Proofs
open Go.VM
end Go.Proofs

namespace Go.Proofs
open Go.VM
end Go.Proofs

namespace Go.Proofs
open Go.VM
end Go.Proofs

namespace Go.Proofs
open Go.VM
end Go.Proofs

namespace Go.Proofs
open Go.VM
end Go.Proofs

namespace Go.Proofs
open Go.VM
end Go.Proofs

namespace Go.Proofs
open Go.VM
end Go.Proofs

namespace Go.Proofs
open Go.VM
end Go.Proofs

namespace Go.Proofs
open Go.VM
end Go.Proofs

namespace Go.Proofs
open Go.VM
end Go.Proofs

namespace Go.Proofs
open Go.VM
end Go.Proofs

namespace Go.Proofs
open Go.VM
end Go.Proofs

namespace Go.Proofs
open Go.VM
end Go.Proofs

namespace Go.Proofs
open Go.VM
end Go.Proofs

namespace Go.Proofs
open Go.VM
end Go.Proofs

namespace Go.Proofs
open Go.VM
end Go.Proofs

namespace Go.Proofs
open Go.VM
end Go.Proofs

namespace Go.Proofs
open Go.VM
end Go.Proofs

namespace Go.Proofs
open Go.VM
end Go.Proofs

namespace Go.Proofs
open Go.VM
def Dr.sum (s : List Int) (n : Nat) : List Int := Sh.mac s ([100, 114, 97, 119] ++ be 8 n)
end Go.Proofs

namespace Go.Proofs
open Go.VM
theorem eqL_refl (n : Nat) (l : List Int) : eqL n l l = true := by simp [eqL]
end Go.Proofs

namespace Go.Proofs
open Go.VM
end Go.Proofs

namespace Go.Proofs
open Go.VM
end Go.Proofs

namespace Go.Proofs
open Go.VM
end Go.Proofs

namespace Go.Proofs
open Go.VM
abbrev f19.Ty0 := Nat × Int × Nat × List Int × List Int × Nat × List Int × List Int × List Int
abbrev f19.Ty1 := Nat × Int × Int × Nat × List Int × List Int × Nat × List Int
abbrev f19.Ty2 := Nat × Nat × Nat × List Int × List Int × Nat × List Int
abbrev f19.Ty3 := Int × Nat × List Int × List Int × List Int × List Int
abbrev f19.Ty4 := Nat × Nat × List Int × List Int × Nat × List Int
abbrev f19.Ty5 := Nat × List Int × List Int × List Int
abbrev f19.Ty6 := List Int × Nat × List Int
abbrev f19.Ty7 := Nat × Nat × List Int
noncomputable def f19.c : Code := bodyOf Try.f19
def f19.s0t (_K : Nat) (rec : f19.Ty2 → Option (f19.Ty2)) (t0 : Nat) (t3 : Nat) (b0_0 : Nat) (b0_1 : List Int) (b2 : List Int) (b3_0 : Nat) (b3_1 : List Int) : Option (f19.Ty2) :=
  bif ((Int.tmod ((t3 : Nat) : Int) 64) != 56) then
    bif (Nat.ble t3 b3_0 && (fitB ((t3 + 1) * 1))) then
      rec (t0, (t3 + 1), b0_0, b0_1, b2, (t3 + 1), ((padT b3_1 t3) ++ [0]))
    else
      none
  else
    some (t0, t3, b0_0, b0_1, b2, b3_0, b3_1)
def f19.s0 (K : Nat) (rec : f19.Ty2 → Option (f19.Ty2)) (x : f19.Ty2) : Option (f19.Ty2) := f19.s0t K rec x.1 x.2.1 x.2.2.1 x.2.2.2.1 x.2.2.2.2.1 x.2.2.2.2.2.1 x.2.2.2.2.2.2
noncomputable def f19.s0.b : Code := (findLoop 0 f19.c).getD .skip
def f19.s0.h : Hint := { lv := [0, 2, 3] }
def f19.s0.ho : Hint := { lv := [0, 2, 3] }
def f19.s0.shp (x : f19.Ty2) : VS := ⟨[(0, .vw true 0 0 x.1 1), (2, .ptr 2 0), (3, .vec 3 0 x.2.1 4)], [(0, ([.ints .u8 x.2.2.1 x.2.2.2.1], 0, .ro)), (2, ([.ints .u8 32 x.2.2.2.2.1], 35, .norm)), (3, ([.ints .u8 x.2.2.2.2.2.1 x.2.2.2.2.2.2], 5, .vec 4))], 5⟩
def f19.s0.inX : VS → Option (f19.Ty2)
  | ⟨[(0, .vw true 0 0 t0 1), (2, .ptr 2 0), (3, .vec 3 0 t3 4)], [(0, ([.ints .u8 b0_0 b0_1], 0, .ro)), (2, ([.ints .u8 32 b2], 35, .norm)), (3, ([.ints .u8 b3_0 b3_1], 5, .vec 4))], 5⟩ => some (t0, t3, b0_0, b0_1, b2, b3_0, b3_1)
  | _ => none
def f19.s0.o0 (y : f19.Ty2) : VS := ⟨[(0, .vw true 0 0 y.1 1), (2, .ptr 2 0), (3, .vec 3 0 y.2.1 4)], [(0, ([.ints .u8 y.2.2.1 y.2.2.2.1], 0, .ro)), (2, ([.ints .u8 32 y.2.2.2.2.1], 35, .norm)), (3, ([.ints .u8 y.2.2.2.2.2.1 y.2.2.2.2.2.2], 5, .vec 4))], 5⟩
def f19.s0.des : ∀ α : Type, (f19.Ty2) → (Ex → VS → Option α) → Option α := (des1 (.exit 0) f19.s0.o0)
def f19.s0.out : f19.Ty2 → Ex × VS := (fun y => (.exit 0, f19.s0.o0 y))
theorem f19.s0.desOK : ∀ α y (k : Ex → VS → Option α), f19.s0.des α y k = k (f19.s0.out y).1 (f19.s0.out y).2 := (fun _ _ _ => rfl)
def f19.s0.inY : Ex → VS → Option (f19.Ty2)
  | .exit 0, ⟨[(0, .vw true 0 0 t0 1), (2, .ptr 2 0), (3, .vec 3 0 t3 4)], [(0, ([.ints .u8 b0_0 b0_1], 0, .ro)), (2, ([.ints .u8 32 b2], 35, .norm)), (3, ([.ints .u8 b3_0 b3_1], 5, .vec 4))], 5⟩ => some (t0, t3, b0_0, b0_1, b2, b3_0, b3_1)
  | _, _ => none
def f19.s2t (_K : Nat) (rec : f19.Ty1 → Option (f19.Ty4)) (t3 : Nat) (t4 : Int) (t5 : Int) (b0_0 : Nat) (b0_1 : List Int) (b2 : List Int) (b3_0 : Nat) (b3_1 : List Int) : Option (f19.Ty4) :=
  bif (decide (t5 < 8)) then
    let v12 := IntKind.wrap .i64 (56 - (IntKind.wrap .i64 (8 * t5)))
    bif decide (0 ≤ v12) then
      bif (Nat.ble t3 b3_0 && (fitB ((t3 + 1) * 1))) then
        rec ((t3 + 1), t4, (IntKind.wrap .i64 (t5 + 1)), b0_0, b0_1, b2, (t3 + 1), ((padT b3_1 t3) ++ [(IntKind.wrap .u8 (shiftI .shr .u64 t4 v12))]))
      else
        none
    else
      none
  else
    some (t3, b0_0, b0_1, b2, b3_0, b3_1)
def f19.s2 (K : Nat) (rec : f19.Ty1 → Option (f19.Ty4)) (x : f19.Ty1) : Option (f19.Ty4) := f19.s2t K rec x.1 x.2.1 x.2.2.1 x.2.2.2.1 x.2.2.2.2.1 x.2.2.2.2.2.1 x.2.2.2.2.2.2.1 x.2.2.2.2.2.2.2
noncomputable def f19.s2.b : Code := (findLoop 2 f19.c).getD .skip
def f19.s2.h : Hint := { lv := [2, 3, 4, 5] }
def f19.s2.ho : Hint := { lv := [2, 3] }
def f19.s2.shp (x : f19.Ty1) : VS := ⟨[(2, .ptr 2 0), (3, .vec 3 0 x.1 4), (4, .int .u64 x.2.1), (5, .int .i64 x.2.2.1)], [(0, ([.ints .u8 x.2.2.2.1 x.2.2.2.2.1], 0, .ro)), (2, ([.ints .u8 32 x.2.2.2.2.2.1], 35, .norm)), (3, ([.ints .u8 x.2.2.2.2.2.2.1 x.2.2.2.2.2.2.2], 5, .vec 4))], 5⟩
def f19.s2.inX : VS → Option (f19.Ty1)
  | ⟨[(2, .ptr 2 0), (3, .vec 3 0 t3 4), (4, .int .u64 t4), (5, .int .i64 t5)], [(0, ([.ints .u8 b0_0 b0_1], 0, .ro)), (2, ([.ints .u8 32 b2], 35, .norm)), (3, ([.ints .u8 b3_0 b3_1], 5, .vec 4))], 5⟩ => some (t3, t4, t5, b0_0, b0_1, b2, b3_0, b3_1)
  | _ => none
def f19.s2.o0 (y : f19.Ty4) : VS := ⟨[(2, .ptr 2 0), (3, .vec 3 0 y.1 4)], [(0, ([.ints .u8 y.2.1 y.2.2.1], 0, .ro)), (2, ([.ints .u8 32 y.2.2.2.1], 35, .norm)), (3, ([.ints .u8 y.2.2.2.2.1 y.2.2.2.2.2], 5, .vec 4))], 5⟩
def f19.s2.des : ∀ α : Type, (f19.Ty4) → (Ex → VS → Option α) → Option α := (des1 (.exit 2) f19.s2.o0)
def f19.s2.out : f19.Ty4 → Ex × VS := (fun y => (.exit 2, f19.s2.o0 y))
theorem f19.s2.desOK : ∀ α y (k : Ex → VS → Option α), f19.s2.des α y k = k (f19.s2.out y).1 (f19.s2.out y).2 := (fun _ _ _ => rfl)
def f19.s2.inY : Ex → VS → Option (f19.Ty4)
  | .exit 2, ⟨[(2, .ptr 2 0), (3, .vec 3 0 t3 4)], [(0, ([.ints .u8 b0_0 b0_1], 0, .ro)), (2, ([.ints .u8 32 b2], 35, .norm)), (3, ([.ints .u8 b3_0 b3_1], 5, .vec 4))], 5⟩ => some (t3, b0_0, b0_1, b2, b3_0, b3_1)
  | _, _ => none
def f19.s4t (K : Nat) (rec : f19.Ty0 → Option (f19.Ty5)) (t3 : Nat) (t8 : Int) (b0_0 : Nat) (b0_1 : List Int) (b2 : List Int) (b3_0 : Nat) (b3_1 : List Int) (b5 : List Int) (b6 : List Int) : Option (f19.Ty5) :=
  bif (decide (t8 < ((t3 : Nat) : Int))) then
    let v21 := IntKind.wrap .i64 (t8 + 64)
    bif ((decide (0 ≤ v21 ∧ v21 ≤ ((t3 : Nat) : Int)) && (decide (0 ≤ t8 ∧ t8 ≤ ((Int.toNat v21 : Nat) : Int)))) && (Nat.ble (0 + t3) b3_0)) then
      let v22 := 0 + (Int.toNat t8)
      let v23 := (Int.toNat v21) - (Int.toNat t8)
      bif ((Nat.ble (v22 + v23) b3_0 && true) && true) then
        (f44.F K (b5, v23, 64, v23, (subI b3_1 v22 v23), 64, (subI b6 0 64))).bind fun y24 =>
        rec (t3, (IntKind.wrap .i64 (t8 + 64)), b0_0, b0_1, b2, b3_0, b3_1, y24.1, b6)
      else
        none
    else
      none
  else
    some (b0_0, b0_1, b2, b5)
def f19.s4 (K : Nat) (rec : f19.Ty0 → Option (f19.Ty5)) (x : f19.Ty0) : Option (f19.Ty5) := f19.s4t K rec x.1 x.2.1 x.2.2.1 x.2.2.2.1 x.2.2.2.2.1 x.2.2.2.2.2.1 x.2.2.2.2.2.2.1 x.2.2.2.2.2.2.2.1 x.2.2.2.2.2.2.2.2
noncomputable def f19.s4.b : Code := (findLoop 4 f19.c).getD .skip
def f19.s4.h : Hint := { lv := [2, 3, 6, 7, 8] }
def f19.s4.ho : Hint := { lv := [2, 6] }
def f19.s4.shp (x : f19.Ty0) : VS := ⟨[(2, .ptr 2 0), (3, .vec 3 0 x.1 4), (6, .ptr 5 0), (7, .sl 6 0 64 64), (8, .int .i64 x.2.1)], [(0, ([.ints .u8 x.2.2.1 x.2.2.2.1], 0, .ro)), (2, ([.ints .u8 32 x.2.2.2.2.1], 35, .norm)), (3, ([.ints .u8 x.2.2.2.2.2.1 x.2.2.2.2.2.2.1], 5, .vec 4)), (5, ([.ints .u32 8 x.2.2.2.2.2.2.2.1], 88, .norm)), (6, ([.ints .u32 64 x.2.2.2.2.2.2.2.2], 48, .norm))], 7⟩
def f19.s4.inX : VS → Option (f19.Ty0)
  | ⟨[(2, .ptr 2 0), (3, .vec 3 0 t3 4), (6, .ptr 5 0), (7, .sl 6 0 64 64), (8, .int .i64 t8)], [(0, ([.ints .u8 b0_0 b0_1], 0, .ro)), (2, ([.ints .u8 32 b2], 35, .norm)), (3, ([.ints .u8 b3_0 b3_1], 5, .vec 4)), (5, ([.ints .u32 8 b5], 88, .norm)), (6, ([.ints .u32 64 b6], 48, .norm))], 7⟩ => some (t3, t8, b0_0, b0_1, b2, b3_0, b3_1, b5, b6)
  | _ => none
def f19.s4.o0 (y : f19.Ty5) : VS := ⟨[(2, .ptr 2 0), (6, .ptr 3 0)], [(0, ([.ints .u8 y.1 y.2.1], 0, .ro)), (2, ([.ints .u8 32 y.2.2.1], 35, .norm)), (3, ([.ints .u32 8 y.2.2.2], 88, .norm))], 4⟩
def f19.s4.des : ∀ α : Type, (f19.Ty5) → (Ex → VS → Option α) → Option α := (des1 (.exit 4) f19.s4.o0)
def f19.s4.out : f19.Ty5 → Ex × VS := (fun y => (.exit 4, f19.s4.o0 y))
theorem f19.s4.desOK : ∀ α y (k : Ex → VS → Option α), f19.s4.des α y k = k (f19.s4.out y).1 (f19.s4.out y).2 := (fun _ _ _ => rfl)
def f19.s4.inY : Ex → VS → Option (f19.Ty5)
  | .exit 4, ⟨[(2, .ptr 2 0), (6, .ptr 3 0)], [(0, ([.ints .u8 b0_0 b0_1], 0, .ro)), (2, ([.ints .u8 32 b2], 35, .norm)), (3, ([.ints .u32 8 b3], 88, .norm))], 4⟩ => some (b0_0, b0_1, b2, b3)
  | _, _ => none
def f19.s6t (_K : Nat) (rec : f19.Ty3 → Option (f19.Ty5)) (t10 : Int) (b0_0 : Nat) (b0_1 : List Int) (b2 : List Int) (b3 : List Int) (b4 : List Int) : Option (f19.Ty5) :=
  bif (decide (t10 < 32)) then
    let v28 := IntKind.wrap .i64 (Int.tdiv t10 4)
    bif decide (0 ≤ v28 ∧ v28 < 8) then
      let v33 := IntKind.wrap .i64 (24 - (IntKind.wrap .i64 (8 * (Int.tmod t10 4))))
      bif decide (0 ≤ v33) then
        bif decide (0 ≤ t10 ∧ t10 < 32) then
          rec ((IntKind.wrap .i64 (t10 + 1)), b0_0, b0_1, b2, b3, (setD b4 (Int.toNat t10) (IntKind.wrap .u8 (shiftI .shr .u32 (List.getD b3 (Int.toNat v28) 0) v33))))
        else
          none
      else
        none
    else
      none
  else
    some (b0_0, b0_1, b2, b4)
def f19.s6 (K : Nat) (rec : f19.Ty3 → Option (f19.Ty5)) (x : f19.Ty3) : Option (f19.Ty5) := f19.s6t K rec x.1 x.2.1 x.2.2.1 x.2.2.2.1 x.2.2.2.2.1 x.2.2.2.2.2
noncomputable def f19.s6.b : Code := (findLoop 6 f19.c).getD .skip
def f19.s6.h : Hint := { lv := [2, 6, 9, 10] }
def f19.s6.ho : Hint := { lv := [2, 9] }
def f19.s6.shp (x : f19.Ty3) : VS := ⟨[(2, .ptr 2 0), (6, .ptr 3 0), (9, .ptr 4 0), (10, .int .i64 x.1)], [(0, ([.ints .u8 x.2.1 x.2.2.1], 0, .ro)), (2, ([.ints .u8 32 x.2.2.2.1], 35, .norm)), (3, ([.ints .u32 8 x.2.2.2.2.1], 88, .norm)), (4, ([.ints .u8 32 x.2.2.2.2.2], 35, .norm))], 5⟩
def f19.s6.inX : VS → Option (f19.Ty3)
  | ⟨[(2, .ptr 2 0), (6, .ptr 3 0), (9, .ptr 4 0), (10, .int .i64 t10)], [(0, ([.ints .u8 b0_0 b0_1], 0, .ro)), (2, ([.ints .u8 32 b2], 35, .norm)), (3, ([.ints .u32 8 b3], 88, .norm)), (4, ([.ints .u8 32 b4], 35, .norm))], 5⟩ => some (t10, b0_0, b0_1, b2, b3, b4)
  | _ => none
def f19.s6.o0 (y : f19.Ty5) : VS := ⟨[(2, .ptr 2 0), (9, .ptr 3 0)], [(0, ([.ints .u8 y.1 y.2.1], 0, .ro)), (2, ([.ints .u8 32 y.2.2.1], 35, .norm)), (3, ([.ints .u8 32 y.2.2.2], 35, .norm))], 4⟩
def f19.s6.des : ∀ α : Type, (f19.Ty5) → (Ex → VS → Option α) → Option α := (des1 (.exit 6) f19.s6.o0)
def f19.s6.out : f19.Ty5 → Ex × VS := (fun y => (.exit 6, f19.s6.o0 y))
theorem f19.s6.desOK : ∀ α y (k : Ex → VS → Option α), f19.s6.des α y k = k (f19.s6.out y).1 (f19.s6.out y).2 := (fun _ _ _ => rfl)
def f19.s6.inY : Ex → VS → Option (f19.Ty5)
  | .exit 6, ⟨[(2, .ptr 2 0), (9, .ptr 3 0)], [(0, ([.ints .u8 b0_0 b0_1], 0, .ro)), (2, ([.ints .u8 32 b2], 35, .norm)), (3, ([.ints .u8 32 b3], 35, .norm))], 4⟩ => some (b0_0, b0_1, b2, b3)
  | _, _ => none
def f19.lp (K : Nat) : Nat → Option (Hint × Summ) := tabLp [(0, f19.s0.h, summOf (iter (f19.s0 K) K) f19.s0.inX f19.s0.des), (2, f19.s2.h, summOf (iter (f19.s2 K) K) f19.s2.inX f19.s2.des), (4, f19.s4.h, summOf (iter (f19.s4 K) K) f19.s4.inX f19.s4.des), (6, f19.s6.h, summOf (iter (f19.s6 K) K) f19.s6.inX f19.s6.des)]
noncomputable def f19.tab (K : Nat) : List (Nat × Entry) := [(43, (f43.E K)), (44, (viewE [(1, .u8), (2, .u32)] (f44.E K)))]
theorem f19.tabOK (K : Nat) : SpecOK Try.prog (tabSp (f19.tab K)) := tab_ok ((tab_cons (f43.ok K) (tab_cons (view_ok (f44.ok K)) tab_nil)))
theorem f19.s0.eq (K : Nat) (rec : f19.Ty2 → Option (f19.Ty2)) (x : f19.Ty2) : f19.s0 K rec x = roundL (getA tys) (tabSp (f19.tab K)) 72 2 (f19.lp K) 400 f19.s0.b f19.s0.h f19.s0.ho f19.s0.shp f19.s0.inX f19.s0.inY rec x := by kernel_rfl
theorem f19.s0.lok (K : Nat) : LoopsOK Try.prog 72 2 (f19.lp K) f19.s0.b := loops_ok (by
  have h : loopsIn (f19.lp K) f19.s0.b = [] := by kernel_rfl
  rw [h]; simp)
theorem f19.s0.ok (K : Nat) : SummOK Try.prog 72 2 (summOf (iter (f19.s0 K) K) f19.s0.inX f19.s0.des) f19.s0.b :=
  loop_ok mix tys_ok (f19.tabOK K) (h := f19.s0.h) (ho := f19.s0.ho) (shp := f19.s0.shp) (inX := f19.s0.inX) (des := f19.s0.des) (out := f19.s0.out) (inY := f19.s0.inY) (fuel := 400)
    (by intro st x h; unfold f19.s0.inX at h; split at h <;> simp at h; subst h; rfl)
    (by intro e st y h; unfold f19.s0.inY at h; split at h <;> simp at h <;> subst h <;> rfl)
    f19.s0.desOK (f19.s0.lok K) (f19.s0 K) (f19.s0.eq K) K
theorem f19.s2.eq (K : Nat) (rec : f19.Ty1 → Option (f19.Ty4)) (x : f19.Ty1) : f19.s2 K rec x = roundL (getA tys) (tabSp (f19.tab K)) 72 2 (f19.lp K) 400 f19.s2.b f19.s2.h f19.s2.ho f19.s2.shp f19.s2.inX f19.s2.inY rec x := by kernel_rfl
theorem f19.s2.lok (K : Nat) : LoopsOK Try.prog 72 2 (f19.lp K) f19.s2.b := loops_ok (by
  have h : loopsIn (f19.lp K) f19.s2.b = [] := by kernel_rfl
  rw [h]; simp)
theorem f19.s2.ok (K : Nat) : SummOK Try.prog 72 2 (summOf (iter (f19.s2 K) K) f19.s2.inX f19.s2.des) f19.s2.b :=
  loop_ok mix tys_ok (f19.tabOK K) (h := f19.s2.h) (ho := f19.s2.ho) (shp := f19.s2.shp) (inX := f19.s2.inX) (des := f19.s2.des) (out := f19.s2.out) (inY := f19.s2.inY) (fuel := 400)
    (by intro st x h; unfold f19.s2.inX at h; split at h <;> simp at h; subst h; rfl)
    (by intro e st y h; unfold f19.s2.inY at h; split at h <;> simp at h <;> subst h <;> rfl)
    f19.s2.desOK (f19.s2.lok K) (f19.s2 K) (f19.s2.eq K) K
theorem f19.s4.eq (K : Nat) (rec : f19.Ty0 → Option (f19.Ty5)) (x : f19.Ty0) : f19.s4 K rec x = roundL (getA tys) (tabSp (f19.tab K)) 72 2 (f19.lp K) 400 f19.s4.b f19.s4.h f19.s4.ho f19.s4.shp f19.s4.inX f19.s4.inY rec x := by kernel_rfl
theorem f19.s4.lok (K : Nat) : LoopsOK Try.prog 72 2 (f19.lp K) f19.s4.b := loops_ok (by
  have h : loopsIn (f19.lp K) f19.s4.b = [] := by kernel_rfl
  rw [h]; simp)
theorem f19.s4.ok (K : Nat) : SummOK Try.prog 72 2 (summOf (iter (f19.s4 K) K) f19.s4.inX f19.s4.des) f19.s4.b :=
  loop_ok mix tys_ok (f19.tabOK K) (h := f19.s4.h) (ho := f19.s4.ho) (shp := f19.s4.shp) (inX := f19.s4.inX) (des := f19.s4.des) (out := f19.s4.out) (inY := f19.s4.inY) (fuel := 400)
    (by intro st x h; unfold f19.s4.inX at h; split at h <;> simp at h; subst h; rfl)
    (by intro e st y h; unfold f19.s4.inY at h; split at h <;> simp at h <;> subst h <;> rfl)
    f19.s4.desOK (f19.s4.lok K) (f19.s4 K) (f19.s4.eq K) K
theorem f19.s6.eq (K : Nat) (rec : f19.Ty3 → Option (f19.Ty5)) (x : f19.Ty3) : f19.s6 K rec x = roundL (getA tys) (tabSp (f19.tab K)) 72 2 (f19.lp K) 400 f19.s6.b f19.s6.h f19.s6.ho f19.s6.shp f19.s6.inX f19.s6.inY rec x := by kernel_rfl
theorem f19.s6.lok (K : Nat) : LoopsOK Try.prog 72 2 (f19.lp K) f19.s6.b := loops_ok (by
  have h : loopsIn (f19.lp K) f19.s6.b = [] := by kernel_rfl
  rw [h]; simp)
theorem f19.s6.ok (K : Nat) : SummOK Try.prog 72 2 (summOf (iter (f19.s6 K) K) f19.s6.inX f19.s6.des) f19.s6.b :=
  loop_ok mix tys_ok (f19.tabOK K) (h := f19.s6.h) (ho := f19.s6.ho) (shp := f19.s6.shp) (inX := f19.s6.inX) (des := f19.s6.des) (out := f19.s6.out) (inY := f19.s6.inY) (fuel := 400)
    (by intro st x h; unfold f19.s6.inX at h; split at h <;> simp at h; subst h; rfl)
    (by intro e st y h; unfold f19.s6.inY at h; split at h <;> simp at h <;> subst h <;> rfl)
    f19.s6.desOK (f19.s6.lok K) (f19.s6 K) (f19.s6.eq K) K
theorem f19.loops (K : Nat) : LoopsOK Try.prog 72 2 (f19.lp K) f19.c := loops_ok (by
  have h : loopsIn (f19.lp K) f19.c = [(0, f19.s0.b), (2, f19.s2.b), (4, f19.s4.b), (6, f19.s6.b)] := by kernel_rfl
  rw [h]
  intro p hp
  simp only [List.mem_cons, List.not_mem_nil, or_false] at hp
  rcases hp with rfl | rfl | rfl | rfl
  · exact ⟨_, rfl, (f19.s0.ok K)⟩
  · exact ⟨_, rfl, (f19.s2.ok K)⟩
  · exact ⟨_, rfl, (f19.s4.ok K)⟩
  · exact ⟨_, rfl, (f19.s6.ok K)⟩)
def f19.T (K : Nat) (a0 : Nat) (m0_0 : Nat) (m0_1 : List Int) : Option (f19.Ty6) :=
  bif (Nat.ble (0 + a0) m0_0 && (fitB (a0 * 1))) then
    bif (Nat.ble a0 a0 && (fitB ((a0 + 1) * 1))) then
      (iter (f19.s0 K) K (a0, (a0 + 1), m0_0, m0_1, [0, 0, 0, 0, 0, 0, 0, 0, 0, 0, 0, 0, 0, 0, 0, 0, 0, 0, 0, 0, 0, 0, 0, 0, 0, 0, 0, 0, 0, 0, 0, 0], (a0 + 1), ((padT (subI m0_1 0 a0) a0) ++ [128]))).bind fun y6 =>
      (iter (f19.s2 K) K (y6.2.1, (IntKind.wrap .u64 (8 * (IntKind.wrap .u64 ((y6.1 : Nat) : Int)))), 0, y6.2.2.1, y6.2.2.2.1, y6.2.2.2.2.1, y6.2.2.2.2.2.1, y6.2.2.2.2.2.2)).bind fun y17 =>
      (f43.F K ()).bind fun y18 =>
      (iter (f19.s4 K) K (y17.1, 0, y17.2.1, y17.2.2.1, y17.2.2.2.1, y17.2.2.2.2.1, y17.2.2.2.2.2, [1779033703, 3144134277, 1013904242, 2773480762, 1359893119, 2600822924, 528734635, 1541459225], y18)).bind fun y26 =>
      (iter (f19.s6 K) K (0, y26.1, y26.2.1, y26.2.2.1, y26.2.2.2, [0, 0, 0, 0, 0, 0, 0, 0, 0, 0, 0, 0, 0, 0, 0, 0, 0, 0, 0, 0, 0, 0, 0, 0, 0, 0, 0, 0, 0, 0, 0, 0])).bind fun y39 =>
      some (y39.2.2.2, y39.1, y39.2.1)
    else
      none
  else
    none
def f19.F (K : Nat) (x : f19.Ty7) : Option (f19.Ty6) := f19.T K x.1 x.2.1 x.2.2
def f19.av (x : f19.Ty7) : List VV := [.vw true 0 0 x.1 1]
def f19.bl (x : f19.Ty7) : List (Nat × Blk) := [(0, ([.ints .u8 x.2.1 x.2.2], 0, .ro))]
def f19.inA : VS → Option (f19.Ty7)
  | ⟨[(0, .vw true 0 0 a0 1)], [(0, ([.ints .u8 m0_0 m0_1], 0, .ro))], 2⟩ => some (a0, m0_0, m0_1)
  | _ => none
def f19.o0 (y : f19.Ty6) : VS := ⟨[(0, .agg [.ints .u8 32 y.1])], [(0, ([.ints .u8 y.2.1 y.2.2], 0, .ro))], 2⟩
def f19.des : ∀ α : Type, (f19.Ty6) → (VS → Option α) → Option α := (dv1 f19.o0)
def f19.out : f19.Ty6 → VS := f19.o0
def f19.inR : VS → Option (f19.Ty6)
  | ⟨[(0, .agg [.ints .u8 32 y])], [(0, ([.ints .u8 z0_0 z0_1], 0, .ro))], 2⟩ => some (y, z0_0, z0_1)
  | _ => none
noncomputable def f19.E (K : Nat) : Entry := genE 2 f19.inA (f19.F K) f19.des
theorem f19.eq (K : Nat) (x : f19.Ty7) : f19.F K x = xrun (getA tys) (tabSp (f19.tab K)) Try.f19.ntmps 2 (f19.lp K) 400 f19.c ⟨initL 0 (f19.av x), f19.bl x, 2⟩ (contF (getA tys) 2 Try.f19.results.toList f19.inR) := by kernel_rfl
theorem f19.ok (K : Nat) : EntryOK Try.prog 19 (f19.E K) :=
  gen_ok mix tys_ok (f19.tabOK K) Try.func19 (by kernel_rfl : Try.f19.body = some f19.c) (by kernel_rfl) (f19.loops K) (av := f19.av) (bl := f19.bl) (out := f19.out) (fuel := 400)
    (by intro s x h; unfold f19.inA at h; split at h <;> simp at h; subst h; rfl) (fun _ => Nat.le_of_ble_eq_true rfl)
    (by intro s y h; unfold f19.inR at h; split at h <;> simp at h <;> subst h <;> rfl) (fun _ _ _ => rfl) (f19.eq K)
end Go.Proofs

namespace Go.Proofs
open Go.VM
theorem f44.third (K : Nat) (b k4 z : List Int) (s : List Int) (hK : 64 < K) :
    iter (f44.s4 K) K (64, 0, 64, b, 64, Sh.consts, k4, z, Rf.tab b 64, s) = some (64, b, 64, Sh.consts, k4, z, Rf.rounds s b 64) := by
  have := iter_for (stp := f44.s4 K) (N := 64) (fun i => (64, (i : Int), 64, b, 64, Sh.consts, k4, z, Rf.tab b 64, Rf.rounds s b i)) (y := some (64, b, 64, Sh.consts, k4, z, Rf.rounds s b 64)) ?_ ?_ hK
  · exact this
  · intro i hi rec
    simp only [f44.s4, f44.s4t]
    rw [decide_eq_true (show (i : Int) < 64 by omega), cond_t]
    have r : ∀ (x : Int) (n : Nat), 1 ≤ n → n ≤ 31 → f64.F K (x, (n : Int)) = some (Rf.round x n) := fun x n h1 h2 => f64.spec K x n h1 h2
    rw [show ((6 : Int)) = ((6 : Nat) : Int) from rfl, show ((11 : Int)) = ((11 : Nat) : Int) from rfl, show ((25 : Int)) = ((25 : Nat) : Int) from rfl, r _ 6 (by omega) (by omega), bind_s, r _ 11 (by omega) (by omega), bind_s, r _ 25 (by omega) (by omega), bind_s,
      decide_eq_true (show (0 : Int) ≤ (i : Int) ∧ (i : Int) < ((64 : Nat) : Int) by omega), cond_t]
    simp only [Int.toNat_natCast, Nat.zero_add]
    rw [show Nat.blt i 64 = true from by simp [Nat.blt_eq]; omega, cond_t, decide_eq_true (show (0 : Int) ≤ (i : Int) ∧ (i : Int) < 64 by omega), cond_t,
      show ((2 : Int)) = ((2 : Nat) : Int) from rfl, show ((13 : Int)) = ((13 : Nat) : Int) from rfl, show ((22 : Int)) = ((22 : Nat) : Int) from rfl, r _ 2 (by omega) (by omega), bind_s, r _ 13 (by omega) (by omega), bind_s, r _ 22 (by omega) (by omega), bind_s, Rf.tab_at b 64 i (by omega) (by omega), wrap_i _ (by omega) (by omega)]
    rfl
  · intro rec
    simp only [f44.s4, f44.s4t]
    rfl
theorem f44.fourth (K : Nat) (b s v z : List Int) (k2 : Nat) (k2l : List Int) (hK : 8 < K) :
    iter (f44.s6 K) K (0, 64, b, k2, k2l, s, z, v) = some (64, b, k2, k2l, z, Sh.added s v 8) := by
  have := iter_for (stp := f44.s6 K) (N := 8) (fun i => ((i : Int), 64, b, k2, k2l, s, z, Sh.added s v i)) (y := some (64, b, k2, k2l, z, Sh.added s v 8)) ?_ ?_ hK
  · exact this
  · intro i hi rec
    simp only [f44.s6, f44.s6t]
    rw [decide_eq_true (show (i : Int) < 8 by omega), cond_t, decide_eq_true (show (0 : Int) ≤ (i : Int) ∧ (i : Int) < 8 by omega), cond_t, cond_t, cond_t, Int.toNat_natCast, wrap_i _ (by omega) (by omega)]
    rfl
  · intro rec
    simp only [f44.s6, f44.s6t]
    rfl
theorem f44.spec (K : Nat) (s b : List Int) (hs : s.length = 8) (hb : b.length = 64) (ho : octets b) (hK : 64 < K) :
    f44.F K (s, 64, 64, 64, b, 64, Sh.consts) = some (Sh.comp s b, 64, b, 64, Sh.consts) := by
  simp only [f44.F, f44.T]
  have h1 := f44.first K 64 b s [0, 0, 0, 0, 0, 0, 0, 0] ho hb (by omega) 64 Sh.consts
  rw [show iter (f44.s0 K) K (64, 64, 0, 64, b, 64, Sh.consts, s, [0, 0, 0, 0, 0, 0, 0, 0], [0, 0, 0, 0, 0, 0, 0, 0, 0, 0, 0, 0, 0, 0, 0, 0, 0, 0, 0, 0, 0, 0, 0, 0, 0, 0, 0, 0, 0, 0, 0, 0, 0, 0, 0, 0, 0, 0, 0, 0, 0, 0, 0, 0, 0, 0, 0, 0, 0, 0, 0, 0, 0, 0, 0, 0, 0, 0, 0, 0, 0, 0, 0, 0]) = _ from h1, bind_s]
  dsimp only
  rw [f44.second K 64 b s _ hK, bind_s]
  dsimp only
  rw [f44.third K b s _ s hK, bind_s]
  dsimp only
  rw [f44.fourth K b s _ _ 64 Sh.consts (by omega), bind_s]
  dsimp only
  rw [comp_same s b hs]
theorem added_len (v s : List Int) (hs : s.length = 8) : ∀ i, i ≤ 8 → (Sh.added v s i).length = 8
  | 0, _ => hs
  | i + 1, h => by
    have := added_len v s hs i (by omega)
    rw [Sh.added, length_setD (by omega)]; exact this
theorem rounds_len (s b : List Int) (hs : s.length = 8) (t : Nat) : (Rf.rounds s b t).length = 8 := (rounds_same s b hs t).2
theorem comp_len (s b : List Int) (hs : s.length = 8) : (Sh.comp s b).length = 8 := by
  rw [comp_same s b hs]; exact added_len _ _ (rounds_len s b hs 64) 8 (by omega)
theorem chain_len (m : List Int) : ∀ n, (Sh.chain m n).length = 8
  | 0 => rfl
  | n + 1 => comp_len _ _ (chain_len m n)
theorem f19.zeros (K n0 : Nat) (l0 z : List Int) (m : List Int) (a : Nat) (hm : m.length + 100 ≤ 140737488355328) (hK : 64 < K) :
    iter (f19.s0 K) K (a, m.length, n0, l0, z, m.length, m) = some (a, m.length + (119 - (m.length + 63) % 64) % 64, n0, l0, z, m.length + (119 - (m.length + 63) % 64) % 64, m ++ List.replicate ((119 - (m.length + 63) % 64) % 64) 0) := by
  generalize hN : (119 - (m.length + 63) % 64) % 64 = N
  have := iter_for (stp := f19.s0 K) (N := N) (fun i => (a, m.length + i, n0, l0, z, m.length + i, m ++ List.replicate i 0)) (y := some (a, m.length + N, n0, l0, z, m.length + N, m ++ List.replicate N 0)) ?_ ?_ (show N < K by omega)
  · simp only [Nat.add_zero, List.replicate_zero, List.append_nil] at this
    exact this
  · intro i hi rec
    simp only [f19.s0, f19.s0t]
    have e : Int.tmod ((m.length + i : Nat) : Int) 64 = (((m.length + i) % 64 : Nat) : Int) := tmod_nat _ 64
    rw [e, show ((((m.length + i) % 64 : Nat) : Int) != 56) = true from bne_iff_ne.2 (by omega), cond_t, ble_true (Nat.le_refl _), fitB_true (by omega), Bool.and_self, cond_t, padT_self _ (by simp), List.append_assoc, ← List.replicate_succ']
    rfl
  · intro rec
    simp only [f19.s0, f19.s0t]
    have e : Int.tmod ((m.length + N : Nat) : Int) 64 = (((m.length + N) % 64 : Nat) : Int) := tmod_nat _ 64
    rw [e, show ((((m.length + N) % 64 : Nat) : Int) != 56) = false from by rw [bne_eq_false_iff_eq]; omega, cond_f]
theorem f19.eight (K n0 : Nat) (l0 z : List Int) (m : List Int) (x : Nat) (hx : x < 18446744073709551616) (hm : m.length + 100 ≤ 140737488355328) (hK : 64 < K) :
    iter (f19.s2 K) K (m.length, (x : Int), 0, n0, l0, z, m.length, m) = some (m.length + 8, n0, l0, z, m.length + 8, m ++ be 8 x) := by
  have top : ∀ i, i < 8 → be (i + 1) (x / 256 ^ (7 - i)) = be i (x / 256 ^ (8 - i)) ++ [((x / 256 ^ (7 - i) % 256 : Nat) : Int)] := fun i hi => by
    rw [be, Nat.div_div_eq_div_mul, ← Nat.pow_succ, show (7 - i).succ = 8 - i by omega]
  have := iter_for (stp := f19.s2 K) (N := 8) (fun i => (m.length + i, (x : Int), (i : Int), n0, l0, z, m.length + i, m ++ be i (x / 256 ^ (8 - i)))) (y := some (m.length + 8, n0, l0, z, m.length + 8, m ++ be 8 x)) ?_ ?_ (show 8 < K by omega)
  · simp only [Nat.add_zero, be, List.append_nil] at this
    exact this
  · intro i hi rec
    simp only [f19.s2, f19.s2t]
    have e12 : IntKind.wrap .i64 (56 - (IntKind.wrap .i64 (8 * (i : Int)))) = ((56 - 8 * i : Nat) : Int) := by rw [wrap_i (8 * (i : Int)) (by omega) (by omega), wrap_i _ (by omega) (by omega)]; omega
    have sh : IntKind.wrap .u8 (shiftI .shr .u64 (x : Int) ((56 - 8 * i : Nat) : Int)) = ((x / 256 ^ (7 - i) % 256 : Nat) : Int) := by
      unfold shiftI
      dsimp only
      rw [Int.toNat_natCast, show min (56 - 8 * i) IntKind.u64.bits = 56 - 8 * i from Nat.min_eq_left (by show _ ≤ 64; omega), fdiv_nat, show (2 : Nat) ^ (56 - 8 * i) = 256 ^ (7 - i) by rw [show (256 : Nat) = 2 ^ 8 from rfl, ← Nat.pow_mul]; congr 1; omega]
      simp [IntKind.wrap, IntKind.signed, IntKind.bits]
    rw [decide_eq_true (show (i : Int) < 8 by omega), cond_t]
    simp only [e12]
    rw [decide_eq_true (show (0 : Int) ≤ ((56 - 8 * i : Nat) : Int) by omega), cond_t, ble_true (Nat.le_refl _), fitB_true (by omega), Bool.and_self, cond_t, padT_self _ (by simp [be_length]), sh, wrap_i _ (by omega) (by omega), List.append_assoc, show 8 - (i + 1) = 7 - i by omega, top i hi]
    rfl
  · intro rec
    simp only [f19.s2, f19.s2t]
    rw [show 8 - 8 = 0 from rfl, Nat.pow_zero, Nat.div_one]
    rfl
end Go.Proofs

namespace Go.Proofs
open Go.VM
theorem octets_drop {l : List Int} (h : octets l) (a b : Nat) : octets ((l.drop a).take b) := fun x hx => h x (List.mem_of_mem_drop (List.mem_of_mem_take hx))
theorem f19.blocks (K n0 : Nat) (l0 z : List Int) (m : List Int) (n : Nat) (hm : m.length = 64 * n) (ho : octets m) (hs : m.length ≤ 140737488355328) (hK : 64 + n < K) :
    iter (f19.s4 K) K (m.length, 0, n0, l0, z, m.length, m, Sh.init, Sh.consts) = some (n0, l0, z, Sh.chain m n) := by
  have := iter_for (stp := f19.s4 K) (N := n) (fun i => (m.length, ((64 * i : Nat) : Int), n0, l0, z, m.length, m, Sh.chain m i, Sh.consts)) (y := some (n0, l0, z, Sh.chain m n)) ?_ ?_ (show n < K by omega)
  · exact this
  · intro i hi rec
    simp only [f19.s4, f19.s4t]
    have e21 : IntKind.wrap .i64 (((64 * i : Nat) : Int) + 64) = ((64 * (i + 1) : Nat) : Int) := by rw [wrap_i _ (by omega) (by omega)]; omega
    rw [decide_eq_true (show ((64 * i : Nat) : Int) < ((m.length : Nat) : Int) by omega), cond_t]
    simp only [e21, Int.toNat_natCast]
    rw [decide_eq_true (show (0 : Int) ≤ ((64 * (i + 1) : Nat) : Int) ∧ ((64 * (i + 1) : Nat) : Int) ≤ ((m.length : Nat) : Int) by omega), decide_eq_true (show (0 : Int) ≤ ((64 * i : Nat) : Int) ∧ ((64 * i : Nat) : Int) ≤ ((64 * (i + 1) : Nat) : Int) by omega), Nat.zero_add, ble_true (Nat.le_refl _), Bool.and_self, Bool.and_self, cond_t,
      Nat.zero_add, show 64 * (i + 1) - 64 * i = 64 by omega, ble_true (show 64 * i + 64 ≤ m.length by omega), Bool.and_self, Bool.and_self, cond_t, subI_self Sh.consts (show _ = 64 from rfl), subI_cut m (64 * i) 64 (by omega)]
    rw [f44.spec K _ _ (chain_len m i) (by rw [List.length_take, List.length_drop]; omega) (octets_drop ho _ _) (by omega), bind_s]
    dsimp only
    rw [← show Sh.chain m (i + 1) = Sh.comp (Sh.chain m i) ((m.drop (64 * i)).take 64) from rfl]
  · intro rec
    simp only [f19.s4, f19.s4t]
    rw [decide_eq_false (show ¬ ((64 * n : Nat) : Int) < ((m.length : Nat) : Int) by omega), cond_f]
theorem added_range (v : List Int) (s : List Int) (hs : s.length = 8) : ∀ i, i ≤ 8 → ∀ k, k < i → 0 ≤ (Sh.added v s i).getD k 0 ∧ (Sh.added v s i).getD k 0 < 4294967296
  | 0, _, k, hk => absurd hk (Nat.not_lt_zero k)
  | i + 1, h, k, hk => by
    have hl := added_len v s hs i (by omega)
    rw [Sh.added, setD_at _ _ _ _ (by omega)]
    by_cases hki : k = i
    · rw [if_pos hki, wrap32_mod]; omega
    · rw [if_neg hki]; exact added_range v s hs i (by omega) k (by omega)
theorem chain_range (m : List Int) (n k : Nat) (hk : k < 8) : 0 ≤ (Sh.chain m n).getD k 0 ∧ (Sh.chain m n).getD k 0 < 4294967296 := by
  cases n with
  | zero =>
    have : ∀ k : Fin 8, 0 ≤ Sh.init.getD k.val 0 ∧ Sh.init.getD k.val 0 < 4294967296 := by decide
    exact this ⟨k, hk⟩
  | succ n =>
    rw [Sh.chain, comp_same _ _ (chain_len m n)]
    exact added_range _ _ (rounds_len _ _ (chain_len m n) 64) 8 (by omega) k hk
def Rf.dig (s : List Int) (i : Nat) : Int := (((s.getD (i / 4) 0).toNat / 256 ^ (3 - i % 4) % 256 : Nat) : Int)
def Rf.digs (s : List Int) (i : Nat) : List Int := (List.range 32).map fun k => if k < i then Rf.dig s k else 0
theorem Rf.digs_set (s : List Int) (i : Nat) (hi : i < 32) : setD (Rf.digs s i) i (Rf.dig s i) = Rf.digs s (i + 1) := by
  have hl : ∀ j, (Rf.digs s j).length = 32 := fun j => by simp [Rf.digs]
  refine ext_getD (by rw [length_setD (by rw [hl]; exact hi), hl, hl]) fun k hk => ?_
  rw [length_setD (by rw [hl]; exact hi), hl] at hk
  rw [setD_at _ _ _ _ (by rw [hl]; exact hi)]
  have g : ∀ j, (Rf.digs s j).getD k 0 = if k < j then Rf.dig s k else 0 := fun j => by simp [Rf.digs, List.getD_eq_getElem?_getD, hk]
  rw [g, g]
  by_cases h : k = i
  · subst h; rw [if_pos rfl, if_pos (by omega)]
  · rw [if_neg h]
    by_cases h2 : k < i
    · rw [if_pos h2, if_pos (by omega)]
    · rw [if_neg h2, if_neg (by omega)]
theorem Rf.digs_all (s : List Int) (h : ∀ k, k < 8 → 0 ≤ s.getD k 0 ∧ s.getD k 0 < 4294967296) : Rf.digs s 32 = Sh.digest s := by
  have w : ∀ k, k < 8 → (IntKind.wrap .u64 (s.getD k 0)).toNat = (s.getD k 0).toNat := fun k hk => by
    obtain ⟨h1, h2⟩ := h k hk
    rw [wrap_u _ h1 (by omega)]
  have b4 : ∀ x : Nat, be 4 x = [((x / 256 ^ 3 % 256 : Nat) : Int), ((x / 256 ^ 2 % 256 : Nat) : Int), ((x / 256 ^ 1 % 256 : Nat) : Int), ((x / 256 ^ 0 % 256 : Nat) : Int)] := fun x => by
    simp only [be, List.nil_append, List.cons_append, Nat.div_div_eq_div_mul]
    simp
  simp only [Sh.digest, List.range, List.range.loop, List.flatMap_cons, List.flatMap_nil, w 0 (by omega), w 1 (by omega), w 2 (by omega), w 3 (by omega), w 4 (by omega), w 5 (by omega), w 6 (by omega), w 7 (by omega), b4, List.cons_append, List.nil_append, List.append_nil]
  rfl
theorem f19.digest (K n0 : Nat) (l0 z s : List Int) (h : ∀ k, k < 8 → 0 ≤ s.getD k 0 ∧ s.getD k 0 < 4294967296) (hK : 32 < K) :
    iter (f19.s6 K) K (0, n0, l0, z, s, Rf.digs s 0) = some (n0, l0, z, Rf.digs s 32) := by
  have := iter_for (stp := f19.s6 K) (N := 32) (fun i => ((i : Int), n0, l0, z, s, Rf.digs s i)) (y := some (n0, l0, z, Rf.digs s 32)) ?_ ?_ hK
  · exact this
  · intro i hi rec
    simp only [f19.s6, f19.s6t]
    have e28 : IntKind.wrap .i64 (Int.tdiv (i : Int) 4) = ((i / 4 : Nat) : Int) := by rw [show Int.tdiv (i : Int) 4 = ((i / 4 : Nat) : Int) from tdiv_nat i 4, wrap_i _ (by omega) (by omega)]
    have e33 : IntKind.wrap .i64 (24 - (IntKind.wrap .i64 (8 * (Int.tmod (i : Int) 4)))) = ((24 - 8 * (i % 4) : Nat) : Int) := by
      rw [show Int.tmod (i : Int) 4 = ((i % 4 : Nat) : Int) from tmod_nat i 4, wrap_i (8 * ((i % 4 : Nat) : Int)) (by omega) (by omega), wrap_i _ (by omega) (by omega)]; omega
    obtain ⟨r1, r2⟩ := h (i / 4) (by omega)
    have sh : IntKind.wrap .u8 (shiftI .shr .u32 (List.getD s (i / 4) 0) ((24 - 8 * (i % 4) : Nat) : Int)) = Rf.dig s i := by
      unfold shiftI Rf.dig
      dsimp only
      obtain ⟨x, hx⟩ : ∃ x : Nat, List.getD s (i / 4) 0 = (x : Int) := ⟨(List.getD s (i / 4) 0).toNat, by omega⟩
      rw [hx, Int.toNat_natCast, Int.toNat_natCast, show min (24 - 8 * (i % 4)) IntKind.u32.bits = 24 - 8 * (i % 4) from Nat.min_eq_left (by show _ ≤ 32; omega), fdiv_nat, show (2 : Nat) ^ (24 - 8 * (i % 4)) = 256 ^ (3 - i % 4) by rw [show (256 : Nat) = 2 ^ 8 from rfl, ← Nat.pow_mul]; congr 1; omega]
      simp [IntKind.wrap, IntKind.signed, IntKind.bits]
    rw [decide_eq_true (show (i : Int) < 32 by omega), cond_t]
    simp only [e28, e33, Int.toNat_natCast]
    rw [decide_eq_true (show (0 : Int) ≤ ((i / 4 : Nat) : Int) ∧ ((i / 4 : Nat) : Int) < 8 by omega), cond_t, decide_eq_true (show (0 : Int) ≤ ((24 - 8 * (i % 4) : Nat) : Int) by omega), cond_t, decide_eq_true (show (0 : Int) ≤ (i : Int) ∧ (i : Int) < 32 by omega), cond_t, sh, Rf.digs_set s i hi, wrap_i _ (by omega) (by omega)]
    rfl
  · intro rec
    simp only [f19.s6, f19.s6t]
    rfl
theorem f19.spec (K n : Nat) (m : List Int) (hm : m.length = n) (ho : octets m) (hn : n ≤ 100000000000) (hK : 200 + n / 64 < K) : f19.F K (n, n, m) = some (Sh.sum m, n, m) := by
  simp only [f19.F, f19.T]
  rw [Nat.zero_add, ble_true (Nat.le_refl n), fitB_true (by omega), Bool.and_self, cond_t, fitB_true (by omega), Bool.and_self, cond_t, subI_self m hm, padT_self m hm]
  have l1 : (m ++ [128]).length = n + 1 := by simp [hm]
  have z := f19.zeros K n m [0, 0, 0, 0, 0, 0, 0, 0, 0, 0, 0, 0, 0, 0, 0, 0, 0, 0, 0, 0, 0, 0, 0, 0, 0, 0, 0, 0, 0, 0, 0, 0] (m ++ [128]) n (by omega) (by omega)
  rw [l1, show (119 - (n + 1 + 63) % 64) % 64 = (119 - m.length % 64) % 64 by omega] at z
  generalize hN : (119 - m.length % 64) % 64 = N at z
  rw [z, bind_s]
  dsimp only
  have w8 : IntKind.wrap .u64 (8 * (IntKind.wrap .u64 ((n : Nat) : Int))) = ((8 * n : Nat) : Int) := by rw [wrap_u (n : Int) (by omega) (by omega), wrap_u _ (by omega) (by omega)]; omega
  have l2 : (m ++ [128] ++ List.replicate N 0).length = n + 1 + N := by rw [List.length_append, l1, List.length_replicate]
  have e := f19.eight K n m [0, 0, 0, 0, 0, 0, 0, 0, 0, 0, 0, 0, 0, 0, 0, 0, 0, 0, 0, 0, 0, 0, 0, 0, 0, 0, 0, 0, 0, 0, 0, 0] (m ++ [128] ++ List.replicate N 0) (8 * n) (by omega) (by omega) (by omega)
  rw [l2] at e
  rw [w8, e, bind_s, show f43.F K () = some Sh.consts from rfl, bind_s]
  dsimp only
  have hp : m ++ [128] ++ List.replicate N 0 ++ be 8 (8 * n) = Sh.padded m := by rw [Sh.padded, hN, hm]
  have lp : (Sh.padded m).length = n + 1 + N + 8 := by rw [← hp, List.length_append, l2, be_length]
  have op : octets (Sh.padded m) := by
    rw [← hp]
    exact octets_append (octets_append (octets_append ho (by intro x hx; simp only [List.mem_singleton] at hx; omega)) (octets_zeros N)) (be_octets _ _)
  have b := f19.blocks K n m [0, 0, 0, 0, 0, 0, 0, 0, 0, 0, 0, 0, 0, 0, 0, 0, 0, 0, 0, 0, 0, 0, 0, 0, 0, 0, 0, 0, 0, 0, 0, 0] (Sh.padded m) ((Sh.padded m).length / 64) (by omega) op (by omega) (by omega)
  rw [hp, ← lp]
  rw [show [1779033703, 3144134277, 1013904242, 2773480762, 1359893119, 2600822924, 528734635, 1541459225] = Sh.init from rfl, b, bind_s]
  dsimp only
  have d := f19.digest K n m [0, 0, 0, 0, 0, 0, 0, 0, 0, 0, 0, 0, 0, 0, 0, 0, 0, 0, 0, 0, 0, 0, 0, 0, 0, 0, 0, 0, 0, 0, 0, 0] (Sh.chain (Sh.padded m) ((Sh.padded m).length / 64)) (fun k hk => chain_range _ _ k hk) (by omega)
  rw [show Rf.digs (Sh.chain (Sh.padded m) ((Sh.padded m).length / 64)) 0 = [0, 0, 0, 0, 0, 0, 0, 0, 0, 0, 0, 0, 0, 0, 0, 0, 0, 0, 0, 0, 0, 0, 0, 0, 0, 0, 0, 0, 0, 0, 0, 0] from rfl] at d
  rw [d, bind_s]
  dsimp only
  rw [Rf.digs_all _ (fun k hk => chain_range _ _ k hk), ← Sh.sum]
end Go.Proofs

namespace Go.Proofs
open Go.VM
end Go.Proofs

namespace Go.Proofs
open Go.VM
end Go.Proofs

namespace Go.Proofs
open Go.VM
end Go.Proofs

namespace Go.Proofs
open Go.VM
end Go.Proofs

namespace Go.Proofs
open Go.VM
end Go.Proofs

namespace Go.Proofs
open Go.VM
end Go.Proofs

namespace Go.Proofs
open Go.VM
abbrev f47.Ty0 := Nat × Nat × List Int × Nat × List Int
abbrev f47.Ty1 := Nat × Int × Int × Nat × List Int
def f47.T (K : Nat) (a0 : Nat) (a1 : Int) (a2 : Int) (m0_0 : Nat) (m0_1 : List Int) : Option (f47.Ty0) :=
  (f66.F K (a1, (minE a2 8))).bind fun y1 =>
  alt (fun y2 =>
    bif ((Nat.ble (0 + a0) m0_0 && true) && true) then
      (f65.F K (a0, 0, a0, (subI m0_1 0 a0), 0, [])).bind fun y4 =>
      some (y4.1, m0_0, m0_1, y4.2.2.2.2.2.1, y4.2.2.2.2.2.2)
    else
      none) (fun y3 =>
    bif ((Nat.ble (0 + a0) m0_0 && true) && ((Nat.ble (0 + y3.1) y3.2.1 && true) && true)) then
      (f65.F K (a0, y3.1, a0, (subI m0_1 0 a0), y3.1, (subI y3.2.2 0 y3.1))).bind fun y5 =>
      some (y5.1, m0_0, m0_1, y5.2.2.2.2.2.1, y5.2.2.2.2.2.2)
    else
      none) y1
def f47.F (K : Nat) (x : f47.Ty1) : Option (f47.Ty0) := f47.T K x.1 x.2.1 x.2.2.1 x.2.2.2.1 x.2.2.2.2
def f47.av (x : f47.Ty1) : List VV := [.vw true 0 0 x.1 1, .int .u64 x.2.1, .int .i64 x.2.2.1]
def f47.bl (x : f47.Ty1) : List (Nat × Blk) := [(0, ([.ints .u8 x.2.2.2.1 x.2.2.2.2], 0, .ro))]
def f47.inA : VS → Option (f47.Ty1)
  | ⟨[(0, .vw true 0 0 a0 1), (1, .int .u64 a1), (2, .int .i64 a2)], [(0, ([.ints .u8 m0_0 m0_1], 0, .ro))], 2⟩ => some (a0, a1, a2, m0_0, m0_1)
  | _ => none
def f47.o0 (y : f47.Ty0) : VS := ⟨[(0, .vec 2 0 y.1 3)], [(0, ([.ints .u8 y.2.1 y.2.2.1], 0, .ro)), (2, ([.ints .u8 y.2.2.2.1 y.2.2.2.2], 5, .vec 3))], 4⟩
def f47.inR : VS → Option (f47.Ty0)
  | ⟨[(0, .vec 2 0 y 3)], [(0, ([.ints .u8 z0_0 z0_1], 0, .ro)), (2, ([.ints .u8 z2_0 z2_1], 5, .vec 3))], 4⟩ => some (y, z0_0, z0_1, z2_0, z2_1)
  | _ => none
noncomputable def f47.E (K : Nat) : Entry := genE 2 f47.inA (f47.F K) (dv1 f47.o0)
theorem f47.ok (K : Nat) : EntryOK Try.prog 47 (f47.E K) := gen_ok mix tys_ok (sp := tabSp [(66, (f66.E K)), (65, (viewE [(0, .u8), (1, .u8)] (f65.E K)))]) (tab_ok ((tab_cons (f66.ok K) (tab_cons (view_ok (f65.ok K)) tab_nil)))) Try.func47 (c := bodyOf Try.f47) (by kernel_rfl) (by kernel_rfl) (loops_none (lp := lpNone) (by kernel_rfl)) (av := f47.av) (bl := f47.bl) (inR := f47.inR) (out := f47.o0) (fuel := 400)
  (by intro s x h; unfold f47.inA at h; split at h <;> simp at h; subst h; rfl) (fun _ => Nat.le_of_ble_eq_true rfl)
  (by intro s y h; unfold f47.inR at h; split at h <;> simp at h <;> subst h <;> rfl) (fun _ _ _ => rfl) (fun _ => by kernel_rfl)
end Go.Proofs

namespace Go.Proofs
open Go.VM
abbrev f82.Ty0 := Nat × Nat × List Int × Nat × List Int × Nat × List Int
abbrev f82.Ty1 := Nat × Nat × Nat × List Int × Nat × List Int
def f82.T (K : Nat) (a0 : Nat) (a1 : Nat) (m0_0 : Nat) (m0_1 : List Int) (m2_0 : Nat) (m2_1 : List Int) : Option (f82.Ty0) :=
  (f66.F K ((IntKind.wrap .u64 ((a1 : Nat) : Int)), 4)).bind fun y3 =>
  alt (fun y4 =>
    bif ((Nat.ble (0 + a1) m2_0 && true) && true) then
      (f65.F K (0, a1, 0, [], a1, (subI m2_1 0 a1))).bind fun y6 =>
      bif ((Nat.ble (0 + a0) m0_0 && true) && ((Nat.ble (0 + y6.1) y6.2.2.2.2.2.1 && true) && true)) then
        (f65.F K (a0, y6.1, a0, (subI m0_1 0 a0), y6.1, (subI y6.2.2.2.2.2.2 0 y6.1))).bind fun y7 =>
        some (y7.1, m0_0, m0_1, m2_0, m2_1, y7.2.2.2.2.2.1, y7.2.2.2.2.2.2)
      else
        none
    else
      none) (fun y5 =>
    bif ((Nat.ble (0 + y5.1) y5.2.1 && true) && ((Nat.ble (0 + a1) m2_0 && true) && true)) then
      (f65.F K (y5.1, a1, y5.1, (subI y5.2.2 0 y5.1), a1, (subI m2_1 0 a1))).bind fun y8 =>
      bif ((Nat.ble (0 + a0) m0_0 && true) && ((Nat.ble (0 + y8.1) y8.2.2.2.2.2.1 && true) && true)) then
        (f65.F K (a0, y8.1, a0, (subI m0_1 0 a0), y8.1, (subI y8.2.2.2.2.2.2 0 y8.1))).bind fun y9 =>
        some (y9.1, m0_0, m0_1, m2_0, m2_1, y9.2.2.2.2.2.1, y9.2.2.2.2.2.2)
      else
        none
    else
      none) y3
def f82.F (K : Nat) (x : f82.Ty1) : Option (f82.Ty0) := f82.T K x.1 x.2.1 x.2.2.1 x.2.2.2.1 x.2.2.2.2.1 x.2.2.2.2.2
def f82.av (x : f82.Ty1) : List VV := [.vw true 0 0 x.1 1, .vw true 2 0 x.2.1 3]
def f82.bl (x : f82.Ty1) : List (Nat × Blk) := [(0, ([.ints .u8 x.2.2.1 x.2.2.2.1], 0, .ro)), (2, ([.ints .u8 x.2.2.2.2.1 x.2.2.2.2.2], 0, .ro))]
def f82.inA : VS → Option (f82.Ty1)
  | ⟨[(0, .vw true 0 0 a0 1), (1, .vw true 2 0 a1 3)], [(0, ([.ints .u8 m0_0 m0_1], 0, .ro)), (2, ([.ints .u8 m2_0 m2_1], 0, .ro))], 4⟩ => some (a0, a1, m0_0, m0_1, m2_0, m2_1)
  | _ => none
def f82.o0 (y : f82.Ty0) : VS := ⟨[(0, .vec 4 0 y.1 5)], [(0, ([.ints .u8 y.2.1 y.2.2.1], 0, .ro)), (2, ([.ints .u8 y.2.2.2.1 y.2.2.2.2.1], 0, .ro)), (4, ([.ints .u8 y.2.2.2.2.2.1 y.2.2.2.2.2.2], 5, .vec 5))], 6⟩
def f82.inR : VS → Option (f82.Ty0)
  | ⟨[(0, .vec 4 0 y 5)], [(0, ([.ints .u8 z0_0 z0_1], 0, .ro)), (2, ([.ints .u8 z2_0 z2_1], 0, .ro)), (4, ([.ints .u8 z4_0 z4_1], 5, .vec 5))], 6⟩ => some (y, z0_0, z0_1, z2_0, z2_1, z4_0, z4_1)
  | _ => none
noncomputable def f82.E (K : Nat) : Entry := genE 4 f82.inA (f82.F K) (dv1 f82.o0)
theorem f82.ok (K : Nat) : EntryOK Try.prog 82 (f82.E K) := gen_ok mix tys_ok (sp := tabSp [(66, (f66.E K)), (65, (viewE [(0, .u8), (1, .u8)] (f65.E K)))]) (tab_ok ((tab_cons (f66.ok K) (tab_cons (view_ok (f65.ok K)) tab_nil)))) Try.func82 (c := bodyOf Try.f82) (by kernel_rfl) (by kernel_rfl) (loops_none (lp := lpNone) (by kernel_rfl)) (av := f82.av) (bl := f82.bl) (inR := f82.inR) (out := f82.o0) (fuel := 400)
  (by intro s x h; unfold f82.inA at h; split at h <;> simp at h; subst h; rfl) (fun _ => Nat.le_of_ble_eq_true rfl)
  (by intro s y h; unfold f82.inR at h; split at h <;> simp at h <;> subst h <;> rfl) (fun _ _ _ => rfl) (fun _ => by kernel_rfl)
end Go.Proofs

namespace Go.Proofs
open Go.VM
abbrev f70.Ty0 := Nat × Nat × Nat × Nat × Nat × Nat × List Int × Nat × List Int × Nat × List Int × Nat × List Int × Nat × List Int
abbrev f70.Ty1 := ByteArray × Nat × Nat × Nat × Nat × Nat × List Int × Nat × List Int × Nat × List Int × Nat × List Int
def f70.T (K : Nat) (a0 : ByteArray) (m0_0 : Nat) (m0_1 : Nat) (m0_2 : Nat) (m0_3 : Nat) (m2_0 : Nat) (m2_1 : List Int) (m4_0 : Nat) (m4_1 : List Int) (m6_0 : Nat) (m6_1 : List Int) (m8_0 : Nat) (m8_1 : List Int) : Option (f70.Ty0) :=
  let v1 := ByteArray.size a0
  bif ((Nat.ble (0 + v1) (ByteArray.size a0) && true) && true) then
    (f82.F K (0, v1, 0, [], v1, (subI (strL a0) 0 v1))).bind fun y3 =>
    bif ((Nat.ble (0 + y3.1) y3.2.2.2.2.2.1 && true) && true) then
      (f47.F K (y3.1, 4, 4, y3.1, (subI y3.2.2.2.2.2.2 0 y3.1))).bind fun y4 =>
      bif ((Nat.ble (0 + y4.1) y4.2.2.2.1 && true) && ((Nat.ble (0 + m0_0) m2_0 && true) && true)) then
        (f82.F K (y4.1, m0_0, y4.1, (subI y4.2.2.2.2 0 y4.1), m0_0, (subI m2_1 0 m0_0))).bind fun y5 =>
        bif ((Nat.ble (0 + y5.1) y5.2.2.2.2.2.1 && true) && ((Nat.ble (0 + m0_1) m4_0 && true) && true)) then
          (f82.F K (y5.1, m0_1, y5.1, (subI y5.2.2.2.2.2.2 0 y5.1), m0_1, (subI m4_1 0 m0_1))).bind fun y6 =>
          bif ((Nat.ble (0 + y6.1) y6.2.2.2.2.2.1 && true) && ((Nat.ble (0 + m0_2) m6_0 && true) && true)) then
            (f82.F K (y6.1, m0_2, y6.1, (subI y6.2.2.2.2.2.2 0 y6.1), m0_2, (subI m6_1 0 m0_2))).bind fun y7 =>
            bif ((Nat.ble (0 + y7.1) y7.2.2.2.2.2.1 && true) && ((Nat.ble (0 + m0_3) m8_0 && true) && true)) then
              (f82.F K (y7.1, m0_3, y7.1, (subI y7.2.2.2.2.2.2 0 y7.1), m0_3, (subI m8_1 0 m0_3))).bind fun y8 =>
              some (y8.1, m0_0, m0_1, m0_2, m0_3, m2_0, m2_1, m4_0, m4_1, m6_0, m6_1, m8_0, m8_1, y8.2.2.2.2.2.1, y8.2.2.2.2.2.2)
            else
              none
          else
            none
        else
          none
      else
        none
    else
      none
  else
    none
def f70.F (K : Nat) (x : f70.Ty1) : Option (f70.Ty0) := f70.T K x.1 x.2.1 x.2.2.1 x.2.2.2.1 x.2.2.2.2.1 x.2.2.2.2.2.1 x.2.2.2.2.2.2.1 x.2.2.2.2.2.2.2.1 x.2.2.2.2.2.2.2.2.1 x.2.2.2.2.2.2.2.2.2.1 x.2.2.2.2.2.2.2.2.2.2.1 x.2.2.2.2.2.2.2.2.2.2.2.1 x.2.2.2.2.2.2.2.2.2.2.2.2
def f70.av (x : f70.Ty1) : List VV := [.str x.1, .vw true 0 0 4 1]
def f70.bl (x : f70.Ty1) : List (Nat × Blk) := [(0, ([.vw true 2 0 x.2.1 3, .vw true 4 0 x.2.2.1 5, .vw true 6 0 x.2.2.2.1 7, .vw true 8 0 x.2.2.2.2.1 9], 0, .ro)), (2, ([.ints .u8 x.2.2.2.2.2.1 x.2.2.2.2.2.2.1], 0, .ro)), (4, ([.ints .u8 x.2.2.2.2.2.2.2.1 x.2.2.2.2.2.2.2.2.1], 0, .ro)), (6, ([.ints .u8 x.2.2.2.2.2.2.2.2.2.1 x.2.2.2.2.2.2.2.2.2.2.1], 0, .ro)), (8, ([.ints .u8 x.2.2.2.2.2.2.2.2.2.2.2.1 x.2.2.2.2.2.2.2.2.2.2.2.2], 0, .ro))]
def f70.inA : VS → Option (f70.Ty1)
  | ⟨[(0, .str a0), (1, .vw true 0 0 4 1)], [(0, ([.vw true 2 0 m0_0 3, .vw true 4 0 m0_1 5, .vw true 6 0 m0_2 7, .vw true 8 0 m0_3 9], 0, .ro)), (2, ([.ints .u8 m2_0 m2_1], 0, .ro)), (4, ([.ints .u8 m4_0 m4_1], 0, .ro)), (6, ([.ints .u8 m6_0 m6_1], 0, .ro)), (8, ([.ints .u8 m8_0 m8_1], 0, .ro))], 10⟩ => some (a0, m0_0, m0_1, m0_2, m0_3, m2_0, m2_1, m4_0, m4_1, m6_0, m6_1, m8_0, m8_1)
  | _ => none
def f70.o0 (y : f70.Ty0) : VS := ⟨[(0, .vec 10 0 y.1 11)], [(0, ([.vw true 2 0 y.2.1 3, .vw true 4 0 y.2.2.1 5, .vw true 6 0 y.2.2.2.1 7, .vw true 8 0 y.2.2.2.2.1 9], 0, .ro)), (2, ([.ints .u8 y.2.2.2.2.2.1 y.2.2.2.2.2.2.1], 0, .ro)), (4, ([.ints .u8 y.2.2.2.2.2.2.2.1 y.2.2.2.2.2.2.2.2.1], 0, .ro)), (6, ([.ints .u8 y.2.2.2.2.2.2.2.2.2.1 y.2.2.2.2.2.2.2.2.2.2.1], 0, .ro)), (8, ([.ints .u8 y.2.2.2.2.2.2.2.2.2.2.2.1 y.2.2.2.2.2.2.2.2.2.2.2.2.1], 0, .ro)), (10, ([.ints .u8 y.2.2.2.2.2.2.2.2.2.2.2.2.2.1 y.2.2.2.2.2.2.2.2.2.2.2.2.2.2], 5, .vec 11))], 12⟩
def f70.inR : VS → Option (f70.Ty0)
  | ⟨[(0, .vec 10 0 y 11)], [(0, ([.vw true 2 0 z0_0 3, .vw true 4 0 z0_1 5, .vw true 6 0 z0_2 7, .vw true 8 0 z0_3 9], 0, .ro)), (2, ([.ints .u8 z2_0 z2_1], 0, .ro)), (4, ([.ints .u8 z4_0 z4_1], 0, .ro)), (6, ([.ints .u8 z6_0 z6_1], 0, .ro)), (8, ([.ints .u8 z8_0 z8_1], 0, .ro)), (10, ([.ints .u8 z10_0 z10_1], 5, .vec 11))], 12⟩ => some (y, z0_0, z0_1, z0_2, z0_3, z2_0, z2_1, z4_0, z4_1, z6_0, z6_1, z8_0, z8_1, z10_0, z10_1)
  | _ => none
noncomputable def f70.E (K : Nat) : Entry := genE 10 f70.inA (f70.F K) (dv1 f70.o0)
theorem f70.ok (K : Nat) : EntryOK Try.prog 70 (f70.E K) := gen_ok mix tys_ok (sp := tabSp [(82, (viewE [(0, .u8), (1, .u8)] (f82.E K))), (47, (viewE [(0, .u8)] (f47.E K)))]) (tab_ok ((tab_cons (view_ok (f82.ok K)) (tab_cons (view_ok (f47.ok K)) tab_nil)))) Try.func70 (c := bodyOf Try.f70) (by kernel_rfl) (by kernel_rfl) (loops_none (lp := lpNone) (by kernel_rfl)) (av := f70.av) (bl := f70.bl) (inR := f70.inR) (out := f70.o0) (fuel := 400)
  (by intro s x h; unfold f70.inA at h; split at h <;> simp at h; subst h; rfl) (fun _ => Nat.le_of_ble_eq_true rfl)
  (by intro s y h; unfold f70.inR at h; split at h <;> simp at h <;> subst h <;> rfl) (fun _ _ _ => rfl) (fun _ => by kernel_rfl)
end Go.Proofs

namespace Go.Proofs
open Go.VM
abbrev f51.Ty0 := ByteArray × Nat × Nat × Nat × Nat × Nat × List Int × Nat × List Int × Nat × List Int × Nat × List Int
abbrev f51.Ty1 := List Int × Nat × Nat × Nat × Nat × Nat × List Int × Nat × List Int × Nat × List Int × Nat × List Int
def f51.T (K : Nat) (a0 : ByteArray) (m0_0 : Nat) (m0_1 : Nat) (m0_2 : Nat) (m0_3 : Nat) (m2_0 : Nat) (m2_1 : List Int) (m4_0 : Nat) (m4_1 : List Int) (m6_0 : Nat) (m6_1 : List Int) (m8_0 : Nat) (m8_1 : List Int) : Option (f51.Ty1) :=
  bif ((Nat.ble (0 + m0_0) m2_0 && true) && ((Nat.ble (0 + m0_1) m4_0 && true) && ((Nat.ble (0 + m0_2) m6_0 && true) && ((Nat.ble (0 + m0_3) m8_0 && true) && true)))) then
    (f70.F K (a0, m0_0, m0_1, m0_2, m0_3, m0_0, (subI m2_1 0 m0_0), m0_1, (subI m4_1 0 m0_1), m0_2, (subI m6_1 0 m0_2), m0_3, (subI m8_1 0 m0_3))).bind fun y1 =>
    bif ((Nat.ble (0 + y1.1) y1.2.2.2.2.2.2.2.2.2.2.2.2.2.1 && true) && true) then
      (f19.F K (y1.1, y1.1, (subI y1.2.2.2.2.2.2.2.2.2.2.2.2.2.2 0 y1.1))).bind fun y2 =>
      some (y2.1, m0_0, m0_1, m0_2, m0_3, m2_0, m2_1, m4_0, m4_1, m6_0, m6_1, m8_0, m8_1)
    else
      none
  else
    none
def f51.F (K : Nat) (x : f51.Ty0) : Option (f51.Ty1) := f51.T K x.1 x.2.1 x.2.2.1 x.2.2.2.1 x.2.2.2.2.1 x.2.2.2.2.2.1 x.2.2.2.2.2.2.1 x.2.2.2.2.2.2.2.1 x.2.2.2.2.2.2.2.2.1 x.2.2.2.2.2.2.2.2.2.1 x.2.2.2.2.2.2.2.2.2.2.1 x.2.2.2.2.2.2.2.2.2.2.2.1 x.2.2.2.2.2.2.2.2.2.2.2.2
def f51.av (x : f51.Ty0) : List VV := [.str x.1, .vw true 0 0 4 1]
def f51.bl (x : f51.Ty0) : List (Nat × Blk) := [(0, ([.vw true 2 0 x.2.1 3, .vw true 4 0 x.2.2.1 5, .vw true 6 0 x.2.2.2.1 7, .vw true 8 0 x.2.2.2.2.1 9], 0, .ro)), (2, ([.ints .u8 x.2.2.2.2.2.1 x.2.2.2.2.2.2.1], 0, .ro)), (4, ([.ints .u8 x.2.2.2.2.2.2.2.1 x.2.2.2.2.2.2.2.2.1], 0, .ro)), (6, ([.ints .u8 x.2.2.2.2.2.2.2.2.2.1 x.2.2.2.2.2.2.2.2.2.2.1], 0, .ro)), (8, ([.ints .u8 x.2.2.2.2.2.2.2.2.2.2.2.1 x.2.2.2.2.2.2.2.2.2.2.2.2], 0, .ro))]
def f51.inA : VS → Option (f51.Ty0)
  | ⟨[(0, .str a0), (1, .vw true 0 0 4 1)], [(0, ([.vw true 2 0 m0_0 3, .vw true 4 0 m0_1 5, .vw true 6 0 m0_2 7, .vw true 8 0 m0_3 9], 0, .ro)), (2, ([.ints .u8 m2_0 m2_1], 0, .ro)), (4, ([.ints .u8 m4_0 m4_1], 0, .ro)), (6, ([.ints .u8 m6_0 m6_1], 0, .ro)), (8, ([.ints .u8 m8_0 m8_1], 0, .ro))], 10⟩ => some (a0, m0_0, m0_1, m0_2, m0_3, m2_0, m2_1, m4_0, m4_1, m6_0, m6_1, m8_0, m8_1)
  | _ => none
def f51.o0 (y : f51.Ty1) : VS := ⟨[(0, .agg [.ints .u8 32 y.1])], [(0, ([.vw true 2 0 y.2.1 3, .vw true 4 0 y.2.2.1 5, .vw true 6 0 y.2.2.2.1 7, .vw true 8 0 y.2.2.2.2.1 9], 0, .ro)), (2, ([.ints .u8 y.2.2.2.2.2.1 y.2.2.2.2.2.2.1], 0, .ro)), (4, ([.ints .u8 y.2.2.2.2.2.2.2.1 y.2.2.2.2.2.2.2.2.1], 0, .ro)), (6, ([.ints .u8 y.2.2.2.2.2.2.2.2.2.1 y.2.2.2.2.2.2.2.2.2.2.1], 0, .ro)), (8, ([.ints .u8 y.2.2.2.2.2.2.2.2.2.2.2.1 y.2.2.2.2.2.2.2.2.2.2.2.2], 0, .ro))], 10⟩
def f51.inR : VS → Option (f51.Ty1)
  | ⟨[(0, .agg [.ints .u8 32 y])], [(0, ([.vw true 2 0 z0_0 3, .vw true 4 0 z0_1 5, .vw true 6 0 z0_2 7, .vw true 8 0 z0_3 9], 0, .ro)), (2, ([.ints .u8 z2_0 z2_1], 0, .ro)), (4, ([.ints .u8 z4_0 z4_1], 0, .ro)), (6, ([.ints .u8 z6_0 z6_1], 0, .ro)), (8, ([.ints .u8 z8_0 z8_1], 0, .ro))], 10⟩ => some (y, z0_0, z0_1, z0_2, z0_3, z2_0, z2_1, z4_0, z4_1, z6_0, z6_1, z8_0, z8_1)
  | _ => none
noncomputable def f51.E (K : Nat) : Entry := genE 10 f51.inA (f51.F K) (dv1 f51.o0)
theorem f51.ok (K : Nat) : EntryOK Try.prog 51 (f51.E K) := gen_ok mix tys_ok (sp := tabSp [(70, (rowsE 1 .u8 (f70.E K))), (19, (viewE [(0, .u8)] (f19.E K)))]) (tab_ok ((tab_cons (rows_ok (f70.ok K)) (tab_cons (view_ok (f19.ok K)) tab_nil)))) Try.func51 (c := bodyOf Try.f51) (by kernel_rfl) (by kernel_rfl) (loops_none (lp := lpNone) (by kernel_rfl)) (av := f51.av) (bl := f51.bl) (inR := f51.inR) (out := f51.o0) (fuel := 400)
  (by intro s x h; unfold f51.inA at h; split at h <;> simp at h; subst h; rfl) (fun _ => Nat.le_of_ble_eq_true rfl)
  (by intro s y h; unfold f51.inR at h; split at h <;> simp at h <;> subst h <;> rfl) (fun _ _ _ => rfl) (fun _ => by kernel_rfl)
end Go.Proofs

namespace Go.Proofs
open Go.VM
theorem f82.spec (K a n : Nat) (l p : List Int) (hl : l.length = a) (hp : p.length = n) (ha : a ≤ 10000000000) (hn : n ≤ 1000000000) (hK : 10 < K) :
    f82.F K (a, n, a, l, n, p) = some (a + (4 + n), a, l, n, p, a + (4 + n), l ++ Sh.frame p) := by
  simp only [f82.F, f82.T]
  have e := f66.spec 4 K n (by omega) (by omega) (by omega)
  rw [if_neg (by omega)] at e
  have lb : (be 4 n ++ p).length = 4 + n := by rw [List.length_append, be_length, hp]
  rw [wrap_u (n : Int) (by omega) (by omega), show ((4 : Int)) = ((4 : Nat) : Int) from rfl, e, bind_s, altr]
  dsimp only
  rw [Nat.zero_add, Nat.zero_add, Nat.zero_add, ble_true (Nat.le_refl 4), ble_true (Nat.le_refl n), Bool.and_self, Bool.and_self, Bool.and_self, cond_t, subI_self _ (be_length 4 n), subI_self _ hp, f65.spec K 4 n (be 4 n) p (be_length _ _) hp (by omega), bind_s]
  dsimp only
  rw [Nat.zero_add, ble_true (Nat.le_refl a), ble_true (Nat.le_refl (4 + n)), Bool.and_self, Bool.and_self, Bool.and_self, cond_t, subI_self _ hl, subI_self _ lb, f65.spec K a (4 + n) l _ hl lb (by omega), bind_s]
  rw [Sh.frame, hp]
theorem f47.spec (K a x : Nat) (l : List Int) (hl : l.length = a) (hx : x < 18446744073709551616) (ha : a ≤ 10000000000) (hK : 10 < K) :
    f47.F K (a, (x : Int), 4, a, l) = some (a + 4, a, l, a + 4, l ++ be 4 x) := by
  simp only [f47.F, f47.T]
  have e := f66.spec 4 K x hx (by omega) (by omega)
  rw [if_neg (by omega)] at e
  rw [show minE 4 8 = ((4 : Nat) : Int) from rfl, e, bind_s, altr]
  dsimp only
  rw [Nat.zero_add, Nat.zero_add, ble_true (Nat.le_refl a), ble_true (Nat.le_refl 4), Bool.and_self, Bool.and_self, Bool.and_self, cond_t, subI_self _ (be_length 4 x), subI_self _ hl, f65.spec K a 4 l _ hl (be_length _ _) (by omega), bind_s]
theorem f70.spec (K : Nat) (name : ByteArray) (n0 : Nat) (l0 : List Int) (n1 : Nat) (l1 : List Int) (n2 : Nat) (l2 : List Int) (n3 : Nat) (l3 : List Int) (hs : name.size ≤ 1000) (e0 : l0.length = n0) (o0 : octets l0) (z0 : n0 ≤ 1000) (e1 : l1.length = n1) (o1 : octets l1) (z1 : n1 ≤ 1000) (e2 : l2.length = n2) (o2 : octets l2) (z2 : n2 ≤ 1000) (e3 : l3.length = n3) (o3 : octets l3) (z3 : n3 ≤ 1000) (hK : 10000 < K) :
    f70.F K (name, n0, n1, n2, n3, n0, l0, n1, l1, n2, l2, n3, l3) = some ((Sh.cut (strL name) [l0, l1, l2, l3]).length, n0, n1, n2, n3, n0, l0, n1, l1, n2, l2, n3, l3, (Sh.cut (strL name) [l0, l1, l2, l3]).length, Sh.cut (strL name) [l0, l1, l2, l3]) := by
  have hnl := strL_length name
  have hM : Sh.cut (strL name) [l0, l1, l2, l3] = Sh.frame (strL name) ++ be 4 4 ++ Sh.frame l0 ++ Sh.frame l1 ++ Sh.frame l2 ++ Sh.frame l3 := by
    simp only [Sh.cut, List.length_cons, List.length_nil, List.flatMap_cons, List.flatMap_nil, List.append_nil, List.append_assoc]
  have f0 := frame_length (strL name)
  rw [hnl] at f0
  simp only [f70.F, f70.T]
  have a0 := f82.spec K 0 name.size [] (strL name) rfl hnl (by omega) (by omega) (by omega)
  rw [Nat.zero_add, List.nil_append] at a0
  rw [Nat.zero_add, ble_true (Nat.le_refl name.size), Bool.and_self, Bool.and_self, cond_t, subI_self _ hnl, a0, bind_s]
  dsimp only
  have a1 := f47.spec K (4 + name.size) 4 (Sh.frame (strL name)) f0 (by omega) (by omega) (by omega)
  rw [Nat.zero_add, ble_true (Nat.le_refl _), Bool.and_self, Bool.and_self, cond_t, subI_self _ f0, show f47.F K (4 + name.size, 4, 4, 4 + name.size, Sh.frame (strL name)) = _ from a1, bind_s]
  dsimp only
  have M0 : (Sh.frame (strL name) ++ be 4 4).length = 4 + name.size + 4 := by rw [List.length_append, f0, be_length]
  have b0 := f82.spec K (4 + name.size + 4) n0 (Sh.frame (strL name) ++ be 4 4) l0 M0 e0 (by omega) (by omega) (by omega)
  rw [Nat.zero_add, ble_true (Nat.le_refl (4 + name.size + 4)), Nat.zero_add, ble_true (Nat.le_refl n0), Bool.and_self, Bool.and_self, Bool.and_self, cond_t, subI_self _ M0, subI_self _ e0, b0, bind_s]
  dsimp only
  have M1 : (Sh.frame (strL name) ++ be 4 4 ++ Sh.frame l0).length = 4 + name.size + 4 + (4 + n0) := by rw [List.length_append, M0, frame_length, e0]
  have b1 := f82.spec K (4 + name.size + 4 + (4 + n0)) n1 (Sh.frame (strL name) ++ be 4 4 ++ Sh.frame l0) l1 M1 e1 (by omega) (by omega) (by omega)
  rw [Nat.zero_add, ble_true (Nat.le_refl (4 + name.size + 4 + (4 + n0))), Nat.zero_add, ble_true (Nat.le_refl n1), Bool.and_self, Bool.and_self, Bool.and_self, cond_t, subI_self _ M1, subI_self _ e1, b1, bind_s]
  dsimp only
  have M2 : (Sh.frame (strL name) ++ be 4 4 ++ Sh.frame l0 ++ Sh.frame l1).length = 4 + name.size + 4 + (4 + n0) + (4 + n1) := by rw [List.length_append, M1, frame_length, e1]
  have b2 := f82.spec K (4 + name.size + 4 + (4 + n0) + (4 + n1)) n2 (Sh.frame (strL name) ++ be 4 4 ++ Sh.frame l0 ++ Sh.frame l1) l2 M2 e2 (by omega) (by omega) (by omega)
  rw [Nat.zero_add, ble_true (Nat.le_refl (4 + name.size + 4 + (4 + n0) + (4 + n1))), Nat.zero_add, ble_true (Nat.le_refl n2), Bool.and_self, Bool.and_self, Bool.and_self, cond_t, subI_self _ M2, subI_self _ e2, b2, bind_s]
  dsimp only
  have M3 : (Sh.frame (strL name) ++ be 4 4 ++ Sh.frame l0 ++ Sh.frame l1 ++ Sh.frame l2).length = 4 + name.size + 4 + (4 + n0) + (4 + n1) + (4 + n2) := by rw [List.length_append, M2, frame_length, e2]
  have b3 := f82.spec K (4 + name.size + 4 + (4 + n0) + (4 + n1) + (4 + n2)) n3 (Sh.frame (strL name) ++ be 4 4 ++ Sh.frame l0 ++ Sh.frame l1 ++ Sh.frame l2) l3 M3 e3 (by omega) (by omega) (by omega)
  rw [Nat.zero_add, ble_true (Nat.le_refl (4 + name.size + 4 + (4 + n0) + (4 + n1) + (4 + n2))), Nat.zero_add, ble_true (Nat.le_refl n3), Bool.and_self, Bool.and_self, Bool.and_self, cond_t, subI_self _ M3, subI_self _ e3, b3, bind_s]
  dsimp only
  have M4 : (Sh.frame (strL name) ++ be 4 4 ++ Sh.frame l0 ++ Sh.frame l1 ++ Sh.frame l2 ++ Sh.frame l3).length = 4 + name.size + 4 + (4 + n0) + (4 + n1) + (4 + n2) + (4 + n3) := by rw [List.length_append, M3, frame_length, e3]
  rw [hM, M4]
theorem f51.spec (K : Nat) (name : ByteArray) (n0 : Nat) (l0 : List Int) (n1 : Nat) (l1 : List Int) (n2 : Nat) (l2 : List Int) (n3 : Nat) (l3 : List Int) (hs : name.size ≤ 1000) (e0 : l0.length = n0) (o0 : octets l0) (z0 : n0 ≤ 1000) (e1 : l1.length = n1) (o1 : octets l1) (z1 : n1 ≤ 1000) (e2 : l2.length = n2) (o2 : octets l2) (z2 : n2 ≤ 1000) (e3 : l3.length = n3) (o3 : octets l3) (z3 : n3 ≤ 1000) (hK : 10000 < K) :
    f51.F K (name, n0, n1, n2, n3, n0, l0, n1, l1, n2, l2, n3, l3) = some (Sh.sha (strL name) [l0, l1, l2, l3], n0, n1, n2, n3, n0, l0, n1, l1, n2, l2, n3, l3) := by
  have hnl := strL_length name
  have hM : Sh.cut (strL name) [l0, l1, l2, l3] = Sh.frame (strL name) ++ be 4 4 ++ Sh.frame l0 ++ Sh.frame l1 ++ Sh.frame l2 ++ Sh.frame l3 := by
    simp only [Sh.cut, List.length_cons, List.length_nil, List.flatMap_cons, List.flatMap_nil, List.append_nil, List.append_assoc]
  have ho : octets (Sh.cut (strL name) [l0, l1, l2, l3]) := by
    rw [hM]
    exact octets_append (octets_append (octets_append (octets_append (octets_append (frame_octets (strL_octets name)) (be_octets _ _)) (frame_octets o0)) (frame_octets o1)) (frame_octets o2)) (frame_octets o3)
  have hlen : (Sh.cut (strL name) [l0, l1, l2, l3]).length ≤ 100000 := by
    rw [hM]
    simp only [List.length_append, frame_length, be_length, hnl]
    omega
  simp only [f51.F, f51.T]
  rw [Nat.zero_add, ble_true (Nat.le_refl n0), Nat.zero_add, ble_true (Nat.le_refl n1), Nat.zero_add, ble_true (Nat.le_refl n2), Nat.zero_add, ble_true (Nat.le_refl n3), Bool.and_self, Bool.and_self, Bool.and_self, Bool.and_self, Bool.and_self, cond_t, subI_self _ e0, subI_self _ e1, subI_self _ e2, subI_self _ e3,
    f70.spec K name n0 l0 n1 l1 n2 l2 n3 l3 hs e0 o0 z0 e1 o1 z1 e2 o2 z2 e3 o3 z3 hK, bind_s]
  dsimp only
  rw [Nat.zero_add, ble_true (Nat.le_refl _), Bool.and_self, Bool.and_self, cond_t, subI_self _ rfl, f19.spec K _ _ rfl ho (by omega) (by omega), bind_s]
  rfl
end Go.Proofs

namespace Go.Proofs
open Go.VM
end Go.Proofs

namespace Go.Proofs
open Go.VM
end Go.Proofs

namespace Go.Proofs
open Go.VM
end Go.Proofs

namespace Go.Proofs
open Go.VM
abbrev f30.Ty0 := Int × Int × List Int × List Int × List Int × List Int
def f30.k0 : ByteArray := ByteArray.mk #[119, 111, 114, 107]
def f30.T (K : Nat) (a0_0 : Int) (_a0_1 : Int) (a0_2 : List Int) (a1 : List Int) (a2 : List Int) (a3 : List Int) : Option (Bool) :=
  bif (decide (a0_0 > 12)) then
    some false
  else
    (f51.F K (f30.k0, 32, 16, 16, 32, 32, (subI a0_2 0 32), 16, (subI a1 0 16), 16, (subI a2 0 16), 32, (subI a3 0 32))).bind fun y2 =>
    bif decide (0 ≤ a0_0) then
      let v9 := shiftI .shl .u64 1 a0_0
      bif decide (v9 ≠ 0) then
        some ((Int.tmod (bits .or .u64 (IntKind.wrap .u64 ((IntKind.wrap .u64 (List.getD y2.1 30 0)) * 2 ^ 8)) (IntKind.wrap .u64 (List.getD y2.1 31 0))) v9) == 0)
      else
        none
    else
      none
def f30.F (K : Nat) (x : f30.Ty0) : Option (Bool) := f30.T K x.1 x.2.1 x.2.2.1 x.2.2.2.1 x.2.2.2.2.1 x.2.2.2.2.2
def f30.av (x : f30.Ty0) : List VV := [.agg [.int .u8 x.1, .int .u64 x.2.1, .ints .u8 32 x.2.2.1], .agg [.ints .u8 16 x.2.2.2.1], .agg [.ints .u8 16 x.2.2.2.2.1], .agg [.ints .u8 32 x.2.2.2.2.2]]
def f30.bl (_x : f30.Ty0) : List (Nat × Blk) := []
def f30.inA : VS → Option (f30.Ty0)
  | ⟨[(0, .agg [.int .u8 a0_0, .int .u64 a0_1, .ints .u8 32 a0_2]), (1, .agg [.ints .u8 16 a1]), (2, .agg [.ints .u8 16 a2]), (3, .agg [.ints .u8 32 a3])], [], 0⟩ => some (a0_0, a0_1, a0_2, a1, a2, a3)
  | _ => none
def f30.o0 (y : Bool) : VS := ⟨[(0, .bool y)], [], 0⟩
def f30.inR : VS → Option (Bool)
  | ⟨[(0, .bool y)], [], 0⟩ => some y
  | _ => none
noncomputable def f30.E (K : Nat) : Entry := genE 0 f30.inA (f30.F K) (dv1 f30.o0)
theorem f30.ok (K : Nat) : EntryOK Try.prog 30 (f30.E K) := gen_ok mix tys_ok (sp := tabSp [(51, (rowsE 1 .u8 (f51.E K)))]) (tab_ok ((tab_cons (rows_ok (f51.ok K)) tab_nil))) Try.func30 (c := bodyOf Try.f30) (by kernel_rfl) (by kernel_rfl) (loops_none (lp := lpNone) (by kernel_rfl)) (av := f30.av) (bl := f30.bl) (inR := f30.inR) (out := f30.o0) (fuel := 400)
  (by intro s x h; unfold f30.inA at h; split at h <;> simp at h; subst h; rfl) (fun _ => Nat.le_of_ble_eq_true rfl)
  (by intro s y h; unfold f30.inR at h; split at h <;> simp at h <;> subst h <;> rfl) (fun _ _ _ => rfl) (fun _ => by kernel_rfl)
end Go.Proofs

namespace Go.Proofs
open Go.VM
theorem f47.spec8 (K a x : Nat) (l : List Int) (hl : l.length = a) (hx : x < 18446744073709551616) (ha : a ≤ 10000000000) (hK : 10 < K) :
    f47.F K (a, (x : Int), 8, a, l) = some (a + 8, a, l, a + 8, l ++ be 8 x) := by
  simp only [f47.F, f47.T]
  have e := f66.spec 8 K x hx (by omega) (by omega)
  rw [if_neg (by omega)] at e
  rw [show minE 8 8 = ((8 : Nat) : Int) from rfl, e, bind_s, altr]
  dsimp only
  rw [Nat.zero_add, Nat.zero_add, ble_true (Nat.le_refl a), ble_true (Nat.le_refl 8), Bool.and_self, Bool.and_self, Bool.and_self, cond_t, subI_self _ (be_length 8 x), subI_self _ hl, f65.spec K a 8 l _ hl (be_length _ _) (by omega), bind_s]
theorem So.shl64 (b : Nat) (hb : b ≤ 12) : shiftI .shl .u64 1 (b : Int) = ((2 ^ b : Nat) : Int) := by
  have : ∀ c : Fin 13, shiftI .shl .u64 1 ((c.val : Nat) : Int) = ((2 ^ c.val : Nat) : Int) := by decide
  exact this ⟨b, by omega⟩
theorem So.or64 (a c : Nat) (ha : a < 256) (hc : c < 256) : bits .or .u64 (IntKind.wrap .u64 ((IntKind.wrap .u64 (a : Int)) * 2 ^ 8)) (IntKind.wrap .u64 (c : Int)) = ((a * 256 + c : Nat) : Int) := by
  have h := Nat.shiftLeft_add_eq_or_of_lt (show c < 2 ^ 8 by omega) a
  rw [Nat.shiftLeft_eq] at h
  rw [wrap_u (a : Int) (by omega) (by omega), wrap_u (c : Int) (by omega) (by omega), show (a : Int) * 2 ^ 8 = ((a * 2 ^ 8 : Nat) : Int) by omega, wrap_u _ (by omega) (by omega), bits_or_u64_nat _ _ (by omega) (by omega), ← h]
theorem f30.big (K : Nat) (b g : Int) (I f t j : List Int) (hb : 12 < b) : f30.F K (b, g, I, f, t, j) = some false := by
  simp only [f30.F, f30.T]
  rw [decide_eq_true (show b > 12 by omega), cond_t]
theorem f30.spec (K b : Nat) (hb : b ≤ 12) (g : Int) (I f t j : List Int) (lI : I.length = 32) (oI : octets I) (lf : f.length = 16) (of' : octets f) (lt : t.length = 16) (ot : octets t) (lj : j.length = 32) (oj : octets j) (hK : 10000 < K) :
    f30.F K ((b : Int), g, I, f, t, j) = some (So.ck b (Sh.sha (strL f29.k0) [I, f, t, j])) := by
  have hs : f30.k0.size = 4 := rfl
  simp only [f30.F, f30.T]
  rw [decide_eq_false (show ¬ ((b : Int) > 12) by omega), cond_f, subI_self I lI, subI_self f lf, subI_self t lt, subI_self j lj,
    f51.spec K f30.k0 32 I 16 f 16 t 32 j (by omega) lI oI (by omega) lf of' (by omega) lt ot (by omega) lj oj (by omega) hK, bind_s, show f30.k0 = f29.k0 from rfl]
  simp only []
  rw [decide_eq_true (show (0 : Int) ≤ (b : Int) by omega), cond_t, So.shl64 b hb]
  obtain ⟨q1, q2⟩ := So.pow12 b hb
  have ho : octets (Sh.sha (strL f29.k0) [I, f, t, j]) := sum_octets _
  obtain ⟨a, ha, ea⟩ := getD_oct ho 30
  obtain ⟨c, hc, ec⟩ := getD_oct ho 31
  rw [decide_eq_true (show ((2 ^ b : Nat) : Int) ≠ 0 by omega), cond_t, ea, ec, So.or64 a c ha hc, tmod_nat, So.int_nat, So.ck, So.low, ea, ec]
  rfl
end Go.Proofs

namespace Go.Proofs
open Go.VM
abbrev f32.Ty0 := Int × Nat × Int × Int × Int × List Int × List Int × List Int × List Int × List Int × Nat × List Int
abbrev f32.Ty1 := Int × Int × Int × List Int × List Int × List Int × List Int × List Int
abbrev f32.Ty2 := Int × Int × Int × List Int × List Int × List Int × List Int
abbrev f32.Ty3 := Int × Int × List Int × List Int × List Int
abbrev f32.Ty4 := Int × List Int
abbrev f32.Ty5 := List Int × Int
noncomputable def f32.c : Code := bodyOf Try.f32
def f32.s2t (_K : Nat) (rec : f32.Ty0 → Option (f32.Ty1)) (t8 : Int) (t10 : Nat) (t11 : Int) (b0_0 : Int) (b0_1 : Int) (b0_2 : List Int) (b1 : List Int) (b2 : List Int) (b3 : List Int) (b4 : List Int) (b5_0 : Nat) (b5_1 : List Int) : Option (f32.Ty1) :=
  bif (decide (t11 < 8)) then
    let v5 := IntKind.wrap .i64 (24 + t11)
    bif (decide (0 ≤ t11 ∧ t11 < ((t10 : Nat) : Int)) && (Nat.blt (0 + (Int.toNat t11)) b5_0)) then
      let v6 := 0 + (Int.toNat t11)
      bif Nat.blt v6 b5_0 then
        bif decide (0 ≤ v5 ∧ v5 < 32) then
          rec (t8, t10, (IntKind.wrap .i64 (t11 + 1)), b0_0, b0_1, b0_2, b1, b2, b3, (setD b4 (Int.toNat v5) (List.getD b5_1 v6 0)), b5_0, b5_1)
        else
          none
      else
        none
    else
      none
  else
    some (t8, b0_0, b0_1, b0_2, b1, b2, b3, b4)
def f32.s2 (K : Nat) (rec : f32.Ty0 → Option (f32.Ty1)) (x : f32.Ty0) : Option (f32.Ty1) := f32.s2t K rec x.1 x.2.1 x.2.2.1 x.2.2.2.1 x.2.2.2.2.1 x.2.2.2.2.2.1 x.2.2.2.2.2.2.1 x.2.2.2.2.2.2.2.1 x.2.2.2.2.2.2.2.2.1 x.2.2.2.2.2.2.2.2.2.1 x.2.2.2.2.2.2.2.2.2.2.1 x.2.2.2.2.2.2.2.2.2.2.2
noncomputable def f32.s2.b : Code := (findLoop 2 f32.c).getD .skip
def f32.s2.h : Hint := { lv := [3, 4, 5, 6, 8, 9, 10, 11] }
def f32.s2.ho : Hint := { lv := [3, 4, 5, 6, 8, 9] }
def f32.s2.shp (x : f32.Ty0) : VS := ⟨[(3, .ptr 0 0), (4, .ptr 1 0), (5, .ptr 2 0), (6, .ptr 3 0), (8, .int .u64 x.1), (9, .ptr 4 0), (10, .vec 5 0 x.2.1 6), (11, .int .i64 x.2.2.1)], [(0, ([.int .u8 x.2.2.2.1, .int .u64 x.2.2.2.2.1, .ints .u8 32 x.2.2.2.2.2.1], 53, .norm)), (1, ([.ints .u8 16 x.2.2.2.2.2.2.1], 47, .norm)), (2, ([.ints .u8 16 x.2.2.2.2.2.2.2.1], 47, .norm)), (3, ([.ints .u8 32 x.2.2.2.2.2.2.2.2.1], 35, .norm)), (4, ([.ints .u8 32 x.2.2.2.2.2.2.2.2.2.1], 35, .norm)), (5, ([.ints .u8 x.2.2.2.2.2.2.2.2.2.2.1 x.2.2.2.2.2.2.2.2.2.2.2], 5, .vec 6))], 7⟩
def f32.s2.inX : VS → Option (f32.Ty0)
  | ⟨[(3, .ptr 0 0), (4, .ptr 1 0), (5, .ptr 2 0), (6, .ptr 3 0), (8, .int .u64 t8), (9, .ptr 4 0), (10, .vec 5 0 t10 6), (11, .int .i64 t11)], [(0, ([.int .u8 b0_0, .int .u64 b0_1, .ints .u8 32 b0_2], 53, .norm)), (1, ([.ints .u8 16 b1], 47, .norm)), (2, ([.ints .u8 16 b2], 47, .norm)), (3, ([.ints .u8 32 b3], 35, .norm)), (4, ([.ints .u8 32 b4], 35, .norm)), (5, ([.ints .u8 b5_0 b5_1], 5, .vec 6))], 7⟩ => some (t8, t10, t11, b0_0, b0_1, b0_2, b1, b2, b3, b4, b5_0, b5_1)
  | _ => none
def f32.s2.o0 (y : f32.Ty1) : VS := ⟨[(3, .ptr 0 0), (4, .ptr 1 0), (5, .ptr 2 0), (6, .ptr 3 0), (8, .int .u64 y.1), (9, .ptr 4 0)], [(0, ([.int .u8 y.2.1, .int .u64 y.2.2.1, .ints .u8 32 y.2.2.2.1], 53, .norm)), (1, ([.ints .u8 16 y.2.2.2.2.1], 47, .norm)), (2, ([.ints .u8 16 y.2.2.2.2.2.1], 47, .norm)), (3, ([.ints .u8 32 y.2.2.2.2.2.2.1], 35, .norm)), (4, ([.ints .u8 32 y.2.2.2.2.2.2.2], 35, .norm))], 5⟩
def f32.s2.des : ∀ α : Type, (f32.Ty1) → (Ex → VS → Option α) → Option α := (des1 (.exit 2) f32.s2.o0)
def f32.s2.out : f32.Ty1 → Ex × VS := (fun y => (.exit 2, f32.s2.o0 y))
theorem f32.s2.desOK : ∀ α y (k : Ex → VS → Option α), f32.s2.des α y k = k (f32.s2.out y).1 (f32.s2.out y).2 := (fun _ _ _ => rfl)
def f32.s2.inY : Ex → VS → Option (f32.Ty1)
  | .exit 2, ⟨[(3, .ptr 0 0), (4, .ptr 1 0), (5, .ptr 2 0), (6, .ptr 3 0), (8, .int .u64 t8), (9, .ptr 4 0)], [(0, ([.int .u8 b0_0, .int .u64 b0_1, .ints .u8 32 b0_2], 53, .norm)), (1, ([.ints .u8 16 b1], 47, .norm)), (2, ([.ints .u8 16 b2], 47, .norm)), (3, ([.ints .u8 32 b3], 35, .norm)), (4, ([.ints .u8 32 b4], 35, .norm))], 5⟩ => some (t8, b0_0, b0_1, b0_2, b1, b2, b3, b4)
  | _, _ => none
def f32.s0t (K : Nat) (rec : f32.Ty2 → Option ((f32.Ty4) ⊕ (List Int))) (t8 : Int) (b0_0 : Int) (b0_1 : Int) (b0_2 : List Int) (b1 : List Int) (b2 : List Int) (b3 : List Int) : Option ((f32.Ty4) ⊕ (List Int)) :=
  bif (decide (t8 < 65536)) then
    (f47.F K (0, t8, 8, 0, [])).bind fun y3 =>
    (iter (f32.s2 K) K (t8, y3.1, 0, b0_0, b0_1, b0_2, b1, b2, b3, [0, 0, 0, 0, 0, 0, 0, 0, 0, 0, 0, 0, 0, 0, 0, 0, 0, 0, 0, 0, 0, 0, 0, 0, 0, 0, 0, 0, 0, 0, 0, 0], y3.2.2.2.1, y3.2.2.2.2)).bind fun y11 =>
    (f30.F K (y11.2.1, y11.2.2.1, y11.2.2.2.1, y11.2.2.2.2.1, y11.2.2.2.2.2.1, y11.2.2.2.2.2.2.2)).bind fun y15 =>
    bif y15 then
      some (.inl (0, y11.2.2.2.2.2.2.2))
    else
      rec ((IntKind.wrap .u64 (y11.1 + 1)), y11.2.1, y11.2.2.1, y11.2.2.2.1, y11.2.2.2.2.1, y11.2.2.2.2.2.1, y11.2.2.2.2.2.2.1)
  else
    some (.inr b3)
def f32.s0 (K : Nat) (rec : f32.Ty2 → Option ((f32.Ty4) ⊕ (List Int))) (x : f32.Ty2) : Option ((f32.Ty4) ⊕ (List Int)) := f32.s0t K rec x.1 x.2.1 x.2.2.1 x.2.2.2.1 x.2.2.2.2.1 x.2.2.2.2.2.1 x.2.2.2.2.2.2
noncomputable def f32.s0.b : Code := (findLoop 0 f32.c).getD .skip
def f32.s0.h : Hint := { lv := [3, 4, 5, 6, 8] }
def f32.s0.ho : Hint := { lv := [6, 7] }
def f32.s0.shp (x : f32.Ty2) : VS := ⟨[(3, .ptr 0 0), (4, .ptr 1 0), (5, .ptr 2 0), (6, .ptr 3 0), (8, .int .u64 x.1)], [(0, ([.int .u8 x.2.1, .int .u64 x.2.2.1, .ints .u8 32 x.2.2.2.1], 53, .norm)), (1, ([.ints .u8 16 x.2.2.2.2.1], 47, .norm)), (2, ([.ints .u8 16 x.2.2.2.2.2.1], 47, .norm)), (3, ([.ints .u8 32 x.2.2.2.2.2.2], 35, .norm))], 4⟩
def f32.s0.inX : VS → Option (f32.Ty2)
  | ⟨[(3, .ptr 0 0), (4, .ptr 1 0), (5, .ptr 2 0), (6, .ptr 3 0), (8, .int .u64 t8)], [(0, ([.int .u8 b0_0, .int .u64 b0_1, .ints .u8 32 b0_2], 53, .norm)), (1, ([.ints .u8 16 b1], 47, .norm)), (2, ([.ints .u8 16 b2], 47, .norm)), (3, ([.ints .u8 32 b3], 35, .norm))], 4⟩ => some (t8, b0_0, b0_1, b0_2, b1, b2, b3)
  | _ => none
def f32.s0.o0 (y : f32.Ty4) : VS := ⟨[(6, .ptr 0 0), (7, .int .i64 y.1)], [(0, ([.ints .u8 32 y.2], 35, .norm))], 1⟩
def f32.s0.o1 (y : List Int) : VS := ⟨[(6, .ptr 0 0)], [(0, ([.ints .u8 32 y], 35, .norm))], 1⟩
def f32.s0.des : ∀ α : Type, ((f32.Ty4) ⊕ (List Int)) → (Ex → VS → Option α) → Option α := (desA (des1 (.ret) f32.s0.o0) (des1 (.exit 0) f32.s0.o1))
def f32.s0.out : (f32.Ty4) ⊕ (List Int) → Ex × VS := (alt (fun y => (.ret, f32.s0.o0 y)) (fun y => (.exit 0, f32.s0.o1 y)))
theorem f32.s0.desOK : ∀ α y (k : Ex → VS → Option α), f32.s0.des α y k = k (f32.s0.out y).1 (f32.s0.out y).2 := (desA_ok (fun _ _ _ => rfl) (fun _ _ _ => rfl))
def f32.s0.inY : Ex → VS → Option ((f32.Ty4) ⊕ (List Int))
  | .ret, ⟨[(6, .ptr 0 0), (7, .int .i64 t7)], [(0, ([.ints .u8 32 b0], 35, .norm))], 1⟩ => some (.inl (t7, b0))
  | .exit 0, ⟨[(6, .ptr 0 0)], [(0, ([.ints .u8 32 b0], 35, .norm))], 1⟩ => some (.inr b0)
  | _, _ => none
def f32.lp (K : Nat) : Nat → Option (Hint × Summ) := tabLp [(2, f32.s2.h, summOf (iter (f32.s2 K) K) f32.s2.inX f32.s2.des), (0, f32.s0.h, summOf (iter (f32.s0 K) K) f32.s0.inX f32.s0.des)]
noncomputable def f32.tab (K : Nat) : List (Nat × Entry) := [(47, (viewE [(0, .u8)] (f47.E K))), (30, (f30.E K))]
theorem f32.tabOK (K : Nat) : SpecOK Try.prog (tabSp (f32.tab K)) := tab_ok ((tab_cons (view_ok (f47.ok K)) (tab_cons (f30.ok K) tab_nil)))
theorem f32.s2.eq (K : Nat) (rec : f32.Ty0 → Option (f32.Ty1)) (x : f32.Ty0) : f32.s2 K rec x = roundL (getA tys) (tabSp (f32.tab K)) 40 0 (f32.lp K) 400 f32.s2.b f32.s2.h f32.s2.ho f32.s2.shp f32.s2.inX f32.s2.inY rec x := by kernel_rfl
theorem f32.s2.lok (K : Nat) : LoopsOK Try.prog 40 0 (f32.lp K) f32.s2.b := loops_ok (by
  have h : loopsIn (f32.lp K) f32.s2.b = [] := by kernel_rfl
  rw [h]; simp)
theorem f32.s2.ok (K : Nat) : SummOK Try.prog 40 0 (summOf (iter (f32.s2 K) K) f32.s2.inX f32.s2.des) f32.s2.b :=
  loop_ok mix tys_ok (f32.tabOK K) (h := f32.s2.h) (ho := f32.s2.ho) (shp := f32.s2.shp) (inX := f32.s2.inX) (des := f32.s2.des) (out := f32.s2.out) (inY := f32.s2.inY) (fuel := 400)
    (by intro st x h; unfold f32.s2.inX at h; split at h <;> simp at h; subst h; rfl)
    (by intro e st y h; unfold f32.s2.inY at h; split at h <;> simp at h <;> subst h <;> rfl)
    f32.s2.desOK (f32.s2.lok K) (f32.s2 K) (f32.s2.eq K) K
theorem f32.s0.eq (K : Nat) (rec : f32.Ty2 → Option ((f32.Ty4) ⊕ (List Int))) (x : f32.Ty2) : f32.s0 K rec x = roundL (getA tys) (tabSp (f32.tab K)) 40 0 (f32.lp K) 400 f32.s0.b f32.s0.h f32.s0.ho f32.s0.shp f32.s0.inX f32.s0.inY rec x := by kernel_rfl
theorem f32.s0.lok (K : Nat) : LoopsOK Try.prog 40 0 (f32.lp K) f32.s0.b := loops_ok (by
  have h : loopsIn (f32.lp K) f32.s0.b = [(2, f32.s2.b)] := by kernel_rfl
  rw [h]
  intro p hp
  simp only [List.mem_cons, List.not_mem_nil, or_false] at hp
  rcases hp with rfl
  · exact ⟨_, rfl, (f32.s2.ok K)⟩)
theorem f32.s0.ok (K : Nat) : SummOK Try.prog 40 0 (summOf (iter (f32.s0 K) K) f32.s0.inX f32.s0.des) f32.s0.b :=
  loop_ok mix tys_ok (f32.tabOK K) (h := f32.s0.h) (ho := f32.s0.ho) (shp := f32.s0.shp) (inX := f32.s0.inX) (des := f32.s0.des) (out := f32.s0.out) (inY := f32.s0.inY) (fuel := 400)
    (by intro st x h; unfold f32.s0.inX at h; split at h <;> simp at h; subst h; rfl)
    (by intro e st y h; unfold f32.s0.inY at h; split at h <;> simp at h <;> subst h <;> rfl)
    f32.s0.desOK (f32.s0.lok K) (f32.s0 K) (f32.s0.eq K) K
theorem f32.loops (K : Nat) : LoopsOK Try.prog 40 0 (f32.lp K) f32.c := loops_ok (by
  have h : loopsIn (f32.lp K) f32.c = [(0, f32.s0.b), (2, f32.s2.b)] := by kernel_rfl
  rw [h]
  intro p hp
  simp only [List.mem_cons, List.not_mem_nil, or_false] at hp
  rcases hp with rfl | rfl
  · exact ⟨_, rfl, (f32.s0.ok K)⟩
  · exact ⟨_, rfl, (f32.s2.ok K)⟩)
def f32.T (K : Nat) (a0_0 : Int) (a0_1 : Int) (a0_2 : List Int) (a1 : List Int) (a2 : List Int) : Option (f32.Ty5) :=
  bif (decide (a0_0 > 12)) then
    some ([0, 0, 0, 0, 0, 0, 0, 0, 0, 0, 0, 0, 0, 0, 0, 0, 0, 0, 0, 0, 0, 0, 0, 0, 0, 0, 0, 0, 0, 0, 0, 0], 1)
  else
    (iter (f32.s0 K) K (0, a0_0, a0_1, a0_2, a1, a2, [0, 0, 0, 0, 0, 0, 0, 0, 0, 0, 0, 0, 0, 0, 0, 0, 0, 0, 0, 0, 0, 0, 0, 0, 0, 0, 0, 0, 0, 0, 0, 0])).bind fun y18 =>
    alt (fun y19 =>
      some (y19.2, y19.1)) (fun y20 =>
      some ([0, 0, 0, 0, 0, 0, 0, 0, 0, 0, 0, 0, 0, 0, 0, 0, 0, 0, 0, 0, 0, 0, 0, 0, 0, 0, 0, 0, 0, 0, 0, 0], 12)) y18
def f32.F (K : Nat) (x : f32.Ty3) : Option (f32.Ty5) := f32.T K x.1 x.2.1 x.2.2.1 x.2.2.2.1 x.2.2.2.2
def f32.av (x : f32.Ty3) : List VV := [.agg [.int .u8 x.1, .int .u64 x.2.1, .ints .u8 32 x.2.2.1], .agg [.ints .u8 16 x.2.2.2.1], .agg [.ints .u8 16 x.2.2.2.2]]
def f32.bl (_x : f32.Ty3) : List (Nat × Blk) := []
def f32.inA : VS → Option (f32.Ty3)
  | ⟨[(0, .agg [.int .u8 a0_0, .int .u64 a0_1, .ints .u8 32 a0_2]), (1, .agg [.ints .u8 16 a1]), (2, .agg [.ints .u8 16 a2])], [], 0⟩ => some (a0_0, a0_1, a0_2, a1, a2)
  | _ => none
def f32.o0 (y : f32.Ty5) : VS := ⟨[(0, .tup [.agg [.ints .u8 32 y.1], .int .i64 y.2])], [], 0⟩
def f32.des : ∀ α : Type, (f32.Ty5) → (VS → Option α) → Option α := (dv1 f32.o0)
def f32.out : f32.Ty5 → VS := f32.o0
def f32.inR : VS → Option (f32.Ty5)
  | ⟨[(0, .tup [.agg [.ints .u8 32 y_0], .int .i64 y_1])], [], 0⟩ => some (y_0, y_1)
  | _ => none
noncomputable def f32.E (K : Nat) : Entry := genE 0 f32.inA (f32.F K) f32.des
theorem f32.eq (K : Nat) (x : f32.Ty3) : f32.F K x = xrun (getA tys) (tabSp (f32.tab K)) Try.f32.ntmps 0 (f32.lp K) 400 f32.c ⟨initL 0 (f32.av x), f32.bl x, 0⟩ (contF (getA tys) 0 Try.f32.results.toList f32.inR) := by kernel_rfl
theorem f32.ok (K : Nat) : EntryOK Try.prog 32 (f32.E K) :=
  gen_ok mix tys_ok (f32.tabOK K) Try.func32 (by kernel_rfl : Try.f32.body = some f32.c) (by kernel_rfl) (f32.loops K) (av := f32.av) (bl := f32.bl) (out := f32.out) (fuel := 400)
    (by intro s x h; unfold f32.inA at h; split at h <;> simp at h; subst h; rfl) (fun _ => Nat.le_of_ble_eq_true rfl)
    (by intro s y h; unfold f32.inR at h; split at h <;> simp at h <;> subst h <;> rfl) (fun _ _ _ => rfl) (f32.eq K)
end Go.Proofs

namespace Go.Proofs
open Go.VM
abbrev f8.Ty0 := Int × Int × List Int × List Int × List Int
noncomputable def f8.T (K : Nat) (a0_0 : Int) (a0_1 : Int) (a0_2 : List Int) (a1 : List Int) (a2 : List Int) : Option (Bool) :=
  (f29.F K (a0_0, a0_1, a0_2, (List.take 16 (List.drop 0 a1)), (List.take 16 (List.drop 16 a1)), a2)).bind fun y3 =>
  (f30.F K (a0_0, a0_1, a0_2, (List.take 16 (List.drop 0 a1)), (List.take 16 (List.drop 16 a1)), a2)).bind fun y6 =>
  bif !(y3 == y6) then
    some false
  else
    bif (decide (a0_0 > 8)) then
      bif (decide (a0_0 ≤ 12)) then
        (f28.F K ()).bind fun y9 =>
        some y9
      else
        (f31.F K (a0_0, a0_1, a0_2, (List.take 16 (List.drop 0 a1)), (List.take 16 (List.drop 16 a1)))).bind fun y12 =>
        (f32.F K (a0_0, a0_1, a0_2, (List.take 16 (List.drop 0 a1)), (List.take 16 (List.drop 16 a1)))).bind fun y15 =>
        bif (eqL 32 y12.1 y15.1 && true) then
          bif (y12.2 == y15.2) then
            (f28.F K ()).bind fun y18 =>
            some y18
          else
            some false
        else
          some false
    else
      (f31.F K (a0_0, a0_1, a0_2, (List.take 16 (List.drop 0 a1)), (List.take 16 (List.drop 16 a1)))).bind fun y21 =>
      (f32.F K (a0_0, a0_1, a0_2, (List.take 16 (List.drop 0 a1)), (List.take 16 (List.drop 16 a1)))).bind fun y24 =>
      bif (eqL 32 y21.1 y24.1 && true) then
        bif (y21.2 == y24.2) then
          (f28.F K ()).bind fun y27 =>
          some y27
        else
          some false
      else
        some false
noncomputable def f8.F (K : Nat) (x : f8.Ty0) : Option (Bool) := f8.T K x.1 x.2.1 x.2.2.1 x.2.2.2.1 x.2.2.2.2
noncomputable def f8.av (x : f8.Ty0) : List VV := [.agg [.int .u8 x.1, .int .u64 x.2.1, .ints .u8 32 x.2.2.1], .agg [.ints .u8 32 x.2.2.2.1], .agg [.ints .u8 32 x.2.2.2.2]]
noncomputable def f8.bl (_x : f8.Ty0) : List (Nat × Blk) := []
noncomputable def f8.inA : VS → Option (f8.Ty0)
  | ⟨[(0, .agg [.int .u8 a0_0, .int .u64 a0_1, .ints .u8 32 a0_2]), (1, .agg [.ints .u8 32 a1]), (2, .agg [.ints .u8 32 a2])], [], 0⟩ => some (a0_0, a0_1, a0_2, a1, a2)
  | _ => none
noncomputable def f8.o0 (y : Bool) : VS := ⟨[(0, .bool y)], [], 0⟩
noncomputable def f8.inR : VS → Option (Bool)
  | ⟨[(0, .bool y)], [], 0⟩ => some y
  | _ => none
noncomputable def f8.E (K : Nat) : Entry := genE 0 f8.inA (f8.F K) (dv1 f8.o0)
theorem f8.ok (K : Nat) : EntryOK Try.prog 8 (f8.E K) := gen_ok mix tys_ok (tab_ok ((tab_cons (f29.ok K) (tab_cons (f30.ok K) (tab_cons (f28.ok K) (tab_cons (f31.ok K) (tab_cons (f32.ok K) tab_nil))))))) Try.func8 (c := bodyOf Try.f8) (by kernel_rfl) (by kernel_rfl) (loops_none (lp := lpNone) (by kernel_rfl)) (av := f8.av) (bl := f8.bl) (inR := f8.inR) (out := f8.o0) (fuel := 400)
  (by intro s x h; unfold f8.inA at h; split at h <;> simp at h; subst h; rfl) (fun _ => Nat.le_of_ble_eq_true rfl)
  (by intro s y h; unfold f8.inR at h; split at h <;> simp at h <;> subst h <;> rfl) (fun _ _ _ => rfl) (fun _ => by kernel_rfl)
end Go.Proofs

namespace Go.Proofs
open Go.VM
theorem So.first_cases (p : Nat → Bool) : ∀ n i, (∃ m, i ≤ m ∧ m < i + n ∧ p m = true ∧ (∀ j, i ≤ j → j < m → p j = false) ∧ So.first p n i = some m) ∨ (So.first p n i = none ∧ ∀ j, i ≤ j → j < i + n → p j = false)
  | 0, i => Or.inr ⟨rfl, fun j h1 h2 => by omega⟩
  | n + 1, i => by
    rw [So.first]
    by_cases h : p i = true
    · rw [if_pos h]
      exact Or.inl ⟨i, by omega, by omega, h, fun j h1 h2 => by omega, rfl⟩
    · rw [if_neg h]
      have h' : p i = false := by simpa using h
      rcases So.first_cases p n (i + 1) with ⟨m, h1, h2, h3, h4, h5⟩ | ⟨h1, h2⟩
      · exact Or.inl ⟨m, by omega, by omega, h3, fun j g1 g2 => by
          by_cases e : j = i
          · subst e; exact h'
          · exact h4 j (by omega) g2, h5⟩
      · exact Or.inr ⟨h1, fun j g1 g2 => by
          by_cases e : j = i
          · subst e; exact h'
          · exact h2 j (by omega) (by omega)⟩
def So.good (b : Nat) (I f t : List Int) (k : Nat) : Bool := So.ck b (Sh.sha (strL f29.k0) [I, f, t, So.cand k])
def So.found : Option Nat → List Int × Int
  | some k => (So.cand k, 0)
  | none => (List.replicate 32 0, 12)
theorem f31.spec (K b : Nat) (hb : b ≤ 12) (g : Int) (I f t : List Int) (lI : I.length = 32) (oI : octets I) (lf : f.length = 16) (of' : octets f) (lt : t.length = 16) (ot : octets t) (hK : 10000 < K) :
    f31.F K ((b : Int), g, I, f, t) = some (So.found (So.first (So.good b I f t) 65536 0)) := by
  have hc : ∀ k, f29.F K ((b : Int), g, I, f, t, So.cand k) = some (So.good b I f t k) := fun k => f29.spec K b hb g I f t _ lI oI lf of' lt ot (So.cand_length k) (So.cand_octets k) hK
  have hp : So.pass K ((b : Int), g, I, f, t) = So.good b I f t := funext fun k => by unfold So.pass; simp only; rw [hc]; rfl
  unfold f31.F
  simp only
  rw [if_neg (show ¬ ((b : Int) > 12) by omega), if_pos (fun k => ⟨_, hc k⟩), hp]
  cases So.first (So.good b I f t) 65536 0 <;> rfl
theorem f31.big (K : Nat) (b : Int) (hb : 12 < b) (g : Int) (I f t : List Int) : f31.F K (b, g, I, f, t) = some (List.replicate 32 0, 1) := by
  unfold f31.F
  simp only
  rw [if_pos (show b > 12 by omega)]
  rfl
theorem f32.fill (K k : Nat) (i : Int) (g b : Int) (I f t z : List Int) (hK : 100 < K) :
    iter (f32.s2 K) K (i, 8, 0, b, g, I, f, t, z, [0, 0, 0, 0, 0, 0, 0, 0, 0, 0, 0, 0, 0, 0, 0, 0, 0, 0, 0, 0, 0, 0, 0, 0, 0, 0, 0, 0, 0, 0, 0, 0], 8, be 8 k) = some (i, b, g, I, f, t, z, So.cand k) := by
  have hl := be_length 8 k
  rw [So.cand]
  generalize be 8 k = q at hl
  obtain ⟨x0, x1, x2, x3, x4, x5, x6, x7, rfl⟩ : ∃ x0 x1 x2 x3 x4 x5 x6 x7, q = [x0, x1, x2, x3, x4, x5, x6, x7] := by
    match q, hl with
    | [x0, x1, x2, x3, x4, x5, x6, x7], _ => exact ⟨x0, x1, x2, x3, x4, x5, x6, x7, rfl⟩
  obtain ⟨M, rfl⟩ : ∃ M, K = M + 9 := ⟨K - 9, by omega⟩
  rfl
theorem f32.spec (K b : Nat) (hb : b ≤ 12) (g : Int) (I f t : List Int) (lI : I.length = 32) (oI : octets I) (lf : f.length = 16) (of' : octets f) (lt : t.length = 16) (ot : octets t) (hK : 70000 < K) :
    f32.F K ((b : Int), g, I, f, t) = some (So.found (So.first (So.good b I f t) 65536 0)) := by
  have hc : ∀ k, f30.F K ((b : Int), g, I, f, t, So.cand k) = some (So.good b I f t k) := fun k => f30.spec K b hb g I f t _ lI oI lf of' lt ot (So.cand_length k) (So.cand_octets k) (by omega)
  have hn : ∀ i : Nat, i < 65536 → f47.F K (0, (i : Int), 8, 0, []) = some (8, 0, [], 8, be 8 i) := fun i hi => f47.spec8 K 0 i [] rfl (by omega) (by omega) (by omega)
  have hstep : ∀ i : Nat, i < 65536 → So.good b I f t i = false → ∀ rec, f32.s0 K rec ((i : Int), (b : Int), g, I, f, t, List.replicate 32 0) = rec (((i + 1 : Nat) : Int), (b : Int), g, I, f, t, List.replicate 32 0) := by
    intro i hi hf rec
    simp only [f32.s0, f32.s0t]
    rw [decide_eq_true (show (i : Int) < 65536 by omega), cond_t, hn i hi, bind_s]
    simp only []
    rw [f32.fill K i (i : Int) g (b : Int) I f t (List.replicate 32 0) (by omega), bind_s]
    simp only []
    rw [hc, bind_s, hf, cond_f, wrap_u _ (by omega) (by omega)]
    rfl
  simp only [f32.F, f32.T]
  rw [decide_eq_false (show ¬ ((b : Int) > 12) by omega), cond_f]
  rcases So.first_cases (So.good b I f t) 65536 0 with ⟨m, h1, h2, h3, h4, h5⟩ | ⟨h1, h2⟩
  · have := iter_for (stp := f32.s0 K) (N := m) (fun i => ((i : Int), (b : Int), g, I, f, t, List.replicate 32 0)) (y := some (.inl (0, So.cand m))) (fun i hi => hstep i (by omega) (h4 i (by omega) hi)) ?_ (show m < K by omega)
    · rw [show iter (f32.s0 K) K (0, (b : Int), g, I, f, t, [0, 0, 0, 0, 0, 0, 0, 0, 0, 0, 0, 0, 0, 0, 0, 0, 0, 0, 0, 0, 0, 0, 0, 0, 0, 0, 0, 0, 0, 0, 0, 0]) = _ from this, bind_s, h5]
      rfl
    · intro rec
      simp only [f32.s0, f32.s0t]
      rw [decide_eq_true (show (m : Int) < 65536 by omega), cond_t, hn m (by omega), bind_s]
      simp only []
      rw [f32.fill K m (m : Int) g (b : Int) I f t (List.replicate 32 0) (by omega), bind_s]
      simp only []
      rw [hc, bind_s, h3, cond_t]
  · have := iter_for (stp := f32.s0 K) (N := 65536) (fun i => ((i : Int), (b : Int), g, I, f, t, List.replicate 32 0)) (y := some (.inr (List.replicate 32 0))) (fun i hi => hstep i hi (h2 i (by omega) (by omega))) ?_ (show 65536 < K by omega)
    · rw [show iter (f32.s0 K) K (0, (b : Int), g, I, f, t, [0, 0, 0, 0, 0, 0, 0, 0, 0, 0, 0, 0, 0, 0, 0, 0, 0, 0, 0, 0, 0, 0, 0, 0, 0, 0, 0, 0, 0, 0, 0, 0]) = _ from this, bind_s, h1]
      rfl
    · intro rec
      simp only [f32.s0, f32.s0t]
      rw [decide_eq_false (show ¬ (((65536 : Nat) : Int) < 65536) by omega), cond_f]
theorem f32.big (K : Nat) (b : Int) (hb : 12 < b) (g : Int) (I f t : List Int) : f32.F K (b, g, I, f, t) = some (List.replicate 32 0, 1) := by
  simp only [f32.F, f32.T]
  rw [decide_eq_true (show b > 12 by omega), cond_t]
  rfl
theorem f8.holds (b g : Int) (I : List Int) (hb : 0 ≤ b ∧ b < 256) (_hg : 0 ≤ g ∧ g < 18446744073709551616) (hI : I.length = 32 ∧ ∀ x ∈ I, 0 ≤ x ∧ x < 256) (w : List Int) (hw : w.length = 32 ∧ ∀ x ∈ w, 0 ≤ x ∧ x < 256) (j : List Int) (hj : j.length = 32 ∧ ∀ x ∈ j, 0 ≤ x ∧ x < 256) :
    f8.F 100000 (b, g, I, w, j) = some true := by
  obtain ⟨b, rfl⟩ := Int.eq_ofNat_of_zero_le hb.1
  have lf : (List.take 16 (List.drop 0 w)).length = 16 := by rw [List.length_take, List.length_drop]; omega
  have lt : (List.take 16 (List.drop 16 w)).length = 16 := by rw [List.length_take, List.length_drop]; omega
  have of' := octets_drop hw.2 0 16
  have ot := octets_drop hw.2 16 16
  simp only [f8.F, f8.T]
  generalize List.take 16 (List.drop 0 w) = f at lf of'
  generalize List.take 16 (List.drop 16 w) = t at lt ot
  have h28 := f28.holds 100000 (by omega)
  by_cases h : 12 < b
  · rw [f29.big 100000 _ g I f t j (by omega), bind_s, f30.big 100000 _ g I f t j (by omega), bind_s, f31.big 100000 _ (by omega), bind_s, f32.big 100000 _ (by omega), bind_s, beq_self_eq_true, decide_eq_true (show ((b : Nat) : Int) > 8 by omega), decide_eq_false (show ¬ ((b : Nat) : Int) ≤ 12 by omega)]
    simp only []
    rw [eqL_refl, beq_self_eq_true, h28, bind_s]
    rfl
  · rw [f29.spec 100000 b (by omega) g I f t j hI.1 hI.2 lf of' lt ot hj.1 hj.2 (by omega), bind_s, f30.spec 100000 b (by omega) g I f t j hI.1 hI.2 lf of' lt ot hj.1 hj.2 (by omega), bind_s, f31.spec 100000 b (by omega) g I f t hI.1 hI.2 lf of' lt ot (by omega), bind_s, f32.spec 100000 b (by omega) g I f t hI.1 hI.2 lf of' lt ot (by omega), bind_s, beq_self_eq_true, Bool.not_true, cond_f,
      eqL_refl, beq_self_eq_true, h28, bind_s, Bool.and_self, cond_t, cond_t]
    by_cases h8 : 8 < b
    · rw [decide_eq_true (show ((b : Nat) : Int) > 8 by omega), cond_t, decide_eq_true (show ((b : Nat) : Int) ≤ 12 by omega), cond_t]
    · rw [decide_eq_false (show ¬ ((b : Nat) : Int) > 8 by omega), cond_f]
end Go.Proofs
