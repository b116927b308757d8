/- Plain laws: lemmas that hold with no condition but those that each states. -/
import Derived.Test.YtmbbkmljmienjaaQ8
import Derived.Test.YtmbbkmljmienjaaQ7
import Derived.Test.YtmbbkmljmienjaaQ3
namespace Go.Proofs
open Go.VM
theorem f99.spec (n : Nat) (l : List Int) (hl : l.length = n) (ho : octets l) (h8 : 8 ≤ n) (hn : n < 90000) : f99.F 100000 (n, 8, n, l) = some (((tv (l.take 8) : Nat) : Int), 0, n, l) := by
  have ht := told_at l 0 ho (by omega) (by omega)
  rw [List.drop_zero] at ht
  simp only [f99.F, f99.T]
  rw [decide_eq_false (show ¬ (8 : Int) < 0 by decide), cond_f, decide_eq_false (show ¬ (8 : Int) > 8 by decide), cond_f, decide_eq_false (show ¬ (8 : Int) > (n : Int) by omega), cond_f, decide_eq_true (show (0 : Int) ≤ 8 ∧ (8 : Int) ≤ (n : Int) by omega), Bool.true_and, cond_t]
  rw [show Int.toNat 8 = 8 from rfl, Nat.zero_add, ble_true h8, Bool.true_and, Bool.true_and, cond_t, ht, bind_s]
theorem f88.spec (k M : Nat) (l : List Int) (hM0 : 0 < M) (hM : M < 18446744073709551616) (hk : k < 10000) (hl : l.length = 8 * k) (ho : octets l) :
    f88.F 100000 (8 * k, (M : Int), 8 * k, l) = some (((tv l % M : Nat) : Int), 8 * k, l) := by
  have key := iter_for (stp := f88.s0 100000) (N := k) (fun j => (8 * k, (M : Int), ((tv (l.take (8 * j)) % M : Nat) : Int), ((8 * j : Nat) : Int), 8 * k, l)) (y := some (((tv l % M : Nat) : Int), 8 * k, l)) (fun j hj rec => by
      simp only [f88.s0, f88.s0t]
      obtain ⟨T, hT⟩ : ∃ T, T = tv (l.take (8 * j)) := ⟨_, rfl⟩
      have hlt := Nat.mod_lt T hM0
      have hlen : ((l.drop (8 * j)).take (8 * k - 8 * j)).length = 8 * k - 8 * j := by simp; omega
      have hoc : octets ((l.drop (8 * j)).take (8 * k - 8 * j)) := fun x hx => ho x (List.mem_of_mem_drop (List.mem_of_mem_take hx))
      have hw : ((l.drop (8 * j)).take (8 * k - 8 * j)).take 8 = (l.drop (8 * j)).take 8 := by rw [List.take_take, Nat.min_eq_left (by omega)]
      have l8 : ((l.drop (8 * j)).take 8).length = 8 := by simp; omega
      have b8 := tv_lt 8 _ l8 (fun x hx => ho x (List.mem_of_mem_drop (List.mem_of_mem_take hx)))
      have e3 : tv (l.take (8 * (j + 1))) = T * 18446744073709551616 + tv ((l.drop (8 * j)).take 8) := by
        rw [show 8 * (j + 1) = 8 * j + 8 by omega, List.take_add, tv_append, l8, hT]
      have w2 : IntKind.wrap .i64 (((8 * j : Nat) : Int) + 8) = ((8 * (j + 1) : Nat) : Int) := by rw [wrap_i _ (by omega) (by omega)]; omega
      rw [decide_eq_true (show ((8 * j : Nat) : Int) < ((8 * k : Nat) : Int) by omega), cond_t, decide_eq_true (show (0 : Int) ≤ ((8 * j : Nat) : Int) ∧ ((8 * j : Nat) : Int) ≤ ((8 * k : Nat) : Int) by omega), cond_t, Int.toNat_natCast, Nat.zero_add,
        ble_true (show 8 * j + (8 * k - 8 * j) ≤ 8 * k by omega), Bool.true_and, Bool.true_and, cond_t, subI_cut l _ _ (by omega), f99.spec _ _ hlen hoc (by omega) (by omega), bind_s, hw, ← hT]
      simp only []
      rw [f81.spec 100000 _ _ M hM hlt b8 (by decide), bind_s, w2, e3, mod_step])
    (fun rec => by
      simp only [f88.s0, f88.s0t]
      rw [decide_eq_false (Int.lt_irrefl _), cond_f, List.take_of_length_le (by omega)]) (show k < 100000 by omega)
  simp only [f88.F, f88.T]
  have hstart : tv (l.take (8 * 0)) = 0 := by rw [Nat.mul_zero, List.take_zero]; rfl
  simp only [hstart, Nat.zero_mod] at key
  have key' : iter (f88.s0 100000) 100000 (8 * k, (M : Int), 0, 0, 8 * k, l) = some (((tv l % M : Nat) : Int), 8 * k, l) := key
  rw [key', bind_s]
theorem f56.spec (L H M : Nat) (hL : L < 2 ^ 256) (hH : H < 2 ^ 256) (hM : M < 2 ^ 256) : f56.F 100000 (num L, num H, num M) = some (if M = 0 then (num 0, 1) else (num ((H * 2 ^ 256 + L) % M), 0)) := by
  have hz : ([0, 0, 0, 0] : List Int) = num 0 := rfl
  have p0 : (0 : Nat) < 2 ^ 256 := by decide
  simp only [f56.F, f56.T, hz, eqN M 0 hM p0, Bool.and_true]
  by_cases h0 : M = 0
  · rw [decide_eq_true h0, cond_t, if_pos h0, h0]
  · have hM0 : 0 < M := by omega
    have hlen : (be 32 H ++ be 32 L).length = 64 := by rw [List.length_append, be_length, be_length]
    have hoc : octets (be 32 H ++ be 32 L) := octets_append (be_octets _ _) (be_octets _ _)
    have htv : tv (be 32 H ++ be 32 L) = H * 2 ^ 256 + L := by
      rw [tv_append, tv_be, tv_be, be_length, pow_bytes, show 8 * 32 = 256 from rfl, Nat.mod_eq_of_lt hH, Nat.mod_eq_of_lt hL]
    rw [decide_eq_false h0, cond_f, if_neg h0, f85.spec 0 H [] rfl (by decide), bind_s]
    simp only [Nat.zero_add, List.nil_append]
    rw [ble_true (Nat.le_refl 32), cond_t, subI_self _ (be_length 32 H), f85.spec 32 L _ (be_length 32 H) (by decide), bind_s, f86.spec M hM, bind_s]
    simp only [Nat.zero_add]
    by_cases hm : M < 2 ^ 64
    · have g0 : List.getD (num M) 0 0 = (M : Int) := by
        have : (num M).getD 0 0 = ((M / 2 ^ (64 * 0) % 2 ^ 64 : Nat) : Int) := getD_words (by decide)
        rw [this, Nat.mul_zero, Nat.pow_zero, Nat.div_one, Nat.mod_eq_of_lt hm]
      have hw := f88.spec 8 M (be 32 H ++ be 32 L) hM0 hm (by decide) hlen hoc
      rw [decide_eq_true hm, cond_t, ble_true (Nat.le_refl (32 + 32)), cond_t, g0, subI_self _ hlen]
      rw [show (32 + 32 : Nat) = 8 * 8 from rfl, hw, bind_s, htv, f87.spec _ _ (by have := Nat.mod_lt (H * 2 ^ 256 + L) hM0; omega), bind_s]
    · rw [decide_eq_false hm, cond_f, ble_true (Nat.le_refl (32 + 32)), cond_t, subI_self _ hlen]
      rw [show (32 + 32 : Nat) = 64 from rfl, f89.spec 64 M _ hM0 hM (by decide) hlen hoc, bind_s, htv]
end Go.Proofs

namespace Go.Proofs
open Go.VM
abbrev f75.Ty0 := Nat × Nat × List Int × Nat × List Int
abbrev f75.Ty1 := Nat × Int × Int × Nat × List Int
def f75.T (K : Nat) (a0 : Nat) (a1 : Int) (a2 : Int) (m0_0 : Nat) (m0_1 : List Int) : Option (f75.Ty0) :=
  (f96.F K (a1, (minE a2 8))).bind fun y1 =>
  alt (fun y2 =>
    bif ((Nat.ble (0 + a0) m0_0 && true) && true) then
      (f95.F K (a0, 0, a0, (subI m0_1 0 a0), 0, [])).bind fun y4 =>
      some (y4.1, m0_0, m0_1, y4.2.2.2.2.2.1, y4.2.2.2.2.2.2)
    else
      none) (fun y3 =>
    bif ((Nat.ble (0 + a0) m0_0 && true) && ((Nat.ble (0 + y3.1) y3.2.1 && true) && true)) then
      (f95.F K (a0, y3.1, a0, (subI m0_1 0 a0), y3.1, (subI y3.2.2 0 y3.1))).bind fun y5 =>
      some (y5.1, m0_0, m0_1, y5.2.2.2.2.2.1, y5.2.2.2.2.2.2)
    else
      none) y1
def f75.F (K : Nat) (x : f75.Ty1) : Option (f75.Ty0) := f75.T K x.1 x.2.1 x.2.2.1 x.2.2.2.1 x.2.2.2.2
def f75.av (x : f75.Ty1) : List VV := [.vw true 0 0 x.1 1, .int .u64 x.2.1, .int .i64 x.2.2.1]
def f75.bl (x : f75.Ty1) : List (Nat × Blk) := [(0, ([.ints .u8 x.2.2.2.1 x.2.2.2.2], 0, .ro))]
def f75.inA : VS → Option (f75.Ty1)
  | ⟨[(0, .vw true 0 0 a0 1), (1, .int .u64 a1), (2, .int .i64 a2)], [(0, ([.ints .u8 m0_0 m0_1], 0, .ro))], 2⟩ => some (a0, a1, a2, m0_0, m0_1)
  | _ => none
def f75.o0 (y : f75.Ty0) : VS := ⟨[(0, .vec 2 0 y.1 3)], [(0, ([.ints .u8 y.2.1 y.2.2.1], 0, .ro)), (2, ([.ints .u8 y.2.2.2.1 y.2.2.2.2], 5, .vec 3))], 4⟩
def f75.inR : VS → Option (f75.Ty0)
  | ⟨[(0, .vec 2 0 y 3)], [(0, ([.ints .u8 z0_0 z0_1], 0, .ro)), (2, ([.ints .u8 z2_0 z2_1], 5, .vec 3))], 4⟩ => some (y, z0_0, z0_1, z2_0, z2_1)
  | _ => none
noncomputable def f75.E (K : Nat) : Entry := genE 2 f75.inA (f75.F K) (dv1 f75.o0)
theorem f75.ok (K : Nat) : EntryOK Try.prog 75 (f75.E K) := gen_ok mix tys_ok (sp := tabSp [(96, (f96.E K)), (95, (viewE [(0, .u8), (1, .u8)] (f95.E K)))]) (tab_ok ((tab_cons (f96.ok K) (tab_cons (view_ok (f95.ok K)) tab_nil)))) Try.func75 (c := bodyOf Try.f75) (by kernel_rfl) (by kernel_rfl) (loops_none (lp := lpNone) (by kernel_rfl)) (av := f75.av) (bl := f75.bl) (inR := f75.inR) (out := f75.o0) (fuel := 400)
  (by intro s x h; unfold f75.inA at h; split at h <;> simp at h; subst h; rfl) (fun _ => Nat.le_of_ble_eq_true rfl)
  (by intro s y h; unfold f75.inR at h; split at h <;> simp at h <;> subst h <;> rfl) (fun _ _ _ => rfl) (fun _ => by kernel_rfl)
end Go.Proofs

namespace Go.Proofs
open Go.VM
abbrev f94.Ty0 := Nat × Nat × List Int × Nat × List Int × Nat × List Int
abbrev f94.Ty1 := Nat × Nat × Nat × List Int × Nat × List Int
def f94.T (K : Nat) (a0 : Nat) (a1 : Nat) (m0_0 : Nat) (m0_1 : List Int) (m2_0 : Nat) (m2_1 : List Int) : Option (f94.Ty0) :=
  (f96.F K ((IntKind.wrap .u64 ((a1 : Nat) : Int)), 4)).bind fun y3 =>
  alt (fun y4 =>
    bif ((Nat.ble (0 + a1) m2_0 && true) && true) then
      (f95.F K (0, a1, 0, [], a1, (subI m2_1 0 a1))).bind fun y6 =>
      bif ((Nat.ble (0 + a0) m0_0 && true) && ((Nat.ble (0 + y6.1) y6.2.2.2.2.2.1 && true) && true)) then
        (f95.F K (a0, y6.1, a0, (subI m0_1 0 a0), y6.1, (subI y6.2.2.2.2.2.2 0 y6.1))).bind fun y7 =>
        some (y7.1, m0_0, m0_1, m2_0, m2_1, y7.2.2.2.2.2.1, y7.2.2.2.2.2.2)
      else
        none
    else
      none) (fun y5 =>
    bif ((Nat.ble (0 + y5.1) y5.2.1 && true) && ((Nat.ble (0 + a1) m2_0 && true) && true)) then
      (f95.F K (y5.1, a1, y5.1, (subI y5.2.2 0 y5.1), a1, (subI m2_1 0 a1))).bind fun y8 =>
      bif ((Nat.ble (0 + a0) m0_0 && true) && ((Nat.ble (0 + y8.1) y8.2.2.2.2.2.1 && true) && true)) then
        (f95.F K (a0, y8.1, a0, (subI m0_1 0 a0), y8.1, (subI y8.2.2.2.2.2.2 0 y8.1))).bind fun y9 =>
        some (y9.1, m0_0, m0_1, m2_0, m2_1, y9.2.2.2.2.2.1, y9.2.2.2.2.2.2)
      else
        none
    else
      none) y3
def f94.F (K : Nat) (x : f94.Ty1) : Option (f94.Ty0) := f94.T K x.1 x.2.1 x.2.2.1 x.2.2.2.1 x.2.2.2.2.1 x.2.2.2.2.2
def f94.av (x : f94.Ty1) : List VV := [.vw true 0 0 x.1 1, .vw true 2 0 x.2.1 3]
def f94.bl (x : f94.Ty1) : List (Nat × Blk) := [(0, ([.ints .u8 x.2.2.1 x.2.2.2.1], 0, .ro)), (2, ([.ints .u8 x.2.2.2.2.1 x.2.2.2.2.2], 0, .ro))]
def f94.inA : VS → Option (f94.Ty1)
  | ⟨[(0, .vw true 0 0 a0 1), (1, .vw true 2 0 a1 3)], [(0, ([.ints .u8 m0_0 m0_1], 0, .ro)), (2, ([.ints .u8 m2_0 m2_1], 0, .ro))], 4⟩ => some (a0, a1, m0_0, m0_1, m2_0, m2_1)
  | _ => none
def f94.o0 (y : f94.Ty0) : VS := ⟨[(0, .vec 4 0 y.1 5)], [(0, ([.ints .u8 y.2.1 y.2.2.1], 0, .ro)), (2, ([.ints .u8 y.2.2.2.1 y.2.2.2.2.1], 0, .ro)), (4, ([.ints .u8 y.2.2.2.2.2.1 y.2.2.2.2.2.2], 5, .vec 5))], 6⟩
def f94.inR : VS → Option (f94.Ty0)
  | ⟨[(0, .vec 4 0 y 5)], [(0, ([.ints .u8 z0_0 z0_1], 0, .ro)), (2, ([.ints .u8 z2_0 z2_1], 0, .ro)), (4, ([.ints .u8 z4_0 z4_1], 5, .vec 5))], 6⟩ => some (y, z0_0, z0_1, z2_0, z2_1, z4_0, z4_1)
  | _ => none
noncomputable def f94.E (K : Nat) : Entry := genE 4 f94.inA (f94.F K) (dv1 f94.o0)
theorem f94.ok (K : Nat) : EntryOK Try.prog 94 (f94.E K) := gen_ok mix tys_ok (sp := tabSp [(96, (f96.E K)), (95, (viewE [(0, .u8), (1, .u8)] (f95.E K)))]) (tab_ok ((tab_cons (f96.ok K) (tab_cons (view_ok (f95.ok K)) tab_nil)))) Try.func94 (c := bodyOf Try.f94) (by kernel_rfl) (by kernel_rfl) (loops_none (lp := lpNone) (by kernel_rfl)) (av := f94.av) (bl := f94.bl) (inR := f94.inR) (out := f94.o0) (fuel := 400)
  (by intro s x h; unfold f94.inA at h; split at h <;> simp at h; subst h; rfl) (fun _ => Nat.le_of_ble_eq_true rfl)
  (by intro s y h; unfold f94.inR at h; split at h <;> simp at h <;> subst h <;> rfl) (fun _ _ _ => rfl) (fun _ => by kernel_rfl)
end Go.Proofs

namespace Go.Proofs
open Go.VM
theorem f94.spec (K a n : Nat) (l p : List Int) (hl : l.length = a) (hp : p.length = n) (ha : a ≤ 10000000000) (hn : n ≤ 1000000000) (hK : 10 < K) :
    f94.F K (a, n, a, l, n, p) = some (a + (4 + n), a, l, n, p, a + (4 + n), l ++ Sh.frame p) := by
  simp only [f94.F, f94.T]
  have e := f96.spec 4 K n (by omega) (by omega) (by omega)
  rw [if_neg (by omega)] at e
  have lb : (be 4 n ++ p).length = 4 + n := by rw [List.length_append, be_length, hp]
  rw [wrap_u (n : Int) (by omega) (by omega), show ((4 : Int)) = ((4 : Nat) : Int) from rfl, e, bind_s, altr]
  dsimp only
  rw [Nat.zero_add, Nat.zero_add, Nat.zero_add, ble_true (Nat.le_refl 4), ble_true (Nat.le_refl n), Bool.and_self, Bool.and_self, Bool.and_self, cond_t, subI_self _ (be_length 4 n), subI_self _ hp, f95.spec K 4 n (be 4 n) p (be_length _ _) hp (by omega), bind_s]
  dsimp only
  rw [Nat.zero_add, ble_true (Nat.le_refl a), ble_true (Nat.le_refl (4 + n)), Bool.and_self, Bool.and_self, Bool.and_self, cond_t, subI_self _ hl, subI_self _ lb, f95.spec K a (4 + n) l _ hl lb (by omega), bind_s]
  rw [Sh.frame, hp]
theorem f75.spec (K a x : Nat) (l : List Int) (hl : l.length = a) (hx : x < 18446744073709551616) (ha : a ≤ 10000000000) (hK : 10 < K) :
    f75.F K (a, (x : Int), 4, a, l) = some (a + 4, a, l, a + 4, l ++ be 4 x) := by
  simp only [f75.F, f75.T]
  have e := f96.spec 4 K x hx (by omega) (by omega)
  rw [if_neg (by omega)] at e
  rw [show minE 4 8 = ((4 : Nat) : Int) from rfl, e, bind_s, altr]
  dsimp only
  rw [Nat.zero_add, Nat.zero_add, ble_true (Nat.le_refl a), ble_true (Nat.le_refl 4), Bool.and_self, Bool.and_self, Bool.and_self, cond_t, subI_self _ (be_length 4 x), subI_self _ hl, f95.spec K a 4 l _ hl (be_length _ _) (by omega), bind_s]
end Go.Proofs

namespace Go.Proofs
open Go.VM
abbrev f24v1.Ty0 := Nat × Int × Int × List Ent × List Int × List Int × Int × Int × List Int
abbrev f24v1.Ty1 := List Ent × List Int × List Int × Int × Int × List Int
abbrev f24v1.Ty2 := ByteArray × Nat × List Ent
abbrev f24v1.Ty3 := List Int × List Ent
noncomputable def f24v1.c : Code := bodyOf Try.f24
def f24v1.s0t (K : Nat) (rec : f24v1.Ty0 → Option (f24v1.Ty1)) (t19 : Nat) (t20 : Int) (t21 : Int) (b0 : List Ent) (b3 : List Int) (b4_0 : List Int) (b4_1 : Int) (b4_2 : Int) (b5 : List Int) : Option (f24v1.Ty1) :=
  bif (decide (t21 < t20)) then
    bif decide (0 ≤ t21 ∧ t21 < ((t19 : Nat) : Int)) then
      let v11 := 0 + (Int.toNat t21)
      bif Nat.blt v11 (List.length b0) then
        let v12 := (entAt b0 v11).1
        bif ((Nat.ble (0 + v12) ((entAt b0 v11).1) && true) && true) then
          (f58.F K (0, v12, 0, [], v12, (subI ((entAt b0 v11).2.2) 0 v12))).bind fun y15 =>
          bif ((Nat.ble (0 + y15.1) y15.2.2.2.2.2.1 && true) && true) then
            (f57.F K (b4_0, b4_1, b4_2, y15.1, b5, y15.1, (subI y15.2.2.2.2.2.2 0 y15.1))).bind fun y16 =>
            rec (t19, t20, (IntKind.wrap .i64 (t21 + 1)), b0, b3, y16.1, y16.2.1, y16.2.2.1, y16.2.2.2.2.2.2)
          else
            none
        else
          none
      else
        none
    else
      none
  else
    some (b0, b3, b4_0, b4_1, b4_2, b5)
def f24v1.s0 (K : Nat) (rec : f24v1.Ty0 → Option (f24v1.Ty1)) (x : f24v1.Ty0) : Option (f24v1.Ty1) := f24v1.s0t K rec x.1 x.2.1 x.2.2.1 x.2.2.2.1 x.2.2.2.2.1 x.2.2.2.2.2.1 x.2.2.2.2.2.2.1 x.2.2.2.2.2.2.2.1 x.2.2.2.2.2.2.2.2
noncomputable def f24v1.s0.b : Code := (findLoop 0 f24v1.c).getD .skip
def f24v1.s0.h : Hint := { lv := [4, 5, 19, 20, 21] }
def f24v1.s0.ho : Hint := { lv := [4, 5] }
def f24v1.s0.shp (x : f24v1.Ty0) : VS := ⟨[(4, .ptr 3 0), (5, .ptr 4 0), (19, .vw true 0 0 x.1 1), (20, .int .i64 x.2.1), (21, .int .i64 x.2.2.1)], [(0, ([], 0, .rr false 2 x.2.2.2.1)), (3, ([.ints .u8 32 x.2.2.2.2.1], 29, .norm)), (4, ([.ptr 5 0, .ints .u8 64 x.2.2.2.2.2.1, .int .i64 x.2.2.2.2.2.2.1, .int .u64 x.2.2.2.2.2.2.2.1], 117, .norm)), (5, ([.ints .u32 8 x.2.2.2.2.2.2.2.2], 113, .norm))], 6⟩
def f24v1.s0.inX : VS → Option (f24v1.Ty0)
  | ⟨[(4, .ptr 3 0), (5, .ptr 4 0), (19, .vw true 0 0 t19 1), (20, .int .i64 t20), (21, .int .i64 t21)], [(0, ([], 0, .rr false 2 b0)), (3, ([.ints .u8 32 b3], 29, .norm)), (4, ([.ptr 5 0, .ints .u8 64 b4_0, .int .i64 b4_1, .int .u64 b4_2], 117, .norm)), (5, ([.ints .u32 8 b5], 113, .norm))], 6⟩ => some (t19, t20, t21, b0, b3, b4_0, b4_1, b4_2, b5)
  | _ => none
def f24v1.s0.o0 (y : f24v1.Ty1) : VS := ⟨[(4, .ptr 3 0), (5, .ptr 4 0)], [(0, ([], 0, .rr false 2 y.1)), (3, ([.ints .u8 32 y.2.1], 29, .norm)), (4, ([.ptr 5 0, .ints .u8 64 y.2.2.1, .int .i64 y.2.2.2.1, .int .u64 y.2.2.2.2.1], 117, .norm)), (5, ([.ints .u32 8 y.2.2.2.2.2], 113, .norm))], 6⟩
def f24v1.s0.des : ∀ α : Type, (f24v1.Ty1) → (Ex → VS → Option α) → Option α := (des1 (.exit 0) f24v1.s0.o0)
def f24v1.s0.out : f24v1.Ty1 → Ex × VS := (fun y => (.exit 0, f24v1.s0.o0 y))
theorem f24v1.s0.desOK : ∀ α y (k : Ex → VS → Option α), f24v1.s0.des α y k = k (f24v1.s0.out y).1 (f24v1.s0.out y).2 := (fun _ _ _ => rfl)
def f24v1.s0.inY : Ex → VS → Option (f24v1.Ty1)
  | .exit 0, ⟨[(4, .ptr 3 0), (5, .ptr 4 0)], [(0, ([], 0, .rr false 2 b0)), (3, ([.ints .u8 32 b3], 29, .norm)), (4, ([.ptr 5 0, .ints .u8 64 b4_0, .int .i64 b4_1, .int .u64 b4_2], 117, .norm)), (5, ([.ints .u32 8 b5], 113, .norm))], 6⟩ => some (b0, b3, b4_0, b4_1, b4_2, b5)
  | _, _ => none
def f24v1.lp (K : Nat) : Nat → Option (Hint × Summ) := tabLp [(0, f24v1.s0.h, summOf (iter (f24v1.s0 K) K) f24v1.s0.inX f24v1.s0.des)]
noncomputable def f24v1.tab (K : Nat) : List (Nat × Entry) := [(49, (f49.E K)), (58, (viewE [(0, .u8), (1, .u8)] (f58.E K))), (59, (viewE [(0, .u8)] (f59.E K))), (57, (orF (fitR 1 .u8 (fitE 8 f57v2.inA)) (rowsE 1 .u8 (f57v2.E K)) (rowsE 1 .u8 (f57.E K)))), (51, (f51.E K))]
theorem f24v1.tabOK (K : Nat) : SpecOK Try.prog (tabSp (f24v1.tab K)) := tab_ok ((tab_cons (f49.ok K) (tab_cons (view_ok (f58.ok K)) (tab_cons (view_ok (f59.ok K)) (tab_cons (orF_ok (rows_ok (f57v2.ok K)) (rows_ok (f57.ok K))) (tab_cons (f51.ok K) tab_nil))))))
theorem f24v1.s0.eq (K : Nat) (rec : f24v1.Ty0 → Option (f24v1.Ty1)) (x : f24v1.Ty0) : f24v1.s0 K rec x = roundL (getA tys) (tabSp (f24v1.tab K)) 33 3 (f24v1.lp K) 400 f24v1.s0.b f24v1.s0.h f24v1.s0.ho f24v1.s0.shp f24v1.s0.inX f24v1.s0.inY rec x := by kernel_rfl
theorem f24v1.s0.lok (K : Nat) : LoopsOK Try.prog 33 3 (f24v1.lp K) f24v1.s0.b := loops_ok (by
  have h : loopsIn (f24v1.lp K) f24v1.s0.b = [] := by kernel_rfl
  rw [h]; simp)
theorem f24v1.s0.ok (K : Nat) : SummOK Try.prog 33 3 (summOf (iter (f24v1.s0 K) K) f24v1.s0.inX f24v1.s0.des) f24v1.s0.b :=
  loop_ok mix tys_ok (f24v1.tabOK K) (h := f24v1.s0.h) (ho := f24v1.s0.ho) (shp := f24v1.s0.shp) (inX := f24v1.s0.inX) (des := f24v1.s0.des) (out := f24v1.s0.out) (inY := f24v1.s0.inY) (fuel := 400)
    (by intro st x h; unfold f24v1.s0.inX at h; split at h <;> simp at h; subst h; rfl)
    (by intro e st y h; unfold f24v1.s0.inY at h; split at h <;> simp at h <;> subst h <;> rfl)
    f24v1.s0.desOK (f24v1.s0.lok K) (f24v1.s0 K) (f24v1.s0.eq K) K
theorem f24v1.loops (K : Nat) : LoopsOK Try.prog 33 3 (f24v1.lp K) f24v1.c := loops_ok (by
  have h : loopsIn (f24v1.lp K) f24v1.c = [(0, f24v1.s0.b)] := by kernel_rfl
  rw [h]
  intro p hp
  simp only [List.mem_cons, List.not_mem_nil, or_false] at hp
  rcases hp with rfl
  · exact ⟨_, rfl, (f24v1.s0.ok K)⟩)
def f24v1.T (K : Nat) (a0 : ByteArray) (a1 : Nat) (m0 : List Ent) : Option (f24v1.Ty3) :=
  (f49.F K ()).bind fun y1 =>
  let v2 := ByteArray.size a0
  bif ((Nat.ble (0 + v2) (ByteArray.size a0) && true) && true) then
    (f58.F K (0, v2, 0, [], v2, (subI (strL a0) 0 v2))).bind fun y4 =>
    (f59.F K (0, (IntKind.wrap .u64 ((a1 : Nat) : Int)), 4, 0, [])).bind fun y7 =>
    bif ((Nat.ble (0 + y4.1) y4.2.2.2.2.2.1 && true) && ((Nat.ble (0 + y7.1) y7.2.2.2.2.1 && (Nat.ble y7.1 y7.2.1)) && true)) then
      (f57v2.F K (y1.1, y1.2.1, y1.2.2.1, y4.1, y7.1, y1.2.2.2, y4.1, (subI y4.2.2.2.2.2.2 0 y4.1), y7.1, (subI y7.2.2.2.2.2 0 y7.1))).bind fun y8 =>
      (iter (f24v1.s0 K) K (a1, ((a1 : Nat) : Int), 0, m0, [0, 0, 0, 0, 0, 0, 0, 0, 0, 0, 0, 0, 0, 0, 0, 0, 0, 0, 0, 0, 0, 0, 0, 0, 0, 0, 0, 0, 0, 0, 0, 0], y8.1, y8.2.1, y8.2.2.1, y8.2.2.2.2.2.2.2.2.2)).bind fun y18 =>
      (f51.F K (y18.2.2.1, y18.2.2.2.1, y18.2.2.2.2.1, y18.2.2.2.2.2)).bind fun y19 =>
      some (y19.1, y18.1)
    else
      none
  else
    none
def f24v1.F (K : Nat) (x : f24v1.Ty2) : Option (f24v1.Ty3) := f24v1.T K x.1 x.2.1 x.2.2
def f24v1.av (x : f24v1.Ty2) : List VV := [.str x.1, .vw true 0 0 x.2.1 1]
def f24v1.bl (x : f24v1.Ty2) : List (Nat × Blk) := [(0, ([], 0, .rr false 2 x.2.2))]
def f24v1.inA : VS → Option (f24v1.Ty2)
  | ⟨[(0, .str a0), (1, .vw true 0 0 a1 1)], [(0, ([], 0, .rr false 2 m0))], 3⟩ => some (a0, a1, m0)
  | _ => none
def f24v1.o0 (y : f24v1.Ty3) : VS := ⟨[(0, .agg [.ints .u8 32 y.1])], [(0, ([], 0, .rr false 2 y.2))], 3⟩
def f24v1.des : ∀ α : Type, (f24v1.Ty3) → (VS → Option α) → Option α := (dv1 f24v1.o0)
def f24v1.out : f24v1.Ty3 → VS := f24v1.o0
def f24v1.inR : VS → Option (f24v1.Ty3)
  | ⟨[(0, .agg [.ints .u8 32 y])], [(0, ([], 0, .rr false 2 z0))], 3⟩ => some (y, z0)
  | _ => none
noncomputable def f24v1.E (K : Nat) : Entry := genE 3 f24v1.inA (f24v1.F K) f24v1.des
theorem f24v1.eq (K : Nat) (x : f24v1.Ty2) : f24v1.F K x = xrun (getA tys) (tabSp (f24v1.tab K)) Try.f24.ntmps 3 (f24v1.lp K) 400 f24v1.c ⟨initL 0 (f24v1.av x), f24v1.bl x, 3⟩ (contF (getA tys) 3 Try.f24.results.toList f24v1.inR) := by kernel_rfl
theorem f24v1.ok (K : Nat) : EntryOK Try.prog 24 (f24v1.E K) :=
  gen_ok mix tys_ok (f24v1.tabOK K) Try.func24 (by kernel_rfl : Try.f24.body = some f24v1.c) (by kernel_rfl) (f24v1.loops K) (av := f24v1.av) (bl := f24v1.bl) (out := f24v1.out) (fuel := 400)
    (by intro s x h; unfold f24v1.inA at h; split at h <;> simp at h; subst h; rfl) (fun _ => Nat.le_of_ble_eq_true rfl)
    (by intro s y h; unfold f24v1.inR at h; split at h <;> simp at h <;> subst h <;> rfl) (fun _ _ _ => rfl) (f24v1.eq K)
end Go.Proofs

namespace Go.Proofs
open Go.VM
abbrev f53v2.Ty0 := List Int × ByteArray × Nat × Nat × Nat × List Ent
abbrev f53v2.Ty1 := Int × ByteArray × Nat × Nat × Nat × List Ent
def f53v2.T (K : Nat) (a0 : Int) (m0 : ByteArray) (m1_0 : Nat) (m1_1 : Nat) (m2_0 : Nat) (m2_1 : List Ent) : Option (f53v2.Ty0) :=
  bif ((Nat.ble m1_0 (List.length m2_1) && (Nat.ble (m1_0 + 1) m1_1)) && (Nat.ble m1_1 m2_0)) then
    let v1 := ((List.take m1_0 m2_1) ++ ([(1, 1, [a0])] : List Ent) : List Ent)
    bif (Nat.ble (m1_0 + 1) (List.length v1) && (Nat.ble (m1_0 + 1) m1_1)) then
      (f24v1.F K (m0, (m1_0 + 1), (List.take (m1_0 + 1) v1))).bind fun y2 =>
      (f31.F K (32, 32, (subI y2.1 0 32))).bind fun y3 =>
      some (y3.1, m0, m1_0, m1_1, m2_0, v1)
    else
      none
  else
    none
def f53v2.F (K : Nat) (x : f53v2.Ty1) : Option (f53v2.Ty0) := f53v2.T K x.1 x.2.1 x.2.2.1 x.2.2.2.1 x.2.2.2.2.1 x.2.2.2.2.2
def f53v2.av (x : f53v2.Ty1) : List VV := [.int .u8 x.1, .ptr 0 0, .ptr 1 0]
def f53v2.bl (x : f53v2.Ty1) : List (Nat × Blk) := [(0, ([.str x.2.1], 9, .norm)), (1, ([.sl 2 0 x.2.2.1 x.2.2.2.1], 23, .norm)), (2, ([], 22, .rm x.2.2.2.2.1 false 3 x.2.2.2.2.2))]
def f53v2.inA : VS → Option (f53v2.Ty1)
  | ⟨[(0, .int .u8 a0), (1, .ptr 0 0), (2, .ptr 1 0)], [(0, ([.str m0], 9, .norm)), (1, ([.sl 2 0 m1_0 m1_1], 23, .norm)), (2, ([], 22, .rm m2_0 false 3 m2_1))], 4⟩ => some (a0, m0, m1_0, m1_1, m2_0, m2_1)
  | _ => none
def f53v2.o0 (y : f53v2.Ty0) : VS := ⟨[(0, .agg [.ints .u64 4 y.1])], [(0, ([.str y.2.1], 9, .norm)), (1, ([.sl 2 0 y.2.2.1 y.2.2.2.1], 23, .norm)), (2, ([], 22, .rm y.2.2.2.2.1 false 4 y.2.2.2.2.2))], 5⟩
def f53v2.inR : VS → Option (f53v2.Ty0)
  | ⟨[(0, .agg [.ints .u64 4 y])], [(0, ([.str z0], 9, .norm)), (1, ([.sl 2 0 z1_0 z1_1], 23, .norm)), (2, ([], 22, .rm z2_0 false 4 z2_1))], 5⟩ => some (y, z0, z1_0, z1_1, z2_0, z2_1)
  | _ => none
noncomputable def f53v2.E (K : Nat) : Entry := genE 4 f53v2.inA (f53v2.F K) (dv1 f53v2.o0)
theorem f53v2.ok (K : Nat) : EntryOK Try.prog 53 (f53v2.E K) := gen_ok mix tys_ok (sp := tabSp [(24, (rwE 1 (f24v1.E K))), (31, (viewE [(0, .u8)] (f31.E K)))]) (tab_ok ((tab_cons (rw_ok (f24v1.ok K)) (tab_cons (view_ok (f31.ok K)) tab_nil)))) Try.func53 (c := bodyOf Try.f53) (by kernel_rfl) (by kernel_rfl) (loops_none (lp := lpNone) (by kernel_rfl)) (av := f53v2.av) (bl := f53v2.bl) (inR := f53v2.inR) (out := f53v2.o0) (fuel := 400)
  (by intro s x h; unfold f53v2.inA at h; split at h <;> simp at h; subst h; rfl) (fun _ => Nat.le_of_ble_eq_true rfl)
  (by intro s y h; unfold f53v2.inR at h; split at h <;> simp at h <;> subst h <;> rfl) (fun _ _ _ => rfl) (fun _ => by kernel_rfl)
end Go.Proofs

namespace Go.Proofs
open Go.VM
abbrev f22v1.Ty0 := List Int × ByteArray × Nat × List Ent
abbrev f22v1.Ty1 := List Int × Int × List Ent
def f22v1.T (K : Nat) (a0 : List Int) (a1 : ByteArray) (a2 : Nat) (m0 : List Ent) : Option (f22v1.Ty1) :=
  let v1 := ((a2 : Nat) : Int)
  let v3 := IntKind.wrap .i64 (((a2 : Nat) : Int) + 1)
  bif lenOK v1 v3 24 then
    let v4 := Int.toNat v1
    let v7 := (List.replicate (Int.toNat v1) (0, 0, []) : List Ent)
    bif (Nat.beq a2 (List.length m0) && (Nat.ble v4 (List.length v7))) then
      (f53v2.F K (1, a1, v4, (Int.toNat v3), (Int.toNat v3), ((List.take (Nat.min a2 v4) m0) ++ (List.drop (Nat.min a2 v4) v7) : List Ent))).bind fun y10 =>
      (f53v2.F K (0, y10.2.1, y10.2.2.1, y10.2.2.2.1, y10.2.2.2.2.1, y10.2.2.2.2.2)).bind fun y11 =>
      (f54.F K (y10.1, y11.1, a0)).bind fun y12 =>
      some (y12.1, y12.2, m0)
    else
      none
  else
    none
def f22v1.F (K : Nat) (x : f22v1.Ty0) : Option (f22v1.Ty1) := f22v1.T K x.1 x.2.1 x.2.2.1 x.2.2.2
def f22v1.av (x : f22v1.Ty0) : List VV := [.agg [.ints .u64 4 x.1], .str x.2.1, .vw true 0 0 x.2.2.1 1]
def f22v1.bl (x : f22v1.Ty0) : List (Nat × Blk) := [(0, ([], 0, .rr false 2 x.2.2.2))]
def f22v1.inA : VS → Option (f22v1.Ty0)
  | ⟨[(0, .agg [.ints .u64 4 a0]), (1, .str a1), (2, .vw true 0 0 a2 1)], [(0, ([], 0, .rr false 2 m0))], 3⟩ => some (a0, a1, a2, m0)
  | _ => none
def f22v1.o0 (y : f22v1.Ty1) : VS := ⟨[(0, .tup [.agg [.ints .u64 4 y.1], .int .i64 y.2.1])], [(0, ([], 0, .rr false 2 y.2.2))], 3⟩
def f22v1.inR : VS → Option (f22v1.Ty1)
  | ⟨[(0, .tup [.agg [.ints .u64 4 y_0], .int .i64 y_1])], [(0, ([], 0, .rr false 2 z0))], 3⟩ => some (y_0, y_1, z0)
  | _ => none
noncomputable def f22v1.E (K : Nat) : Entry := genE 3 f22v1.inA (f22v1.F K) (dv1 f22v1.o0)
theorem f22v1.ok (K : Nat) : EntryOK Try.prog 22 (f22v1.E K) := gen_ok mix tys_ok (tab_ok ((tab_cons (f53v2.ok K) (tab_cons (f54.ok K) tab_nil)))) Try.func22 (c := bodyOf Try.f22) (by kernel_rfl) (by kernel_rfl) (loops_none (lp := lpNone) (by kernel_rfl)) (av := f22v1.av) (bl := f22v1.bl) (inR := f22v1.inR) (out := f22v1.o0) (fuel := 400)
  (by intro s x h; unfold f22v1.inA at h; split at h <;> simp at h; subst h; rfl) (fun _ => Nat.le_of_ble_eq_true rfl)
  (by intro s y h; unfold f22v1.inR at h; split at h <;> simp at h <;> subst h <;> rfl) (fun _ _ _ => rfl) (fun _ => by kernel_rfl)
end Go.Proofs

namespace Go.Proofs
open Go.VM
abbrev f60v1.Ty0 := Nat × Nat × Int × List Ent × Nat × List Int
abbrev f60v1.Ty1 := Nat × List Ent × Nat × List Int
abbrev f60v1.Ty2 := ByteArray × Nat × List Ent
noncomputable def f60v1.c : Code := bodyOf Try.f60
def f60v1.s0t (K : Nat) (rec : f60v1.Ty0 → Option (f60v1.Ty1)) (t1 : Nat) (t5 : Nat) (t6 : Int) (b0 : List Ent) (b3_0 : Nat) (b3_1 : List Int) : Option (f60v1.Ty1) :=
  bif (decide (t6 < ((t1 : Nat) : Int))) then
    bif decide (0 ≤ t6 ∧ t6 < ((t1 : Nat) : Int)) then
      let v9 := 0 + (Int.toNat t6)
      bif Nat.blt v9 (List.length b0) then
        let v10 := (entAt b0 v9).1
        bif ((Nat.ble (0 + t5) b3_0 && true) && ((Nat.ble (0 + v10) ((entAt b0 v9).1) && true) && true)) then
          (f94.F K (t5, v10, t5, (subI b3_1 0 t5), v10, (subI ((entAt b0 v9).2.2) 0 v10))).bind fun y13 =>
          rec (t1, y13.1, (IntKind.wrap .i64 (t6 + 1)), b0, y13.2.2.2.2.2.1, y13.2.2.2.2.2.2)
        else
          none
      else
        none
    else
      none
  else
    some (t5, b0, b3_0, b3_1)
def f60v1.s0 (K : Nat) (rec : f60v1.Ty0 → Option (f60v1.Ty1)) (x : f60v1.Ty0) : Option (f60v1.Ty1) := f60v1.s0t K rec x.1 x.2.1 x.2.2.1 x.2.2.2.1 x.2.2.2.2.1 x.2.2.2.2.2
noncomputable def f60v1.s0.b : Code := (findLoop 0 f60v1.c).getD .skip
def f60v1.s0.h : Hint := { lv := [1, 5, 6] }
def f60v1.s0.ho : Hint := { lv := [5] }
def f60v1.s0.shp (x : f60v1.Ty0) : VS := ⟨[(1, .vw true 0 0 x.1 1), (5, .vec 3 0 x.2.1 4), (6, .int .i64 x.2.2.1)], [(0, ([], 0, .rr false 2 x.2.2.2.1)), (3, ([.ints .u8 x.2.2.2.2.1 x.2.2.2.2.2], 5, .vec 4))], 5⟩
def f60v1.s0.inX : VS → Option (f60v1.Ty0)
  | ⟨[(1, .vw true 0 0 t1 1), (5, .vec 3 0 t5 4), (6, .int .i64 t6)], [(0, ([], 0, .rr false 2 b0)), (3, ([.ints .u8 b3_0 b3_1], 5, .vec 4))], 5⟩ => some (t1, t5, t6, b0, b3_0, b3_1)
  | _ => none
def f60v1.s0.o0 (y : f60v1.Ty1) : VS := ⟨[(5, .vec 3 0 y.1 4)], [(0, ([], 0, .rr false 2 y.2.1)), (3, ([.ints .u8 y.2.2.1 y.2.2.2], 5, .vec 4))], 5⟩
def f60v1.s0.des : ∀ α : Type, (f60v1.Ty1) → (Ex → VS → Option α) → Option α := (des1 (.exit 0) f60v1.s0.o0)
def f60v1.s0.out : f60v1.Ty1 → Ex × VS := (fun y => (.exit 0, f60v1.s0.o0 y))
theorem f60v1.s0.desOK : ∀ α y (k : Ex → VS → Option α), f60v1.s0.des α y k = k (f60v1.s0.out y).1 (f60v1.s0.out y).2 := (fun _ _ _ => rfl)
def f60v1.s0.inY : Ex → VS → Option (f60v1.Ty1)
  | .exit 0, ⟨[(5, .vec 3 0 t5 4)], [(0, ([], 0, .rr false 2 b0)), (3, ([.ints .u8 b3_0 b3_1], 5, .vec 4))], 5⟩ => some (t5, b0, b3_0, b3_1)
  | _, _ => none
def f60v1.lp (K : Nat) : Nat → Option (Hint × Summ) := tabLp [(0, f60v1.s0.h, summOf (iter (f60v1.s0 K) K) f60v1.s0.inX f60v1.s0.des)]
noncomputable def f60v1.tab (K : Nat) : List (Nat × Entry) := [(94, (viewE [(0, .u8), (1, .u8)] (f94.E K))), (75, (viewE [(0, .u8)] (f75.E K)))]
theorem f60v1.tabOK (K : Nat) : SpecOK Try.prog (tabSp (f60v1.tab K)) := tab_ok ((tab_cons (view_ok (f94.ok K)) (tab_cons (view_ok (f75.ok K)) tab_nil)))
theorem f60v1.s0.eq (K : Nat) (rec : f60v1.Ty0 → Option (f60v1.Ty1)) (x : f60v1.Ty0) : f60v1.s0 K rec x = roundL (getA tys) (tabSp (f60v1.tab K)) 28 3 (f60v1.lp K) 400 f60v1.s0.b f60v1.s0.h f60v1.s0.ho f60v1.s0.shp f60v1.s0.inX f60v1.s0.inY rec x := by kernel_rfl
theorem f60v1.s0.lok (K : Nat) : LoopsOK Try.prog 28 3 (f60v1.lp K) f60v1.s0.b := loops_ok (by
  have h : loopsIn (f60v1.lp K) f60v1.s0.b = [] := by kernel_rfl
  rw [h]; simp)
theorem f60v1.s0.ok (K : Nat) : SummOK Try.prog 28 3 (summOf (iter (f60v1.s0 K) K) f60v1.s0.inX f60v1.s0.des) f60v1.s0.b :=
  loop_ok mix tys_ok (f60v1.tabOK K) (h := f60v1.s0.h) (ho := f60v1.s0.ho) (shp := f60v1.s0.shp) (inX := f60v1.s0.inX) (des := f60v1.s0.des) (out := f60v1.s0.out) (inY := f60v1.s0.inY) (fuel := 400)
    (by intro st x h; unfold f60v1.s0.inX at h; split at h <;> simp at h; subst h; rfl)
    (by intro e st y h; unfold f60v1.s0.inY at h; split at h <;> simp at h <;> subst h <;> rfl)
    f60v1.s0.desOK (f60v1.s0.lok K) (f60v1.s0 K) (f60v1.s0.eq K) K
theorem f60v1.loops (K : Nat) : LoopsOK Try.prog 28 3 (f60v1.lp K) f60v1.c := loops_ok (by
  have h : loopsIn (f60v1.lp K) f60v1.c = [(0, f60v1.s0.b)] := by kernel_rfl
  rw [h]
  intro p hp
  simp only [List.mem_cons, List.not_mem_nil, or_false] at hp
  rcases hp with rfl
  · exact ⟨_, rfl, (f60v1.s0.ok K)⟩)
def f60v1.T (K : Nat) (a0 : ByteArray) (a1 : Nat) (m0 : List Ent) : Option (f60v1.Ty1) :=
  let v1 := ByteArray.size a0
  bif ((Nat.ble (0 + v1) (ByteArray.size a0) && true) && true) then
    (f94.F K (0, v1, 0, [], v1, (subI (strL a0) 0 v1))).bind fun y3 =>
    bif ((Nat.ble (0 + y3.1) y3.2.2.2.2.2.1 && true) && true) then
      (f75.F K (y3.1, (IntKind.wrap .u64 ((a1 : Nat) : Int)), 4, y3.1, (subI y3.2.2.2.2.2.2 0 y3.1))).bind fun y6 =>
      (iter (f60v1.s0 K) K (a1, y6.1, 0, m0, y6.2.2.2.1, y6.2.2.2.2)).bind fun y15 =>
      some (y15.1, y15.2.1, y15.2.2.1, y15.2.2.2)
    else
      none
  else
    none
def f60v1.F (K : Nat) (x : f60v1.Ty2) : Option (f60v1.Ty1) := f60v1.T K x.1 x.2.1 x.2.2
def f60v1.av (x : f60v1.Ty2) : List VV := [.str x.1, .vw true 0 0 x.2.1 1]
def f60v1.bl (x : f60v1.Ty2) : List (Nat × Blk) := [(0, ([], 0, .rr false 2 x.2.2))]
def f60v1.inA : VS → Option (f60v1.Ty2)
  | ⟨[(0, .str a0), (1, .vw true 0 0 a1 1)], [(0, ([], 0, .rr false 2 m0))], 3⟩ => some (a0, a1, m0)
  | _ => none
def f60v1.o0 (y : f60v1.Ty1) : VS := ⟨[(0, .vec 3 0 y.1 4)], [(0, ([], 0, .rr false 2 y.2.1)), (3, ([.ints .u8 y.2.2.1 y.2.2.2], 5, .vec 4))], 5⟩
def f60v1.des : ∀ α : Type, (f60v1.Ty1) → (VS → Option α) → Option α := (dv1 f60v1.o0)
def f60v1.out : f60v1.Ty1 → VS := f60v1.o0
def f60v1.inR : VS → Option (f60v1.Ty1)
  | ⟨[(0, .vec 3 0 y 4)], [(0, ([], 0, .rr false 2 z0)), (3, ([.ints .u8 z3_0 z3_1], 5, .vec 4))], 5⟩ => some (y, z0, z3_0, z3_1)
  | _ => none
noncomputable def f60v1.E (K : Nat) : Entry := genE 3 f60v1.inA (f60v1.F K) f60v1.des
theorem f60v1.eq (K : Nat) (x : f60v1.Ty2) : f60v1.F K x = xrun (getA tys) (tabSp (f60v1.tab K)) Try.f60.ntmps 3 (f60v1.lp K) 400 f60v1.c ⟨initL 0 (f60v1.av x), f60v1.bl x, 3⟩ (contF (getA tys) 3 Try.f60.results.toList f60v1.inR) := by kernel_rfl
theorem f60v1.ok (K : Nat) : EntryOK Try.prog 60 (f60v1.E K) :=
  gen_ok mix tys_ok (f60v1.tabOK K) Try.func60 (by kernel_rfl : Try.f60.body = some f60v1.c) (by kernel_rfl) (f60v1.loops K) (av := f60v1.av) (bl := f60v1.bl) (out := f60v1.out) (fuel := 400)
    (by intro s x h; unfold f60v1.inA at h; split at h <;> simp at h; subst h; rfl) (fun _ => Nat.le_of_ble_eq_true rfl)
    (by intro s y h; unfold f60v1.inR at h; split at h <;> simp at h <;> subst h <;> rfl) (fun _ _ _ => rfl) (f60v1.eq K)
end Go.Proofs

namespace Go.Proofs
open Go.VM
abbrev f25v1.Ty0 := ByteArray × Nat × List Ent
abbrev f25v1.Ty1 := List Int × List Ent
def f25v1.T (K : Nat) (a0 : ByteArray) (a1 : Nat) (m0 : List Ent) : Option (f25v1.Ty1) :=
  bif Nat.beq a1 (List.length m0) then
    (f60v1.F K (a0, a1, m0)).bind fun y1 =>
    bif ((Nat.ble (0 + y1.1) y1.2.2.1 && true) && true) then
      (f52.F K (y1.1, y1.1, (subI y1.2.2.2 0 y1.1))).bind fun y2 =>
      some (y2.1, m0)
    else
      none
  else
    none
def f25v1.F (K : Nat) (x : f25v1.Ty0) : Option (f25v1.Ty1) := f25v1.T K x.1 x.2.1 x.2.2
def f25v1.av (x : f25v1.Ty0) : List VV := [.str x.1, .vw true 0 0 x.2.1 1]
def f25v1.bl (x : f25v1.Ty0) : List (Nat × Blk) := [(0, ([], 0, .rr false 2 x.2.2))]
def f25v1.inA : VS → Option (f25v1.Ty0)
  | ⟨[(0, .str a0), (1, .vw true 0 0 a1 1)], [(0, ([], 0, .rr false 2 m0))], 3⟩ => some (a0, a1, m0)
  | _ => none
def f25v1.o0 (y : f25v1.Ty1) : VS := ⟨[(0, .agg [.ints .u8 32 y.1])], [(0, ([], 0, .rr false 2 y.2))], 3⟩
def f25v1.inR : VS → Option (f25v1.Ty1)
  | ⟨[(0, .agg [.ints .u8 32 y])], [(0, ([], 0, .rr false 2 z0))], 3⟩ => some (y, z0)
  | _ => none
noncomputable def f25v1.E (K : Nat) : Entry := genE 3 f25v1.inA (f25v1.F K) (dv1 f25v1.o0)
theorem f25v1.ok (K : Nat) : EntryOK Try.prog 25 (f25v1.E K) := gen_ok mix tys_ok (sp := tabSp [(60, (rwE 1 (f60v1.E K))), (52, (viewE [(0, .u8)] (f52.E K)))]) (tab_ok ((tab_cons (rw_ok (f60v1.ok K)) (tab_cons (view_ok (f52.ok K)) tab_nil)))) Try.func25 (c := bodyOf Try.f25) (by kernel_rfl) (by kernel_rfl) (loops_none (lp := lpNone) (by kernel_rfl)) (av := f25v1.av) (bl := f25v1.bl) (inR := f25v1.inR) (out := f25v1.o0) (fuel := 400)
  (by intro s x h; unfold f25v1.inA at h; split at h <;> simp at h; subst h; rfl) (fun _ => Nat.le_of_ble_eq_true rfl)
  (by intro s y h; unfold f25v1.inR at h; split at h <;> simp at h <;> subst h <;> rfl) (fun _ _ _ => rfl) (fun _ => by kernel_rfl)
end Go.Proofs

namespace Go.Proofs
open Go.VM
abbrev f23v1.Ty0 := List Int × ByteArray × Nat × List Ent
abbrev f23v1.Ty1 := List Int × Int × List Ent
def f23v1.T (K : Nat) (a0 : List Int) (a1 : ByteArray) (a2 : Nat) (m0 : List Ent) : Option (f23v1.Ty1) :=
  bif (eqL 4 a0 [0, 0, 0, 0] && true) then
    some ([0, 0, 0, 0], 1, m0)
  else
    bif (Nat.beq a2 (List.length m0) && (fitB (a2 * 24))) then
      bif (Nat.ble a2 (List.length m0) && (fitB ((a2 + 1) * 24))) then
        let v2 := ((List.take a2 m0) ++ ([(1, 1, [0])] : List Ent) : List Ent)
        bif Nat.beq (a2 + 1) (List.length v2) then
          (f25v1.F K (a1, (a2 + 1), v2)).bind fun y3 =>
          bif (Nat.beq a2 (List.length m0) && (fitB (a2 * 24))) then
            bif (Nat.ble a2 (List.length m0) && (fitB ((a2 + 1) * 24))) then
              let v4 := ((List.take a2 m0) ++ ([(1, 1, [1])] : List Ent) : List Ent)
              bif Nat.beq (a2 + 1) (List.length v4) then
                (f25v1.F K (a1, (a2 + 1), v4)).bind fun y5 =>
                (f55.F K (32, 32, (subI y3.1 0 32))).bind fun y6 =>
                (f55.F K (32, 32, (subI y5.1 0 32))).bind fun y7 =>
                (f56.F K (y7.1, y6.1, a0)).bind fun y8 =>
                some (y8.1, y8.2, m0)
              else
                none
            else
              none
          else
            none
        else
          none
      else
        none
    else
      none
def f23v1.F (K : Nat) (x : f23v1.Ty0) : Option (f23v1.Ty1) := f23v1.T K x.1 x.2.1 x.2.2.1 x.2.2.2
def f23v1.av (x : f23v1.Ty0) : List VV := [.agg [.ints .u64 4 x.1], .str x.2.1, .vw true 0 0 x.2.2.1 1]
def f23v1.bl (x : f23v1.Ty0) : List (Nat × Blk) := [(0, ([], 0, .rr false 2 x.2.2.2))]
def f23v1.inA : VS → Option (f23v1.Ty0)
  | ⟨[(0, .agg [.ints .u64 4 a0]), (1, .str a1), (2, .vw true 0 0 a2 1)], [(0, ([], 0, .rr false 2 m0))], 3⟩ => some (a0, a1, a2, m0)
  | _ => none
def f23v1.o0 (y : f23v1.Ty1) : VS := ⟨[(0, .tup [.agg [.ints .u64 4 y.1], .int .i64 y.2.1])], [(0, ([], 0, .rr false 2 y.2.2))], 3⟩
def f23v1.inR : VS → Option (f23v1.Ty1)
  | ⟨[(0, .tup [.agg [.ints .u64 4 y_0], .int .i64 y_1])], [(0, ([], 0, .rr false 2 z0))], 3⟩ => some (y_0, y_1, z0)
  | _ => none
noncomputable def f23v1.E (K : Nat) : Entry := genE 3 f23v1.inA (f23v1.F K) (dv1 f23v1.o0)
theorem f23v1.ok (K : Nat) : EntryOK Try.prog 23 (f23v1.E K) := gen_ok mix tys_ok (sp := tabSp [(25, (rwE 1 (f25v1.E K))), (55, (viewE [(0, .u8)] (f55.E K))), (56, (f56.E K))]) (tab_ok ((tab_cons (rw_ok (f25v1.ok K)) (tab_cons (view_ok (f55.ok K)) (tab_cons (f56.ok K) tab_nil))))) Try.func23 (c := bodyOf Try.f23) (by kernel_rfl) (by kernel_rfl) (loops_none (lp := lpNone) (by kernel_rfl)) (av := f23v1.av) (bl := f23v1.bl) (inR := f23v1.inR) (out := f23v1.o0) (fuel := 400)
  (by intro s x h; unfold f23v1.inA at h; split at h <;> simp at h; subst h; rfl) (fun _ => Nat.le_of_ble_eq_true rfl)
  (by intro s y h; unfold f23v1.inR at h; split at h <;> simp at h <;> subst h <;> rfl) (fun _ _ _ => rfl) (fun _ => by kernel_rfl)
end Go.Proofs

namespace Go.Proofs
open Go.VM
abbrev f21.Ty0 := ByteArray × Nat × List Ent
def f21.T (K : Nat) (a0 : ByteArray) (a1 : Nat) (m0 : List Ent) : Option (Bool × List Ent) :=
  bif (decide (((ByteArray.size a0 : Nat) : Int) > 5000)) then
    some (true, m0)
  else
    bif (decide (((a1 : Nat) : Int) > 200)) then
      some (true, m0)
    else
      bif Nat.beq a1 (List.length m0) then
        (f46.F K (a1, m0)).bind fun y5 =>
        some ((decide (y5.1 > 20000)), m0)
      else
        none
def f21.F (K : Nat) (x : f21.Ty0) : Option (Bool × List Ent) := f21.T K x.1 x.2.1 x.2.2
def f21.av (x : f21.Ty0) : List VV := [.str x.1, .vw true 0 0 x.2.1 1]
def f21.bl (x : f21.Ty0) : List (Nat × Blk) := [(0, ([], 0, .rr false 2 x.2.2))]
def f21.inA : VS → Option (f21.Ty0)
  | ⟨[(0, .str a0), (1, .vw true 0 0 a1 1)], [(0, ([], 0, .rr false 2 m0))], 3⟩ => some (a0, a1, m0)
  | _ => none
def f21.o0 (y : Bool × List Ent) : VS := ⟨[(0, .bool y.1)], [(0, ([], 0, .rr false 2 y.2))], 3⟩
def f21.inR : VS → Option (Bool × List Ent)
  | ⟨[(0, .bool y)], [(0, ([], 0, .rr false 2 z0))], 3⟩ => some (y, z0)
  | _ => none
noncomputable def f21.E (K : Nat) : Entry := genE 3 f21.inA (f21.F K) (dv1 f21.o0)
theorem f21.ok (K : Nat) : EntryOK Try.prog 21 (f21.E K) := gen_ok mix tys_ok (sp := tabSp [(46, (rwE 0 (f46.E K)))]) (tab_ok ((tab_cons (rw_ok (f46.ok K)) tab_nil))) Try.func21 (c := bodyOf Try.f21) (by kernel_rfl) (by kernel_rfl) (loops_none (lp := lpNone) (by kernel_rfl)) (av := f21.av) (bl := f21.bl) (inR := f21.inR) (out := f21.o0) (fuel := 400)
  (by intro s x h; unfold f21.inA at h; split at h <;> simp at h; subst h; rfl) (fun _ => Nat.le_of_ble_eq_true rfl)
  (by intro s y h; unfold f21.inR at h; split at h <;> simp at h <;> subst h <;> rfl) (fun _ _ _ => rfl) (fun _ => by kernel_rfl)
end Go.Proofs

namespace Go.Proofs
open Go.VM
def Rs.fcat (ll : List Ent) : List Int := ll.flatMap fun e => Sh.frame (Rs.sh e)
def Rs.shs (ll : List Ent) : List (List Int) := ll.map Rs.sh
theorem Rs.fcat_next {ll : List Ent} {i : Nat} (h : i < ll.length) : Rs.fcat (ll.take (i + 1)) = Rs.fcat (ll.take i) ++ Sh.frame (Rs.sh (entAt ll i)) := by
  rw [Rs.take_next h]; simp [Rs.fcat]
theorem Rs.fcat_cut (name : List Int) (ll : List Ent) : Sh.cut name (Rs.shs ll) = Sh.frame name ++ be 4 ll.length ++ Rs.fcat ll := by
  simp [Sh.cut, Rs.shs, Rs.fcat, List.flatMap_map]
theorem Rs.shs_tw (ll : List Ent) : Rs.shs (ll.map Rs.tw) = Rs.shs ll := by
  simp [Rs.shs, Function.comp_def, Rs.tw_sh]
theorem Rs.shs_snoc (ll : List Ent) (x : Int) : Rs.shs (ll ++ [(1, 1, [x])]) = Rs.shs ll ++ [[x]] := by
  simp [Rs.shs, Rs.sh, subI, List.range, List.range.loop]
theorem Rs.ok_snoc {b : Nat} {ll : List Ent} (h : Rs.ok b ll) (hb : 1 ≤ b) {x : Int} (hx : 0 ≤ x ∧ x < 256) : Rs.ok b (ll ++ [(1, 1, [x])]) := by
  intro e he
  rcases List.mem_append.1 he with he | he
  · exact h e he
  · simp only [List.mem_singleton] at he
    subst he
    refine ⟨hb, fun y hy => ?_⟩
    simp [Rs.sh, subI, List.range, List.range.loop] at hy
    omega
theorem f58.none (K n : Nat) (l : List Int) (hl : l.length = n) (hn : n ≤ 1000000000) : f58.F K (0, n, 0, [], n, l) = some (4 + n, 0, [], n, l, 4 + n, Sh.frame l) := by
  have := f58.spec K 0 n [] l rfl hl (by omega) (by omega)
  rw [Nat.zero_add, List.nil_append] at this
  exact this
theorem f24v1.parts (K N : Nat) (ll : List Ent) (hN : ll.length = N) {b : Nat} (ho : Rs.ok b ll) (hb : b ≤ 1000000000) (hNb : N ≤ 1000000) (hK : N < K) (hK2 : 68 + b < K) (z32 m b0 s0 : List Int) (h0 : Int) (R : Sh.Rep m b0 h0 s0) :
    ∃ b' h' s', iter (f24v1.s0 K) K (N, ((N : Nat) : Int), 0, ll, z32, b0, h0, ((m.length % 18446744073709551616 : Nat) : Int), s0) = some (ll, z32, b', h', (((m ++ Rs.fcat ll).length % 18446744073709551616 : Nat) : Int), s') ∧ Sh.Rep (m ++ Rs.fcat ll) b' h' s' := by
  obtain ⟨y, ⟨b', h', s', hy, R'⟩, hI⟩ := iter_inv (stp := f24v1.s0 K) (fun j x => ∃ i b' h' s', i ≤ N ∧ j = N - i ∧ Sh.Rep (m ++ Rs.fcat (ll.take i)) b' h' s' ∧ x = (N, ((N : Nat) : Int), (i : Int), ll, z32, b', h', (((m ++ Rs.fcat (ll.take i)).length % 18446744073709551616 : Nat) : Int), s'))
    (fun y => ∃ b' h' s', y = (ll, z32, b', h', (((m ++ Rs.fcat ll).length % 18446744073709551616 : Nat) : Int), s') ∧ Sh.Rep (m ++ Rs.fcat ll) b' h' s') (by
    rintro j x ⟨i, b1, h1, s1, hi, rfl, R1, rfl⟩
    by_cases h : i < N
    · right
      have hi' : i < ll.length := by omega
      obtain ⟨hb1, ho1⟩ := ho _ (Rs.at_mem hi')
      have hfl : (Sh.frame (Rs.sh (entAt ll i))).length = 4 + (entAt ll i).1 := by rw [frame_length, Rs.sh_length]
      obtain ⟨b2, h2, s2, e2, R2⟩ := f57.spec K _ (4 + (entAt ll i).1) (Sh.frame (Rs.sh (entAt ll i))) hfl (frame_octets ho1) (by omega) _ _ _ R1 (by omega)
      rw [List.append_assoc, ← Rs.fcat_next hi'] at e2 R2
      refine ⟨_, N - (i + 1), by omega, ⟨i + 1, b2, h2, s2, by omega, rfl, R2, rfl⟩, fun rec => ?_⟩
      simp only [f24v1.s0, f24v1.s0t]
      rw [decide_eq_true (show (i : Int) < ((N : Nat) : Int) by omega), cond_t, decide_eq_true (show (0 : Int) ≤ (i : Int) ∧ (i : Int) < ((N : Nat) : Int) by omega), cond_t, Int.toNat_natCast, Nat.zero_add, Rs.blt hi', cond_t, Nat.zero_add, ble_true (Nat.le_refl _), Bool.and_self, Bool.and_self, cond_t]
      rw [show f58.F K (0, (entAt ll i).1, 0, [], (entAt ll i).1, subI (entAt ll i).2.2 0 (entAt ll i).1) = _ from f58.none K (entAt ll i).1 (Rs.sh (entAt ll i)) (Rs.sh_length _) (by omega), bind_s]
      simp only []
      rw [Nat.zero_add, ble_true (Nat.le_refl _), Bool.and_self, Bool.and_self, cond_t, subI_self _ hfl, e2, bind_s]
      simp only []
      rw [wrap_i _ (by omega) (by omega)]
      rfl
    · left
      have hiN : i = N := by omega
      subst hiN
      rw [List.take_of_length_le (show ll.length ≤ i by omega)] at R1 ⊢
      refine ⟨_, ⟨b1, h1, s1, rfl, R1⟩, fun rec => ?_⟩
      simp only [f24v1.s0, f24v1.s0t]
      rw [decide_eq_false (show ¬ (i : Int) < ((i : Nat) : Int) by omega), cond_f]) N _ ⟨0, b0, h0, s0, Nat.zero_le _, rfl, by simpa [Rs.fcat] using R, rfl⟩ K hK
  refine ⟨b', h', s', ?_, R'⟩
  rw [← hy, ← hI]
  simp [Rs.fcat]
theorem f24v1.spec (K N : Nat) (name : ByteArray) (ll : List Ent) (hs : name.size ≤ 1000000) (hN : ll.length = N) {b : Nat} (ho : Rs.ok b ll) (hb : b ≤ 1000000000) (hNb : N ≤ 1000000) (hK : 400 + name.size + N + b < K) :
    f24v1.F K (name, N, ll) = some (Sh.sha (strL name) (Rs.shs ll), ll) := by
  have hnl := strL_length name
  have hno := strL_octets name
  simp only [f24v1.F, f24v1.T]
  rw [show f49.F K () = some ([0, 0, 0, 0, 0, 0, 0, 0, 0, 0, 0, 0, 0, 0, 0, 0, 0, 0, 0, 0, 0, 0, 0, 0, 0, 0, 0, 0, 0, 0, 0, 0, 0, 0, 0, 0, 0, 0, 0, 0, 0, 0, 0, 0, 0, 0, 0, 0, 0, 0, 0, 0, 0, 0, 0, 0, 0, 0, 0, 0, 0, 0, 0, 0], 0, 0, Sh.init) from rfl, bind_s, Nat.zero_add, ble_true (Nat.le_refl name.size), Bool.and_self, Bool.and_self, cond_t, subI_self _ hnl, f58.none K name.size _ hnl (by omega), bind_s, wrap_u _ (by omega) (by omega)]
  have a1 : f59.F K (0, ((N : Nat) : Int), 4, 0, []) = some (4, 4, 0, [], 4, [] ++ be 4 N) := f59.spec K 0 4 N [] rfl (by omega) (by omega) (by omega)
  rw [List.nil_append] at a1
  rw [a1, bind_s]
  simp only []
  have hf := frame_length (strL name)
  rw [hnl] at hf
  rw [Nat.zero_add, Nat.zero_add, ble_true (Nat.le_refl (4 + name.size)), ble_true (Nat.le_refl 4), Bool.and_self, Bool.and_self, Bool.and_self, cond_t, subI_self _ hf, subI_self _ (be_length 4 N)]
  obtain ⟨B, H, S, c0, R⟩ := f57v2.spec K [] (4 + name.size) (Sh.frame (strL name)) 4 (be 4 N) hf (frame_octets hno) (by omega) (be_length _ _) (be_octets _ _) (by omega) _ _ _ Sh.rep0 (by omega)
  rw [show f57v2.F K ([0, 0, 0, 0, 0, 0, 0, 0, 0, 0, 0, 0, 0, 0, 0, 0, 0, 0, 0, 0, 0, 0, 0, 0, 0, 0, 0, 0, 0, 0, 0, 0, 0, 0, 0, 0, 0, 0, 0, 0, 0, 0, 0, 0, 0, 0, 0, 0, 0, 0, 0, 0, 0, 0, 0, 0, 0, 0, 0, 0, 0, 0, 0, 0], 0, 0, 4 + name.size, 4, Sh.init, 4 + name.size, Sh.frame (strL name), 4, be 4 N) = _ from c0, bind_s]
  simp only []
  rw [List.nil_append] at R ⊢
  obtain ⟨b2, h2, s2, e2, R2⟩ := f24v1.parts K N ll hN ho hb hNb (by omega) (by omega) [0, 0, 0, 0, 0, 0, 0, 0, 0, 0, 0, 0, 0, 0, 0, 0, 0, 0, 0, 0, 0, 0, 0, 0, 0, 0, 0, 0, 0, 0, 0, 0] _ _ _ _ R
  rw [e2, bind_s]
  simp only []
  rw [f51.spec K _ _ _ _ R2 (by omega), bind_s]
  simp only []
  rw [← hN, ← Rs.fcat_cut, ← Sh.sha]
theorem f53v2.spec (K N : Nat) (name : ByteArray) (x : Int) (ll L2 : List Ent) (hs : name.size ≤ 1000000) (hx : 0 ≤ x ∧ x < 256) (hN : ll.length = N) (hL : L2.take N = ll) {b : Nat} (ho : Rs.ok b ll) (h1 : 1 ≤ b) (hb : b ≤ 1000000000) (hNb : N ≤ 100000) (hK : 500 + name.size + N + b < K) :
    f53v2.F K (x, name, N, N + 1, N + 1, L2) = some (num (tv (Sh.sha (strL name) (Rs.shs ll ++ [[x]]))), name, N, N + 1, N + 1, ll ++ [(1, 1, [x])]) := by
  have hle : N ≤ L2.length := by
    have := congrArg List.length hL
    rw [List.length_take, hN] at this
    omega
  have hl1 : (ll ++ [((1, 1, [x]) : Ent)]).length = N + 1 := by rw [List.length_append, hN]; rfl
  simp only [f53v2.F, f53v2.T]
  rw [ble_true hle, ble_true (Nat.le_refl (N + 1)), Bool.and_self, Bool.and_self, cond_t, hL, hl1, ble_true (Nat.le_refl (N + 1)), Bool.and_self, cond_t, List.take_of_length_le (Nat.le_of_eq hl1), f24v1.spec K (N + 1) name _ hs hl1 (Rs.ok_snoc ho h1 hx) hb (by omega) (by omega), bind_s]
  simp only []
  rw [subI_self _ (sha_length _ _), f31.spec K _ (sha_length _ _) (sha_octets _ _) (by omega), bind_s, Rs.shs_snoc]
theorem f22v1.spec (N M : Nat) (name : ByteArray) (ll : List Ent) (hs : name.size ≤ 10000) (hM : M < 2 ^ 256) (hN : ll.length = N) {b : Nat} (ho : Rs.ok b ll) (h1 : 1 ≤ b) (hb : b ≤ 50000) (hNb : N ≤ 1000) :
    f22v1.F 100000 (num M, name, N, ll) = some (if M = 0 then num 0 else num (Sh.number M (strL name) (Rs.shs ll)), if M = 0 then 1 else 0, ll) := by
  have b1 := tv_lt 32 _ (sha_length (strL name) (Rs.shs ll ++ [[1]])) (sha_octets _ _)
  have b2 := tv_lt 32 _ (sha_length (strL name) (Rs.shs ll ++ [[0]])) (sha_octets _ _)
  simp only [f22v1.F, f22v1.T]
  rw [wrap_i _ (by omega) (by omega), show ((N : Nat) : Int) + 1 = ((N + 1 : Nat) : Int) by omega]
  have hl' : lenOK ((N : Nat) : Int) ((N + 1 : Nat) : Int) 24 = true := by
    simp only [lenOK, Int.toNat_natCast]
    rw [decide_eq_true (show (0 : Int) ≤ ((N : Nat) : Int) ∧ ((N : Nat) : Int) ≤ ((N + 1 : Nat) : Int) by omega), fitB_true (by omega), fitB_true (by omega)]; rfl
  have hd : List.take (Nat.min N N) ll ++ List.drop (Nat.min N N) (List.replicate N ((0, 0, []) : Ent)) = ll := by
    rw [show Nat.min N N = N from Nat.min_self N, List.take_of_length_le (by omega), List.drop_of_length_le (by simp), List.append_nil]
  have hrl : (List.replicate N ((0, 0, []) : Ent)).length = N := by simp
  rw [hl', cond_t, Int.toNat_natCast, Int.toNat_natCast, show Nat.beq N (List.length ll) = true by rw [hN]; exact Nat.beq_refl N, hrl, ble_true (Nat.le_refl N), Bool.and_self, cond_t, hd]
  rw [f53v2.spec 100000 N name 1 ll ll (by omega) (by omega) hN (List.take_of_length_le (by omega)) ho h1 (by omega) (by omega) (by omega), bind_s]
  simp only []
  rw [f53v2.spec 100000 N name 0 ll _ (by omega) (by omega) hN (by rw [List.take_append_of_le_length (by omega), List.take_of_length_le (by omega)]) ho h1 (by omega) (by omega) (by omega), bind_s]
  simp only []
  by_cases h0 : M = 0
  · subst h0
    rw [f54.zero, bind_s, if_pos rfl, if_pos rfl]
  · rw [f54.spec _ _ M b1 b2 hM (by omega), bind_s, if_neg h0, if_neg h0]
    simp only [Sh.number]
theorem f60v1.parts (K N : Nat) (ll : List Ent) (hN : ll.length = N) {b : Nat} (ho : Rs.ok b ll) (hNb : N ≤ 1000000) (ht : Rs.tot ll ≤ 1000000) (hb : b ≤ 1000000) (hK : N + 10 < K) (m : List Int) (a : Nat) (ha : m.length = a) (ha2 : a ≤ 10000000) :
    iter (f60v1.s0 K) K (N, a, 0, ll, a, m) = some (a + 4 * N + Rs.tot ll, ll, a + 4 * N + Rs.tot ll, m ++ Rs.fcat ll) := by
  have := iter_for (stp := f60v1.s0 K) (N := N) (fun i => (N, a + 4 * i + Rs.tot (ll.take i), (i : Int), ll, a + 4 * i + Rs.tot (ll.take i), m ++ Rs.fcat (ll.take i))) (y := some (a + 4 * N + Rs.tot ll, ll, a + 4 * N + Rs.tot ll, m ++ Rs.fcat ll)) ?_ ?_ (K := K) (by omega)
  · simpa [Rs.tot, Rs.fcat] using this
  · intro i hi rec
    have hi' : i < ll.length := by omega
    have h1 := Rs.tot_next hi'
    have h2 := Rs.tot_take ll (i + 1)
    have h3 := (ho _ (Rs.at_mem hi')).1
    have hl : (m ++ Rs.fcat (ll.take i)).length = a + 4 * i + Rs.tot (ll.take i) := by
      have key : ∀ l : List Ent, (Rs.fcat l).length = 4 * l.length + Rs.tot l := fun l => by
        induction l with
        | nil => rfl
        | cons e l ih => simp only [Rs.fcat, Rs.tot, List.flatMap_cons, List.length_append, List.map_cons, List.sum_cons, List.length_cons, frame_length, Rs.sh_length] at ih ⊢; omega
      rw [List.length_append, ha, key, List.length_take]; omega
    simp only [f60v1.s0, f60v1.s0t]
    rw [decide_eq_true (show (i : Int) < ((N : Nat) : Int) by omega), cond_t, decide_eq_true (show (0 : Int) ≤ (i : Int) ∧ (i : Int) < ((N : Nat) : Int) by omega), cond_t, Int.toNat_natCast, Nat.zero_add, Rs.blt hi', cond_t, Nat.zero_add, ble_true (Nat.le_refl _), Nat.zero_add, ble_true (Nat.le_refl _), Bool.and_self, Bool.and_self, Bool.and_self, cond_t, subI_self _ hl]
    rw [show f94.F K (a + 4 * i + Rs.tot (ll.take i), (entAt ll i).1, a + 4 * i + Rs.tot (ll.take i), m ++ Rs.fcat (ll.take i), (entAt ll i).1, subI (entAt ll i).2.2 0 (entAt ll i).1) = _ from f94.spec K _ (entAt ll i).1 _ (Rs.sh (entAt ll i)) hl (Rs.sh_length _) (by omega) (by omega) (by omega), bind_s]
    simp only []
    rw [wrap_i _ (by omega) (by omega), List.append_assoc, ← Rs.fcat_next hi', show a + 4 * i + Rs.tot (ll.take i) + (4 + (entAt ll i).1) = a + 4 * (i + 1) + Rs.tot (ll.take (i + 1)) by omega]
    rfl
  · intro rec
    simp only [f60v1.s0, f60v1.s0t]
    rw [decide_eq_false (show ¬ ((N : Nat) : Int) < ((N : Nat) : Int) by omega), cond_f, List.take_of_length_le (by omega)]
theorem Rs.cut_length (name : ByteArray) (ll : List Ent) : (Sh.cut (strL name) (Rs.shs ll)).length = 8 + name.size + 4 * ll.length + Rs.tot ll := by
  have key : ∀ l : List Ent, (Rs.fcat l).length = 4 * l.length + Rs.tot l := fun l => by
    induction l with
    | nil => rfl
    | cons e l ih => simp only [Rs.fcat, Rs.tot, List.flatMap_cons, List.length_append, List.map_cons, List.sum_cons, List.length_cons, frame_length, Rs.sh_length] at ih ⊢; omega
  rw [Rs.fcat_cut, List.length_append, List.length_append, frame_length, be_length, key, strL_length]; omega
theorem Rs.cut_octets {b : Nat} (name : ByteArray) (ll : List Ent) (ho : Rs.ok b ll) : octets (Sh.cut (strL name) (Rs.shs ll)) := by
  rw [Rs.fcat_cut]
  refine octets_append (octets_append (frame_octets (strL_octets _)) (be_octets _ _)) fun x hx => ?_
  obtain ⟨e, he, hx⟩ := List.mem_flatMap.1 hx
  exact frame_octets (ho e he).2 x hx
theorem f60v1.spec (K N : Nat) (name : ByteArray) (ll : List Ent) (hs : name.size ≤ 1000000) (hN : ll.length = N) {b : Nat} (ho : Rs.ok b ll) (hNb : N ≤ 1000000) (ht : Rs.tot ll ≤ 1000000) (hb : b ≤ 1000000) (hK : N + 10 < K) :
    f60v1.F K (name, N, ll) = some (8 + name.size + 4 * N + Rs.tot ll, ll, 8 + name.size + 4 * N + Rs.tot ll, Sh.cut (strL name) (Rs.shs ll)) := by
  have hnl := strL_length name
  have hf := frame_length (strL name)
  rw [hnl] at hf
  simp only [f60v1.F, f60v1.T]
  have e1 := f94.spec K 0 name.size [] (strL name) rfl hnl (by omega) (by omega) (by omega)
  rw [Nat.zero_add, List.nil_append] at e1
  rw [Nat.zero_add, ble_true (Nat.le_refl name.size), Bool.and_self, Bool.and_self, cond_t, subI_self _ hnl, e1, bind_s]
  simp only []
  rw [Nat.zero_add, ble_true (Nat.le_refl (4 + name.size)), Bool.and_self, Bool.and_self, cond_t, subI_self _ hf, wrap_u _ (by omega) (by omega), f75.spec K _ N _ hf (by omega) (by omega) (by omega), bind_s]
  simp only []
  rw [f60v1.parts K N ll hN ho hNb ht hb hK _ (4 + name.size + 4) (by rw [List.length_append, hf, be_length]) (by omega), bind_s]
  simp only []
  rw [show 4 + name.size + 4 + 4 * N + Rs.tot ll = 8 + name.size + 4 * N + Rs.tot ll by omega, Rs.fcat_cut, hN]
theorem f25v1.spec (K N : Nat) (name : ByteArray) (ll : List Ent) (hs : name.size ≤ 100000) (hN : ll.length = N) {b : Nat} (ho : Rs.ok b ll) (hNb : N ≤ 10000) (ht : Rs.tot ll ≤ 100000) (hb : b ≤ 1000000) (hK : 100000 ≤ K) :
    f25v1.F K (name, N, ll) = some (Sh.sha (strL name) (Rs.shs ll), ll) := by
  simp only [f25v1.F, f25v1.T]
  have hl := Rs.cut_length name ll
  rw [hN] at hl
  rw [show Nat.beq N (List.length ll) = true by rw [hN]; exact Nat.beq_refl N, cond_t, f60v1.spec K N name ll (by omega) hN ho (by omega) (by omega) hb (by omega), bind_s]
  simp only []
  rw [Nat.zero_add, ble_true (Nat.le_refl _), Bool.and_self, Bool.and_self, cond_t, subI_self _ hl, f52.spec K _ _ hl (Rs.cut_octets name ll ho) (by omega) (by omega), bind_s, Sh.sha]
end Go.Proofs

namespace Go.Proofs
open Go.VM
end Go.Proofs

namespace Go.Proofs
open Go.VM
end Go.Proofs

namespace Go.Proofs
open Go.VM
end Go.Proofs

namespace Go.Proofs
open Go.VM
theorem f23v1.spec (N M : Nat) (name : ByteArray) (ll : List Ent) (hs : name.size ≤ 10000) (hM : M < 2 ^ 256) (hN : ll.length = N) {b : Nat} (ho : Rs.ok b ll) (h1 : 1 ≤ b) (hb : b ≤ 50000) (hNb : N ≤ 1000) (ht : Rs.tot ll ≤ 50000) :
    f23v1.F 100000 (num M, name, N, ll) = some (if M = 0 then num 0 else num (Sh.number M (strL name) (Rs.shs ll)), if M = 0 then 1 else 0, ll) := by
  have b1 := tv_lt 32 _ (sha_length (strL name) (Rs.shs ll ++ [[1]])) (sha_octets _ _)
  have b2 := tv_lt 32 _ (sha_length (strL name) (Rs.shs ll ++ [[0]])) (sha_octets _ _)
  have tl : ∀ x : Int, Rs.tot (ll ++ [((1, 1, [x]) : Ent)]) = Rs.tot ll + 1 := fun x => by simp [Rs.tot]
  have hl1 : ∀ x : Int, (ll ++ [((1, 1, [x]) : Ent)]).length = N + 1 := fun x => by rw [List.length_append, hN]; rfl
  simp only [f23v1.F, f23v1.T]
  have hz : ([0, 0, 0, 0] : List Int) = num 0 := rfl
  rw [hz, eqN M 0 hM (by decide), Bool.and_true]
  by_cases h0 : M = 0
  · rw [decide_eq_true h0, cond_t, if_pos h0, if_pos h0]
  · rw [decide_eq_false h0, cond_f, if_neg h0, if_neg h0, show Nat.beq N (List.length ll) = true by rw [hN]; exact Nat.beq_refl N, fitB_true (by omega), Bool.and_self, cond_t, hN, ble_true (Nat.le_refl N), fitB_true (by omega), Bool.and_self, cond_t, List.take_of_length_le (Nat.le_of_eq hN), hl1, Nat.beq_refl, cond_t]
    rw [f25v1.spec 100000 (N + 1) name _ (by omega) (hl1 0) (Rs.ok_snoc ho h1 (by omega)) (by omega) (by rw [tl]; omega) (by omega) (by omega), bind_s, cond_t, cond_t, hl1, Nat.beq_refl, cond_t,
      f25v1.spec 100000 (N + 1) name _ (by omega) (hl1 1) (Rs.ok_snoc ho h1 (by omega)) (by omega) (by rw [tl]; omega) (by omega) (by omega), bind_s]
    simp only []
    rw [subI_self _ (sha_length _ _), subI_self _ (sha_length _ _), f55.spec _ (sha_length _ _) (sha_octets _ _), bind_s, f55.spec _ (sha_length _ _) (sha_octets _ _), bind_s]
    simp only []
    rw [Rs.shs_snoc, Rs.shs_snoc, f56.spec _ _ _ b1 b2 hM, bind_s, if_neg h0]
    simp only [Sh.number]
theorem f21.spec (K N : Nat) (name : ByteArray) (ll : List Ent) (hN : ll.length = N) (hb : ∀ e ∈ ll, e.1 ≤ 140737488355328) (hK : 1000 < K) : ∃ g, f21.F K (name, N, ll) = some (g, ll) ∧ (g = false → name.size ≤ 5000 ∧ N ≤ 200 ∧ Rs.tot ll ≤ 20000) := by
  simp only [f21.F, f21.T]
  by_cases h0 : name.size > 5000
  · exact ⟨true, by rw [decide_eq_true (show ((name.size : Nat) : Int) > 5000 by omega), cond_t], fun h => by cases h⟩
  rw [decide_eq_false (show ¬ ((name.size : Nat) : Int) > 5000 by omega), cond_f]
  by_cases h : N > 200
  · exact ⟨true, by rw [decide_eq_true (show ((N : Nat) : Int) > 200 by omega), cond_t], fun h => by cases h⟩
  · obtain ⟨z, h1, h2⟩ := f46.spec K N ll hN hb (by omega) (by omega)
    refine ⟨decide (z > 20000), ?_, fun h3 => ?_⟩
    · rw [decide_eq_false (show ¬ ((N : Nat) : Int) > 200 by omega), cond_f, show Nat.beq N (List.length ll) = true by rw [hN]; exact Nat.beq_refl N, cond_t, h1, bind_s]
    · have := h2 (by have := of_decide_eq_false h3; omega)
      have := of_decide_eq_false h3
      omega
end Go.Proofs

namespace Go.Proofs
open Go.VM
abbrev f5.Ty0 := ByteArray × Nat × List Int × List Ent
abbrev f5.Ty1 := Bool × List Ent
def f5.T (K : Nat) (a0 : ByteArray) (a1 : Nat) (a2 : List Int) (m0 : List Ent) : Option (f5.Ty1) :=
  bif Nat.beq a1 (List.length m0) then
    (f21.F K (a0, a1, m0)).bind fun y1 =>
    bif y1.1 then
      some (true, m0)
    else
      (f14.F K (a1, m0)).bind fun y2 =>
      bif (Nat.ble y2.1 (List.length y2.2.2.2.2) && (Nat.ble y2.1 y2.2.1)) then
        (f22v1.F K (a2, a0, y2.1, (List.take y2.1 y2.2.2.2.2))).bind fun y3 =>
        bif Nat.beq a1 (List.length m0) then
          (f23v1.F K (a2, a0, a1, m0)).bind fun y4 =>
          bif (Nat.ble y2.1 (List.length y2.2.2.2.2) && (Nat.ble y2.1 y2.2.1)) then
            (f24v1.F K (a0, y2.1, (List.take y2.1 y2.2.2.2.2))).bind fun y5 =>
            bif Nat.beq a1 (List.length m0) then
              (f25v1.F K (a0, a1, m0)).bind fun y6 =>
              bif (eqL 32 y5.1 y6.1 && true) then
                bif (eqL 4 y3.1 y4.1 && true) then
                  bif (y3.2.1 == y4.2.1) then
                    (f18.F K (y2.1, y2.2.1, a1, y2.2.2.2.1, y2.2.2.2.2, m0)).bind fun y10 =>
                    some (y10.1, m0)
                  else
                    some (false, m0)
                else
                  some (false, m0)
              else
                some (false, m0)
            else
              none
          else
            none
        else
          none
      else
        none
  else
    none
def f5.F (K : Nat) (x : f5.Ty0) : Option (f5.Ty1) := f5.T K x.1 x.2.1 x.2.2.1 x.2.2.2
def f5.av (x : f5.Ty0) : List VV := [.str x.1, .vw true 0 0 x.2.1 1, .agg [.ints .u64 4 x.2.2.1]]
def f5.bl (x : f5.Ty0) : List (Nat × Blk) := [(0, ([], 0, .rr false 2 x.2.2.2))]
def f5.inA : VS → Option (f5.Ty0)
  | ⟨[(0, .str a0), (1, .vw true 0 0 a1 1), (2, .agg [.ints .u64 4 a2])], [(0, ([], 0, .rr false 2 m0))], 3⟩ => some (a0, a1, a2, m0)
  | _ => none
def f5.o0 (y : f5.Ty1) : VS := ⟨[(0, .bool y.1)], [(0, ([], 0, .rr false 2 y.2))], 3⟩
def f5.inR : VS → Option (f5.Ty1)
  | ⟨[(0, .bool y)], [(0, ([], 0, .rr false 2 z0))], 3⟩ => some (y, z0)
  | _ => none
noncomputable def f5.E (K : Nat) : Entry := genE 3 f5.inA (f5.F K) (dv1 f5.o0)
theorem f5.ok (K : Nat) : EntryOK Try.prog 5 (f5.E K) := gen_ok mix tys_ok (sp := tabSp [(21, (rwE 1 (f21.E K))), (14, (f14.E K)), (22, (rwE 2 (f22v1.E K))), (23, (rwE 2 (f23v1.E K))), (24, (rwE 1 (f24v1.E K))), (25, (rwE 1 (f25v1.E K))), (18, (f18.E K))]) (tab_ok ((tab_cons (rw_ok (f21.ok K)) (tab_cons (f14.ok K) (tab_cons (rw_ok (f22v1.ok K)) (tab_cons (rw_ok (f23v1.ok K)) (tab_cons (rw_ok (f24v1.ok K)) (tab_cons (rw_ok (f25v1.ok K)) (tab_cons (f18.ok K) tab_nil))))))))) Try.func5 (c := bodyOf Try.f5) (by kernel_rfl) (by kernel_rfl) (loops_none (lp := lpNone) (by kernel_rfl)) (av := f5.av) (bl := f5.bl) (inR := f5.inR) (out := f5.o0) (fuel := 400)
  (by intro s x h; unfold f5.inA at h; split at h <;> simp at h; subst h; rfl) (fun _ => Nat.le_of_ble_eq_true rfl)
  (by intro s y h; unfold f5.inR at h; split at h <;> simp at h <;> subst h <;> rfl) (fun _ _ _ => rfl) (fun _ => by kernel_rfl)
end Go.Proofs

namespace Go.Proofs
open Go.VM
end Go.Proofs

namespace Go.Proofs
open Go.VM
theorem f5.holds (name : ByteArray) (_hs : name.size ≤ maxLen) (ps : List (List Int)) (po : ∀ p ∈ ps, octets p) (pb : ∀ p ∈ ps, p.length ≤ 140737488351232) (M : Nat) (hM : M < 2 ^ 256) :
    f5.F 100000 (name, ps.length, num M, Rs.ents ps) = some (true, Rs.ents ps) := by
  generalize hpn : ps.length = N
  have hN : (Rs.ents ps).length = N := by rw [Rs.ents_length, hpn]
  have hb : ∀ e ∈ Rs.ents ps, e.1 ≤ 140737488355328 := fun e he => by
    have := pb _ (Rs.ents_sh he).1
    rw [Rs.sh_length] at this; omega
  have hq : Nat.beq N (List.length (Rs.ents ps)) = true := by rw [hN]; exact Nat.beq_refl N
  simp only [f5.F, f5.T]
  obtain ⟨g, hg, hg2⟩ := f21.spec 100000 N name (Rs.ents ps) hN hb (by omega)
  rw [hq, cond_t, hg, bind_s]
  simp only []
  cases g with
  | true => rw [cond_t]
  | false =>
  obtain ⟨hn, h60, ht⟩ := hg2 rfl
  rw [cond_f]
  have hb2 : ∀ e ∈ Rs.ents ps, e.1 ≤ 20000 := fun e he => Nat.le_trans (Rs.tot_mem he) ht
  have ho : Rs.ok 20000 (Rs.ents ps) := Rs.ents_ok po hb2
  have hs : ∀ e ∈ Rs.ents ps, e.2.2 = Rs.sh e := fun e he => (Rs.ents_sh he).2
  rw [f14.spec 100000 N _ hN (fun e he => by have := hb2 e he; omega) (by omega) (.inr ⟨fun e he => by have := hb2 e he; omega, by omega⟩), bind_s]
  simp only []
  have hlt : (List.map Rs.tw (Rs.ents ps)).length = N := by rw [List.length_map, hN]
  have htk : List.take N (List.map Rs.tw (Rs.ents ps) ++ [(1, 1, [77])]) = List.map Rs.tw (Rs.ents ps) := by rw [List.take_append_of_le_length (by omega), List.take_of_length_le (by omega)]
  have hl1 : (List.map Rs.tw (Rs.ents ps) ++ [(1, 1, [77])]).length = N + 1 := by rw [List.length_append, hlt]; rfl
  rw [hl1, ble_true (show N ≤ N + 1 by omega), Bool.and_self, cond_t, htk, f22v1.spec N M name _ (by omega) hM hlt (Rs.tw_ok ho) (by omega) (by omega) (by omega), bind_s, f23v1.spec N M name _ (by omega) hM hN ho (by omega) (by omega) (by omega) (by omega), bind_s, cond_t, f24v1.spec 100000 N name _ (by omega) hlt (Rs.tw_ok ho) (by omega) (by omega) (by omega), bind_s, cond_t, f25v1.spec 100000 N name _ (by omega) hN ho (by omega) (by omega) (by omega) (by omega), bind_s]
  simp only []
  rw [Rs.shs_tw, eqL_refl, eqL_refl, Bool.and_self, cond_t, cond_t, beq_self_eq_true, cond_t]
  rw [f18.spec 100000 N _ hN hs (fun e he => by have := hb2 e he; omega) (by omega) (by omega) (fun e he => by have := hb2 e he; omega), bind_s]
  simp only []
  rw [cond_t]
end Go.Proofs
