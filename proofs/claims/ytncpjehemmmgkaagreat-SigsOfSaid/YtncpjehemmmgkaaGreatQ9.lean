/- Plain laws: lemmas that hold with no condition but those that each states. -/
import Derived.Test.YtncpjehemmmgkaaGreatQ2
import Derived.Test.YtncpjehemmmgkaaGreatQ8
import Derived.Test.YtncpjehemmmgkaaGreatQ3
import Derived.Test.YtncpjehemmmgkaaGreatQ7
namespace Go.Proofs
open Go.VM
namespace f94
abbrev Ty0 := Nat × Int × Int × Int × Nat × List Int
abbrev Ty1 := Nat × Int × Nat × List Int
abbrev Ty2 := Int × Nat × List Int
noncomputable def c : Code := bodyOf Tryz.f94
def s0t (K : Nat) (rec : Ty0 → Option (Ty2)) (t0 : Nat) (t1 : Int) (t5 : Int) (t6 : Int) (b0_0 : Nat) (b0_1 : List Int) : Option (Ty2) :=
 bif (decide (t6 < ((t0 : Nat) : Int))) then
 bif decide (0 ≤ t6 ∧ t6 ≤ ((t0 : Nat) : Int)) then
 let v3 := 0 + (Int.toNat t6)
 let v4 := t0 - (Int.toNat t6)
 bif ((Nat.ble (v3 + v4) b0_0 && true) && true) then
 (f107.F K (v4, 8, v4, (subI b0_1 v3 v4))).bind fun y5 =>
 (f70.F K (t5, y5.1, t1)).bind fun y6 =>
 rec (t0, t1, y6.2, (IntKind.wrap .i64 (t6 + 8)), b0_0, b0_1)
 else
 none
 else
 none
 else
 some (t5, b0_0, b0_1)
def s0 (K : Nat) (rec : Ty0 → Option (Ty2)) (x : Ty0) : Option (Ty2) := s0t K rec x.1 x.2.1 x.2.2.1 x.2.2.2.1 x.2.2.2.2.1 x.2.2.2.2.2
noncomputable def s0.b : Code := (findLoop 0 c).getD .skip
def s0.h : Hint := { lv := [0, 1, 5, 6] }
def s0.ho : Hint := { lv := [5] }
def s0.shp (x : Ty0) : VS := ⟨[(0, .vw true 0 0 x.1 1), (1, .int .u64 x.2.1), (5, .int .u64 x.2.2.1), (6, .int .i64 x.2.2.2.1)], [(0, ([.ints .u8 x.2.2.2.2.1 x.2.2.2.2.2], 0, .ro))], 2⟩
def s0.inX : VS → Option (Ty0)
 | ⟨[(0, .vw true 0 0 t0 1), (1, .int .u64 t1), (5, .int .u64 t5), (6, .int .i64 t6)], [(0, ([.ints .u8 b0_0 b0_1], 0, .ro))], 2⟩ => some (t0, t1, t5, t6, b0_0, b0_1)
 | _ => none
def s0.o0 (y : Ty2) : VS := ⟨[(5, .int .u64 y.1)], [(0, ([.ints .u8 y.2.1 y.2.2], 0, .ro))], 2⟩
def s0.des : ∀ α : Type, (Ty2) → (Ex → VS → Option α) → Option α := (des1 (.exit 0) s0.o0)
def s0.out : Ty2 → Ex × VS := (fun y => (.exit 0, s0.o0 y))
theorem s0.desOK : ∀ α y (k : Ex → VS → Option α), s0.des α y k = k (s0.out y).1 (s0.out y).2 := (fun _ _ _ => rfl)
def s0.inY : Ex → VS → Option (Ty2)
 | .exit 0, ⟨[(5, .int .u64 t5)], [(0, ([.ints .u8 b0_0 b0_1], 0, .ro))], 2⟩ => some (t5, b0_0, b0_1)
 | _, _ => none
def lp (K : Nat) : Nat → Option (Hint × Summ) := tabLp [(0, s0.h, summOf (iter (s0 K) K) s0.inX s0.des)]
noncomputable def tab (K : Nat) : List (Nat × Entry) := [(107, (viewE [(0, .u8)] (f107.E K))), (70, (f70.E K))]
theorem tabOK (K : Nat) : SpecOK Tryz.prog (tabSp (tab K)) := tab_ok ((tab_cons (view_ok (f107.ok K)) (tab_cons (f70.ok K) tab_nil)))
theorem s0.eq (K : Nat) (rec : Ty0 → Option (Ty2)) (x : Ty0) : s0 K rec x = roundL (getA tys) (tabSp (tab K)) 30 2 (lp K) 400 s0.b s0.h s0.ho s0.shp s0.inX s0.inY rec x := by kernel_rfl
theorem s0.lok (K : Nat) : LoopsOK Tryz.prog 30 2 (lp K) s0.b := loops_ok (by
  have h : loopsIn (lp K) s0.b = [] := by kernel_rfl
  rw [h]; simp)
theorem s0.ok (K : Nat) : SummOK Tryz.prog 30 2 (summOf (iter (s0 K) K) s0.inX s0.des) s0.b :=
  loop_ok mix tys_ok (tabOK K) (h := s0.h) (ho := s0.ho) (shp := s0.shp) (inX := s0.inX) (des := s0.des) (out := s0.out) (inY := s0.inY) (fuel := 400)
    (by intro st x h; unfold s0.inX at h; split at h <;> simp at h; subst h; rfl)
    (by intro e st y h; unfold s0.inY at h; split at h <;> simp at h <;> subst h <;> rfl)
    s0.desOK (s0.lok K) (s0 K) (s0.eq K) K
theorem loops (K : Nat) : LoopsOK Tryz.prog 30 2 (lp K) c := loops_ok (by
  have h : loopsIn (lp K) c = [(0, s0.b)] := by kernel_rfl
  rw [h]
  intro p hp
  simp only [List.mem_cons, List.not_mem_nil, or_false] at hp
  rcases hp with rfl
  · exact ⟨_, rfl, (s0.ok K)⟩)
def T (K : Nat) (a0 : Nat) (a1 : Int) (m0_0 : Nat) (m0_1 : List Int) : Option (Ty2) :=
 (iter (s0 K) K (a0, a1, 0, 0, m0_0, m0_1)).bind fun y8 =>
 some (y8.1, y8.2.1, y8.2.2)
def F (K : Nat) (x : Ty1) : Option (Ty2) := T K x.1 x.2.1 x.2.2.1 x.2.2.2
def av (x : Ty1) : List VV := [.vw true 0 0 x.1 1, .int .u64 x.2.1]
def bl (x : Ty1) : List (Nat × Blk) := [(0, ([.ints .u8 x.2.2.1 x.2.2.2], 0, .ro))]
def inA : VS → Option (Ty1)
 | ⟨[(0, .vw true 0 0 a0 1), (1, .int .u64 a1)], [(0, ([.ints .u8 m0_0 m0_1], 0, .ro))], 2⟩ => some (a0, a1, m0_0, m0_1)
 | _ => none
def o0 (y : Ty2) : VS := ⟨[(0, .int .u64 y.1)], [(0, ([.ints .u8 y.2.1 y.2.2], 0, .ro))], 2⟩
def des : ∀ α : Type, (Ty2) → (VS → Option α) → Option α := (dv1 o0)
def out : Ty2 → VS := o0
def inR : VS → Option (Ty2)
 | ⟨[(0, .int .u64 y)], [(0, ([.ints .u8 z0_0 z0_1], 0, .ro))], 2⟩ => some (y, z0_0, z0_1)
 | _ => none
noncomputable def E (K : Nat) : Entry := genE 2 inA (F K) des
theorem eq (K : Nat) (x : Ty1) : F K x = xrun (getA tys) (tabSp (tab K)) Tryz.f94.ntmps 2 (lp K) 400 c ⟨initL 0 (av x), bl x, 2⟩ (contF (getA tys) 2 Tryz.f94.results.toList inR) := by kernel_rfl
theorem ok (K : Nat) : EntryOK Tryz.prog 94 (E K) :=
  gen_ok mix tys_ok (tabOK K) Tryz.func94 (by kernel_rfl : Tryz.f94.body = some c) (by kernel_rfl) (loops K) (av := av) (bl := bl) (out := out) (fuel := 400)
    (by intro s x h; unfold inA at h; split at h <;> simp at h; subst h; rfl) (fun _ => Nat.le_of_ble_eq_true rfl)
    (by intro s y h; unfold inR at h; split at h <;> simp at h <;> subst h <;> rfl) (fun _ _ _ => rfl) (eq K)
end f94
end Go.Proofs

namespace Go.Proofs
open Go.VM
namespace f66
abbrev Ty0 := List Int × List Int × List Int
def T (K : Nat) (a0 : List Int) (a1 : List Int) (a2 : List Int) : Option (List Int × Int) :=
 bif (eqL 4 a2 [0, 0, 0, 0] && true) then
 some (a2, 1)
 else
 (f43.F K (0, a1, 0, [])).bind fun y2 =>
 bif ((Nat.ble (0 + y2.1) y2.2.2.2.1 && true) && true) then
 (f43.F K (y2.1, a0, y2.1, (subI y2.2.2.2.2 0 y2.1))).bind fun y3 =>
 (f52.F K a2).bind fun y4 =>
 bif y4 then
 bif ((Nat.ble (0 + y3.1) y3.2.2.2.1 && true) && true) then
 (f94.F K (y3.1, (List.getD a2 0 0), y3.1, (subI y3.2.2.2.2 0 y3.1))).bind fun y6 =>
 (f53.F K y6.1).bind fun y7 =>
 some (y7, 0)
 else
 none
 else
 bif ((Nat.ble (0 + y3.1) y3.2.2.2.1 && true) && true) then
 (f95.F K (y3.1, a2, y3.1, (subI y3.2.2.2.2 0 y3.1))).bind fun y8 =>
 some (y8.2.1, 0)
 else
 none
 else
 none
def F (K : Nat) (x : Ty0) : Option (List Int × Int) := T K x.1 x.2.1 x.2.2
def av (x : Ty0) : List VV := [.agg [.ints .u64 4 x.1], .agg [.ints .u64 4 x.2.1], .agg [.ints .u64 4 x.2.2]]
def bl (_x : Ty0) : List (Nat × Blk) := []
def inA : VS → Option (Ty0)
 | ⟨[(0, .agg [.ints .u64 4 a0]), (1, .agg [.ints .u64 4 a1]), (2, .agg [.ints .u64 4 a2])], [], 0⟩ => some (a0, a1, a2)
 | _ => none
def o0 (y : List Int × Int) : VS := ⟨[(0, .tup [.agg [.ints .u64 4 y.1], .int .i64 y.2])], [], 0⟩
def inR : VS → Option (List Int × Int)
 | ⟨[(0, .tup [.agg [.ints .u64 4 y_0], .int .i64 y_1])], [], 0⟩ => some (y_0, y_1)
 | _ => none
noncomputable def E (K : Nat) : Entry := genE 0 inA (F K) (dv1 o0)
theorem ok (K : Nat) : EntryOK Tryz.prog 66 (E K) := gen_ok mix tys_ok (sp := tabSp [(43, (viewE [(0, .u8)] (f43.E K))), (52, (f52.E K)), (94, (viewE [(0, .u8)] (f94.E K))), (53, (f53.E K)), (95, (viewE [(0, .u8)] (f95.E K)))]) (tab_ok ((tab_cons (view_ok (f43.ok K)) (tab_cons (f52.ok K) (tab_cons (view_ok (f94.ok K)) (tab_cons (f53.ok K) (tab_cons (view_ok (f95.ok K)) tab_nil))))))) Tryz.func66 (c := bodyOf Tryz.f66) (by kernel_rfl) (by kernel_rfl) (loops_none (lp := lpNone) (by kernel_rfl)) (av := av) (bl := bl) (inR := inR) (out := o0) (fuel := 400)
  (by intro s x h; unfold inA at h; split at h <;> simp at h; subst h; rfl) (fun _ => Nat.le_of_ble_eq_true rfl)
  (by intro s y h; unfold inR at h; split at h <;> simp at h <;> subst h <;> rfl) (fun _ _ _ => rfl) (fun _ => by kernel_rfl)
end f66
end Go.Proofs

namespace Go.Proofs
open Go.VM
theorem tv_take_succ (l : List Int) (i : Nat) (h : i < l.length) : tv (l.take (i + 1)) = 256 * tv (l.take i) + (List.getD l i 0).toNat := by
  rw [List.take_add_one, List.getElem?_eq_getElem h, Option.toList_some, tv_snoc]
  simp [h]
theorem byte_of (Q G : Nat) (h : G < 256) : (256 * Q + G) / 256 = Q ∧ (256 * Q + G) % 256 = G := by omega
theorem f95.spec (n M : Nat) (l : List Int) (hM0 : 0 < M) (hM : M < 2 ^ 256) (hn : n < 90000) (hl : l.length = n) (ho : octets l) :
    f95.F 100000 (n, num M, n, l) = some (n, num (tv l % M), n, l, n, be n (tv l / M)) := by
  have hz : ([0, 0, 0, 0] : List Int) = num 0 := rfl
  have key := iter_for (stp := f95.s0 100000) (N := n) (fun i => (n, i, (i : Int), n, l, num M, ([0, 0, 0, 0] : List Int), i, be i (tv (l.take i) / M), num (tv (l.take i) % M)))
    (y := some (n, n, l, ([0, 0, 0, 0] : List Int), n, be n (tv l / M), num (tv l % M))) (fun i hi rec => by
      simp only [f95.s0, f95.s0t]
      have hx := ho (List.getD l i 0) (by rw [List.getD_eq_getElem?_getD, List.getElem?_eq_getElem (by omega)]; exact List.getElem_mem _)
      obtain ⟨c, hc⟩ : ∃ c : Nat, List.getD l i 0 = (c : Int) := ⟨(List.getD l i 0).toNat, by omega⟩
      have hc8 : c < 256 := by omega
      obtain ⟨T, hT⟩ : ∃ T, T = tv (l.take i) := ⟨_, rfl⟩
      have hX := Nat.mod_lt T hM0
      have w2 : IntKind.wrap .i64 ((i : Int) + 1) = ((i + 1 : Nat) : Int) := by rw [wrap_i _ (by omega) (by omega)]; rfl
      have hd := Nat.mod_add_div T M
      have hgo : (256 * (T % M) + c) / M < 256 := by
        rw [Nat.div_lt_iff_lt_mul hM0]; omega
      have e1 : (256 * T + c) / M = 256 * (T / M) + (256 * (T % M) + c) / M ∧ (256 * T + c) % M = (256 * (T % M) + c) % M := by
        have h3 : 256 * T + c = M * (256 * (T / M)) + (256 * (T % M) + c) := by rw [Nat.mul_left_comm]; omega
        rw [h3, Nat.mul_add_div hM0, Nat.mul_add_mod]
        exact ⟨rfl, rfl⟩
      have e2 : be (i + 1) ((256 * T + c) / M) = be i (T / M) ++ [(((256 * (T % M) + c) / M : Nat) : Int)] := by
        rw [be, e1.1, (byte_of _ _ hgo).1, (byte_of _ _ hgo).2]
      have e3 : tv (l.take (i + 1)) = 256 * T + c := by rw [tv_take_succ l i (by omega), hc, hT]; rfl
      have w3 : IntKind.wrap .u8 (((256 * (T % M) + c) / M : Nat) : Int) = (((256 * (T % M) + c) / M : Nat) : Int) := wrap_b _ (Int.natCast_nonneg _) (Int.ofNat_lt.2 hgo)
      rw [decide_eq_true (show (i : Int) < (n : Int) by omega), cond_t, ← hT, f95.byte n i i M (T % M) c l _ _ i hM hX hi (by omega) hl hc hc8, bind_s]
      simp only []
      rw [ble_true (Nat.le_refl i), Bool.true_and, fitB_true (by omega), cond_t, padT_self _ (be_length i _), w2, w3, e3, e2, e1.2])
    (fun rec => by
      simp only [f95.s0, f95.s0t]
      rw [decide_eq_false (Int.lt_irrefl _), cond_f, List.take_of_length_le (by omega)]) (show n < 100000 by omega)
  have hstart : tv (l.take 0) = 0 := by rw [List.take_zero]; rfl
  simp only [hstart, Nat.zero_div, Nat.zero_mod] at key
  simp only [f95.F, f95.T]
  have key' : iter (f95.s0 100000) 100000 (n, 0, 0, n, l, num M, [0, 0, 0, 0], 0, [], [0, 0, 0, 0]) = some (n, n, l, ([0, 0, 0, 0] : List Int), n, be n (tv l / M), num (tv l % M)) := key
  rw [key', bind_s]
theorem f52.spec (A : Nat) (hA : A < 2 ^ 256) : f52.F 100000 (num A) = some (decide (A < 2 ^ 64)) := by
  have e0 : List.getD (num A) 0 0 = ((A % 18446744073709551616 : Nat) : Int) := by
    have : (num A).getD 0 0 = ((A / 2 ^ (64 * 0) % 2 ^ 64 : Nat) : Int) := getD_words (by decide)
    rw [this, Nat.mul_zero, Nat.pow_zero, Nat.div_one]
  simp only [f52.F, f52.T, e0]
  rw [f53.spec _ _ (Nat.mod_lt _ (by decide)), bind_s, eqN A _ hA (by omega), Bool.and_true]
  congr 1
  by_cases h : A < 2 ^ 64
  · rw [decide_eq_true h, decide_eq_true (by omega)]
  · rw [decide_eq_false h, decide_eq_false (by omega)]
end Go.Proofs

namespace Go.Proofs
open Go.VM
theorem f107.spec (n : Nat) (l : List Int) (hl : l.length = n) (ho : octets l) (h8 : 8 ≤ n) (hn : n < 90000) : f107.F 100000 (n, 8, n, l) = some (((tv (l.take 8) : Nat) : Int), 0, n, l) := by
  have ht := told_at l 0 ho (by omega) (by omega)
  rw [List.drop_zero] at ht
  simp only [f107.F, f107.T]
  rw [decide_eq_false (show ¬ (8 : Int) < 0 by decide), cond_f, decide_eq_false (show ¬ (8 : Int) > 8 by decide), cond_f, decide_eq_false (show ¬ (8 : Int) > (n : Int) by omega), cond_f, decide_eq_true (show (0 : Int) ≤ 8 ∧ (8 : Int) ≤ (n : Int) by omega), Bool.true_and, cond_t]
  rw [show Int.toNat 8 = 8 from rfl, Nat.zero_add, ble_true h8, Bool.true_and, Bool.true_and, cond_t, ht, bind_s]
theorem f94.spec (k M : Nat) (l : List Int) (hM0 : 0 < M) (hM : M < 18446744073709551616) (hk : k < 10000) (hl : l.length = 8 * k) (ho : octets l) :
    f94.F 100000 (8 * k, (M : Int), 8 * k, l) = some (((tv l % M : Nat) : Int), 8 * k, l) := by
  have key := iter_for (stp := f94.s0 100000) (N := k) (fun j => (8 * k, (M : Int), ((tv (l.take (8 * j)) % M : Nat) : Int), ((8 * j : Nat) : Int), 8 * k, l)) (y := some (((tv l % M : Nat) : Int), 8 * k, l)) (fun j hj rec => by
      simp only [f94.s0, f94.s0t]
      obtain ⟨T, hT⟩ : ∃ T, T = tv (l.take (8 * j)) := ⟨_, rfl⟩
      have hlt := Nat.mod_lt T hM0
      have hlen : ((l.drop (8 * j)).take (8 * k - 8 * j)).length = 8 * k - 8 * j := by simp; omega
      have hoc : octets ((l.drop (8 * j)).take (8 * k - 8 * j)) := fun x hx => ho x (List.mem_of_mem_drop (List.mem_of_mem_take hx))
      have hw : ((l.drop (8 * j)).take (8 * k - 8 * j)).take 8 = (l.drop (8 * j)).take 8 := by rw [List.take_take, Nat.min_eq_left (by omega)]
      have l8 : ((l.drop (8 * j)).take 8).length = 8 := by simp; omega
      have b8 := tv_lt 8 _ l8 (fun x hx => ho x (List.mem_of_mem_drop (List.mem_of_mem_take hx)))
      have e3 : tv (l.take (8 * (j + 1))) = T * 18446744073709551616 + tv ((l.drop (8 * j)).take 8) := by
        rw [show 8 * (j + 1) = 8 * j + 8 by omega, List.take_add, tv_append, l8, hT]
      have w2 : IntKind.wrap .i64 (((8 * j : Nat) : Int) + 8) = ((8 * (j + 1) : Nat) : Int) := by rw [wrap_i _ (by omega) (by omega)]; omega
      rw [decide_eq_true (show ((8 * j : Nat) : Int) < ((8 * k : Nat) : Int) by omega), cond_t, decide_eq_true (show (0 : Int) ≤ ((8 * j : Nat) : Int) ∧ ((8 * j : Nat) : Int) ≤ ((8 * k : Nat) : Int) by omega), cond_t, Int.toNat_natCast, Nat.zero_add,
        ble_true (show 8 * j + (8 * k - 8 * j) ≤ 8 * k by omega), Bool.true_and, Bool.true_and, cond_t, subI_cut l _ _ (by omega), f107.spec _ _ hlen hoc (by omega) (by omega), bind_s, hw, ← hT]
      simp only []
      rw [f70.spec 100000 _ _ M hM hlt b8 (by decide), bind_s, w2, e3, mod_step])
    (fun rec => by
      simp only [f94.s0, f94.s0t]
      rw [decide_eq_false (Int.lt_irrefl _), cond_f, List.take_of_length_le (by omega)]) (show k < 100000 by omega)
  simp only [f94.F, f94.T]
  have hstart : tv (l.take (8 * 0)) = 0 := by rw [Nat.mul_zero, List.take_zero]; rfl
  simp only [hstart, Nat.zero_mod] at key
  have key' : iter (f94.s0 100000) 100000 (8 * k, (M : Int), 0, 0, 8 * k, l) = some (((tv l % M : Nat) : Int), 8 * k, l) := key
  rw [key', bind_s]
theorem f66.spec (L H M : Nat) (hL : L < 2 ^ 256) (hH : H < 2 ^ 256) (hM : M < 2 ^ 256) : f66.F 100000 (num L, num H, num M) = some (if M = 0 then (num 0, 1) else (num ((H * 2 ^ 256 + L) % M), 0)) := by
  have hz : ([0, 0, 0, 0] : List Int) = num 0 := rfl
  have p0 : (0 : Nat) < 2 ^ 256 := by decide
  simp only [f66.F, f66.T, hz, eqN M 0 hM p0, Bool.and_true]
  by_cases h0 : M = 0
  · rw [decide_eq_true h0, cond_t, if_pos h0, h0]
  · have hM0 : 0 < M := by omega
    have hlen : (be 32 H ++ be 32 L).length = 64 := by rw [List.length_append, be_length, be_length]
    have hoc : octets (be 32 H ++ be 32 L) := octets_append (be_octets _ _) (be_octets _ _)
    have htv : tv (be 32 H ++ be 32 L) = H * 2 ^ 256 + L := by
      rw [tv_append, tv_be, tv_be, be_length, pow_bytes, show 8 * 32 = 256 from rfl, Nat.mod_eq_of_lt hH, Nat.mod_eq_of_lt hL]
    rw [decide_eq_false h0, cond_f, if_neg h0, f43.spec 0 H [] rfl (by decide), bind_s]
    simp only [Nat.zero_add, List.nil_append]
    rw [ble_true (Nat.le_refl 32), cond_t, subI_self _ (be_length 32 H), f43.spec 32 L _ (be_length 32 H) (by decide), bind_s, f52.spec M hM, bind_s]
    simp only [Nat.zero_add]
    by_cases hm : M < 2 ^ 64
    · have g0 : List.getD (num M) 0 0 = (M : Int) := by
        have : (num M).getD 0 0 = ((M / 2 ^ (64 * 0) % 2 ^ 64 : Nat) : Int) := getD_words (by decide)
        rw [this, Nat.mul_zero, Nat.pow_zero, Nat.div_one, Nat.mod_eq_of_lt hm]
      have hw := f94.spec 8 M (be 32 H ++ be 32 L) hM0 hm (by decide) hlen hoc
      rw [decide_eq_true hm, cond_t, ble_true (Nat.le_refl (32 + 32)), cond_t, g0, subI_self _ hlen]
      rw [show (32 + 32 : Nat) = 8 * 8 from rfl, hw, bind_s, htv, f53.spec _ _ (by have := Nat.mod_lt (H * 2 ^ 256 + L) hM0; omega), bind_s]
    · rw [decide_eq_false hm, cond_f, ble_true (Nat.le_refl (32 + 32)), cond_t, subI_self _ hlen]
      rw [show (32 + 32 : Nat) = 64 from rfl, f95.spec 64 M _ hM0 hM (by decide) hlen hoc, bind_s, htv]
end Go.Proofs

namespace Go.Proofs
open Go.VM
namespace f105
abbrev Ty0 := Nat × Nat × List Int × Nat × List Int × Nat × List Int
abbrev Ty1 := Nat × Nat × Nat × List Int × Nat × List Int
def T (K : Nat) (a0 : Nat) (a1 : Nat) (m0_0 : Nat) (m0_1 : List Int) (m2_0 : Nat) (m2_1 : List Int) : Option (Ty0) :=
 (f68.F K ((IntKind.wrap .u64 ((a1 : Nat) : Int)), 4)).bind fun y3 =>
 alt (fun y4 =>
 bif ((Nat.ble (0 + a1) m2_0 && true) && true) then
 (f67.F K (0, a1, 0, [], a1, (subI m2_1 0 a1))).bind fun y6 =>
 bif ((Nat.ble (0 + a0) m0_0 && true) && ((Nat.ble (0 + y6.1) y6.2.2.2.2.2.1 && true) && true)) then
 (f67.F K (a0, y6.1, a0, (subI m0_1 0 a0), y6.1, (subI y6.2.2.2.2.2.2 0 y6.1))).bind fun y7 =>
 some (y7.1, m0_0, m0_1, m2_0, m2_1, y7.2.2.2.2.2.1, y7.2.2.2.2.2.2)
 else
 none
 else
 none) (fun y5 =>
 bif ((Nat.ble (0 + y5.1) y5.2.1 && true) && ((Nat.ble (0 + a1) m2_0 && true) && true)) then
 (f67.F K (y5.1, a1, y5.1, (subI y5.2.2 0 y5.1), a1, (subI m2_1 0 a1))).bind fun y8 =>
 bif ((Nat.ble (0 + a0) m0_0 && true) && ((Nat.ble (0 + y8.1) y8.2.2.2.2.2.1 && true) && true)) then
 (f67.F K (a0, y8.1, a0, (subI m0_1 0 a0), y8.1, (subI y8.2.2.2.2.2.2 0 y8.1))).bind fun y9 =>
 some (y9.1, m0_0, m0_1, m2_0, m2_1, y9.2.2.2.2.2.1, y9.2.2.2.2.2.2)
 else
 none
 else
 none) y3
def F (K : Nat) (x : Ty1) : Option (Ty0) := T K x.1 x.2.1 x.2.2.1 x.2.2.2.1 x.2.2.2.2.1 x.2.2.2.2.2
def av (x : Ty1) : List VV := [.vw true 0 0 x.1 1, .vw true 2 0 x.2.1 3]
def bl (x : Ty1) : List (Nat × Blk) := [(0, ([.ints .u8 x.2.2.1 x.2.2.2.1], 0, .ro)), (2, ([.ints .u8 x.2.2.2.2.1 x.2.2.2.2.2], 0, .ro))]
def inA : VS → Option (Ty1)
 | ⟨[(0, .vw true 0 0 a0 1), (1, .vw true 2 0 a1 3)], [(0, ([.ints .u8 m0_0 m0_1], 0, .ro)), (2, ([.ints .u8 m2_0 m2_1], 0, .ro))], 4⟩ => some (a0, a1, m0_0, m0_1, m2_0, m2_1)
 | _ => none
def o0 (y : Ty0) : VS := ⟨[(0, .vec 4 0 y.1 5)], [(0, ([.ints .u8 y.2.1 y.2.2.1], 0, .ro)), (2, ([.ints .u8 y.2.2.2.1 y.2.2.2.2.1], 0, .ro)), (4, ([.ints .u8 y.2.2.2.2.2.1 y.2.2.2.2.2.2], 5, .vec 5))], 6⟩
def inR : VS → Option (Ty0)
 | ⟨[(0, .vec 4 0 y 5)], [(0, ([.ints .u8 z0_0 z0_1], 0, .ro)), (2, ([.ints .u8 z2_0 z2_1], 0, .ro)), (4, ([.ints .u8 z4_0 z4_1], 5, .vec 5))], 6⟩ => some (y, z0_0, z0_1, z2_0, z2_1, z4_0, z4_1)
 | _ => none
noncomputable def E (K : Nat) : Entry := genE 4 inA (F K) (dv1 o0)
theorem ok (K : Nat) : EntryOK Tryz.prog 105 (E K) := gen_ok mix tys_ok (sp := tabSp [(68, (f68.E K)), (67, (viewE [(0, .u8), (1, .u8)] (f67.E K)))]) (tab_ok ((tab_cons (f68.ok K) (tab_cons (view_ok (f67.ok K)) tab_nil)))) Tryz.func105 (c := bodyOf Tryz.f105) (by kernel_rfl) (by kernel_rfl) (loops_none (lp := lpNone) (by kernel_rfl)) (av := av) (bl := bl) (inR := inR) (out := o0) (fuel := 400)
  (by intro s x h; unfold inA at h; split at h <;> simp at h; subst h; rfl) (fun _ => Nat.le_of_ble_eq_true rfl)
  (by intro s y h; unfold inR at h; split at h <;> simp at h <;> subst h <;> rfl) (fun _ _ _ => rfl) (fun _ => by kernel_rfl)
end f105
end Go.Proofs

namespace Go.Proofs
open Go.VM
namespace f106
abbrev Ty0 := Nat × Nat × List Int × Nat × List Int
abbrev Ty1 := Nat × Int × Int × Nat × List Int
def T (K : Nat) (a0 : Nat) (a1 : Int) (a2 : Int) (m0_0 : Nat) (m0_1 : List Int) : Option (Ty0) :=
 (f68.F K (a1, (minE a2 8))).bind fun y1 =>
 alt (fun y2 =>
 bif ((Nat.ble (0 + a0) m0_0 && true) && true) then
 (f67.F K (a0, 0, a0, (subI m0_1 0 a0), 0, [])).bind fun y4 =>
 some (y4.1, m0_0, m0_1, y4.2.2.2.2.2.1, y4.2.2.2.2.2.2)
 else
 none) (fun y3 =>
 bif ((Nat.ble (0 + a0) m0_0 && true) && ((Nat.ble (0 + y3.1) y3.2.1 && true) && true)) then
 (f67.F K (a0, y3.1, a0, (subI m0_1 0 a0), y3.1, (subI y3.2.2 0 y3.1))).bind fun y5 =>
 some (y5.1, m0_0, m0_1, y5.2.2.2.2.2.1, y5.2.2.2.2.2.2)
 else
 none) y1
def F (K : Nat) (x : Ty1) : Option (Ty0) := T K x.1 x.2.1 x.2.2.1 x.2.2.2.1 x.2.2.2.2
def av (x : Ty1) : List VV := [.vw true 0 0 x.1 1, .int .u64 x.2.1, .int .i64 x.2.2.1]
def bl (x : Ty1) : List (Nat × Blk) := [(0, ([.ints .u8 x.2.2.2.1 x.2.2.2.2], 0, .ro))]
def inA : VS → Option (Ty1)
 | ⟨[(0, .vw true 0 0 a0 1), (1, .int .u64 a1), (2, .int .i64 a2)], [(0, ([.ints .u8 m0_0 m0_1], 0, .ro))], 2⟩ => some (a0, a1, a2, m0_0, m0_1)
 | _ => none
def o0 (y : Ty0) : VS := ⟨[(0, .vec 2 0 y.1 3)], [(0, ([.ints .u8 y.2.1 y.2.2.1], 0, .ro)), (2, ([.ints .u8 y.2.2.2.1 y.2.2.2.2], 5, .vec 3))], 4⟩
def inR : VS → Option (Ty0)
 | ⟨[(0, .vec 2 0 y 3)], [(0, ([.ints .u8 z0_0 z0_1], 0, .ro)), (2, ([.ints .u8 z2_0 z2_1], 5, .vec 3))], 4⟩ => some (y, z0_0, z0_1, z2_0, z2_1)
 | _ => none
noncomputable def E (K : Nat) : Entry := genE 2 inA (F K) (dv1 o0)
theorem ok (K : Nat) : EntryOK Tryz.prog 106 (E K) := gen_ok mix tys_ok (sp := tabSp [(68, (f68.E K)), (67, (viewE [(0, .u8), (1, .u8)] (f67.E K)))]) (tab_ok ((tab_cons (f68.ok K) (tab_cons (view_ok (f67.ok K)) tab_nil)))) Tryz.func106 (c := bodyOf Tryz.f106) (by kernel_rfl) (by kernel_rfl) (loops_none (lp := lpNone) (by kernel_rfl)) (av := av) (bl := bl) (inR := inR) (out := o0) (fuel := 400)
  (by intro s x h; unfold inA at h; split at h <;> simp at h; subst h; rfl) (fun _ => Nat.le_of_ble_eq_true rfl)
  (by intro s y h; unfold inR at h; split at h <;> simp at h <;> subst h <;> rfl) (fun _ _ _ => rfl) (fun _ => by kernel_rfl)
end f106
end Go.Proofs

namespace Go.Proofs
open Go.VM
namespace f92
abbrev Ty0 := Nat × Nat × Nat × Nat × Nat × List Int × Nat × List Int × Nat × List Int × Nat × List Int
abbrev Ty1 := ByteArray × Nat × Nat × Nat × Nat × List Int × Nat × List Int × Nat × List Int
def T (K : Nat) (a0 : ByteArray) (m0_0 : Nat) (m0_1 : Nat) (m0_2 : Nat) (m2_0 : Nat) (m2_1 : List Int) (m4_0 : Nat) (m4_1 : List Int) (m6_0 : Nat) (m6_1 : List Int) : Option (Ty0) :=
 let v1 := ByteArray.size a0
 bif ((Nat.ble (0 + v1) (ByteArray.size a0) && true) && true) then
 (f105.F K (0, v1, 0, [], v1, (subI (strL a0) 0 v1))).bind fun y3 =>
 bif ((Nat.ble (0 + y3.1) y3.2.2.2.2.2.1 && true) && true) then
 (f106.F K (y3.1, 3, 4, y3.1, (subI y3.2.2.2.2.2.2 0 y3.1))).bind fun y4 =>
 bif ((Nat.ble (0 + y4.1) y4.2.2.2.1 && true) && ((Nat.ble (0 + m0_0) m2_0 && true) && true)) then
 (f105.F K (y4.1, m0_0, y4.1, (subI y4.2.2.2.2 0 y4.1), m0_0, (subI m2_1 0 m0_0))).bind fun y5 =>
 bif ((Nat.ble (0 + y5.1) y5.2.2.2.2.2.1 && true) && ((Nat.ble (0 + m0_1) m4_0 && true) && true)) then
 (f105.F K (y5.1, m0_1, y5.1, (subI y5.2.2.2.2.2.2 0 y5.1), m0_1, (subI m4_1 0 m0_1))).bind fun y6 =>
 bif ((Nat.ble (0 + y6.1) y6.2.2.2.2.2.1 && true) && ((Nat.ble (0 + m0_2) m6_0 && true) && true)) then
 (f105.F K (y6.1, m0_2, y6.1, (subI y6.2.2.2.2.2.2 0 y6.1), m0_2, (subI m6_1 0 m0_2))).bind fun y7 =>
 some (y7.1, m0_0, m0_1, m0_2, m2_0, m2_1, m4_0, m4_1, m6_0, m6_1, y7.2.2.2.2.2.1, y7.2.2.2.2.2.2)
 else
 none
 else
 none
 else
 none
 else
 none
 else
 none
def F (K : Nat) (x : Ty1) : Option (Ty0) := T K x.1 x.2.1 x.2.2.1 x.2.2.2.1 x.2.2.2.2.1 x.2.2.2.2.2.1 x.2.2.2.2.2.2.1 x.2.2.2.2.2.2.2.1 x.2.2.2.2.2.2.2.2.1 x.2.2.2.2.2.2.2.2.2
def av (x : Ty1) : List VV := [.str x.1, .vw true 0 0 3 1]
def bl (x : Ty1) : List (Nat × Blk) := [(0, ([.vw true 2 0 x.2.1 3, .vw true 4 0 x.2.2.1 5, .vw true 6 0 x.2.2.2.1 7], 0, .ro)), (2, ([.ints .u8 x.2.2.2.2.1 x.2.2.2.2.2.1], 0, .ro)), (4, ([.ints .u8 x.2.2.2.2.2.2.1 x.2.2.2.2.2.2.2.1], 0, .ro)), (6, ([.ints .u8 x.2.2.2.2.2.2.2.2.1 x.2.2.2.2.2.2.2.2.2], 0, .ro))]
def inA : VS → Option (Ty1)
 | ⟨[(0, .str a0), (1, .vw true 0 0 3 1)], [(0, ([.vw true 2 0 m0_0 3, .vw true 4 0 m0_1 5, .vw true 6 0 m0_2 7], 0, .ro)), (2, ([.ints .u8 m2_0 m2_1], 0, .ro)), (4, ([.ints .u8 m4_0 m4_1], 0, .ro)), (6, ([.ints .u8 m6_0 m6_1], 0, .ro))], 8⟩ => some (a0, m0_0, m0_1, m0_2, m2_0, m2_1, m4_0, m4_1, m6_0, m6_1)
 | _ => none
def o0 (y : Ty0) : VS := ⟨[(0, .vec 8 0 y.1 9)], [(0, ([.vw true 2 0 y.2.1 3, .vw true 4 0 y.2.2.1 5, .vw true 6 0 y.2.2.2.1 7], 0, .ro)), (2, ([.ints .u8 y.2.2.2.2.1 y.2.2.2.2.2.1], 0, .ro)), (4, ([.ints .u8 y.2.2.2.2.2.2.1 y.2.2.2.2.2.2.2.1], 0, .ro)), (6, ([.ints .u8 y.2.2.2.2.2.2.2.2.1 y.2.2.2.2.2.2.2.2.2.1], 0, .ro)), (8, ([.ints .u8 y.2.2.2.2.2.2.2.2.2.2.1 y.2.2.2.2.2.2.2.2.2.2.2], 5, .vec 9))], 10⟩
def inR : VS → Option (Ty0)
 | ⟨[(0, .vec 8 0 y 9)], [(0, ([.vw true 2 0 z0_0 3, .vw true 4 0 z0_1 5, .vw true 6 0 z0_2 7], 0, .ro)), (2, ([.ints .u8 z2_0 z2_1], 0, .ro)), (4, ([.ints .u8 z4_0 z4_1], 0, .ro)), (6, ([.ints .u8 z6_0 z6_1], 0, .ro)), (8, ([.ints .u8 z8_0 z8_1], 5, .vec 9))], 10⟩ => some (y, z0_0, z0_1, z0_2, z2_0, z2_1, z4_0, z4_1, z6_0, z6_1, z8_0, z8_1)
 | _ => none
noncomputable def E (K : Nat) : Entry := genE 8 inA (F K) (dv1 o0)
theorem ok (K : Nat) : EntryOK Tryz.prog 92 (E K) := gen_ok mix tys_ok (sp := tabSp [(105, (viewE [(0, .u8), (1, .u8)] (f105.E K))), (106, (viewE [(0, .u8)] (f106.E K)))]) (tab_ok ((tab_cons (view_ok (f105.ok K)) (tab_cons (view_ok (f106.ok K)) tab_nil)))) Tryz.func92 (c := bodyOf Tryz.f92) (by kernel_rfl) (by kernel_rfl) (loops_none (lp := lpNone) (by kernel_rfl)) (av := av) (bl := bl) (inR := inR) (out := o0) (fuel := 400)
  (by intro s x h; unfold inA at h; split at h <;> simp at h; subst h; rfl) (fun _ => Nat.le_of_ble_eq_true rfl)
  (by intro s y h; unfold inR at h; split at h <;> simp at h <;> subst h <;> rfl) (fun _ _ _ => rfl) (fun _ => by kernel_rfl)
end f92
end Go.Proofs

namespace Go.Proofs
open Go.VM
namespace f64
abbrev Ty0 := ByteArray × Nat × Nat × Nat × Nat × List Int × Nat × List Int × Nat × List Int
abbrev Ty1 := List Int × Nat × Nat × Nat × Nat × List Int × Nat × List Int × Nat × List Int
def T (K : Nat) (a0 : ByteArray) (m0_0 : Nat) (m0_1 : Nat) (m0_2 : Nat) (m2_0 : Nat) (m2_1 : List Int) (m4_0 : Nat) (m4_1 : List Int) (m6_0 : Nat) (m6_1 : List Int) : Option (Ty1) :=
 bif ((Nat.ble (0 + m0_0) m2_0 && true) && ((Nat.ble (0 + m0_1) m4_0 && true) && ((Nat.ble (0 + m0_2) m6_0 && true) && true))) then
 (f92.F K (a0, m0_0, m0_1, m0_2, m0_0, (subI m2_1 0 m0_0), m0_1, (subI m4_1 0 m0_1), m0_2, (subI m6_1 0 m0_2))).bind fun y1 =>
 bif ((Nat.ble (0 + y1.1) y1.2.2.2.2.2.2.2.2.2.2.1 && true) && true) then
 (f91.F K (y1.1, y1.1, (subI y1.2.2.2.2.2.2.2.2.2.2.2 0 y1.1))).bind fun y2 =>
 some (y2.1, m0_0, m0_1, m0_2, m2_0, m2_1, m4_0, m4_1, m6_0, m6_1)
 else
 none
 else
 none
def F (K : Nat) (x : Ty0) : Option (Ty1) := T K x.1 x.2.1 x.2.2.1 x.2.2.2.1 x.2.2.2.2.1 x.2.2.2.2.2.1 x.2.2.2.2.2.2.1 x.2.2.2.2.2.2.2.1 x.2.2.2.2.2.2.2.2.1 x.2.2.2.2.2.2.2.2.2
def av (x : Ty0) : List VV := [.str x.1, .vw true 0 0 3 1]
def bl (x : Ty0) : List (Nat × Blk) := [(0, ([.vw true 2 0 x.2.1 3, .vw true 4 0 x.2.2.1 5, .vw true 6 0 x.2.2.2.1 7], 0, .ro)), (2, ([.ints .u8 x.2.2.2.2.1 x.2.2.2.2.2.1], 0, .ro)), (4, ([.ints .u8 x.2.2.2.2.2.2.1 x.2.2.2.2.2.2.2.1], 0, .ro)), (6, ([.ints .u8 x.2.2.2.2.2.2.2.2.1 x.2.2.2.2.2.2.2.2.2], 0, .ro))]
def inA : VS → Option (Ty0)
 | ⟨[(0, .str a0), (1, .vw true 0 0 3 1)], [(0, ([.vw true 2 0 m0_0 3, .vw true 4 0 m0_1 5, .vw true 6 0 m0_2 7], 0, .ro)), (2, ([.ints .u8 m2_0 m2_1], 0, .ro)), (4, ([.ints .u8 m4_0 m4_1], 0, .ro)), (6, ([.ints .u8 m6_0 m6_1], 0, .ro))], 8⟩ => some (a0, m0_0, m0_1, m0_2, m2_0, m2_1, m4_0, m4_1, m6_0, m6_1)
 | _ => none
def o0 (y : Ty1) : VS := ⟨[(0, .agg [.ints .u8 32 y.1])], [(0, ([.vw true 2 0 y.2.1 3, .vw true 4 0 y.2.2.1 5, .vw true 6 0 y.2.2.2.1 7], 0, .ro)), (2, ([.ints .u8 y.2.2.2.2.1 y.2.2.2.2.2.1], 0, .ro)), (4, ([.ints .u8 y.2.2.2.2.2.2.1 y.2.2.2.2.2.2.2.1], 0, .ro)), (6, ([.ints .u8 y.2.2.2.2.2.2.2.2.1 y.2.2.2.2.2.2.2.2.2], 0, .ro))], 8⟩
def inR : VS → Option (Ty1)
 | ⟨[(0, .agg [.ints .u8 32 y])], [(0, ([.vw true 2 0 z0_0 3, .vw true 4 0 z0_1 5, .vw true 6 0 z0_2 7], 0, .ro)), (2, ([.ints .u8 z2_0 z2_1], 0, .ro)), (4, ([.ints .u8 z4_0 z4_1], 0, .ro)), (6, ([.ints .u8 z6_0 z6_1], 0, .ro))], 8⟩ => some (y, z0_0, z0_1, z0_2, z2_0, z2_1, z4_0, z4_1, z6_0, z6_1)
 | _ => none
noncomputable def E (K : Nat) : Entry := genE 8 inA (F K) (dv1 o0)
theorem ok (K : Nat) : EntryOK Tryz.prog 64 (E K) := gen_ok mix tys_ok (sp := tabSp [(92, (rowsE 1 .u8 (f92.E K))), (91, (viewE [(0, .u8)] (f91.E K)))]) (tab_ok ((tab_cons (rows_ok (f92.ok K)) (tab_cons (view_ok (f91.ok K)) tab_nil)))) Tryz.func64 (c := bodyOf Tryz.f64) (by kernel_rfl) (by kernel_rfl) (loops_none (lp := lpNone) (by kernel_rfl)) (av := av) (bl := bl) (inR := inR) (out := o0) (fuel := 400)
  (by intro s x h; unfold inA at h; split at h <;> simp at h; subst h; rfl) (fun _ => Nat.le_of_ble_eq_true rfl)
  (by intro s y h; unfold inR at h; split at h <;> simp at h <;> subst h <;> rfl) (fun _ _ _ => rfl) (fun _ => by kernel_rfl)
end f64
end Go.Proofs

namespace Go.Proofs
open Go.VM
namespace f42
abbrev Ty0 := List Int × ByteArray × Nat × Nat × Nat × List Int × Nat × List Int
abbrev Ty1 := List Int × Int × Nat × Nat × Nat × List Int × Nat × List Int
def T (K : Nat) (a0 : List Int) (a1 : ByteArray) (m0_0 : Nat) (m0_1 : Nat) (m2_0 : Nat) (m2_1 : List Int) (m4_0 : Nat) (m4_1 : List Int) : Option (Ty1) :=
 bif (eqL 4 a0 [0, 0, 0, 0] && true) then
 some ([0, 0, 0, 0], 1, m0_0, m0_1, m2_0, m2_1, m4_0, m4_1)
 else
 bif ((Nat.ble (0 + m0_0) m2_0 && true) && ((Nat.ble (0 + m0_1) m4_0 && true) && true)) then
 (f64.F K (a1, m0_0, m0_1, 1, m0_0, (subI m2_1 0 m0_0), m0_1, (subI m4_1 0 m0_1), 1, [0])).bind fun y2 =>
 bif ((Nat.ble (0 + m0_0) m2_0 && true) && ((Nat.ble (0 + m0_1) m4_0 && true) && true)) then
 (f64.F K (a1, m0_0, m0_1, 1, m0_0, (subI m2_1 0 m0_0), m0_1, (subI m4_1 0 m0_1), 1, [1])).bind fun y3 =>
 (f65.F K (32, 32, (subI y2.1 0 32))).bind fun y4 =>
 (f65.F K (32, 32, (subI y3.1 0 32))).bind fun y5 =>
 (f66.F K (y5.1, y4.1, a0)).bind fun y6 =>
 some (y6.1, y6.2, m0_0, m0_1, m2_0, m2_1, m4_0, m4_1)
 else
 none
 else
 none
def F (K : Nat) (x : Ty0) : Option (Ty1) := T K x.1 x.2.1 x.2.2.1 x.2.2.2.1 x.2.2.2.2.1 x.2.2.2.2.2.1 x.2.2.2.2.2.2.1 x.2.2.2.2.2.2.2
def av (x : Ty0) : List VV := [.agg [.ints .u64 4 x.1], .str x.2.1, .vw true 0 0 2 1]
def bl (x : Ty0) : List (Nat × Blk) := [(0, ([.vw true 2 0 x.2.2.1 3, .vw true 4 0 x.2.2.2.1 5], 0, .ro)), (2, ([.ints .u8 x.2.2.2.2.1 x.2.2.2.2.2.1], 0, .ro)), (4, ([.ints .u8 x.2.2.2.2.2.2.1 x.2.2.2.2.2.2.2], 0, .ro))]
def inA : VS → Option (Ty0)
 | ⟨[(0, .agg [.ints .u64 4 a0]), (1, .str a1), (2, .vw true 0 0 2 1)], [(0, ([.vw true 2 0 m0_0 3, .vw true 4 0 m0_1 5], 0, .ro)), (2, ([.ints .u8 m2_0 m2_1], 0, .ro)), (4, ([.ints .u8 m4_0 m4_1], 0, .ro))], 6⟩ => some (a0, a1, m0_0, m0_1, m2_0, m2_1, m4_0, m4_1)
 | _ => none
def o0 (y : Ty1) : VS := ⟨[(0, .tup [.agg [.ints .u64 4 y.1], .int .i64 y.2.1])], [(0, ([.vw true 2 0 y.2.2.1 3, .vw true 4 0 y.2.2.2.1 5], 0, .ro)), (2, ([.ints .u8 y.2.2.2.2.1 y.2.2.2.2.2.1], 0, .ro)), (4, ([.ints .u8 y.2.2.2.2.2.2.1 y.2.2.2.2.2.2.2], 0, .ro))], 6⟩
def inR : VS → Option (Ty1)
 | ⟨[(0, .tup [.agg [.ints .u64 4 y_0], .int .i64 y_1])], [(0, ([.vw true 2 0 z0_0 3, .vw true 4 0 z0_1 5], 0, .ro)), (2, ([.ints .u8 z2_0 z2_1], 0, .ro)), (4, ([.ints .u8 z4_0 z4_1], 0, .ro))], 6⟩ => some (y_0, y_1, z0_0, z0_1, z2_0, z2_1, z4_0, z4_1)
 | _ => none
noncomputable def E (K : Nat) : Entry := genE 6 inA (F K) (dv1 o0)
theorem ok (K : Nat) : EntryOK Tryz.prog 42 (E K) := gen_ok mix tys_ok (sp := tabSp [(64, (rowsE 1 .u8 (f64.E K))), (65, (viewE [(0, .u8)] (f65.E K))), (66, (f66.E K))]) (tab_ok ((tab_cons (rows_ok (f64.ok K)) (tab_cons (view_ok (f65.ok K)) (tab_cons (f66.ok K) tab_nil))))) Tryz.func42 (c := bodyOf Tryz.f42) (by kernel_rfl) (by kernel_rfl) (loops_none (lp := lpNone) (by kernel_rfl)) (av := av) (bl := bl) (inR := inR) (out := o0) (fuel := 400)
  (by intro s x h; unfold inA at h; split at h <;> simp at h; subst h; rfl) (fun _ => Nat.le_of_ble_eq_true rfl)
  (by intro s y h; unfold inR at h; split at h <;> simp at h <;> subst h <;> rfl) (fun _ _ _ => rfl) (fun _ => by kernel_rfl)
end f42
end Go.Proofs

namespace Go.Proofs
open Go.VM
namespace f92v1
abbrev Ty0 := Nat × Nat × Nat × Nat × Nat × Nat × List Int × Nat × List Int × Nat × List Int × Nat × List Int × Nat × List Int
abbrev Ty1 := ByteArray × Nat × Nat × Nat × Nat × Nat × List Int × Nat × List Int × Nat × List Int × Nat × List Int
def T (K : Nat) (a0 : ByteArray) (m0_0 : Nat) (m0_1 : Nat) (m0_2 : Nat) (m0_3 : Nat) (m2_0 : Nat) (m2_1 : List Int) (m4_0 : Nat) (m4_1 : List Int) (m6_0 : Nat) (m6_1 : List Int) (m8_0 : Nat) (m8_1 : List Int) : Option (Ty0) :=
 let v1 := ByteArray.size a0
 bif ((Nat.ble (0 + v1) (ByteArray.size a0) && true) && true) then
 (f105.F K (0, v1, 0, [], v1, (subI (strL a0) 0 v1))).bind fun y3 =>
 bif ((Nat.ble (0 + y3.1) y3.2.2.2.2.2.1 && true) && true) then
 (f106.F K (y3.1, 4, 4, y3.1, (subI y3.2.2.2.2.2.2 0 y3.1))).bind fun y4 =>
 bif ((Nat.ble (0 + y4.1) y4.2.2.2.1 && true) && ((Nat.ble (0 + m0_0) m2_0 && true) && true)) then
 (f105.F K (y4.1, m0_0, y4.1, (subI y4.2.2.2.2 0 y4.1), m0_0, (subI m2_1 0 m0_0))).bind fun y5 =>
 bif ((Nat.ble (0 + y5.1) y5.2.2.2.2.2.1 && true) && ((Nat.ble (0 + m0_1) m4_0 && true) && true)) then
 (f105.F K (y5.1, m0_1, y5.1, (subI y5.2.2.2.2.2.2 0 y5.1), m0_1, (subI m4_1 0 m0_1))).bind fun y6 =>
 bif ((Nat.ble (0 + y6.1) y6.2.2.2.2.2.1 && true) && ((Nat.ble (0 + m0_2) m6_0 && true) && true)) then
 (f105.F K (y6.1, m0_2, y6.1, (subI y6.2.2.2.2.2.2 0 y6.1), m0_2, (subI m6_1 0 m0_2))).bind fun y7 =>
 bif ((Nat.ble (0 + y7.1) y7.2.2.2.2.2.1 && true) && ((Nat.ble (0 + m0_3) m8_0 && true) && true)) then
 (f105.F K (y7.1, m0_3, y7.1, (subI y7.2.2.2.2.2.2 0 y7.1), m0_3, (subI m8_1 0 m0_3))).bind fun y8 =>
 some (y8.1, m0_0, m0_1, m0_2, m0_3, m2_0, m2_1, m4_0, m4_1, m6_0, m6_1, m8_0, m8_1, y8.2.2.2.2.2.1, y8.2.2.2.2.2.2)
 else
 none
 else
 none
 else
 none
 else
 none
 else
 none
 else
 none
def F (K : Nat) (x : Ty1) : Option (Ty0) := T K x.1 x.2.1 x.2.2.1 x.2.2.2.1 x.2.2.2.2.1 x.2.2.2.2.2.1 x.2.2.2.2.2.2.1 x.2.2.2.2.2.2.2.1 x.2.2.2.2.2.2.2.2.1 x.2.2.2.2.2.2.2.2.2.1 x.2.2.2.2.2.2.2.2.2.2.1 x.2.2.2.2.2.2.2.2.2.2.2.1 x.2.2.2.2.2.2.2.2.2.2.2.2
def av (x : Ty1) : List VV := [.str x.1, .vw true 0 0 4 1]
def bl (x : Ty1) : List (Nat × Blk) := [(0, ([.vw true 2 0 x.2.1 3, .vw true 4 0 x.2.2.1 5, .vw true 6 0 x.2.2.2.1 7, .vw true 8 0 x.2.2.2.2.1 9], 0, .ro)), (2, ([.ints .u8 x.2.2.2.2.2.1 x.2.2.2.2.2.2.1], 0, .ro)), (4, ([.ints .u8 x.2.2.2.2.2.2.2.1 x.2.2.2.2.2.2.2.2.1], 0, .ro)), (6, ([.ints .u8 x.2.2.2.2.2.2.2.2.2.1 x.2.2.2.2.2.2.2.2.2.2.1], 0, .ro)), (8, ([.ints .u8 x.2.2.2.2.2.2.2.2.2.2.2.1 x.2.2.2.2.2.2.2.2.2.2.2.2], 0, .ro))]
def inA : VS → Option (Ty1)
 | ⟨[(0, .str a0), (1, .vw true 0 0 4 1)], [(0, ([.vw true 2 0 m0_0 3, .vw true 4 0 m0_1 5, .vw true 6 0 m0_2 7, .vw true 8 0 m0_3 9], 0, .ro)), (2, ([.ints .u8 m2_0 m2_1], 0, .ro)), (4, ([.ints .u8 m4_0 m4_1], 0, .ro)), (6, ([.ints .u8 m6_0 m6_1], 0, .ro)), (8, ([.ints .u8 m8_0 m8_1], 0, .ro))], 10⟩ => some (a0, m0_0, m0_1, m0_2, m0_3, m2_0, m2_1, m4_0, m4_1, m6_0, m6_1, m8_0, m8_1)
 | _ => none
def o0 (y : Ty0) : VS := ⟨[(0, .vec 10 0 y.1 11)], [(0, ([.vw true 2 0 y.2.1 3, .vw true 4 0 y.2.2.1 5, .vw true 6 0 y.2.2.2.1 7, .vw true 8 0 y.2.2.2.2.1 9], 0, .ro)), (2, ([.ints .u8 y.2.2.2.2.2.1 y.2.2.2.2.2.2.1], 0, .ro)), (4, ([.ints .u8 y.2.2.2.2.2.2.2.1 y.2.2.2.2.2.2.2.2.1], 0, .ro)), (6, ([.ints .u8 y.2.2.2.2.2.2.2.2.2.1 y.2.2.2.2.2.2.2.2.2.2.1], 0, .ro)), (8, ([.ints .u8 y.2.2.2.2.2.2.2.2.2.2.2.1 y.2.2.2.2.2.2.2.2.2.2.2.2.1], 0, .ro)), (10, ([.ints .u8 y.2.2.2.2.2.2.2.2.2.2.2.2.2.1 y.2.2.2.2.2.2.2.2.2.2.2.2.2.2], 5, .vec 11))], 12⟩
def inR : VS → Option (Ty0)
 | ⟨[(0, .vec 10 0 y 11)], [(0, ([.vw true 2 0 z0_0 3, .vw true 4 0 z0_1 5, .vw true 6 0 z0_2 7, .vw true 8 0 z0_3 9], 0, .ro)), (2, ([.ints .u8 z2_0 z2_1], 0, .ro)), (4, ([.ints .u8 z4_0 z4_1], 0, .ro)), (6, ([.ints .u8 z6_0 z6_1], 0, .ro)), (8, ([.ints .u8 z8_0 z8_1], 0, .ro)), (10, ([.ints .u8 z10_0 z10_1], 5, .vec 11))], 12⟩ => some (y, z0_0, z0_1, z0_2, z0_3, z2_0, z2_1, z4_0, z4_1, z6_0, z6_1, z8_0, z8_1, z10_0, z10_1)
 | _ => none
noncomputable def E (K : Nat) : Entry := genE 10 inA (F K) (dv1 o0)
theorem ok (K : Nat) : EntryOK Tryz.prog 92 (E K) := gen_ok mix tys_ok (sp := tabSp [(105, (viewE [(0, .u8), (1, .u8)] (f105.E K))), (106, (viewE [(0, .u8)] (f106.E K)))]) (tab_ok ((tab_cons (view_ok (f105.ok K)) (tab_cons (view_ok (f106.ok K)) tab_nil)))) Tryz.func92 (c := bodyOf Tryz.f92) (by kernel_rfl) (by kernel_rfl) (loops_none (lp := lpNone) (by kernel_rfl)) (av := av) (bl := bl) (inR := inR) (out := o0) (fuel := 400)
  (by intro s x h; unfold inA at h; split at h <;> simp at h; subst h; rfl) (fun _ => Nat.le_of_ble_eq_true rfl)
  (by intro s y h; unfold inR at h; split at h <;> simp at h <;> subst h <;> rfl) (fun _ _ _ => rfl) (fun _ => by kernel_rfl)
end f92v1
end Go.Proofs

namespace Go.Proofs
open Go.VM
namespace f64v1
abbrev Ty0 := ByteArray × Nat × Nat × Nat × Nat × Nat × List Int × Nat × List Int × Nat × List Int × Nat × List Int
abbrev Ty1 := List Int × Nat × Nat × Nat × Nat × Nat × List Int × Nat × List Int × Nat × List Int × Nat × List Int
def T (K : Nat) (a0 : ByteArray) (m0_0 : Nat) (m0_1 : Nat) (m0_2 : Nat) (m0_3 : Nat) (m2_0 : Nat) (m2_1 : List Int) (m4_0 : Nat) (m4_1 : List Int) (m6_0 : Nat) (m6_1 : List Int) (m8_0 : Nat) (m8_1 : List Int) : Option (Ty1) :=
 bif ((Nat.ble (0 + m0_0) m2_0 && true) && ((Nat.ble (0 + m0_1) m4_0 && true) && ((Nat.ble (0 + m0_2) m6_0 && true) && ((Nat.ble (0 + m0_3) m8_0 && true) && true)))) then
 (f92v1.F K (a0, m0_0, m0_1, m0_2, m0_3, m0_0, (subI m2_1 0 m0_0), m0_1, (subI m4_1 0 m0_1), m0_2, (subI m6_1 0 m0_2), m0_3, (subI m8_1 0 m0_3))).bind fun y1 =>
 bif ((Nat.ble (0 + y1.1) y1.2.2.2.2.2.2.2.2.2.2.2.2.2.1 && true) && true) then
 (f91.F K (y1.1, y1.1, (subI y1.2.2.2.2.2.2.2.2.2.2.2.2.2.2 0 y1.1))).bind fun y2 =>
 some (y2.1, m0_0, m0_1, m0_2, m0_3, m2_0, m2_1, m4_0, m4_1, m6_0, m6_1, m8_0, m8_1)
 else
 none
 else
 none
def F (K : Nat) (x : Ty0) : Option (Ty1) := T K x.1 x.2.1 x.2.2.1 x.2.2.2.1 x.2.2.2.2.1 x.2.2.2.2.2.1 x.2.2.2.2.2.2.1 x.2.2.2.2.2.2.2.1 x.2.2.2.2.2.2.2.2.1 x.2.2.2.2.2.2.2.2.2.1 x.2.2.2.2.2.2.2.2.2.2.1 x.2.2.2.2.2.2.2.2.2.2.2.1 x.2.2.2.2.2.2.2.2.2.2.2.2
def av (x : Ty0) : List VV := [.str x.1, .vw true 0 0 4 1]
def bl (x : Ty0) : List (Nat × Blk) := [(0, ([.vw true 2 0 x.2.1 3, .vw true 4 0 x.2.2.1 5, .vw true 6 0 x.2.2.2.1 7, .vw true 8 0 x.2.2.2.2.1 9], 0, .ro)), (2, ([.ints .u8 x.2.2.2.2.2.1 x.2.2.2.2.2.2.1], 0, .ro)), (4, ([.ints .u8 x.2.2.2.2.2.2.2.1 x.2.2.2.2.2.2.2.2.1], 0, .ro)), (6, ([.ints .u8 x.2.2.2.2.2.2.2.2.2.1 x.2.2.2.2.2.2.2.2.2.2.1], 0, .ro)), (8, ([.ints .u8 x.2.2.2.2.2.2.2.2.2.2.2.1 x.2.2.2.2.2.2.2.2.2.2.2.2], 0, .ro))]
def inA : VS → Option (Ty0)
 | ⟨[(0, .str a0), (1, .vw true 0 0 4 1)], [(0, ([.vw true 2 0 m0_0 3, .vw true 4 0 m0_1 5, .vw true 6 0 m0_2 7, .vw true 8 0 m0_3 9], 0, .ro)), (2, ([.ints .u8 m2_0 m2_1], 0, .ro)), (4, ([.ints .u8 m4_0 m4_1], 0, .ro)), (6, ([.ints .u8 m6_0 m6_1], 0, .ro)), (8, ([.ints .u8 m8_0 m8_1], 0, .ro))], 10⟩ => some (a0, m0_0, m0_1, m0_2, m0_3, m2_0, m2_1, m4_0, m4_1, m6_0, m6_1, m8_0, m8_1)
 | _ => none
def o0 (y : Ty1) : VS := ⟨[(0, .agg [.ints .u8 32 y.1])], [(0, ([.vw true 2 0 y.2.1 3, .vw true 4 0 y.2.2.1 5, .vw true 6 0 y.2.2.2.1 7, .vw true 8 0 y.2.2.2.2.1 9], 0, .ro)), (2, ([.ints .u8 y.2.2.2.2.2.1 y.2.2.2.2.2.2.1], 0, .ro)), (4, ([.ints .u8 y.2.2.2.2.2.2.2.1 y.2.2.2.2.2.2.2.2.1], 0, .ro)), (6, ([.ints .u8 y.2.2.2.2.2.2.2.2.2.1 y.2.2.2.2.2.2.2.2.2.2.1], 0, .ro)), (8, ([.ints .u8 y.2.2.2.2.2.2.2.2.2.2.2.1 y.2.2.2.2.2.2.2.2.2.2.2.2], 0, .ro))], 10⟩
def inR : VS → Option (Ty1)
 | ⟨[(0, .agg [.ints .u8 32 y])], [(0, ([.vw true 2 0 z0_0 3, .vw true 4 0 z0_1 5, .vw true 6 0 z0_2 7, .vw true 8 0 z0_3 9], 0, .ro)), (2, ([.ints .u8 z2_0 z2_1], 0, .ro)), (4, ([.ints .u8 z4_0 z4_1], 0, .ro)), (6, ([.ints .u8 z6_0 z6_1], 0, .ro)), (8, ([.ints .u8 z8_0 z8_1], 0, .ro))], 10⟩ => some (y, z0_0, z0_1, z0_2, z0_3, z2_0, z2_1, z4_0, z4_1, z6_0, z6_1, z8_0, z8_1)
 | _ => none
noncomputable def E (K : Nat) : Entry := genE 10 inA (F K) (dv1 o0)
theorem ok (K : Nat) : EntryOK Tryz.prog 64 (E K) := gen_ok mix tys_ok (sp := tabSp [(92, (rowsE 1 .u8 (f92v1.E K))), (91, (viewE [(0, .u8)] (f91.E K)))]) (tab_ok ((tab_cons (rows_ok (f92v1.ok K)) (tab_cons (view_ok (f91.ok K)) tab_nil)))) Tryz.func64 (c := bodyOf Tryz.f64) (by kernel_rfl) (by kernel_rfl) (loops_none (lp := lpNone) (by kernel_rfl)) (av := av) (bl := bl) (inR := inR) (out := o0) (fuel := 400)
  (by intro s x h; unfold inA at h; split at h <;> simp at h; subst h; rfl) (fun _ => Nat.le_of_ble_eq_true rfl)
  (by intro s y h; unfold inR at h; split at h <;> simp at h <;> subst h <;> rfl) (fun _ _ _ => rfl) (fun _ => by kernel_rfl)
end f64v1
end Go.Proofs

namespace Go.Proofs
open Go.VM
namespace f42v1
abbrev Ty0 := List Int × ByteArray × Nat × Nat × Nat × Nat × List Int × Nat × List Int × Nat × List Int
abbrev Ty1 := List Int × Int × Nat × Nat × Nat × Nat × List Int × Nat × List Int × Nat × List Int
def T (K : Nat) (a0 : List Int) (a1 : ByteArray) (m0_0 : Nat) (m0_1 : Nat) (m0_2 : Nat) (m2_0 : Nat) (m2_1 : List Int) (m4_0 : Nat) (m4_1 : List Int) (m6_0 : Nat) (m6_1 : List Int) : Option (Ty1) :=
 bif (eqL 4 a0 [0, 0, 0, 0] && true) then
 some ([0, 0, 0, 0], 1, m0_0, m0_1, m0_2, m2_0, m2_1, m4_0, m4_1, m6_0, m6_1)
 else
 bif ((Nat.ble (0 + m0_0) m2_0 && true) && ((Nat.ble (0 + m0_1) m4_0 && true) && ((Nat.ble (0 + m0_2) m6_0 && true) && true))) then
 (f64v1.F K (a1, m0_0, m0_1, m0_2, 1, m0_0, (subI m2_1 0 m0_0), m0_1, (subI m4_1 0 m0_1), m0_2, (subI m6_1 0 m0_2), 1, [0])).bind fun y2 =>
 bif ((Nat.ble (0 + m0_0) m2_0 && true) && ((Nat.ble (0 + m0_1) m4_0 && true) && ((Nat.ble (0 + m0_2) m6_0 && true) && true))) then
 (f64v1.F K (a1, m0_0, m0_1, m0_2, 1, m0_0, (subI m2_1 0 m0_0), m0_1, (subI m4_1 0 m0_1), m0_2, (subI m6_1 0 m0_2), 1, [1])).bind fun y3 =>
 (f65.F K (32, 32, (subI y2.1 0 32))).bind fun y4 =>
 (f65.F K (32, 32, (subI y3.1 0 32))).bind fun y5 =>
 (f66.F K (y5.1, y4.1, a0)).bind fun y6 =>
 some (y6.1, y6.2, m0_0, m0_1, m0_2, m2_0, m2_1, m4_0, m4_1, m6_0, m6_1)
 else
 none
 else
 none
def F (K : Nat) (x : Ty0) : Option (Ty1) := T K x.1 x.2.1 x.2.2.1 x.2.2.2.1 x.2.2.2.2.1 x.2.2.2.2.2.1 x.2.2.2.2.2.2.1 x.2.2.2.2.2.2.2.1 x.2.2.2.2.2.2.2.2.1 x.2.2.2.2.2.2.2.2.2.1 x.2.2.2.2.2.2.2.2.2.2
def av (x : Ty0) : List VV := [.agg [.ints .u64 4 x.1], .str x.2.1, .vw true 0 0 3 1]
def bl (x : Ty0) : List (Nat × Blk) := [(0, ([.vw true 2 0 x.2.2.1 3, .vw true 4 0 x.2.2.2.1 5, .vw true 6 0 x.2.2.2.2.1 7], 0, .ro)), (2, ([.ints .u8 x.2.2.2.2.2.1 x.2.2.2.2.2.2.1], 0, .ro)), (4, ([.ints .u8 x.2.2.2.2.2.2.2.1 x.2.2.2.2.2.2.2.2.1], 0, .ro)), (6, ([.ints .u8 x.2.2.2.2.2.2.2.2.2.1 x.2.2.2.2.2.2.2.2.2.2], 0, .ro))]
def inA : VS → Option (Ty0)
 | ⟨[(0, .agg [.ints .u64 4 a0]), (1, .str a1), (2, .vw true 0 0 3 1)], [(0, ([.vw true 2 0 m0_0 3, .vw true 4 0 m0_1 5, .vw true 6 0 m0_2 7], 0, .ro)), (2, ([.ints .u8 m2_0 m2_1], 0, .ro)), (4, ([.ints .u8 m4_0 m4_1], 0, .ro)), (6, ([.ints .u8 m6_0 m6_1], 0, .ro))], 8⟩ => some (a0, a1, m0_0, m0_1, m0_2, m2_0, m2_1, m4_0, m4_1, m6_0, m6_1)
 | _ => none
def o0 (y : Ty1) : VS := ⟨[(0, .tup [.agg [.ints .u64 4 y.1], .int .i64 y.2.1])], [(0, ([.vw true 2 0 y.2.2.1 3, .vw true 4 0 y.2.2.2.1 5, .vw true 6 0 y.2.2.2.2.1 7], 0, .ro)), (2, ([.ints .u8 y.2.2.2.2.2.1 y.2.2.2.2.2.2.1], 0, .ro)), (4, ([.ints .u8 y.2.2.2.2.2.2.2.1 y.2.2.2.2.2.2.2.2.1], 0, .ro)), (6, ([.ints .u8 y.2.2.2.2.2.2.2.2.2.1 y.2.2.2.2.2.2.2.2.2.2], 0, .ro))], 8⟩
def inR : VS → Option (Ty1)
 | ⟨[(0, .tup [.agg [.ints .u64 4 y_0], .int .i64 y_1])], [(0, ([.vw true 2 0 z0_0 3, .vw true 4 0 z0_1 5, .vw true 6 0 z0_2 7], 0, .ro)), (2, ([.ints .u8 z2_0 z2_1], 0, .ro)), (4, ([.ints .u8 z4_0 z4_1], 0, .ro)), (6, ([.ints .u8 z6_0 z6_1], 0, .ro))], 8⟩ => some (y_0, y_1, z0_0, z0_1, z0_2, z2_0, z2_1, z4_0, z4_1, z6_0, z6_1)
 | _ => none
noncomputable def E (K : Nat) : Entry := genE 8 inA (F K) (dv1 o0)
theorem ok (K : Nat) : EntryOK Tryz.prog 42 (E K) := gen_ok mix tys_ok (sp := tabSp [(64, (rowsE 1 .u8 (f64v1.E K))), (65, (viewE [(0, .u8)] (f65.E K))), (66, (f66.E K))]) (tab_ok ((tab_cons (rows_ok (f64v1.ok K)) (tab_cons (view_ok (f65.ok K)) (tab_cons (f66.ok K) tab_nil))))) Tryz.func42 (c := bodyOf Tryz.f42) (by kernel_rfl) (by kernel_rfl) (loops_none (lp := lpNone) (by kernel_rfl)) (av := av) (bl := bl) (inR := inR) (out := o0) (fuel := 400)
  (by intro s x h; unfold inA at h; split at h <;> simp at h; subst h; rfl) (fun _ => Nat.le_of_ble_eq_true rfl)
  (by intro s y h; unfold inR at h; split at h <;> simp at h <;> subst h <;> rfl) (fun _ _ _ => rfl) (fun _ => by kernel_rfl)
end f42v1
end Go.Proofs

namespace Go.Proofs
open Go.VM
theorem f105.spec (K a n : Nat) (l p : List Int) (hl : l.length = a) (hp : p.length = n) (ha : a ≤ 10000000000) (hn : n ≤ 1000000000) (hK : 10 < K) :
    f105.F K (a, n, a, l, n, p) = some (a + (4 + n), a, l, n, p, a + (4 + n), l ++ Sh.frame p) := by
  simp only [f105.F, f105.T]
  have e := f68.spec 4 K n (by omega) (by omega) (by omega)
  rw [if_neg (by omega)] at e
  have lb : (be 4 n ++ p).length = 4 + n := by rw [List.length_append, be_length, hp]
  rw [wrap_u (n : Int) (by omega) (by omega), show ((4 : Int)) = ((4 : Nat) : Int) from rfl, e, bind_s, altr]
  dsimp only
  rw [Nat.zero_add, Nat.zero_add, Nat.zero_add, ble_true (Nat.le_refl 4), ble_true (Nat.le_refl n), Bool.and_self, Bool.and_self, Bool.and_self, cond_t, subI_self _ (be_length 4 n), subI_self _ hp, f67.spec K 4 n (be 4 n) p (be_length _ _) hp (by omega), bind_s]
  dsimp only
  rw [Nat.zero_add, ble_true (Nat.le_refl a), ble_true (Nat.le_refl (4 + n)), Bool.and_self, Bool.and_self, Bool.and_self, cond_t, subI_self _ hl, subI_self _ lb, f67.spec K a (4 + n) l _ hl lb (by omega), bind_s]
  rw [Sh.frame, hp]
theorem f106.spec (K a x : Nat) (l : List Int) (hl : l.length = a) (hx : x < 18446744073709551616) (ha : a ≤ 10000000000) (hK : 10 < K) :
    f106.F K (a, (x : Int), 4, a, l) = some (a + 4, a, l, a + 4, l ++ be 4 x) := by
  simp only [f106.F, f106.T]
  have e := f68.spec 4 K x hx (by omega) (by omega)
  rw [if_neg (by omega)] at e
  rw [show minE 4 8 = ((4 : Nat) : Int) from rfl, e, bind_s, altr]
  dsimp only
  rw [Nat.zero_add, Nat.zero_add, ble_true (Nat.le_refl a), ble_true (Nat.le_refl 4), Bool.and_self, Bool.and_self, Bool.and_self, cond_t, subI_self _ (be_length 4 x), subI_self _ hl, f67.spec K a 4 l _ hl (be_length _ _) (by omega), bind_s]
theorem f92.spec (K : Nat) (name : ByteArray) (n0 : Nat) (l0 : List Int) (n1 : Nat) (l1 : List Int) (n2 : Nat) (l2 : List Int) (hs : name.size ≤ 1000) (e0 : l0.length = n0) (o0 : octets l0) (z0 : n0 ≤ 1000) (e1 : l1.length = n1) (o1 : octets l1) (z1 : n1 ≤ 1000) (e2 : l2.length = n2) (o2 : octets l2) (z2 : n2 ≤ 1000) (hK : 10000 < K) :
    f92.F K (name, n0, n1, n2, n0, l0, n1, l1, n2, l2) = some ((Sh.cut (strL name) [l0, l1, l2]).length, n0, n1, n2, n0, l0, n1, l1, n2, l2, (Sh.cut (strL name) [l0, l1, l2]).length, Sh.cut (strL name) [l0, l1, l2]) := by
  have hnl := strL_length name
  have hM : Sh.cut (strL name) [l0, l1, l2] = Sh.frame (strL name) ++ be 4 3 ++ Sh.frame l0 ++ Sh.frame l1 ++ Sh.frame l2 := by
    simp only [Sh.cut, List.length_cons, List.length_nil, List.flatMap_cons, List.flatMap_nil, List.append_nil, List.append_assoc]
  have f0 := frame_length (strL name)
  rw [hnl] at f0
  simp only [f92.F, f92.T]
  have a0 := f105.spec K 0 name.size [] (strL name) rfl hnl (by omega) (by omega) (by omega)
  rw [Nat.zero_add, List.nil_append] at a0
  rw [Nat.zero_add, ble_true (Nat.le_refl name.size), Bool.and_self, Bool.and_self, cond_t, subI_self _ hnl, a0, bind_s]
  dsimp only
  have a1 := f106.spec K (4 + name.size) 3 (Sh.frame (strL name)) f0 (by omega) (by omega) (by omega)
  rw [Nat.zero_add, ble_true (Nat.le_refl _), Bool.and_self, Bool.and_self, cond_t, subI_self _ f0, show ((3 : Int)) = ((3 : Nat) : Int) from rfl, a1, bind_s]
  dsimp only
  have M0 : (Sh.frame (strL name) ++ be 4 3).length = 4 + name.size + 4 := by rw [List.length_append, f0, be_length]
  have b0 := f105.spec K (4 + name.size + 4) n0 (Sh.frame (strL name) ++ be 4 3) l0 M0 e0 (by omega) (by omega) (by omega)
  rw [Nat.zero_add, ble_true (Nat.le_refl (4 + name.size + 4)), Nat.zero_add, ble_true (Nat.le_refl n0), Bool.and_self, Bool.and_self, Bool.and_self, cond_t, subI_self _ M0, subI_self _ e0, b0, bind_s]
  dsimp only
  have M1 : (Sh.frame (strL name) ++ be 4 3 ++ Sh.frame l0).length = 4 + name.size + 4 + (4 + n0) := by rw [List.length_append, M0, frame_length, e0]
  have b1 := f105.spec K (4 + name.size + 4 + (4 + n0)) n1 (Sh.frame (strL name) ++ be 4 3 ++ Sh.frame l0) l1 M1 e1 (by omega) (by omega) (by omega)
  rw [Nat.zero_add, ble_true (Nat.le_refl (4 + name.size + 4 + (4 + n0))), Nat.zero_add, ble_true (Nat.le_refl n1), Bool.and_self, Bool.and_self, Bool.and_self, cond_t, subI_self _ M1, subI_self _ e1, b1, bind_s]
  dsimp only
  have M2 : (Sh.frame (strL name) ++ be 4 3 ++ Sh.frame l0 ++ Sh.frame l1).length = 4 + name.size + 4 + (4 + n0) + (4 + n1) := by rw [List.length_append, M1, frame_length, e1]
  have b2 := f105.spec K (4 + name.size + 4 + (4 + n0) + (4 + n1)) n2 (Sh.frame (strL name) ++ be 4 3 ++ Sh.frame l0 ++ Sh.frame l1) l2 M2 e2 (by omega) (by omega) (by omega)
  rw [Nat.zero_add, ble_true (Nat.le_refl (4 + name.size + 4 + (4 + n0) + (4 + n1))), Nat.zero_add, ble_true (Nat.le_refl n2), Bool.and_self, Bool.and_self, Bool.and_self, cond_t, subI_self _ M2, subI_self _ e2, b2, bind_s]
  dsimp only
  have M3 : (Sh.frame (strL name) ++ be 4 3 ++ Sh.frame l0 ++ Sh.frame l1 ++ Sh.frame l2).length = 4 + name.size + 4 + (4 + n0) + (4 + n1) + (4 + n2) := by rw [List.length_append, M2, frame_length, e2]
  rw [hM, M3]
theorem f64.spec (K : Nat) (name : ByteArray) (n0 : Nat) (l0 : List Int) (n1 : Nat) (l1 : List Int) (n2 : Nat) (l2 : List Int) (hs : name.size ≤ 1000) (e0 : l0.length = n0) (o0 : octets l0) (z0 : n0 ≤ 1000) (e1 : l1.length = n1) (o1 : octets l1) (z1 : n1 ≤ 1000) (e2 : l2.length = n2) (o2 : octets l2) (z2 : n2 ≤ 1000) (hK : 10000 < K) :
    f64.F K (name, n0, n1, n2, n0, l0, n1, l1, n2, l2) = some (Sh.sha (strL name) [l0, l1, l2], n0, n1, n2, n0, l0, n1, l1, n2, l2) := by
  have hnl := strL_length name
  have hM : Sh.cut (strL name) [l0, l1, l2] = Sh.frame (strL name) ++ be 4 3 ++ Sh.frame l0 ++ Sh.frame l1 ++ Sh.frame l2 := by
    simp only [Sh.cut, List.length_cons, List.length_nil, List.flatMap_cons, List.flatMap_nil, List.append_nil, List.append_assoc]
  have ho : octets (Sh.cut (strL name) [l0, l1, l2]) := by
    rw [hM]
    exact octets_append (octets_append (octets_append (octets_append (frame_octets (strL_octets name)) (be_octets _ _)) (frame_octets o0)) (frame_octets o1)) (frame_octets o2)
  have hlen : (Sh.cut (strL name) [l0, l1, l2]).length ≤ 100000 := by
    rw [hM]
    simp only [List.length_append, frame_length, be_length, hnl]
    omega
  simp only [f64.F, f64.T]
  rw [Nat.zero_add, ble_true (Nat.le_refl n0), Nat.zero_add, ble_true (Nat.le_refl n1), Nat.zero_add, ble_true (Nat.le_refl n2), Bool.and_self, Bool.and_self, Bool.and_self, Bool.and_self, cond_t, subI_self _ e0, subI_self _ e1, subI_self _ e2,
    f92.spec K name n0 l0 n1 l1 n2 l2 hs e0 o0 z0 e1 o1 z1 e2 o2 z2 hK, bind_s]
  dsimp only
  rw [Nat.zero_add, ble_true (Nat.le_refl _), Bool.and_self, Bool.and_self, cond_t, subI_self _ rfl, f91.spec K _ _ rfl ho (by omega) (by omega), bind_s]
  rfl
theorem f92v1.spec (K : Nat) (name : ByteArray) (n0 : Nat) (l0 : List Int) (n1 : Nat) (l1 : List Int) (n2 : Nat) (l2 : List Int) (n3 : Nat) (l3 : List Int) (hs : name.size ≤ 1000) (e0 : l0.length = n0) (o0 : octets l0) (z0 : n0 ≤ 1000) (e1 : l1.length = n1) (o1 : octets l1) (z1 : n1 ≤ 1000) (e2 : l2.length = n2) (o2 : octets l2) (z2 : n2 ≤ 1000) (e3 : l3.length = n3) (o3 : octets l3) (z3 : n3 ≤ 1000) (hK : 10000 < K) :
    f92v1.F K (name, n0, n1, n2, n3, n0, l0, n1, l1, n2, l2, n3, l3) = some ((Sh.cut (strL name) [l0, l1, l2, l3]).length, n0, n1, n2, n3, n0, l0, n1, l1, n2, l2, n3, l3, (Sh.cut (strL name) [l0, l1, l2, l3]).length, Sh.cut (strL name) [l0, l1, l2, l3]) := by
  have hnl := strL_length name
  have hM : Sh.cut (strL name) [l0, l1, l2, l3] = Sh.frame (strL name) ++ be 4 4 ++ Sh.frame l0 ++ Sh.frame l1 ++ Sh.frame l2 ++ Sh.frame l3 := by
    simp only [Sh.cut, List.length_cons, List.length_nil, List.flatMap_cons, List.flatMap_nil, List.append_nil, List.append_assoc]
  have f0 := frame_length (strL name)
  rw [hnl] at f0
  simp only [f92v1.F, f92v1.T]
  have a0 := f105.spec K 0 name.size [] (strL name) rfl hnl (by omega) (by omega) (by omega)
  rw [Nat.zero_add, List.nil_append] at a0
  rw [Nat.zero_add, ble_true (Nat.le_refl name.size), Bool.and_self, Bool.and_self, cond_t, subI_self _ hnl, a0, bind_s]
  dsimp only
  have a1 := f106.spec K (4 + name.size) 4 (Sh.frame (strL name)) f0 (by omega) (by omega) (by omega)
  rw [Nat.zero_add, ble_true (Nat.le_refl _), Bool.and_self, Bool.and_self, cond_t, subI_self _ f0, show f106.F K (4 + name.size, 4, 4, 4 + name.size, Sh.frame (strL name)) = _ from a1, bind_s]
  dsimp only
  have M0 : (Sh.frame (strL name) ++ be 4 4).length = 4 + name.size + 4 := by rw [List.length_append, f0, be_length]
  have b0 := f105.spec K (4 + name.size + 4) n0 (Sh.frame (strL name) ++ be 4 4) l0 M0 e0 (by omega) (by omega) (by omega)
  rw [Nat.zero_add, ble_true (Nat.le_refl (4 + name.size + 4)), Nat.zero_add, ble_true (Nat.le_refl n0), Bool.and_self, Bool.and_self, Bool.and_self, cond_t, subI_self _ M0, subI_self _ e0, b0, bind_s]
  dsimp only
  have M1 : (Sh.frame (strL name) ++ be 4 4 ++ Sh.frame l0).length = 4 + name.size + 4 + (4 + n0) := by rw [List.length_append, M0, frame_length, e0]
  have b1 := f105.spec K (4 + name.size + 4 + (4 + n0)) n1 (Sh.frame (strL name) ++ be 4 4 ++ Sh.frame l0) l1 M1 e1 (by omega) (by omega) (by omega)
  rw [Nat.zero_add, ble_true (Nat.le_refl (4 + name.size + 4 + (4 + n0))), Nat.zero_add, ble_true (Nat.le_refl n1), Bool.and_self, Bool.and_self, Bool.and_self, cond_t, subI_self _ M1, subI_self _ e1, b1, bind_s]
  dsimp only
  have M2 : (Sh.frame (strL name) ++ be 4 4 ++ Sh.frame l0 ++ Sh.frame l1).length = 4 + name.size + 4 + (4 + n0) + (4 + n1) := by rw [List.length_append, M1, frame_length, e1]
  have b2 := f105.spec K (4 + name.size + 4 + (4 + n0) + (4 + n1)) n2 (Sh.frame (strL name) ++ be 4 4 ++ Sh.frame l0 ++ Sh.frame l1) l2 M2 e2 (by omega) (by omega) (by omega)
  rw [Nat.zero_add, ble_true (Nat.le_refl (4 + name.size + 4 + (4 + n0) + (4 + n1))), Nat.zero_add, ble_true (Nat.le_refl n2), Bool.and_self, Bool.and_self, Bool.and_self, cond_t, subI_self _ M2, subI_self _ e2, b2, bind_s]
  dsimp only
  have M3 : (Sh.frame (strL name) ++ be 4 4 ++ Sh.frame l0 ++ Sh.frame l1 ++ Sh.frame l2).length = 4 + name.size + 4 + (4 + n0) + (4 + n1) + (4 + n2) := by rw [List.length_append, M2, frame_length, e2]
  have b3 := f105.spec K (4 + name.size + 4 + (4 + n0) + (4 + n1) + (4 + n2)) n3 (Sh.frame (strL name) ++ be 4 4 ++ Sh.frame l0 ++ Sh.frame l1 ++ Sh.frame l2) l3 M3 e3 (by omega) (by omega) (by omega)
  rw [Nat.zero_add, ble_true (Nat.le_refl (4 + name.size + 4 + (4 + n0) + (4 + n1) + (4 + n2))), Nat.zero_add, ble_true (Nat.le_refl n3), Bool.and_self, Bool.and_self, Bool.and_self, cond_t, subI_self _ M3, subI_self _ e3, b3, bind_s]
  dsimp only
  have M4 : (Sh.frame (strL name) ++ be 4 4 ++ Sh.frame l0 ++ Sh.frame l1 ++ Sh.frame l2 ++ Sh.frame l3).length = 4 + name.size + 4 + (4 + n0) + (4 + n1) + (4 + n2) + (4 + n3) := by rw [List.length_append, M3, frame_length, e3]
  rw [hM, M4]
theorem f64v1.spec (K : Nat) (name : ByteArray) (n0 : Nat) (l0 : List Int) (n1 : Nat) (l1 : List Int) (n2 : Nat) (l2 : List Int) (n3 : Nat) (l3 : List Int) (hs : name.size ≤ 1000) (e0 : l0.length = n0) (o0 : octets l0) (z0 : n0 ≤ 1000) (e1 : l1.length = n1) (o1 : octets l1) (z1 : n1 ≤ 1000) (e2 : l2.length = n2) (o2 : octets l2) (z2 : n2 ≤ 1000) (e3 : l3.length = n3) (o3 : octets l3) (z3 : n3 ≤ 1000) (hK : 10000 < K) :
    f64v1.F K (name, n0, n1, n2, n3, n0, l0, n1, l1, n2, l2, n3, l3) = some (Sh.sha (strL name) [l0, l1, l2, l3], n0, n1, n2, n3, n0, l0, n1, l1, n2, l2, n3, l3) := by
  have hnl := strL_length name
  have hM : Sh.cut (strL name) [l0, l1, l2, l3] = Sh.frame (strL name) ++ be 4 4 ++ Sh.frame l0 ++ Sh.frame l1 ++ Sh.frame l2 ++ Sh.frame l3 := by
    simp only [Sh.cut, List.length_cons, List.length_nil, List.flatMap_cons, List.flatMap_nil, List.append_nil, List.append_assoc]
  have ho : octets (Sh.cut (strL name) [l0, l1, l2, l3]) := by
    rw [hM]
    exact octets_append (octets_append (octets_append (octets_append (octets_append (frame_octets (strL_octets name)) (be_octets _ _)) (frame_octets o0)) (frame_octets o1)) (frame_octets o2)) (frame_octets o3)
  have hlen : (Sh.cut (strL name) [l0, l1, l2, l3]).length ≤ 100000 := by
    rw [hM]
    simp only [List.length_append, frame_length, be_length, hnl]
    omega
  simp only [f64v1.F, f64v1.T]
  rw [Nat.zero_add, ble_true (Nat.le_refl n0), Nat.zero_add, ble_true (Nat.le_refl n1), Nat.zero_add, ble_true (Nat.le_refl n2), Nat.zero_add, ble_true (Nat.le_refl n3), Bool.and_self, Bool.and_self, Bool.and_self, Bool.and_self, Bool.and_self, cond_t, subI_self _ e0, subI_self _ e1, subI_self _ e2, subI_self _ e3,
    f92v1.spec K name n0 l0 n1 l1 n2 l2 n3 l3 hs e0 o0 z0 e1 o1 z1 e2 o2 z2 e3 o3 z3 hK, bind_s]
  dsimp only
  rw [Nat.zero_add, ble_true (Nat.le_refl _), Bool.and_self, Bool.and_self, cond_t, subI_self _ rfl, f91.spec K _ _ rfl ho (by omega) (by omega), bind_s]
  rfl
theorem f42.spec (Q : Nat) (name : ByteArray) (n0 : Nat) (l0 : List Int) (n1 : Nat) (l1 : List Int) (hs : name.size ≤ 1000) (hQ : Q < 2 ^ 256) (h0 : 0 < Q) (e0 : l0.length = n0) (o0 : octets l0) (z0 : n0 ≤ 1000) (e1 : l1.length = n1) (o1 : octets l1) (z1 : n1 ≤ 1000) :
    f42.F 100000 (num Q, name, n0, n1, n0, l0, n1, l1) = some (num (Sh.number Q (strL name) [l0, l1]), 0, n0, n1, n0, l0, n1, l1) := by
  have b1 := tv_lt 32 _ (sha_length (strL name) [l0, l1, [1]]) (sha_octets _ _)
  have b2 := tv_lt 32 _ (sha_length (strL name) [l0, l1, [0]]) (sha_octets _ _)
  have oc : ∀ x : Int, 0 ≤ x ∧ x < 256 → octets [x] := fun x hx y hy => by simp only [List.mem_singleton] at hy; omega
  simp only [f42.F, f42.T]
  rw [show ([0, 0, 0, 0] : List Int) = num 0 from rfl, eqN Q 0 hQ (by decide), decide_eq_false (by omega), Bool.false_and, cond_f, Nat.zero_add, ble_true (Nat.le_refl n0), Nat.zero_add, ble_true (Nat.le_refl n1), Bool.and_self, Bool.and_self, Bool.and_self, cond_t, subI_self _ e0, subI_self _ e1,
    f64.spec 100000 name n0 l0 n1 l1 1 [0] hs e0 o0 z0 e1 o1 z1 rfl (oc 0 (by omega)) (by omega) (by omega), bind_s]
  rw [cond_t, f64.spec 100000 name n0 l0 n1 l1 1 [1] hs e0 o0 z0 e1 o1 z1 rfl (oc 1 (by omega)) (by omega) (by omega), bind_s]
  dsimp only
  rw [subI_self _ (sha_length _ _), subI_self _ (sha_length _ _), f65.spec _ (sha_length _ _) (sha_octets _ _), bind_s, f65.spec _ (sha_length _ _) (sha_octets _ _), bind_s]
  dsimp only
  rw [f66.spec _ _ Q b1 b2 hQ, if_neg (by omega), bind_s]
  simp only [Sh.number, List.cons_append, List.nil_append]
theorem f42v1.spec (Q : Nat) (name : ByteArray) (n0 : Nat) (l0 : List Int) (n1 : Nat) (l1 : List Int) (n2 : Nat) (l2 : List Int) (hs : name.size ≤ 1000) (hQ : Q < 2 ^ 256) (h0 : 0 < Q) (e0 : l0.length = n0) (o0 : octets l0) (z0 : n0 ≤ 1000) (e1 : l1.length = n1) (o1 : octets l1) (z1 : n1 ≤ 1000) (e2 : l2.length = n2) (o2 : octets l2) (z2 : n2 ≤ 1000) :
    f42v1.F 100000 (num Q, name, n0, n1, n2, n0, l0, n1, l1, n2, l2) = some (num (Sh.number Q (strL name) [l0, l1, l2]), 0, n0, n1, n2, n0, l0, n1, l1, n2, l2) := by
  have b1 := tv_lt 32 _ (sha_length (strL name) [l0, l1, l2, [1]]) (sha_octets _ _)
  have b2 := tv_lt 32 _ (sha_length (strL name) [l0, l1, l2, [0]]) (sha_octets _ _)
  have oc : ∀ x : Int, 0 ≤ x ∧ x < 256 → octets [x] := fun x hx y hy => by simp only [List.mem_singleton] at hy; omega
  simp only [f42v1.F, f42v1.T]
  rw [show ([0, 0, 0, 0] : List Int) = num 0 from rfl, eqN Q 0 hQ (by decide), decide_eq_false (by omega), Bool.false_and, cond_f, Nat.zero_add, ble_true (Nat.le_refl n0), Nat.zero_add, ble_true (Nat.le_refl n1), Nat.zero_add, ble_true (Nat.le_refl n2), Bool.and_self, Bool.and_self, Bool.and_self, Bool.and_self, cond_t, subI_self _ e0, subI_self _ e1, subI_self _ e2,
    f64v1.spec 100000 name n0 l0 n1 l1 n2 l2 1 [0] hs e0 o0 z0 e1 o1 z1 e2 o2 z2 rfl (oc 0 (by omega)) (by omega) (by omega), bind_s]
  rw [cond_t, f64v1.spec 100000 name n0 l0 n1 l1 n2 l2 1 [1] hs e0 o0 z0 e1 o1 z1 e2 o2 z2 rfl (oc 1 (by omega)) (by omega) (by omega), bind_s]
  dsimp only
  rw [subI_self _ (sha_length _ _), subI_self _ (sha_length _ _), f65.spec _ (sha_length _ _) (sha_octets _ _), bind_s, f65.spec _ (sha_length _ _) (sha_octets _ _), bind_s]
  dsimp only
  rw [f66.spec _ _ Q b1 b2 hQ, if_neg (by omega), bind_s]
  simp only [Sh.number, List.cons_append, List.nil_append]
end Go.Proofs

namespace Go.Proofs
open Go.VM
namespace f62
def T (K : Nat)  : Option (List Int) :=
 (f12.F K 1).bind fun y1 =>
 some y1
def F (K : Nat) (_x : Unit) : Option (List Int) := T K
def av (_x : Unit) : List VV := []
def bl (_x : Unit) : List (Nat × Blk) := []
def inA : VS → Option (Unit)
 | ⟨[], [], 0⟩ => some ()
 | _ => none
def o0 (y : List Int) : VS := ⟨[(0, .agg [.ints .u64 4 y])], [], 0⟩
def inR : VS → Option (List Int)
 | ⟨[(0, .agg [.ints .u64 4 y])], [], 0⟩ => some y
 | _ => none
noncomputable def E (K : Nat) : Entry := genE 0 inA (F K) (dv1 o0)
theorem ok (K : Nat) : EntryOK Tryz.prog 62 (E K) := gen_ok mix tys_ok (tab_ok ((tab_cons (f12.ok K) tab_nil))) Tryz.func62 (c := bodyOf Tryz.f62) (by kernel_rfl) (by kernel_rfl) (loops_none (lp := lpNone) (by kernel_rfl)) (av := av) (bl := bl) (inR := inR) (out := o0) (fuel := 400)
  (by intro s x h; unfold inA at h; split at h <;> simp at h; rfl) (fun _ => Nat.le_of_ble_eq_true rfl)
  (by intro s y h; unfold inR at h; split at h <;> simp at h <;> subst h <;> rfl) (fun _ _ _ => rfl) (fun _ => by kernel_rfl)
end f62
end Go.Proofs

namespace Go.Proofs
open Go.VM
namespace f63
def T (K : Nat) (a0 : List Int) : Option ((List Int) ⊕ (List Int)) :=
 (f72.F K a0).bind fun y1 =>
 bif (decide (y1 ≤ 64)) then
 some (.inl a0)
 else
 some (.inr a0)
def F (K : Nat) (x : List Int) : Option ((List Int) ⊕ (List Int)) := T K x
def av (x : List Int) : List VV := [.agg [.ints .u64 4 x]]
def bl (_x : List Int) : List (Nat × Blk) := []
def inA : VS → Option (List Int)
 | ⟨[(0, .agg [.ints .u64 4 a0])], [], 0⟩ => some a0
 | _ => none
def o0 (y : List Int) : VS := ⟨[(0, .agg [.fn 86 [.ptr 0 0], .fn 84 [.ptr 0 0], .fn 89 [.ptr 0 0]])], [(0, ([.ints .u64 4 y], 24, .norm))], 1⟩
def o1 (y : List Int) : VS := ⟨[(0, .agg [.fn 86 [.ptr 0 0], .fn 84 [.ptr 0 0], .fn 87 [.ptr 0 0]])], [(0, ([.ints .u64 4 y], 24, .norm))], 1⟩
def inR : VS → Option ((List Int) ⊕ (List Int))
 | ⟨[(0, .agg [.fn 86 [.ptr 0 0], .fn 84 [.ptr 0 0], .fn 89 [.ptr 0 0]])], [(0, ([.ints .u64 4 z0], 24, .norm))], 1⟩ => some (.inl z0)
 | ⟨[(0, .agg [.fn 86 [.ptr 0 0], .fn 84 [.ptr 0 0], .fn 87 [.ptr 0 0]])], [(0, ([.ints .u64 4 z0], 24, .norm))], 1⟩ => some (.inr z0)
 | _ => none
noncomputable def E (K : Nat) : Entry := genE 0 inA (F K) (dvA (dv1 o0) (dv1 o1))
theorem ok (K : Nat) : EntryOK Tryz.prog 63 (E K) := gen_ok mix tys_ok (tab_ok ((tab_cons (f72.ok K) tab_nil))) Tryz.func63 (c := bodyOf Tryz.f63) (by kernel_rfl) (by kernel_rfl) (loops_none (lp := lpNone) (by kernel_rfl)) (av := av) (bl := bl) (inR := inR) (out := (alt o0 o1)) (fuel := 400)
  (by intro s x h; unfold inA at h; split at h <;> simp at h; subst h; rfl) (fun _ => Nat.le_of_ble_eq_true rfl)
  (by intro s y h; unfold inR at h; split at h <;> simp at h <;> subst h <;> rfl) (dvA_ok (fun _ _ _ => rfl) (fun _ _ _ => rfl)) (fun _ => by kernel_rfl)
end f63
end Go.Proofs

namespace Go.Proofs
open Go.VM
namespace f41v1
abbrev Ty0 := Bool × Int × Int × List Int × List Int
abbrev Ty1 := Bool × List Int × List Int
abbrev Ty2 := Int × List Int × List Int
abbrev Ty3 := List Int × List Int
noncomputable def c : Code := bodyOf Tryz.f41
def s0t (K : Nat) (rec : Ty0 → Option (Ty1)) (t6 : Bool) (t14 : Int) (t15 : Int) (b0 : List Int) (b1 : List Int) : Option (Ty1) :=
 bif (decide (t15 < t14)) then
 bif decide (0 ≤ t15 ∧ t15 < 2) then
 bif t6 then
 (f32.F K ((List.take 4 (List.drop ((Int.toNat t15) * 4) b0)), b1)).bind fun y7 =>
 rec ((decide (y7 < 0)), t14, (IntKind.wrap .i64 (t15 + 1)), b0, b1)
 else
 rec (false, t14, (IntKind.wrap .i64 (t15 + 1)), b0, b1)
 else
 none
 else
 some (t6, b0, b1)
def s0 (K : Nat) (rec : Ty0 → Option (Ty1)) (x : Ty0) : Option (Ty1) := s0t K rec x.1 x.2.1 x.2.2.1 x.2.2.2.1 x.2.2.2.2
noncomputable def s0.b : Code := (findLoop 0 c).getD .skip
def s0.h : Hint := { lv := [2, 4, 6, 13, 14, 15] }
def s0.ho : Hint := { lv := [2, 4, 6] }
def s0.shp (x : Ty0) : VS := ⟨[(2, .ptr 1 0), (4, .ptr 2 0), (6, .bool x.1), (13, .sl 0 0 2 2), (14, .int .i64 x.2.1), (15, .int .i64 x.2.2.1)], [(0, ([.ints .u64 8 x.2.2.2.1], 24, .norm)), (1, ([.ints .u64 4 x.2.2.2.2], 24, .norm)), (2, ([.raw .nilFunc, .raw .nilFunc, .raw .nilFunc], 68, .norm))], 3⟩
def s0.inX : VS → Option (Ty0)
 | ⟨[(2, .ptr 1 0), (4, .ptr 2 0), (6, .bool t6), (13, .sl 0 0 2 2), (14, .int .i64 t14), (15, .int .i64 t15)], [(0, ([.ints .u64 8 b0], 24, .norm)), (1, ([.ints .u64 4 b1], 24, .norm)), (2, ([.raw .nilFunc, .raw .nilFunc, .raw .nilFunc], 68, .norm))], 3⟩ => some (t6, t14, t15, b0, b1)
 | _ => none
def s0.o0 (y : Ty1) : VS := ⟨[(2, .ptr 1 0), (4, .ptr 2 0), (6, .bool y.1)], [(0, ([.ints .u64 8 y.2.1], 24, .norm)), (1, ([.ints .u64 4 y.2.2], 24, .norm)), (2, ([.raw .nilFunc, .raw .nilFunc, .raw .nilFunc], 68, .norm))], 3⟩
def s0.des : ∀ α : Type, (Ty1) → (Ex → VS → Option α) → Option α := (des1 (.exit 0) s0.o0)
def s0.out : Ty1 → Ex × VS := (fun y => (.exit 0, s0.o0 y))
theorem s0.desOK : ∀ α y (k : Ex → VS → Option α), s0.des α y k = k (s0.out y).1 (s0.out y).2 := (fun _ _ _ => rfl)
def s0.inY : Ex → VS → Option (Ty1)
 | .exit 0, ⟨[(2, .ptr 1 0), (4, .ptr 2 0), (6, .bool t6)], [(0, ([.ints .u64 8 b0], 24, .norm)), (1, ([.ints .u64 4 b1], 24, .norm)), (2, ([.raw .nilFunc, .raw .nilFunc, .raw .nilFunc], 68, .norm))], 3⟩ => some (t6, b0, b1)
 | _, _ => none
def lp (K : Nat) : Nat → Option (Hint × Summ) := tabLp [(0, s0.h, summOf (iter (s0 K) K) s0.inX s0.des)]
noncomputable def tab (K : Nat) : List (Nat × Entry) := [(62, (f62.E K)), (32, (f32.E K)), (63, (f63.E K))]
theorem tabOK (K : Nat) : SpecOK Tryz.prog (tabSp (tab K)) := tab_ok ((tab_cons (f62.ok K) (tab_cons (f32.ok K) (tab_cons (f63.ok K) tab_nil))))
theorem s0.eq (K : Nat) (rec : Ty0 → Option (Ty1)) (x : Ty0) : s0 K rec x = roundL (getA tys) (tabSp (tab K)) 32 1 (lp K) 400 s0.b s0.h s0.ho s0.shp s0.inX s0.inY rec x := by kernel_rfl
theorem s0.lok (K : Nat) : LoopsOK Tryz.prog 32 1 (lp K) s0.b := loops_ok (by
  have h : loopsIn (lp K) s0.b = [] := by kernel_rfl
  rw [h]; simp)
theorem s0.ok (K : Nat) : SummOK Tryz.prog 32 1 (summOf (iter (s0 K) K) s0.inX s0.des) s0.b :=
  loop_ok mix tys_ok (tabOK K) (h := s0.h) (ho := s0.ho) (shp := s0.shp) (inX := s0.inX) (des := s0.des) (out := s0.out) (inY := s0.inY) (fuel := 400)
    (by intro st x h; unfold s0.inX at h; split at h <;> simp at h; subst h; rfl)
    (by intro e st y h; unfold s0.inY at h; split at h <;> simp at h <;> subst h <;> rfl)
    s0.desOK (s0.lok K) (s0 K) (s0.eq K) K
theorem loops (K : Nat) : LoopsOK Tryz.prog 32 1 (lp K) c := loops_ok (by
  have h : loopsIn (lp K) c = [(0, s0.b)] := by kernel_rfl
  rw [h]
  intro p hp
  simp only [List.mem_cons, List.not_mem_nil, or_false] at hp
  rcases hp with rfl
  · exact ⟨_, rfl, (s0.ok K)⟩)
def T (K : Nat) (a0 : List Int) (m0 : List Int) : Option ((Int × List Int) ⊕ (Ty2) ⊕ (Ty2)) :=
 (f62.F K ()).bind fun y1 =>
 (f32.F K (a0, y1)).bind fun y2 =>
 (iter (s0 K) K ((decide (y2 > 0)), 2, 0, m0, a0)).bind fun y11 =>
 bif !y11.1 then
 some (.inl (1, y11.2.1))
 else
 (f63.F K y11.2.2).bind fun y12 =>
 alt (fun y13 =>
 some (.inr (.inl (0, y11.2.1, y13)))) (fun y14 =>
 some (.inr (.inr (0, y11.2.1, y14)))) y12
def F (K : Nat) (x : Ty3) : Option ((Int × List Int) ⊕ (Ty2) ⊕ (Ty2)) := T K x.1 x.2
def av (x : Ty3) : List VV := [.agg [.ints .u64 4 x.1], .sl 0 0 2 2]
def bl (x : Ty3) : List (Nat × Blk) := [(0, ([.ints .u64 8 x.2], 24, .norm))]
def inA : VS → Option (Ty3)
 | ⟨[(0, .agg [.ints .u64 4 a0]), (1, .sl 0 0 2 2)], [(0, ([.ints .u64 8 m0], 24, .norm))], 1⟩ => some (a0, m0)
 | _ => none
def o0 (y : Int × List Int) : VS := ⟨[(0, .tup [.agg [.raw .nilFunc, .raw .nilFunc, .raw .nilFunc], .int .i64 y.1])], [(0, ([.ints .u64 8 y.2], 24, .norm))], 1⟩
def o1 (y : Ty2) : VS := ⟨[(0, .tup [.agg [.fn 86 [.ptr 1 0], .fn 84 [.ptr 1 0], .fn 89 [.ptr 1 0]], .int .i64 y.1])], [(0, ([.ints .u64 8 y.2.1], 24, .norm)), (1, ([.ints .u64 4 y.2.2], 24, .norm))], 2⟩
def o2 (y : Ty2) : VS := ⟨[(0, .tup [.agg [.fn 86 [.ptr 1 0], .fn 84 [.ptr 1 0], .fn 87 [.ptr 1 0]], .int .i64 y.1])], [(0, ([.ints .u64 8 y.2.1], 24, .norm)), (1, ([.ints .u64 4 y.2.2], 24, .norm))], 2⟩
def des : ∀ α : Type, ((Int × List Int) ⊕ (Ty2) ⊕ (Ty2)) → (VS → Option α) → Option α := (dvA (dv1 o0) (dvA (dv1 o1) (dv1 o2)))
def out : (Int × List Int) ⊕ (Ty2) ⊕ (Ty2) → VS := (alt o0 (alt o1 o2))
def inR : VS → Option ((Int × List Int) ⊕ (Ty2) ⊕ (Ty2))
 | ⟨[(0, .tup [.agg [.raw .nilFunc, .raw .nilFunc, .raw .nilFunc], .int .i64 y])], [(0, ([.ints .u64 8 z0], 24, .norm))], 1⟩ => some (.inl (y, z0))
 | ⟨[(0, .tup [.agg [.fn 86 [.ptr 1 0], .fn 84 [.ptr 1 0], .fn 89 [.ptr 1 0]], .int .i64 y])], [(0, ([.ints .u64 8 z0], 24, .norm)), (1, ([.ints .u64 4 z1], 24, .norm))], 2⟩ => some (.inr (.inl (y, z0, z1)))
 | ⟨[(0, .tup [.agg [.fn 86 [.ptr 1 0], .fn 84 [.ptr 1 0], .fn 87 [.ptr 1 0]], .int .i64 y])], [(0, ([.ints .u64 8 z0], 24, .norm)), (1, ([.ints .u64 4 z1], 24, .norm))], 2⟩ => some (.inr (.inr (y, z0, z1)))
 | _ => none
noncomputable def E (K : Nat) : Entry := genE 1 inA (F K) des
theorem eq (K : Nat) (x : Ty3) : F K x = xrun (getA tys) (tabSp (tab K)) Tryz.f41.ntmps 1 (lp K) 400 c ⟨initL 0 (av x), bl x, 1⟩ (contF (getA tys) 1 Tryz.f41.results.toList inR) := by kernel_rfl
theorem ok (K : Nat) : EntryOK Tryz.prog 41 (E K) :=
  gen_ok mix tys_ok (tabOK K) Tryz.func41 (by kernel_rfl : Tryz.f41.body = some c) (by kernel_rfl) (loops K) (av := av) (bl := bl) (out := out) (fuel := 400)
    (by intro s x h; unfold inA at h; split at h <;> simp at h; subst h; rfl) (fun _ => Nat.le_of_ble_eq_true rfl)
    (by intro s y h; unfold inR at h; split at h <;> simp at h <;> subst h <;> rfl) (dvA_ok (fun _ _ _ => rfl) (dvA_ok (fun _ _ _ => rfl) (fun _ _ _ => rfl))) (eq K)
end f41v1
end Go.Proofs

namespace Go.Proofs
open Go.VM
namespace f86
abbrev Ty0 := List Int × List Int × List Int
abbrev Ty1 := List Int × List Int
def T (K : Nat) (a0 : List Int) (a1 : List Int) (m0 : List Int) : Option (Ty1) :=
 (f26.F K (m0, a1)).bind fun y1 =>
 (f32.F K (a0, y1.1)).bind fun y2 =>
 bif (decide (y2 ≥ 0)) then
 (f26.F K (a0, y1.1)).bind fun y4 =>
 some (y4.1, m0)
 else
 (f85.F K (a0, a1)).bind fun y5 =>
 some (y5.1, m0)
def F (K : Nat) (x : Ty0) : Option (Ty1) := T K x.1 x.2.1 x.2.2
def av (x : Ty0) : List VV := [.agg [.ints .u64 4 x.1], .agg [.ints .u64 4 x.2.1], .ptr 0 0]
def bl (x : Ty0) : List (Nat × Blk) := [(0, ([.ints .u64 4 x.2.2], 24, .norm))]
def inA : VS → Option (Ty0)
 | ⟨[(0, .agg [.ints .u64 4 a0]), (1, .agg [.ints .u64 4 a1]), (2, .ptr 0 0)], [(0, ([.ints .u64 4 m0], 24, .norm))], 1⟩ => some (a0, a1, m0)
 | _ => none
def o0 (y : Ty1) : VS := ⟨[(0, .agg [.ints .u64 4 y.1])], [(0, ([.ints .u64 4 y.2], 24, .norm))], 1⟩
def inR : VS → Option (Ty1)
 | ⟨[(0, .agg [.ints .u64 4 y])], [(0, ([.ints .u64 4 z0], 24, .norm))], 1⟩ => some (y, z0)
 | _ => none
noncomputable def E (K : Nat) : Entry := genE 1 inA (F K) (dv1 o0)
theorem ok (K : Nat) : EntryOK Tryz.prog 86 (E K) := gen_ok mix tys_ok (tab_ok ((tab_cons (f26.ok K) (tab_cons (f32.ok K) (tab_cons (f85.ok K) tab_nil))))) Tryz.func86 (c := bodyOf Tryz.f86) (by kernel_rfl) (by kernel_rfl) (loops_none (lp := lpNone) (by kernel_rfl)) (av := av) (bl := bl) (inR := inR) (out := o0) (fuel := 400)
  (by intro s x h; unfold inA at h; split at h <;> simp at h; subst h; rfl) (fun _ => Nat.le_of_ble_eq_true rfl)
  (by intro s y h; unfold inR at h; split at h <;> simp at h <;> subst h <;> rfl) (fun _ _ _ => rfl) (fun _ => by kernel_rfl)
end f86
end Go.Proofs

namespace Go.Proofs
open Go.VM
namespace f20
abbrev Ty0 := List Int × List Int × List Int
def T (K : Nat) (a0 : List Int) (a1 : List Int) (a2 : List Int) : Option (List Int × Int) :=
 (f41v1.F K (a2, (spl (spl [] 0 4 a0) 4 4 a1))).bind fun y2 =>
 alt (fun y3 =>
 bif (y3.1 != 0) then
 some ([0, 0, 0, 0], y3.1)
 else
 none) (fun y4 =>
 alt (fun y5 =>
 bif (y5.1 != 0) then
 some ([0, 0, 0, 0], y5.1)
 else
 (f86.F K (a0, a1, y5.2.2)).bind fun y7 =>
 some (y7.1, 0)) (fun y6 =>
 bif (y6.1 != 0) then
 some ([0, 0, 0, 0], y6.1)
 else
 (f86.F K (a0, a1, y6.2.2)).bind fun y8 =>
 some (y8.1, 0)) y4) y2
def F (K : Nat) (x : Ty0) : Option (List Int × Int) := T K x.1 x.2.1 x.2.2
def av (x : Ty0) : List VV := [.agg [.ints .u64 4 x.1], .agg [.ints .u64 4 x.2.1], .agg [.ints .u64 4 x.2.2]]
def bl (_x : Ty0) : List (Nat × Blk) := []
def inA : VS → Option (Ty0)
 | ⟨[(0, .agg [.ints .u64 4 a0]), (1, .agg [.ints .u64 4 a1]), (2, .agg [.ints .u64 4 a2])], [], 0⟩ => some (a0, a1, a2)
 | _ => none
def o0 (y : List Int × Int) : VS := ⟨[(0, .tup [.agg [.ints .u64 4 y.1], .int .i64 y.2])], [], 0⟩
def inR : VS → Option (List Int × Int)
 | ⟨[(0, .tup [.agg [.ints .u64 4 y_0], .int .i64 y_1])], [], 0⟩ => some (y_0, y_1)
 | _ => none
noncomputable def E (K : Nat) : Entry := genE 0 inA (F K) (dv1 o0)
theorem ok (K : Nat) : EntryOK Tryz.prog 20 (E K) := gen_ok mix tys_ok (tab_ok ((tab_cons (f41v1.ok K) (tab_cons (f86.ok K) tab_nil)))) Tryz.func20 (c := bodyOf Tryz.f20) (by kernel_rfl) (by kernel_rfl) (loops_none (lp := lpNone) (by kernel_rfl)) (av := av) (bl := bl) (inR := inR) (out := o0) (fuel := 400)
  (by intro s x h; unfold inA at h; split at h <;> simp at h; subst h; rfl) (fun _ => Nat.le_of_ble_eq_true rfl)
  (by intro s y h; unfold inR at h; split at h <;> simp at h <;> subst h <;> rfl) (fun _ _ _ => rfl) (fun _ => by kernel_rfl)
end f20
end Go.Proofs

namespace Go.Proofs
open Go.VM
namespace f89
abbrev Ty0 := List Int × List Int × List Int
abbrev Ty1 := List Int × List Int
def T (K : Nat) (a0 : List Int) (a1 : List Int) (m0 : List Int) : Option (Ty1) :=
 (f69.F K ((List.getD a0 0 0), (List.getD a1 0 0))).bind fun y3 =>
 (f90.F K (y3.1, y3.2, (List.getD m0 0 0))).bind fun y5 =>
 (f12.F K y5).bind fun y6 =>
 some (y6, m0)
def F (K : Nat) (x : Ty0) : Option (Ty1) := T K x.1 x.2.1 x.2.2
def av (x : Ty0) : List VV := [.agg [.ints .u64 4 x.1], .agg [.ints .u64 4 x.2.1], .ptr 0 0]
def bl (x : Ty0) : List (Nat × Blk) := [(0, ([.ints .u64 4 x.2.2], 24, .norm))]
def inA : VS → Option (Ty0)
 | ⟨[(0, .agg [.ints .u64 4 a0]), (1, .agg [.ints .u64 4 a1]), (2, .ptr 0 0)], [(0, ([.ints .u64 4 m0], 24, .norm))], 1⟩ => some (a0, a1, m0)
 | _ => none
def o0 (y : Ty1) : VS := ⟨[(0, .agg [.ints .u64 4 y.1])], [(0, ([.ints .u64 4 y.2], 24, .norm))], 1⟩
def inR : VS → Option (Ty1)
 | ⟨[(0, .agg [.ints .u64 4 y])], [(0, ([.ints .u64 4 z0], 24, .norm))], 1⟩ => some (y, z0)
 | _ => none
noncomputable def E (K : Nat) : Entry := genE 1 inA (F K) (dv1 o0)
theorem ok (K : Nat) : EntryOK Tryz.prog 89 (E K) := gen_ok mix tys_ok (tab_ok ((tab_cons (f69.ok K) (tab_cons (f90.ok K) (tab_cons (f12.ok K) tab_nil))))) Tryz.func89 (c := bodyOf Tryz.f89) (by kernel_rfl) (by kernel_rfl) (loops_none (lp := lpNone) (by kernel_rfl)) (av := av) (bl := bl) (inR := inR) (out := o0) (fuel := 400)
  (by intro s x h; unfold inA at h; split at h <;> simp at h; subst h; rfl) (fun _ => Nat.le_of_ble_eq_true rfl)
  (by intro s y h; unfold inR at h; split at h <;> simp at h <;> subst h <;> rfl) (fun _ _ _ => rfl) (fun _ => by kernel_rfl)
end f89
end Go.Proofs

namespace Go.Proofs
open Go.VM
namespace f87
abbrev Ty0 := List Int × List Int × List Int
abbrev Ty1 := List Int × List Int
def T (K : Nat) (a0 : List Int) (a1 : List Int) (m0 : List Int) : Option (Ty1) :=
 (f88.F K (a0, a1)).bind fun y1 =>
 (f61.F K (y1.1, y1.2, m0)).bind fun y2 =>
 some (y2.1, m0)
def F (K : Nat) (x : Ty0) : Option (Ty1) := T K x.1 x.2.1 x.2.2
def av (x : Ty0) : List VV := [.agg [.ints .u64 4 x.1], .agg [.ints .u64 4 x.2.1], .ptr 0 0]
def bl (x : Ty0) : List (Nat × Blk) := [(0, ([.ints .u64 4 x.2.2], 24, .norm))]
def inA : VS → Option (Ty0)
 | ⟨[(0, .agg [.ints .u64 4 a0]), (1, .agg [.ints .u64 4 a1]), (2, .ptr 0 0)], [(0, ([.ints .u64 4 m0], 24, .norm))], 1⟩ => some (a0, a1, m0)
 | _ => none
def o0 (y : Ty1) : VS := ⟨[(0, .agg [.ints .u64 4 y.1])], [(0, ([.ints .u64 4 y.2], 24, .norm))], 1⟩
def inR : VS → Option (Ty1)
 | ⟨[(0, .agg [.ints .u64 4 y])], [(0, ([.ints .u64 4 z0], 24, .norm))], 1⟩ => some (y, z0)
 | _ => none
noncomputable def E (K : Nat) : Entry := genE 1 inA (F K) (dv1 o0)
theorem ok (K : Nat) : EntryOK Tryz.prog 87 (E K) := gen_ok mix tys_ok (tab_ok ((tab_cons (f88.ok K) (tab_cons (f61.ok K) tab_nil)))) Tryz.func87 (c := bodyOf Tryz.f87) (by kernel_rfl) (by kernel_rfl) (loops_none (lp := lpNone) (by kernel_rfl)) (av := av) (bl := bl) (inR := inR) (out := o0) (fuel := 400)
  (by intro s x h; unfold inA at h; split at h <;> simp at h; subst h; rfl) (fun _ => Nat.le_of_ble_eq_true rfl)
  (by intro s y h; unfold inR at h; split at h <;> simp at h <;> subst h <;> rfl) (fun _ _ _ => rfl) (fun _ => by kernel_rfl)
end f87
end Go.Proofs

namespace Go.Proofs
open Go.VM
namespace f19
abbrev Ty0 := List Int × List Int × List Int
def T (K : Nat) (a0 : List Int) (a1 : List Int) (a2 : List Int) : Option (List Int × Int) :=
 (f41v1.F K (a2, (spl (spl [] 0 4 a0) 4 4 a1))).bind fun y2 =>
 alt (fun y3 =>
 bif (y3.1 != 0) then
 some ([0, 0, 0, 0], y3.1)
 else
 none) (fun y4 =>
 alt (fun y5 =>
 bif (y5.1 != 0) then
 some ([0, 0, 0, 0], y5.1)
 else
 (f89.F K (a0, a1, y5.2.2)).bind fun y7 =>
 some (y7.1, 0)) (fun y6 =>
 bif (y6.1 != 0) then
 some ([0, 0, 0, 0], y6.1)
 else
 (f87.F K (a0, a1, y6.2.2)).bind fun y8 =>
 some (y8.1, 0)) y4) y2
def F (K : Nat) (x : Ty0) : Option (List Int × Int) := T K x.1 x.2.1 x.2.2
def av (x : Ty0) : List VV := [.agg [.ints .u64 4 x.1], .agg [.ints .u64 4 x.2.1], .agg [.ints .u64 4 x.2.2]]
def bl (_x : Ty0) : List (Nat × Blk) := []
def inA : VS → Option (Ty0)
 | ⟨[(0, .agg [.ints .u64 4 a0]), (1, .agg [.ints .u64 4 a1]), (2, .agg [.ints .u64 4 a2])], [], 0⟩ => some (a0, a1, a2)
 | _ => none
def o0 (y : List Int × Int) : VS := ⟨[(0, .tup [.agg [.ints .u64 4 y.1], .int .i64 y.2])], [], 0⟩
def inR : VS → Option (List Int × Int)
 | ⟨[(0, .tup [.agg [.ints .u64 4 y_0], .int .i64 y_1])], [], 0⟩ => some (y_0, y_1)
 | _ => none
noncomputable def E (K : Nat) : Entry := genE 0 inA (F K) (dv1 o0)
theorem ok (K : Nat) : EntryOK Tryz.prog 19 (E K) := gen_ok mix tys_ok (tab_ok ((tab_cons (f41v1.ok K) (tab_cons (f89.ok K) (tab_cons (f87.ok K) tab_nil))))) Tryz.func19 (c := bodyOf Tryz.f19) (by kernel_rfl) (by kernel_rfl) (loops_none (lp := lpNone) (by kernel_rfl)) (av := av) (bl := bl) (inR := inR) (out := o0) (fuel := 400)
  (by intro s x h; unfold inA at h; split at h <;> simp at h; subst h; rfl) (fun _ => Nat.le_of_ble_eq_true rfl)
  (by intro s y h; unfold inR at h; split at h <;> simp at h <;> subst h <;> rfl) (fun _ _ _ => rfl) (fun _ => by kernel_rfl)
end f19
end Go.Proofs

namespace Go.Proofs
open Go.VM
namespace f41
abbrev Ty0 := Bool × Int × Int × List Int × List Int
abbrev Ty1 := Bool × List Int × List Int
abbrev Ty2 := Int × List Int × List Int
abbrev Ty3 := List Int × List Int
abbrev Ty4 := Int × List Int
noncomputable def c : Code := bodyOf Tryz.f41
def s0t (K : Nat) (rec : Ty0 → Option (Ty1)) (t6 : Bool) (t14 : Int) (t15 : Int) (b0 : List Int) (b1 : List Int) : Option (Ty1) :=
 bif (decide (t15 < t14)) then
 bif decide (0 ≤ t15 ∧ t15 < 1) then
 bif t6 then
 (f32.F K ((List.take 4 (List.drop ((Int.toNat t15) * 4) b0)), b1)).bind fun y7 =>
 rec ((decide (y7 < 0)), t14, (IntKind.wrap .i64 (t15 + 1)), b0, b1)
 else
 rec (false, t14, (IntKind.wrap .i64 (t15 + 1)), b0, b1)
 else
 none
 else
 some (t6, b0, b1)
def s0 (K : Nat) (rec : Ty0 → Option (Ty1)) (x : Ty0) : Option (Ty1) := s0t K rec x.1 x.2.1 x.2.2.1 x.2.2.2.1 x.2.2.2.2
noncomputable def s0.b : Code := (findLoop 0 c).getD .skip
def s0.h : Hint := { lv := [2, 4, 6, 13, 14, 15] }
def s0.ho : Hint := { lv := [2, 4, 6] }
def s0.shp (x : Ty0) : VS := ⟨[(2, .ptr 1 0), (4, .ptr 2 0), (6, .bool x.1), (13, .sl 0 0 1 1), (14, .int .i64 x.2.1), (15, .int .i64 x.2.2.1)], [(0, ([.ints .u64 4 x.2.2.2.1], 24, .norm)), (1, ([.ints .u64 4 x.2.2.2.2], 24, .norm)), (2, ([.raw .nilFunc, .raw .nilFunc, .raw .nilFunc], 68, .norm))], 3⟩
def s0.inX : VS → Option (Ty0)
 | ⟨[(2, .ptr 1 0), (4, .ptr 2 0), (6, .bool t6), (13, .sl 0 0 1 1), (14, .int .i64 t14), (15, .int .i64 t15)], [(0, ([.ints .u64 4 b0], 24, .norm)), (1, ([.ints .u64 4 b1], 24, .norm)), (2, ([.raw .nilFunc, .raw .nilFunc, .raw .nilFunc], 68, .norm))], 3⟩ => some (t6, t14, t15, b0, b1)
 | _ => none
def s0.o0 (y : Ty1) : VS := ⟨[(2, .ptr 1 0), (4, .ptr 2 0), (6, .bool y.1)], [(0, ([.ints .u64 4 y.2.1], 24, .norm)), (1, ([.ints .u64 4 y.2.2], 24, .norm)), (2, ([.raw .nilFunc, .raw .nilFunc, .raw .nilFunc], 68, .norm))], 3⟩
def s0.des : ∀ α : Type, (Ty1) → (Ex → VS → Option α) → Option α := (des1 (.exit 0) s0.o0)
def s0.out : Ty1 → Ex × VS := (fun y => (.exit 0, s0.o0 y))
theorem s0.desOK : ∀ α y (k : Ex → VS → Option α), s0.des α y k = k (s0.out y).1 (s0.out y).2 := (fun _ _ _ => rfl)
def s0.inY : Ex → VS → Option (Ty1)
 | .exit 0, ⟨[(2, .ptr 1 0), (4, .ptr 2 0), (6, .bool t6)], [(0, ([.ints .u64 4 b0], 24, .norm)), (1, ([.ints .u64 4 b1], 24, .norm)), (2, ([.raw .nilFunc, .raw .nilFunc, .raw .nilFunc], 68, .norm))], 3⟩ => some (t6, b0, b1)
 | _, _ => none
def lp (K : Nat) : Nat → Option (Hint × Summ) := tabLp [(0, s0.h, summOf (iter (s0 K) K) s0.inX s0.des)]
noncomputable def tab (K : Nat) : List (Nat × Entry) := [(62, (f62.E K)), (32, (f32.E K)), (63, (f63.E K))]
theorem tabOK (K : Nat) : SpecOK Tryz.prog (tabSp (tab K)) := tab_ok ((tab_cons (f62.ok K) (tab_cons (f32.ok K) (tab_cons (f63.ok K) tab_nil))))
theorem s0.eq (K : Nat) (rec : Ty0 → Option (Ty1)) (x : Ty0) : s0 K rec x = roundL (getA tys) (tabSp (tab K)) 32 1 (lp K) 400 s0.b s0.h s0.ho s0.shp s0.inX s0.inY rec x := by kernel_rfl
theorem s0.lok (K : Nat) : LoopsOK Tryz.prog 32 1 (lp K) s0.b := loops_ok (by
  have h : loopsIn (lp K) s0.b = [] := by kernel_rfl
  rw [h]; simp)
theorem s0.ok (K : Nat) : SummOK Tryz.prog 32 1 (summOf (iter (s0 K) K) s0.inX s0.des) s0.b :=
  loop_ok mix tys_ok (tabOK K) (h := s0.h) (ho := s0.ho) (shp := s0.shp) (inX := s0.inX) (des := s0.des) (out := s0.out) (inY := s0.inY) (fuel := 400)
    (by intro st x h; unfold s0.inX at h; split at h <;> simp at h; subst h; rfl)
    (by intro e st y h; unfold s0.inY at h; split at h <;> simp at h <;> subst h <;> rfl)
    s0.desOK (s0.lok K) (s0 K) (s0.eq K) K
theorem loops (K : Nat) : LoopsOK Tryz.prog 32 1 (lp K) c := loops_ok (by
  have h : loopsIn (lp K) c = [(0, s0.b)] := by kernel_rfl
  rw [h]
  intro p hp
  simp only [List.mem_cons, List.not_mem_nil, or_false] at hp
  rcases hp with rfl
  · exact ⟨_, rfl, (s0.ok K)⟩)
def T (K : Nat) (a0 : List Int) (m0 : List Int) : Option ((Ty4) ⊕ (Ty2) ⊕ (Ty2)) :=
 (f62.F K ()).bind fun y1 =>
 (f32.F K (a0, y1)).bind fun y2 =>
 (iter (s0 K) K ((decide (y2 > 0)), 1, 0, m0, a0)).bind fun y11 =>
 bif !y11.1 then
 some (.inl (1, y11.2.1))
 else
 (f63.F K y11.2.2).bind fun y12 =>
 alt (fun y13 =>
 some (.inr (.inl (0, y11.2.1, y13)))) (fun y14 =>
 some (.inr (.inr (0, y11.2.1, y14)))) y12
def F (K : Nat) (x : Ty3) : Option ((Ty4) ⊕ (Ty2) ⊕ (Ty2)) := T K x.1 x.2
def av (x : Ty3) : List VV := [.agg [.ints .u64 4 x.1], .sl 0 0 1 1]
def bl (x : Ty3) : List (Nat × Blk) := [(0, ([.ints .u64 4 x.2], 24, .norm))]
def inA : VS → Option (Ty3)
 | ⟨[(0, .agg [.ints .u64 4 a0]), (1, .sl 0 0 1 1)], [(0, ([.ints .u64 4 m0], 24, .norm))], 1⟩ => some (a0, m0)
 | _ => none
def o0 (y : Ty4) : VS := ⟨[(0, .tup [.agg [.raw .nilFunc, .raw .nilFunc, .raw .nilFunc], .int .i64 y.1])], [(0, ([.ints .u64 4 y.2], 24, .norm))], 1⟩
def o1 (y : Ty2) : VS := ⟨[(0, .tup [.agg [.fn 86 [.ptr 1 0], .fn 84 [.ptr 1 0], .fn 89 [.ptr 1 0]], .int .i64 y.1])], [(0, ([.ints .u64 4 y.2.1], 24, .norm)), (1, ([.ints .u64 4 y.2.2], 24, .norm))], 2⟩
def o2 (y : Ty2) : VS := ⟨[(0, .tup [.agg [.fn 86 [.ptr 1 0], .fn 84 [.ptr 1 0], .fn 87 [.ptr 1 0]], .int .i64 y.1])], [(0, ([.ints .u64 4 y.2.1], 24, .norm)), (1, ([.ints .u64 4 y.2.2], 24, .norm))], 2⟩
def des : ∀ α : Type, ((Ty4) ⊕ (Ty2) ⊕ (Ty2)) → (VS → Option α) → Option α := (dvA (dv1 o0) (dvA (dv1 o1) (dv1 o2)))
def out : (Ty4) ⊕ (Ty2) ⊕ (Ty2) → VS := (alt o0 (alt o1 o2))
def inR : VS → Option ((Ty4) ⊕ (Ty2) ⊕ (Ty2))
 | ⟨[(0, .tup [.agg [.raw .nilFunc, .raw .nilFunc, .raw .nilFunc], .int .i64 y])], [(0, ([.ints .u64 4 z0], 24, .norm))], 1⟩ => some (.inl (y, z0))
 | ⟨[(0, .tup [.agg [.fn 86 [.ptr 1 0], .fn 84 [.ptr 1 0], .fn 89 [.ptr 1 0]], .int .i64 y])], [(0, ([.ints .u64 4 z0], 24, .norm)), (1, ([.ints .u64 4 z1], 24, .norm))], 2⟩ => some (.inr (.inl (y, z0, z1)))
 | ⟨[(0, .tup [.agg [.fn 86 [.ptr 1 0], .fn 84 [.ptr 1 0], .fn 87 [.ptr 1 0]], .int .i64 y])], [(0, ([.ints .u64 4 z0], 24, .norm)), (1, ([.ints .u64 4 z1], 24, .norm))], 2⟩ => some (.inr (.inr (y, z0, z1)))
 | _ => none
noncomputable def E (K : Nat) : Entry := genE 1 inA (F K) des
theorem eq (K : Nat) (x : Ty3) : F K x = xrun (getA tys) (tabSp (tab K)) Tryz.f41.ntmps 1 (lp K) 400 c ⟨initL 0 (av x), bl x, 1⟩ (contF (getA tys) 1 Tryz.f41.results.toList inR) := by kernel_rfl
theorem ok (K : Nat) : EntryOK Tryz.prog 41 (E K) :=
  gen_ok mix tys_ok (tabOK K) Tryz.func41 (by kernel_rfl : Tryz.f41.body = some c) (by kernel_rfl) (loops K) (av := av) (bl := bl) (out := out) (fuel := 400)
    (by intro s x h; unfold inA at h; split at h <;> simp at h; subst h; rfl) (fun _ => Nat.le_of_ble_eq_true rfl)
    (by intro s y h; unfold inR at h; split at h <;> simp at h <;> subst h <;> rfl) (dvA_ok (fun _ _ _ => rfl) (dvA_ok (fun _ _ _ => rfl) (fun _ _ _ => rfl))) (eq K)
end f41
end Go.Proofs

namespace Go.Proofs
open Go.VM
namespace f51
abbrev Ty0 := Int × Int × List Int × List Int × List Int × List Int × List Int
abbrev Ty1 := Int × Int × List Int × List Int × List Int × List Int
abbrev Ty2 := List Int × List Int × List Int
abbrev Ty3 := List Int × List Int
abbrev Ty4 := List Int × Int
noncomputable def c : Code := bodyOf Tryz.f51
def s0t (K : Nat) (_rec : Ty1 → Option (Ty3)) (t25 : Int) (t26 : Int) (_b0 : List Int) (b1 : List Int) (b2 : List Int) (b4 : List Int) : Option (Ty3) :=
 bif (decide (t26 < t25)) then
 (f73.F K (b1, t26)).bind fun y7 =>
 bif (y7 == 1) then
 none
 else
 none
 else
 some (b2, b4)
def s0 (K : Nat) (rec : Ty1 → Option (Ty3)) (x : Ty1) : Option (Ty3) := s0t K rec x.1 x.2.1 x.2.2.1 x.2.2.2.1 x.2.2.2.2.1 x.2.2.2.2.2
noncomputable def s0.b : Code := (findLoop 0 c).getD .skip
def s0.h : Hint := { lv := [3, 4, 6, 8, 10, 25, 26] }
def s0.ho : Hint := { lv := [6, 10] }
def s0.shp (x : Ty1) : VS := ⟨[(3, .ptr 0 0), (4, .ptr 1 0), (6, .ptr 2 0), (8, .ptr 3 0), (10, .ptr 4 0), (25, .int .i64 x.1), (26, .int .i64 x.2.1)], [(0, ([.ints .u64 4 x.2.2.1], 24, .norm)), (1, ([.ints .u64 4 x.2.2.2.1], 24, .norm)), (2, ([.ints .u64 4 x.2.2.2.2.1], 24, .norm)), (3, ([.raw .nilFunc, .raw .nilFunc, .raw .nilFunc], 68, .norm)), (4, ([.ints .u64 4 x.2.2.2.2.2], 24, .norm))], 5⟩
def s0.inX : VS → Option (Ty1)
 | ⟨[(3, .ptr 0 0), (4, .ptr 1 0), (6, .ptr 2 0), (8, .ptr 3 0), (10, .ptr 4 0), (25, .int .i64 t25), (26, .int .i64 t26)], [(0, ([.ints .u64 4 b0], 24, .norm)), (1, ([.ints .u64 4 b1], 24, .norm)), (2, ([.ints .u64 4 b2], 24, .norm)), (3, ([.raw .nilFunc, .raw .nilFunc, .raw .nilFunc], 68, .norm)), (4, ([.ints .u64 4 b4], 24, .norm))], 5⟩ => some (t25, t26, b0, b1, b2, b4)
 | _ => none
def s0.o0 (y : Ty3) : VS := ⟨[(6, .ptr 0 0), (10, .ptr 1 0)], [(0, ([.ints .u64 4 y.1], 24, .norm)), (1, ([.ints .u64 4 y.2], 24, .norm))], 2⟩
def s0.des : ∀ α : Type, (Ty3) → (Ex → VS → Option α) → Option α := (des1 (.exit 0) s0.o0)
def s0.out : Ty3 → Ex × VS := (fun y => (.exit 0, s0.o0 y))
theorem s0.desOK : ∀ α y (k : Ex → VS → Option α), s0.des α y k = k (s0.out y).1 (s0.out y).2 := (fun _ _ _ => rfl)
def s0.inY : Ex → VS → Option (Ty3)
 | .exit 0, ⟨[(6, .ptr 0 0), (10, .ptr 1 0)], [(0, ([.ints .u64 4 b0], 24, .norm)), (1, ([.ints .u64 4 b1], 24, .norm))], 2⟩ => some (b0, b1)
 | _, _ => none
def s0bt (K : Nat) (rec : Ty0 → Option (Ty3)) (t25 : Int) (t26 : Int) (b0 : List Int) (b1 : List Int) (b2 : List Int) (b4 : List Int) (b5 : List Int) : Option (Ty3) :=
 bif (decide (t26 < t25)) then
 (f73.F K (b1, t26)).bind fun y14 =>
 bif (y14 == 1) then
 (f89.F K (b4, b0, b5)).bind fun y15 =>
 (f89.F K (b0, b0, y15.2)).bind fun y16 =>
 rec (t25, (IntKind.wrap .i64 (t26 + 1)), y16.1, b1, b2, y15.1, y16.2)
 else
 (f89.F K (b0, b0, b5)).bind fun y18 =>
 rec (t25, (IntKind.wrap .i64 (t26 + 1)), y18.1, b1, b2, b4, y18.2)
 else
 some (b2, b4)
def s0b (K : Nat) (rec : Ty0 → Option (Ty3)) (x : Ty0) : Option (Ty3) := s0bt K rec x.1 x.2.1 x.2.2.1 x.2.2.2.1 x.2.2.2.2.1 x.2.2.2.2.2.1 x.2.2.2.2.2.2
noncomputable def s0b.b : Code := (findLoop 0 c).getD .skip
def s0b.h : Hint := { lv := [3, 4, 6, 8, 10, 25, 26] }
def s0b.ho : Hint := { lv := [6, 10] }
def s0b.shp (x : Ty0) : VS := ⟨[(3, .ptr 0 0), (4, .ptr 1 0), (6, .ptr 2 0), (8, .ptr 3 0), (10, .ptr 4 0), (25, .int .i64 x.1), (26, .int .i64 x.2.1)], [(0, ([.ints .u64 4 x.2.2.1], 24, .norm)), (1, ([.ints .u64 4 x.2.2.2.1], 24, .norm)), (2, ([.ints .u64 4 x.2.2.2.2.1], 24, .norm)), (3, ([.fn 86 [.ptr 5 0], .fn 84 [.ptr 5 0], .fn 89 [.ptr 5 0]], 68, .norm)), (4, ([.ints .u64 4 x.2.2.2.2.2.1], 24, .norm)), (5, ([.ints .u64 4 x.2.2.2.2.2.2], 24, .norm))], 6⟩
def s0b.inX : VS → Option (Ty0)
 | ⟨[(3, .ptr 0 0), (4, .ptr 1 0), (6, .ptr 2 0), (8, .ptr 3 0), (10, .ptr 4 0), (25, .int .i64 t25), (26, .int .i64 t26)], [(0, ([.ints .u64 4 b0], 24, .norm)), (1, ([.ints .u64 4 b1], 24, .norm)), (2, ([.ints .u64 4 b2], 24, .norm)), (3, ([.fn 86 [.ptr 5 0], .fn 84 [.ptr 5 0], .fn 89 [.ptr 5 0]], 68, .norm)), (4, ([.ints .u64 4 b4], 24, .norm)), (5, ([.ints .u64 4 b5], 24, .norm))], 6⟩ => some (t25, t26, b0, b1, b2, b4, b5)
 | _ => none
def s0b.o0 (y : Ty3) : VS := ⟨[(6, .ptr 0 0), (10, .ptr 1 0)], [(0, ([.ints .u64 4 y.1], 24, .norm)), (1, ([.ints .u64 4 y.2], 24, .norm))], 2⟩
def s0b.des : ∀ α : Type, (Ty3) → (Ex → VS → Option α) → Option α := (des1 (.exit 0) s0b.o0)
def s0b.out : Ty3 → Ex × VS := (fun y => (.exit 0, s0b.o0 y))
theorem s0b.desOK : ∀ α y (k : Ex → VS → Option α), s0b.des α y k = k (s0b.out y).1 (s0b.out y).2 := (fun _ _ _ => rfl)
def s0b.inY : Ex → VS → Option (Ty3)
 | .exit 0, ⟨[(6, .ptr 0 0), (10, .ptr 1 0)], [(0, ([.ints .u64 4 b0], 24, .norm)), (1, ([.ints .u64 4 b1], 24, .norm))], 2⟩ => some (b0, b1)
 | _, _ => none
def s0ct (K : Nat) (rec : Ty0 → Option (Ty3)) (t25 : Int) (t26 : Int) (b0 : List Int) (b1 : List Int) (b2 : List Int) (b4 : List Int) (b5 : List Int) : Option (Ty3) :=
 bif (decide (t26 < t25)) then
 (f73.F K (b1, t26)).bind fun y25 =>
 bif (y25 == 1) then
 (f87.F K (b4, b0, b5)).bind fun y26 =>
 (f87.F K (b0, b0, y26.2)).bind fun y27 =>
 rec (t25, (IntKind.wrap .i64 (t26 + 1)), y27.1, b1, b2, y26.1, y27.2)
 else
 (f87.F K (b0, b0, b5)).bind fun y29 =>
 rec (t25, (IntKind.wrap .i64 (t26 + 1)), y29.1, b1, b2, b4, y29.2)
 else
 some (b2, b4)
def s0c (K : Nat) (rec : Ty0 → Option (Ty3)) (x : Ty0) : Option (Ty3) := s0ct K rec x.1 x.2.1 x.2.2.1 x.2.2.2.1 x.2.2.2.2.1 x.2.2.2.2.2.1 x.2.2.2.2.2.2
noncomputable def s0c.b : Code := (findLoop 0 c).getD .skip
def s0c.h : Hint := { lv := [3, 4, 6, 8, 10, 25, 26] }
def s0c.ho : Hint := { lv := [6, 10] }
def s0c.shp (x : Ty0) : VS := ⟨[(3, .ptr 0 0), (4, .ptr 1 0), (6, .ptr 2 0), (8, .ptr 3 0), (10, .ptr 4 0), (25, .int .i64 x.1), (26, .int .i64 x.2.1)], [(0, ([.ints .u64 4 x.2.2.1], 24, .norm)), (1, ([.ints .u64 4 x.2.2.2.1], 24, .norm)), (2, ([.ints .u64 4 x.2.2.2.2.1], 24, .norm)), (3, ([.fn 86 [.ptr 5 0], .fn 84 [.ptr 5 0], .fn 87 [.ptr 5 0]], 68, .norm)), (4, ([.ints .u64 4 x.2.2.2.2.2.1], 24, .norm)), (5, ([.ints .u64 4 x.2.2.2.2.2.2], 24, .norm))], 6⟩
def s0c.inX : VS → Option (Ty0)
 | ⟨[(3, .ptr 0 0), (4, .ptr 1 0), (6, .ptr 2 0), (8, .ptr 3 0), (10, .ptr 4 0), (25, .int .i64 t25), (26, .int .i64 t26)], [(0, ([.ints .u64 4 b0], 24, .norm)), (1, ([.ints .u64 4 b1], 24, .norm)), (2, ([.ints .u64 4 b2], 24, .norm)), (3, ([.fn 86 [.ptr 5 0], .fn 84 [.ptr 5 0], .fn 87 [.ptr 5 0]], 68, .norm)), (4, ([.ints .u64 4 b4], 24, .norm)), (5, ([.ints .u64 4 b5], 24, .norm))], 6⟩ => some (t25, t26, b0, b1, b2, b4, b5)
 | _ => none
def s0c.o0 (y : Ty3) : VS := ⟨[(6, .ptr 0 0), (10, .ptr 1 0)], [(0, ([.ints .u64 4 y.1], 24, .norm)), (1, ([.ints .u64 4 y.2], 24, .norm))], 2⟩
def s0c.des : ∀ α : Type, (Ty3) → (Ex → VS → Option α) → Option α := (des1 (.exit 0) s0c.o0)
def s0c.out : Ty3 → Ex × VS := (fun y => (.exit 0, s0c.o0 y))
theorem s0c.desOK : ∀ α y (k : Ex → VS → Option α), s0c.des α y k = k (s0c.out y).1 (s0c.out y).2 := (fun _ _ _ => rfl)
def s0c.inY : Ex → VS → Option (Ty3)
 | .exit 0, ⟨[(6, .ptr 0 0), (10, .ptr 1 0)], [(0, ([.ints .u64 4 b0], 24, .norm)), (1, ([.ints .u64 4 b1], 24, .norm))], 2⟩ => some (b0, b1)
 | _, _ => none
def lp (K : Nat) : Nat → Option (Hint × Summ) := tabLp [(0, s0.h, summOr s0.inX (summOf (iter (s0 K) K) s0.inX s0.des) (summOr s0b.inX (summOf (iter (s0b K) K) s0b.inX s0b.des) (summOf (iter (s0c K) K) s0c.inX s0c.des)))]
noncomputable def tab (K : Nat) : List (Nat × Entry) := [(41, (f41.E K)), (62, (f62.E K)), (72, (f72.E K)), (73, (f73.E K)), (89, (f89.E K)), (87, (f87.E K))]
theorem tabOK (K : Nat) : SpecOK Tryz.prog (tabSp (tab K)) := tab_ok ((tab_cons (f41.ok K) (tab_cons (f62.ok K) (tab_cons (f72.ok K) (tab_cons (f73.ok K) (tab_cons (f89.ok K) (tab_cons (f87.ok K) tab_nil)))))))
theorem s0.eq (K : Nat) (rec : Ty1 → Option (Ty3)) (x : Ty1) : s0 K rec x = roundL (getA tys) (tabSp (tab K)) 45 0 (lp K) 400 s0.b s0.h s0.ho s0.shp s0.inX s0.inY rec x := by kernel_rfl
theorem s0.lok (K : Nat) : LoopsOK Tryz.prog 45 0 (lp K) s0.b := loops_ok (by
  have h : loopsIn (lp K) s0.b = [] := by kernel_rfl
  rw [h]; simp)
theorem s0.ok (K : Nat) : SummOK Tryz.prog 45 0 (summOf (iter (s0 K) K) s0.inX s0.des) s0.b :=
  loop_ok mix tys_ok (tabOK K) (h := s0.h) (ho := s0.ho) (shp := s0.shp) (inX := s0.inX) (des := s0.des) (out := s0.out) (inY := s0.inY) (fuel := 400)
    (by intro st x h; unfold s0.inX at h; split at h <;> simp at h; subst h; rfl)
    (by intro e st y h; unfold s0.inY at h; split at h <;> simp at h <;> subst h <;> rfl)
    s0.desOK (s0.lok K) (s0 K) (s0.eq K) K
theorem s0b.eq (K : Nat) (rec : Ty0 → Option (Ty3)) (x : Ty0) : s0b K rec x = roundL (getA tys) (tabSp (tab K)) 45 0 (lp K) 400 s0b.b s0b.h s0b.ho s0b.shp s0b.inX s0b.inY rec x := by kernel_rfl
theorem s0b.lok (K : Nat) : LoopsOK Tryz.prog 45 0 (lp K) s0b.b := loops_ok (by
  have h : loopsIn (lp K) s0b.b = [] := by kernel_rfl
  rw [h]; simp)
theorem s0b.ok (K : Nat) : SummOK Tryz.prog 45 0 (summOf (iter (s0b K) K) s0b.inX s0b.des) s0b.b :=
  loop_ok mix tys_ok (tabOK K) (h := s0b.h) (ho := s0b.ho) (shp := s0b.shp) (inX := s0b.inX) (des := s0b.des) (out := s0b.out) (inY := s0b.inY) (fuel := 400)
    (by intro st x h; unfold s0b.inX at h; split at h <;> simp at h; subst h; rfl)
    (by intro e st y h; unfold s0b.inY at h; split at h <;> simp at h <;> subst h <;> rfl)
    s0b.desOK (s0b.lok K) (s0b K) (s0b.eq K) K
theorem s0c.eq (K : Nat) (rec : Ty0 → Option (Ty3)) (x : Ty0) : s0c K rec x = roundL (getA tys) (tabSp (tab K)) 45 0 (lp K) 400 s0c.b s0c.h s0c.ho s0c.shp s0c.inX s0c.inY rec x := by kernel_rfl
theorem s0c.lok (K : Nat) : LoopsOK Tryz.prog 45 0 (lp K) s0c.b := loops_ok (by
  have h : loopsIn (lp K) s0c.b = [] := by kernel_rfl
  rw [h]; simp)
theorem s0c.ok (K : Nat) : SummOK Tryz.prog 45 0 (summOf (iter (s0c K) K) s0c.inX s0c.des) s0c.b :=
  loop_ok mix tys_ok (tabOK K) (h := s0c.h) (ho := s0c.ho) (shp := s0c.shp) (inX := s0c.inX) (des := s0c.des) (out := s0c.out) (inY := s0c.inY) (fuel := 400)
    (by intro st x h; unfold s0c.inX at h; split at h <;> simp at h; subst h; rfl)
    (by intro e st y h; unfold s0c.inY at h; split at h <;> simp at h <;> subst h <;> rfl)
    s0c.desOK (s0c.lok K) (s0c K) (s0c.eq K) K
theorem loops (K : Nat) : LoopsOK Tryz.prog 45 0 (lp K) c := loops_ok (by
  have h : loopsIn (lp K) c = [(0, s0.b)] := by kernel_rfl
  rw [h]
  intro p hp
  simp only [List.mem_cons, List.not_mem_nil, or_false] at hp
  rcases hp with rfl
  · exact ⟨_, rfl, (summOr_ok (s0.ok K) (summOr_ok (s0b.ok K) (s0c.ok K)))⟩)
def T (K : Nat) (a0 : List Int) (a1 : List Int) (a2 : List Int) : Option (Ty4) :=
 (f41.F K (a2, a0)).bind fun y1 =>
 alt (fun y2 =>
 bif (y2.1 != 0) then
 some ([0, 0, 0, 0], y2.1)
 else
 (f62.F K ()).bind fun y4 =>
 (f72.F K a1).bind fun y5 =>
 (iter (s0 K) K (y5, 0, a0, a1, [0, 0, 0, 0], y4)).bind fun y8 =>
 some (y8.2, 0)) (fun y3 =>
 alt (fun y9 =>
 bif (y9.1 != 0) then
 some ([0, 0, 0, 0], y9.1)
 else
 (f62.F K ()).bind fun y11 =>
 (f72.F K a1).bind fun y12 =>
 (iter (s0b K) K (y12, 0, a0, a1, [0, 0, 0, 0], y11, y9.2.2)).bind fun y20 =>
 some (y20.2, 0)) (fun y10 =>
 bif (y10.1 != 0) then
 some ([0, 0, 0, 0], y10.1)
 else
 (f62.F K ()).bind fun y22 =>
 (f72.F K a1).bind fun y23 =>
 (iter (s0c K) K (y23, 0, a0, a1, [0, 0, 0, 0], y22, y10.2.2)).bind fun y31 =>
 some (y31.2, 0)) y3) y1
def F (K : Nat) (x : Ty2) : Option (Ty4) := T K x.1 x.2.1 x.2.2
def av (x : Ty2) : List VV := [.agg [.ints .u64 4 x.1], .agg [.ints .u64 4 x.2.1], .agg [.ints .u64 4 x.2.2]]
def bl (_x : Ty2) : List (Nat × Blk) := []
def inA : VS → Option (Ty2)
 | ⟨[(0, .agg [.ints .u64 4 a0]), (1, .agg [.ints .u64 4 a1]), (2, .agg [.ints .u64 4 a2])], [], 0⟩ => some (a0, a1, a2)
 | _ => none
def o0 (y : Ty4) : VS := ⟨[(0, .tup [.agg [.ints .u64 4 y.1], .int .i64 y.2])], [], 0⟩
def des : ∀ α : Type, (Ty4) → (VS → Option α) → Option α := (dv1 o0)
def out : Ty4 → VS := o0
def inR : VS → Option (Ty4)
 | ⟨[(0, .tup [.agg [.ints .u64 4 y_0], .int .i64 y_1])], [], 0⟩ => some (y_0, y_1)
 | _ => none
noncomputable def E (K : Nat) : Entry := genE 0 inA (F K) des
theorem eq (K : Nat) (x : Ty2) : F K x = xrun (getA tys) (tabSp (tab K)) Tryz.f51.ntmps 0 (lp K) 400 c ⟨initL 0 (av x), bl x, 0⟩ (contF (getA tys) 0 Tryz.f51.results.toList inR) := by kernel_rfl
theorem ok (K : Nat) : EntryOK Tryz.prog 51 (E K) :=
  gen_ok mix tys_ok (tabOK K) Tryz.func51 (by kernel_rfl : Tryz.f51.body = some c) (by kernel_rfl) (loops K) (av := av) (bl := bl) (out := out) (fuel := 400)
    (by intro s x h; unfold inA at h; split at h <;> simp at h; subst h; rfl) (fun _ => Nat.le_of_ble_eq_true rfl)
    (by intro s y h; unfold inR at h; split at h <;> simp at h <;> subst h <;> rfl) (fun _ _ _ => rfl) (eq K)
end f51
end Go.Proofs

namespace Go.Proofs
open Go.VM
theorem f62.spec (K : Nat) : f62.F K () = some (num 1) := by
  simp only [f62.F, f62.T, f12.one, bind_s]
def may1 (A M : Nat) : Bool := decide (1 < M) && decide (A < M)
def may2 (A B M : Nat) : Bool := decide (1 < M) && decide (A < M) && decide (B < M)
theorem may1_iff {A M : Nat} : may1 A M = true ↔ 1 < M ∧ A < M := by simp [may1]
theorem may2_iff {A B M : Nat} : may2 A B M = true ↔ 1 < M ∧ A < M ∧ B < M := by simp [may2, and_assoc]
theorem cmp_gt (A B : Nat) : decide (cmp A B > 0) = decide (B < A) := by
  unfold cmp
  by_cases h : A = B
  · subst h; simp
  · rw [if_neg h]
    by_cases h2 : A < B
    · rw [if_pos h2, decide_eq_false (by omega), decide_eq_false (by omega)]
    · rw [if_neg h2, decide_eq_true (by omega), decide_eq_true (by omega)]
theorem f63.spec (M : Nat) (hM : M < 2 ^ 256) : f63.F 100000 (num M) = some (if blen M ≤ 64 then .inl (num M) else .inr (num M)) := by
  simp only [f63.F, f63.T, f72.all, mod_self_of hM, bind_s]
  by_cases h : blen M ≤ 64
  · rw [decide_eq_true (show ((blen M : Nat) : Int) ≤ 64 by omega), cond_t, if_pos h]
  · rw [decide_eq_false (show ¬ ((blen M : Nat) : Int) ≤ 64 by omega), cond_f, if_neg h]
theorem f41v1.ok2 (A B M : Nat) (hA : A < 2 ^ 256) (hB : B < 2 ^ 256) (hM : M < 2 ^ 256) (b : Bool) :
    iter (f41v1.s0 100000) 100000 (b, 2, 0, num A ++ num B, num M) = some (b && decide (A < M) && decide (B < M), num A ++ num B, num M) := by
  have mA := mod_self_of hA
  have mB := mod_self_of hB
  have mM := mod_self_of hM
  have r0 : List.take 4 (List.drop (Int.toNat (0 : Int) * 4) (num A ++ num B)) = num A := rfl
  have r1 : List.take 4 (List.drop (Int.toNat (1 : Int) * 4) (num A ++ num B)) = num B := rfl
  rw [show (100000 : Nat) = 99997 + 1 + 1 + 1 from rfl, iter]
  have w0 : IntKind.wrap .i64 ((0 : Int) + 1) = 1 := by decide
  have w1 : IntKind.wrap .i64 ((1 : Int) + 1) = 2 := by decide
  simp only [f41v1.s0, f41v1.s0t]
  rw [decide_eq_true (show (0 : Int) < 2 by decide), cond_t, decide_eq_true (show (0 : Int) ≤ 0 ∧ (0 : Int) < 2 by decide), cond_t, r0, w0]
  have second : ∀ b' : Bool, iter (f41v1.s0 100000) (99997 + 1 + 1) (b', 2, 1, num A ++ num B, num M) = some (b' && decide (B < M), num A ++ num B, num M) := by
    intro b'
    rw [iter]
    simp only [f41v1.s0, f41v1.s0t]
    rw [decide_eq_true (show (1 : Int) < 2 by decide), cond_t, decide_eq_true (show (0 : Int) ≤ 1 ∧ (1 : Int) < 2 by decide), cond_t, r1, w1]
    have third : ∀ b'' : Bool, iter (f41v1.s0 100000) (99997 + 1) (b'', 2, 2, num A ++ num B, num M) = some (b'', num A ++ num B, num M) := by
      intro b''
      rw [iter]
      simp only [f41v1.s0, f41v1.s0t]
      rw [decide_eq_false (show ¬ (2 : Int) < 2 by decide), cond_f]
    cases b' with
    | false => rw [cond_f]; exact third false
    | true =>
      have e : f32.F 100000 (num B, num M) = some (cmp B M) := by rw [f32.all, mB, mM]
      rw [cond_t, e, bind_s, cmp_lt]; exact third _
  cases b with
  | false => rw [cond_f]; exact second false
  | true =>
    have e : f32.F 100000 (num A, num M) = some (cmp A M) := by rw [f32.all, mA, mM]
    rw [cond_t, e, bind_s, cmp_lt]; exact second _
theorem f41v1.spec (A B M : Nat) (hA : A < 2 ^ 256) (hB : B < 2 ^ 256) (hM : M < 2 ^ 256) :
    f41v1.F 100000 (num M, num A ++ num B) = some (if may2 A B M = true then (if blen M ≤ 64 then .inr (.inl (0, num A ++ num B, num M)) else .inr (.inr (0, num A ++ num B, num M))) else .inl (1, num A ++ num B)) := by
  simp only [f41v1.F, f41v1.T, f62.spec, bind_s, f32.all, mod_self_of hM, show (1 : Nat) % 2 ^ 256 = 1 from rfl, cmp_gt, f41v1.ok2 A B M hA hB hM, f63.spec M hM]
  rw [show (decide (1 < M) && decide (A < M) && decide (B < M)) = may2 A B M from rfl]
  cases may2 A B M with
  | false => rfl
  | true =>
    simp only [Bool.not_true, cond_f, if_true]
    by_cases h : blen M ≤ 64
    · rw [if_pos h, if_pos h]; rfl
    · rw [if_neg h, if_neg h]; rfl
theorem f41.ok1 (A M : Nat) (hA : A < 2 ^ 256) (hM : M < 2 ^ 256) (b : Bool) :
    iter (f41.s0 100000) 100000 (b, 1, 0, num A, num M) = some (b && decide (A < M), num A, num M) := by
  have mA := mod_self_of hA
  have mM := mod_self_of hM
  have r0 : List.take 4 (List.drop (Int.toNat (0 : Int) * 4) (num A)) = num A := rfl
  have w0 : IntKind.wrap .i64 ((0 : Int) + 1) = 1 := by decide
  rw [show (100000 : Nat) = 99998 + 1 + 1 from rfl, iter]
  simp only [f41.s0, f41.s0t]
  rw [decide_eq_true (show (0 : Int) < 1 by decide), cond_t, decide_eq_true (show (0 : Int) ≤ 0 ∧ (0 : Int) < 1 by decide), cond_t, r0, w0]
  have second : ∀ b' : Bool, iter (f41.s0 100000) (99998 + 1) (b', 1, 1, num A, num M) = some (b', num A, num M) := by
    intro b'
    rw [iter]
    simp only [f41.s0, f41.s0t]
    rw [decide_eq_false (show ¬ (1 : Int) < 1 by decide), cond_f]
  cases b with
  | false => rw [cond_f]; exact second false
  | true =>
    have e : f32.F 100000 (num A, num M) = some (cmp A M) := by rw [f32.all, mA, mM]
    rw [cond_t, e, bind_s, cmp_lt]; exact second _
theorem f41.spec (A M : Nat) (hA : A < 2 ^ 256) (hM : M < 2 ^ 256) :
    f41.F 100000 (num M, num A) = some (if may1 A M = true then (if blen M ≤ 64 then .inr (.inl (0, num A, num M)) else .inr (.inr (0, num A, num M))) else .inl (1, num A)) := by
  simp only [f41.F, f41.T, f62.spec, bind_s, f32.all, mod_self_of hM, show (1 : Nat) % 2 ^ 256 = 1 from rfl, cmp_gt, f41.ok1 A M hA hM, f63.spec M hM]
  rw [show (decide (1 < M) && decide (A < M)) = may1 A M from rfl]
  cases may1 A M with
  | false => rfl
  | true =>
    simp only [Bool.not_true, cond_f, if_true]
    by_cases h : blen M ≤ 64
    · rw [if_pos h, if_pos h]; rfl
    · rw [if_neg h, if_neg h]; rfl
theorem f86.spec (A B M : Nat) (hA : A < M) (hB : B < M) (hM : M < 2 ^ 256) : f86.F 100000 (num A, num B, num M) = some (num ((A + B) % M), num M) := by
  have mA := mod_self_of (Nat.lt_trans hA hM)
  have mB := mod_self_of (Nat.lt_trans hB hM)
  have mM := mod_self_of hM
  have hm := mod_once (S := A + B) (M := M) (by omega)
  have hx : num (M + 2 ^ 256 - B) = num (M - B) := by rw [show M + 2 ^ 256 - B = M - B + 2 ^ 256 by omega, num_add_mod]
  have mx : (M - B) % 2 ^ 256 = M - B := Nat.mod_eq_of_lt (by omega)
  simp only [f86.F, f86.T, f26.all, f32.all, f85.all, bind_s, mA, mB, mM, hx, mx, cmp_ge]
  by_cases h : M - B ≤ A
  · rw [decide_eq_true h, cond_t, hm, if_pos (by omega), show A + 2 ^ 256 - (M - B) = A + B - M + 2 ^ 256 by omega, num_add_mod]
  · rw [decide_eq_false h, cond_f, hm, if_neg (by omega)]
theorem f87.spec (A B M : Nat) (hA : A < 2 ^ 256) (hB : B < 2 ^ 256) (h0 : 0 < M) (hM : M < 2 ^ 256) : f87.F 100000 (num A, num B, num M) = some (num (A * B % M), num M) := by
  have mA := mod_self_of hA
  have mB := mod_self_of hB
  have hP : A * B < 2 ^ 256 * 2 ^ 256 := Nat.mul_lt_mul'' hA hB
  have hh : A * B / 2 ^ 256 < 2 ^ 256 := Nat.div_lt_of_lt_mul hP
  have hl : A * B % 2 ^ 256 < 2 ^ 256 := Nat.mod_lt _ (Nat.two_pow_pos 256)
  have e : A * B / 2 ^ 256 * 2 ^ 256 + A * B % 2 ^ 256 = A * B := by have := Nat.mod_add_div (A * B) (2 ^ 256); rw [Nat.mul_comm (2 ^ 256)] at this; omega
  simp only [f87.F, f87.T, f88.all, mA, mB, bind_s]
  rw [← num_mod (A * B), f61.spec _ _ M hl hh hM h0, bind_s, e]
theorem f90.spec (K hi lo y : Nat) (hy : y < 18446744073709551616) (h0 : 0 < y) (hlo : lo < 18446744073709551616) (hK : 1 < K) : f90.F K ((hi : Int), (lo : Int), (y : Int)) = some (((hi * 18446744073709551616 + lo) % y : Nat) : Int) := by
  simp only [f90.F, f90.T]
  rw [decide_eq_true (show (y : Int) ≠ 0 by omega), cond_t, tmod_nat, f70.spec K _ lo y hy (Nat.mod_lt _ h0) hlo hK, bind_s]
  simp only []
  rw [mod_step]
theorem f89.spec (A B M : Nat) (hA : A < 2 ^ 64) (hB : B < 2 ^ 64) (h0 : 0 < M) (hM : M < 2 ^ 64) : f89.F 100000 (num A, num B, num M) = some (num (A * B % M), num M) := by
  have e : A * B / 2 ^ 64 * 18446744073709551616 + A * B % 2 ^ 64 = A * B := by have := Nat.mod_add_div (A * B) (2 ^ 64); omega
  have hr := Nat.mod_lt (A * B) h0
  simp only [f89.F, f89.T, word0 A hA, word0 B hB, word0 M hM]
  rw [f69.spec 100000 A B hA hB, bind_s]
  simp only []
  rw [f90.spec 100000 _ _ M hM h0 (Nat.mod_lt _ (by decide)) (by decide), bind_s, e, f12.nat _ _ (by omega), bind_s]
end Go.Proofs

namespace Go.Proofs
open Go.VM
theorem alt_l {A B C : Type} (f : A → C) (g : B → C) (a : A) : alt f g (.inl a) = f a := Eq.trans (show alt f g (.inl a) = f a from by unfold alt; rfl) (Eq.symm (Eq.symm rfl))
theorem alt_r {A B C : Type} (f : A → C) (g : B → C) (b : B) : alt f g (.inr b) = g b := Eq.trans (show alt f g (.inr b) = g b from by unfold alt; rfl) (Eq.symm (Eq.symm rfl))
theorem ne00 : ((0 : Int) != 0) = false := rfl
theorem ne10 : ((1 : Int) != 0) = true := rfl
theorem num_zero : ([0, 0, 0, 0] : List Int) = num 0 := rfl
theorem f20.spec (A B M : Nat) (hA : A < 2 ^ 256) (hB : B < 2 ^ 256) (hM : M < 2 ^ 256) :
    f20.F 100000 (num A, num B, num M) = some (if may2 A B M = true then (num ((A + B) % M), 0) else (num 0, 1)) := by
  simp only [f20.F, f20.T, two_rows, f41v1.spec A B M hA hB hM, bind_s]
  by_cases h : may2 A B M = true
  · obtain ⟨h1, h2, h3⟩ := may2_iff.1 h
    rw [if_pos h, if_pos h]
    by_cases hb : blen M ≤ 64
    · rw [if_pos hb]
      simp only [alt_l, alt_r, ne00, cond_f, f86.spec A B M h2 h3 hM, bind_s]
    · rw [if_neg hb]
      simp only [alt_r, ne00, cond_f, f86.spec A B M h2 h3 hM, bind_s]
  · rw [if_neg h, if_neg h]
    simp only [alt_l, ne10, cond_t, num_zero]
theorem lt_64 {M : Nat} (h : blen M ≤ 64) : M < 2 ^ 64 := Nat.lt_of_lt_of_le (blen_lt M) (Nat.pow_le_pow_right (by decide) h)
theorem f19.spec (A B M : Nat) (hA : A < 2 ^ 256) (hB : B < 2 ^ 256) (hM : M < 2 ^ 256) :
    f19.F 100000 (num A, num B, num M) = some (if may2 A B M = true then (num (A * B % M), 0) else (num 0, 1)) := by
  simp only [f19.F, f19.T, two_rows, f41v1.spec A B M hA hB hM, bind_s]
  by_cases h : may2 A B M = true
  · obtain ⟨h1, h2, h3⟩ := may2_iff.1 h
    rw [if_pos h, if_pos h]
    by_cases hb : blen M ≤ 64
    · have hM64 := lt_64 hb
      rw [if_pos hb]
      simp only [alt_l, alt_r, ne00, cond_f, f89.spec A B M (by omega) (by omega) (by omega) hM64, bind_s]
    · rw [if_neg hb]
      simp only [alt_r, ne00, cond_f, f87.spec A B M hA hB (by omega) hM, bind_s]
  · rw [if_neg h, if_neg h]
    simp only [alt_l, ne10, cond_t, num_zero]
theorem pow_sq (A M i : Nat) : A ^ 2 ^ i % M * (A ^ 2 ^ i % M) % M = A ^ 2 ^ (i + 1) % M := by
  rw [← Nat.mul_mod, ← Nat.pow_add, ← Nat.two_mul, ← Nat.pow_succ']
theorem pow_bit (A M N i : Nat) (h : N / 2 ^ i % 2 = 1) : A ^ (N % 2 ^ i) % M * (A ^ 2 ^ i % M) % M = A ^ (N % 2 ^ (i + 1)) % M := by
  rw [← Nat.mul_mod, ← Nat.pow_add, Nat.pow_succ 2 i, Nat.mod_mul, h, Nat.mul_one]
theorem pow_nobit (A N i : Nat) (h : N / 2 ^ i % 2 = 0) : A ^ (N % 2 ^ (i + 1)) = A ^ (N % 2 ^ i) := by
  rw [Nat.pow_succ 2 i, Nat.mod_mul, h, Nat.mul_zero, Nat.add_zero]
theorem f51.small (A N M : Nat) (hN : N < 2 ^ 256) (h1 : 1 < M) (hM : M < 2 ^ 64) (hA : A < M) (z : List Int) :
    iter (f51.s0b 100000) 100000 (((blen N : Nat) : Int), 0, num A, num N, z, num 1, num M) = some (z, num (A ^ N % M)) := by
  have hb := blen_256 hN
  have key := iter_for (stp := f51.s0b 100000) (N := blen N) (fun i => (((blen N : Nat) : Int), (i : Int), num (A ^ 2 ^ i % M), num N, z, num (A ^ (N % 2 ^ i) % M), num M))
    (y := some (z, num (A ^ N % M))) (fun i hi rec => by
      simp only [f51.s0b, f51.s0bt]
      have w2 : IntKind.wrap .i64 ((i : Int) + 1) = ((i + 1 : Nat) : Int) := by rw [wrap_i _ (by omega) (by omega)]; rfl
      have l1 : A ^ 2 ^ i % M < 2 ^ 64 := Nat.lt_trans (Nat.mod_lt _ (by omega)) hM
      have l2 : A ^ (N % 2 ^ i) % M < 2 ^ 64 := Nat.lt_trans (Nat.mod_lt _ (by omega)) hM
      rw [decide_eq_true (show (i : Int) < ((blen N : Nat) : Int) by omega), cond_t, f73.all N i (by omega), mod_self_of hN, bind_s, w2]
      rcases Nat.mod_two_eq_zero_or_one (N / 2 ^ i) with h | h
      · rw [h, show (((0 : Nat) : Int) == 1) = false from rfl, cond_f, f89.spec _ _ M l1 l1 (by omega) hM, bind_s, pow_sq, pow_nobit A N i h]
      · rw [h, show (((1 : Nat) : Int) == 1) = true from rfl, cond_t, f89.spec _ _ M l2 l1 (by omega) hM, bind_s]
        simp only []
        rw [f89.spec _ _ M l1 l1 (by omega) hM, bind_s, pow_sq, pow_bit A M N i h]) (fun rec => by
      simp only [f51.s0b, f51.s0bt]
      rw [decide_eq_false (Int.lt_irrefl _), cond_f, Nat.mod_eq_of_lt (blen_lt N)]) (show blen N < 100000 by omega)
  simp only [Nat.pow_zero, Nat.mod_one, Nat.pow_one, Nat.mod_eq_of_lt hA, Nat.mod_eq_of_lt h1] at key
  exact key
theorem f51.great (A N M : Nat) (hN : N < 2 ^ 256) (h1 : 1 < M) (hM : M < 2 ^ 256) (hA : A < M) (z : List Int) :
    iter (f51.s0c 100000) 100000 (((blen N : Nat) : Int), 0, num A, num N, z, num 1, num M) = some (z, num (A ^ N % M)) := by
  have hb := blen_256 hN
  have key := iter_for (stp := f51.s0c 100000) (N := blen N) (fun i => (((blen N : Nat) : Int), (i : Int), num (A ^ 2 ^ i % M), num N, z, num (A ^ (N % 2 ^ i) % M), num M))
    (y := some (z, num (A ^ N % M))) (fun i hi rec => by
      simp only [f51.s0c, f51.s0ct]
      have w2 : IntKind.wrap .i64 ((i : Int) + 1) = ((i + 1 : Nat) : Int) := by rw [wrap_i _ (by omega) (by omega)]; rfl
      have l1 : A ^ 2 ^ i % M < 2 ^ 256 := Nat.lt_trans (Nat.mod_lt _ (by omega)) hM
      have l2 : A ^ (N % 2 ^ i) % M < 2 ^ 256 := Nat.lt_trans (Nat.mod_lt _ (by omega)) hM
      rw [decide_eq_true (show (i : Int) < ((blen N : Nat) : Int) by omega), cond_t, f73.all N i (by omega), mod_self_of hN, bind_s, w2]
      rcases Nat.mod_two_eq_zero_or_one (N / 2 ^ i) with h | h
      · rw [h, show (((0 : Nat) : Int) == 1) = false from rfl, cond_f, f87.spec _ _ M l1 l1 (by omega) hM, bind_s, pow_sq, pow_nobit A N i h]
      · rw [h, show (((1 : Nat) : Int) == 1) = true from rfl, cond_t, f87.spec _ _ M l2 l1 (by omega) hM, bind_s]
        simp only []
        rw [f87.spec _ _ M l1 l1 (by omega) hM, bind_s, pow_sq, pow_bit A M N i h]) (fun rec => by
      simp only [f51.s0c, f51.s0ct]
      rw [decide_eq_false (Int.lt_irrefl _), cond_f, Nat.mod_eq_of_lt (blen_lt N)]) (show blen N < 100000 by omega)
  simp only [Nat.pow_zero, Nat.mod_one, Nat.pow_one, Nat.mod_eq_of_lt hA, Nat.mod_eq_of_lt h1] at key
  exact key
theorem f51.spec (A N M : Nat) (hA : A < 2 ^ 256) (hN : N < 2 ^ 256) (hM : M < 2 ^ 256) :
    f51.F 100000 (num A, num N, num M) = some (if may1 A M = true then (num (A ^ N % M), 0) else (num 0, 1)) := by
  simp only [f51.F, f51.T, f41.spec A M hA hM, bind_s, f62.spec, f72.all, mod_self_of hN]
  by_cases h : may1 A M = true
  · obtain ⟨h1, h2⟩ := may1_iff.1 h
    rw [if_pos h, if_pos h]
    by_cases hb : blen M ≤ 64
    · rw [if_pos hb]
      simp only [alt_l, alt_r, ne00, cond_f, f51.small A N M hN h1 (lt_64 hb) h2, bind_s]
    · rw [if_neg hb]
      simp only [alt_r, ne00, cond_f, f51.great A N M hN h1 hM h2, bind_s]
  · rw [if_neg h, if_neg h]
    simp only [alt_l, ne10, cond_t, num_zero]
structure Lines (A M a p b q : Nat) : Prop where
  hle : b ≤ a
  ham : a ≤ M
  hgcd : Nat.gcd a b = Nat.gcd A M
  hp : p < M
  hq : q < M
  hap : A * p % M = a % M
  hbq : A * q % M = b % M
theorem Lines.step {A M a p b q : Nat} (h : Lines A M a p b q) (hb : 0 < b) : Lines A M b q (a % b) ((p + M - a / b * q % M) % M) := by
  have hM : 0 < M := by have := h.hp; omega
  have hm := Nat.mod_lt (a / b * q) hM
  refine ⟨Nat.le_of_lt (Nat.mod_lt _ hb), Nat.le_trans h.hle h.ham, ?_, h.hq, Nat.mod_lt _ hM, h.hbq, ?_⟩
  · rw [← h.hgcd, Nat.gcd_comm b, ← Nat.gcd_rec, Nat.gcd_comm]
  ·
    have e0 : (A * ((p + M - a / b * q % M) % M) + a / b * (A * q)) % M = A * p % M := by
      have e1 : (p + M - a / b * q % M + a / b * q) % M = p % M := by
        have h2 := Nat.mod_add_div (a / b * q) M
        have : p + M - a / b * q % M + a / b * q = p + M * (1 + a / b * q / M) := by rw [Nat.mul_add, Nat.mul_one]; omega
        rw [this, Nat.add_mul_mod_self_left]
      have e2 : a / b * (A * q) = A * (a / b * q) := by rw [← Nat.mul_assoc, Nat.mul_comm (a / b) A, Nat.mul_assoc]
      rw [e2, ← Nat.mul_add, Nat.mul_mod, Nat.mod_add_mod, e1, ← Nat.mul_mod]
    have e3 : (a % b + a / b * b) % M = a % M := by have := Nat.mod_add_div a b; rw [Nat.mul_comm b] at this; rw [this]
    have e4 : (A * ((p + M - a / b * q % M) % M) + a / b * b) % M = (a % b + a / b * b) % M := by
      rw [e3, ← h.hap, ← e0, Nat.add_mod _ (a / b * b), Nat.add_mod _ (a / b * (A * q)), Nat.mul_mod (a / b) b, Nat.mul_mod (a / b) (A * q), h.hbq]
    have cancel : ∀ x y c : Nat, (x + c) % M = (y + c) % M → x % M = y % M := by
      intro x y c hxy
      have h1 : (x + c + (M - c % M)) % M = (y + c + (M - c % M)) % M := by rw [Nat.add_mod, hxy, ← Nat.add_mod]
      have h2 : ∀ z, z + c + (M - c % M) = z + M * (1 + c / M) := by
        intro z
        have h3 := Nat.mod_add_div c M
        have h4 := Nat.mod_lt c hM
        rw [Nat.mul_add, Nat.mul_one]
        omega
      rw [h2, h2, Nat.add_mul_mod_self_left, Nat.add_mul_mod_self_left] at h1
      exact h1
    exact cancel _ _ _ e4
theorem blen_rem {a b : Nat} (hb : 0 < b) (h : b ≤ a) : blen (a % b) < blen a := by
  have h1 : 1 ≤ a / b := (Nat.le_div_iff_mul_le hb).2 (by omega)
  have h2 := Nat.mod_add_div a b
  have h3 : b * 1 ≤ b * (a / b) := Nat.mul_le_mul_left b h1
  have h4 := Nat.mod_lt a hb
  have h5 : a % b ≤ a / 2 := by omega
  have h6 := blen_mono h5
  by_cases h0 : a / 2 = 0
  · rw [h0, blen_zero] at h6
    have := (blen_ge (x := a) (by omega)).2
    omega
  · have := blen_shift a 1 (by simpa using h0)
    rw [Nat.pow_one] at this
    omega
end Go.Proofs

namespace Go.Proofs
open Go.VM
theorem Lines.loop {A M : Nat} {stp : (List Int × List Int × List Int × List Int × List Int × List Int × List Int → Option (List Int × List Int × List Int)) → List Int × List Int × List Int × List Int × List Int × List Int × List Int → Option (List Int × List Int × List Int)} (hA : A < M) (h1 : 1 < M) (hM : M < 2 ^ 256) (z : List Int)
    (h0 : ∀ a p, ∀ rec, stp rec (num M, z, num a, num p, num 0, num 1, num M) = some (z, num a, num p))
    (h0' : ∀ a p q, ∀ rec, stp rec (num M, z, num a, num p, num 0, num q, num M) = some (z, num a, num p))
    (hs : ∀ a p b q, 0 < b → b ≤ a → a ≤ M → p < M → q < M → ∀ rec, stp rec (num M, z, num a, num p, num b, num q, num M) = rec (num M, z, num b, num q, num (a % b), num ((p + M - a / b * q % M) % M), num M)) :
    ∃ p, p < M ∧ A * p % M = Nat.gcd A M % M ∧ iter stp 100000 (num M, z, num M, num 0, num A, num 1, num M) = some (z, num (Nat.gcd A M), num p) := by
  obtain ⟨y, ⟨p, hp, hq, rfl⟩, h⟩ := iter_inv (stp := stp) (fun m x => ∃ a p b q, x = (num M, z, num a, num p, num b, num q, num M) ∧ Lines A M a p b q ∧ blen a + blen b ≤ m)
    (fun y => ∃ p, p < M ∧ A * p % M = Nat.gcd A M % M ∧ y = (z, num (Nat.gcd A M), num p)) (by
      intro m x ⟨a, p, b, q, hx, hl, hm⟩
      subst hx
      by_cases hb : b = 0
      · subst hb
        have hg : a = Nat.gcd A M := by have := hl.hgcd; rw [Nat.gcd_zero_right] at this; exact this
        exact .inl ⟨_, ⟨p, hl.hp, by rw [← hg]; exact hl.hap, by rw [← hg]⟩, h0' a p q⟩
      · have hb0 : 0 < b := by omega
        have hr := blen_rem hb0 hl.hle
        exact .inr ⟨_, blen b + blen (a % b), by omega, ⟨_, _, _, _, rfl, hl.step hb0, Nat.le_refl _⟩, hs a p b q hb0 hl.hle hl.ham hl.hp hl.hq⟩)
    512 _ ⟨M, 0, A, 1, rfl, ⟨Nat.le_of_lt hA, Nat.le_refl _, Nat.gcd_comm _ _, by omega, h1, by rw [Nat.mul_zero, Nat.zero_mod, Nat.mod_self], by rw [Nat.mul_one]⟩, by
      have := blen_256 hM; have := blen_256 (Nat.lt_trans hA hM); omega⟩ 100000 (by decide)
  exact ⟨p, hp, hq, h⟩
theorem f20.good {A B M : Nat} (h1 : 1 < M) (hA : A < M) (hB : B < M) (hM : M < 2 ^ 256) : f20.F 100000 (num A, num B, num M) = some (num ((A + B) % M), 0) := by
  rw [f20.spec A B M (by omega) (by omega) hM, if_pos (may2_iff.2 ⟨h1, hA, hB⟩)]
theorem f19.good {A B M : Nat} (h1 : 1 < M) (hA : A < M) (hB : B < M) (hM : M < 2 ^ 256) : f19.F 100000 (num A, num B, num M) = some (num (A * B % M), 0) := by
  rw [f19.spec A B M (by omega) (by omega) hM, if_pos (may2_iff.2 ⟨h1, hA, hB⟩)]
end Go.Proofs

namespace Go.Proofs
open Go.VM
end Go.Proofs

namespace Go.Proofs
open Go.VM
namespace f33
def T (K : Nat)  : Option (List Int) :=
 (f12.F K 1).bind fun y1 =>
 some y1
def F (K : Nat) (_x : Unit) : Option (List Int) := T K
def av (_x : Unit) : List VV := []
def bl (_x : Unit) : List (Nat × Blk) := []
def inA : VS → Option (Unit)
 | ⟨[], [], 0⟩ => some ()
 | _ => none
def o0 (y : List Int) : VS := ⟨[(0, .agg [.ints .u64 4 y])], [], 0⟩
def inR : VS → Option (List Int)
 | ⟨[(0, .agg [.ints .u64 4 y])], [], 0⟩ => some y
 | _ => none
noncomputable def E (K : Nat) : Entry := genE 0 inA (F K) (dv1 o0)
theorem ok (K : Nat) : EntryOK Tryz.prog 33 (E K) := gen_ok mix tys_ok (tab_ok ((tab_cons (f12.ok K) tab_nil))) Tryz.func33 (c := bodyOf Tryz.f33) (by kernel_rfl) (by kernel_rfl) (loops_none (lp := lpNone) (by kernel_rfl)) (av := av) (bl := bl) (inR := inR) (out := o0) (fuel := 400)
  (by intro s x h; unfold inA at h; split at h <;> simp at h; rfl) (fun _ => Nat.le_of_ble_eq_true rfl)
  (by intro s y h; unfold inR at h; split at h <;> simp at h <;> subst h <;> rfl) (fun _ _ _ => rfl) (fun _ => by kernel_rfl)
end f33
end Go.Proofs

namespace Go.Proofs
open Go.VM
namespace f50
abbrev Ty0 := List Int × List Int × List Int × List Int
def T (K : Nat) (a0_0 : List Int) (_a0_1 : List Int) (_a0_2 : List Int) (a1 : List Int) : Option (Bool) :=
 (f33.F K ()).bind fun y1 =>
 (f32.F K (a0_0, y1)).bind fun y2 =>
 bif (decide (y2 > 0)) then
 (f12.F K 0).bind fun y4 =>
 bif (!(eqL 4 a1 y4 && true)) then
 (f32.F K (a1, a0_0)).bind fun y6 =>
 some (decide (y6 < 0))
 else
 some false
 else
 some false
def F (K : Nat) (x : Ty0) : Option (Bool) := T K x.1 x.2.1 x.2.2.1 x.2.2.2
def av (x : Ty0) : List VV := [.agg [.ints .u64 4 x.1, .ints .u64 4 x.2.1, .ints .u64 4 x.2.2.1], .agg [.ints .u64 4 x.2.2.2]]
def bl (_x : Ty0) : List (Nat × Blk) := []
def inA : VS → Option (Ty0)
 | ⟨[(0, .agg [.ints .u64 4 a0_0, .ints .u64 4 a0_1, .ints .u64 4 a0_2]), (1, .agg [.ints .u64 4 a1])], [], 0⟩ => some (a0_0, a0_1, a0_2, a1)
 | _ => none
def o0 (y : Bool) : VS := ⟨[(0, .bool y)], [], 0⟩
def inR : VS → Option (Bool)
 | ⟨[(0, .bool y)], [], 0⟩ => some y
 | _ => none
noncomputable def E (K : Nat) : Entry := genE 0 inA (F K) (dv1 o0)
theorem ok (K : Nat) : EntryOK Tryz.prog 50 (E K) := gen_ok mix tys_ok (tab_ok ((tab_cons (f33.ok K) (tab_cons (f32.ok K) (tab_cons (f12.ok K) tab_nil))))) Tryz.func50 (c := bodyOf Tryz.f50) (by kernel_rfl) (by kernel_rfl) (loops_none (lp := lpNone) (by kernel_rfl)) (av := av) (bl := bl) (inR := inR) (out := o0) (fuel := 400)
  (by intro s x h; unfold inA at h; split at h <;> simp at h; subst h; rfl) (fun _ => Nat.le_of_ble_eq_true rfl)
  (by intro s y h; unfold inR at h; split at h <;> simp at h <;> subst h <;> rfl) (fun _ _ _ => rfl) (fun _ => by kernel_rfl)
end f50
end Go.Proofs

namespace Go.Proofs
open Go.VM
namespace f36
abbrev Ty0 := List Int × List Int × List Int × List Int × List Int
def T (K : Nat) (a0_0 : List Int) (_a0_1 : List Int) (_a0_2 : List Int) (a0_3 : List Int) (a0_4 : List Int) : Option (List Int × Int) :=
 (f51.F K (a0_3, a0_4, a0_0)).bind fun y1 =>
 some (y1.1, y1.2)
def F (K : Nat) (x : Ty0) : Option (List Int × Int) := T K x.1 x.2.1 x.2.2.1 x.2.2.2.1 x.2.2.2.2
def av (x : Ty0) : List VV := [.agg [.ints .u64 4 x.1, .ints .u64 4 x.2.1, .ints .u64 4 x.2.2.1, .ints .u64 4 x.2.2.2.1, .ints .u64 4 x.2.2.2.2]]
def bl (_x : Ty0) : List (Nat × Blk) := []
def inA : VS → Option (Ty0)
 | ⟨[(0, .agg [.ints .u64 4 a0_0, .ints .u64 4 a0_1, .ints .u64 4 a0_2, .ints .u64 4 a0_3, .ints .u64 4 a0_4])], [], 0⟩ => some (a0_0, a0_1, a0_2, a0_3, a0_4)
 | _ => none
def o0 (y : List Int × Int) : VS := ⟨[(0, .tup [.agg [.ints .u64 4 y.1], .int .i64 y.2])], [], 0⟩
def inR : VS → Option (List Int × Int)
 | ⟨[(0, .tup [.agg [.ints .u64 4 y_0], .int .i64 y_1])], [], 0⟩ => some (y_0, y_1)
 | _ => none
noncomputable def E (K : Nat) : Entry := genE 0 inA (F K) (dv1 o0)
theorem ok (K : Nat) : EntryOK Tryz.prog 36 (E K) := gen_ok mix tys_ok (tab_ok ((tab_cons (f51.ok K) tab_nil))) Tryz.func36 (c := bodyOf Tryz.f36) (by kernel_rfl) (by kernel_rfl) (loops_none (lp := lpNone) (by kernel_rfl)) (av := av) (bl := bl) (inR := inR) (out := o0) (fuel := 400)
  (by intro s x h; unfold inA at h; split at h <;> simp at h; subst h; rfl) (fun _ => Nat.le_of_ble_eq_true rfl)
  (by intro s y h; unfold inR at h; split at h <;> simp at h <;> subst h <;> rfl) (fun _ _ _ => rfl) (fun _ => by kernel_rfl)
end f36
end Go.Proofs

namespace Go.Proofs
open Go.VM
namespace f35
abbrev Ty0 := List Int × List Int × List Int × List Int × List Int × Int × Int × List Int × List Int × List Int × List Int × List Int
abbrev Ty1 := List Int × List Int × List Int × List Int × List Int × List Int × List Int × List Int × List Int
abbrev Ty2 := List Int × List Int × List Int × List Int × List Int × Int × List Int × List Int
abbrev Ty3 := List Int × List Int × List Int × List Int × List Int × List Int × List Int
abbrev Ty4 := List Int × Int × List Int
noncomputable def c : Code := bodyOf Tryz.f35
def s0t (K : Nat) (rec : Ty0 → Option ((Ty2) ⊕ (Ty3))) (t1_0 : List Int) (t1_1 : List Int) (t1_2 : List Int) (t1_3 : List Int) (t1_4 : List Int) (t11 : Int) (t12 : Int) (b0 : List Int) (b1_0 : List Int) (b1_1 : List Int) (b1_2 : List Int) (b2 : List Int) : Option ((Ty2) ⊕ (Ty3)) :=
 bif (decide (t12 < t11)) then
 bif decide (0 ≤ t12 ∧ t12 < 1) then
 (f50.F K (b1_0, b1_1, b1_2, (List.take 4 (List.drop ((Int.toNat t12) * 4) b0)))).bind fun y4 =>
 bif !y4 then
 some (.inl (t1_0, t1_1, t1_2, t1_3, t1_4, 1, b0, [0, 0, 0, 0]))
 else
 rec (t1_0, t1_1, t1_2, t1_3, t1_4, t11, (IntKind.wrap .i64 (t12 + 1)), b0, b1_0, b1_1, b1_2, b2)
 else
 none
 else
 some (.inr (t1_0, t1_1, t1_2, t1_3, t1_4, b0, b2))
def s0 (K : Nat) (rec : Ty0 → Option ((Ty2) ⊕ (Ty3))) (x : Ty0) : Option ((Ty2) ⊕ (Ty3)) := s0t K rec x.1 x.2.1 x.2.2.1 x.2.2.2.1 x.2.2.2.2.1 x.2.2.2.2.2.1 x.2.2.2.2.2.2.1 x.2.2.2.2.2.2.2.1 x.2.2.2.2.2.2.2.2.1 x.2.2.2.2.2.2.2.2.2.1 x.2.2.2.2.2.2.2.2.2.2.1 x.2.2.2.2.2.2.2.2.2.2.2
noncomputable def s0.b : Code := (findLoop 0 c).getD .skip
def s0.h : Hint := { lv := [1, 3, 6, 10, 11, 12] }
def s0.ho : Hint := { lv := [1, 6, 7] }
def s0.shp (x : Ty0) : VS := ⟨[(1, .fm 36 [.agg [.ints .u64 4 x.1, .ints .u64 4 x.2.1, .ints .u64 4 x.2.2.1, .ints .u64 4 x.2.2.2.1, .ints .u64 4 x.2.2.2.2.1]]), (3, .ptr 1 0), (6, .ptr 2 0), (10, .sl 0 0 1 1), (11, .int .i64 x.2.2.2.2.2.1), (12, .int .i64 x.2.2.2.2.2.2.1)], [(0, ([.ints .u64 4 x.2.2.2.2.2.2.2.1], 24, .norm)), (1, ([.ints .u64 4 x.2.2.2.2.2.2.2.2.1, .ints .u64 4 x.2.2.2.2.2.2.2.2.2.1, .ints .u64 4 x.2.2.2.2.2.2.2.2.2.2.1], 57, .norm)), (2, ([.ints .u64 4 x.2.2.2.2.2.2.2.2.2.2.2], 24, .norm))], 3⟩
def s0.inX : VS → Option (Ty0)
 | ⟨[(1, .fm 36 [.agg [.ints .u64 4 t1_0, .ints .u64 4 t1_1, .ints .u64 4 t1_2, .ints .u64 4 t1_3, .ints .u64 4 t1_4]]), (3, .ptr 1 0), (6, .ptr 2 0), (10, .sl 0 0 1 1), (11, .int .i64 t11), (12, .int .i64 t12)], [(0, ([.ints .u64 4 b0], 24, .norm)), (1, ([.ints .u64 4 b1_0, .ints .u64 4 b1_1, .ints .u64 4 b1_2], 57, .norm)), (2, ([.ints .u64 4 b2], 24, .norm))], 3⟩ => some (t1_0, t1_1, t1_2, t1_3, t1_4, t11, t12, b0, b1_0, b1_1, b1_2, b2)
 | _ => none
def s0.o0 (y : Ty2) : VS := ⟨[(1, .fm 36 [.agg [.ints .u64 4 y.1, .ints .u64 4 y.2.1, .ints .u64 4 y.2.2.1, .ints .u64 4 y.2.2.2.1, .ints .u64 4 y.2.2.2.2.1]]), (6, .ptr 1 0), (7, .int .i64 y.2.2.2.2.2.1)], [(0, ([.ints .u64 4 y.2.2.2.2.2.2.1], 24, .norm)), (1, ([.ints .u64 4 y.2.2.2.2.2.2.2], 24, .norm))], 2⟩
def s0.o1 (y : Ty3) : VS := ⟨[(1, .fm 36 [.agg [.ints .u64 4 y.1, .ints .u64 4 y.2.1, .ints .u64 4 y.2.2.1, .ints .u64 4 y.2.2.2.1, .ints .u64 4 y.2.2.2.2.1]]), (6, .ptr 1 0)], [(0, ([.ints .u64 4 y.2.2.2.2.2.1], 24, .norm)), (1, ([.ints .u64 4 y.2.2.2.2.2.2], 24, .norm))], 2⟩
def s0.des : ∀ α : Type, ((Ty2) ⊕ (Ty3)) → (Ex → VS → Option α) → Option α := (desA (des1 (.ret) s0.o0) (des1 (.exit 0) s0.o1))
def s0.out : (Ty2) ⊕ (Ty3) → Ex × VS := (alt (fun y => (.ret, s0.o0 y)) (fun y => (.exit 0, s0.o1 y)))
theorem s0.desOK : ∀ α y (k : Ex → VS → Option α), s0.des α y k = k (s0.out y).1 (s0.out y).2 := (desA_ok (fun _ _ _ => rfl) (fun _ _ _ => rfl))
def s0.inY : Ex → VS → Option ((Ty2) ⊕ (Ty3))
 | .ret, ⟨[(1, .fm 36 [.agg [.ints .u64 4 t1_0, .ints .u64 4 t1_1, .ints .u64 4 t1_2, .ints .u64 4 t1_3, .ints .u64 4 t1_4]]), (6, .ptr 1 0), (7, .int .i64 t7)], [(0, ([.ints .u64 4 b0], 24, .norm)), (1, ([.ints .u64 4 b1], 24, .norm))], 2⟩ => some (.inl (t1_0, t1_1, t1_2, t1_3, t1_4, t7, b0, b1))
 | .exit 0, ⟨[(1, .fm 36 [.agg [.ints .u64 4 t1_0, .ints .u64 4 t1_1, .ints .u64 4 t1_2, .ints .u64 4 t1_3, .ints .u64 4 t1_4]]), (6, .ptr 1 0)], [(0, ([.ints .u64 4 b0], 24, .norm)), (1, ([.ints .u64 4 b1], 24, .norm))], 2⟩ => some (.inr (t1_0, t1_1, t1_2, t1_3, t1_4, b0, b1))
 | _, _ => none
def lp (K : Nat) : Nat → Option (Hint × Summ) := tabLp [(0, s0.h, summOf (iter (s0 K) K) s0.inX s0.des)]
noncomputable def tab (K : Nat) : List (Nat × Entry) := [(50, (f50.E K)), (36, (f36.E K))]
theorem tabOK (K : Nat) : SpecOK Tryz.prog (tabSp (tab K)) := tab_ok ((tab_cons (f50.ok K) (tab_cons (f36.ok K) tab_nil)))
theorem s0.eq (K : Nat) (rec : Ty0 → Option ((Ty2) ⊕ (Ty3))) (x : Ty0) : s0 K rec x = roundL (getA tys) (tabSp (tab K)) 26 1 (lp K) 400 s0.b s0.h s0.ho s0.shp s0.inX s0.inY rec x := by kernel_rfl
theorem s0.lok (K : Nat) : LoopsOK Tryz.prog 26 1 (lp K) s0.b := loops_ok (by
  have h : loopsIn (lp K) s0.b = [] := by kernel_rfl
  rw [h]; simp)
theorem s0.ok (K : Nat) : SummOK Tryz.prog 26 1 (summOf (iter (s0 K) K) s0.inX s0.des) s0.b :=
  loop_ok mix tys_ok (tabOK K) (h := s0.h) (ho := s0.ho) (shp := s0.shp) (inX := s0.inX) (des := s0.des) (out := s0.out) (inY := s0.inY) (fuel := 400)
    (by intro st x h; unfold s0.inX at h; split at h <;> simp at h; subst h; rfl)
    (by intro e st y h; unfold s0.inY at h; split at h <;> simp at h <;> subst h <;> rfl)
    s0.desOK (s0.lok K) (s0 K) (s0.eq K) K
theorem loops (K : Nat) : LoopsOK Tryz.prog 26 1 (lp K) c := loops_ok (by
  have h : loopsIn (lp K) c = [(0, s0.b)] := by kernel_rfl
  rw [h]
  intro p hp
  simp only [List.mem_cons, List.not_mem_nil, or_false] at hp
  rcases hp with rfl
  · exact ⟨_, rfl, (s0.ok K)⟩)
def T (K : Nat) (a0_0 : List Int) (a0_1 : List Int) (a0_2 : List Int) (a1_0 : List Int) (a1_1 : List Int) (a1_2 : List Int) (a1_3 : List Int) (a1_4 : List Int) (m0 : List Int) : Option (Ty4) :=
 (iter (s0 K) K (a1_0, a1_1, a1_2, a1_3, a1_4, 1, 0, m0, a0_0, a0_1, a0_2, [0, 0, 0, 0])).bind fun y6 =>
 alt (fun y7 =>
 some (y7.2.2.2.2.2.2.2, y7.2.2.2.2.2.1, y7.2.2.2.2.2.2.1)) (fun y8 =>
 (f36.F K (y8.1, y8.2.1, y8.2.2.1, y8.2.2.2.1, y8.2.2.2.2.1)).bind fun y10 =>
 some (y10.1, y10.2, y8.2.2.2.2.2.1)) y6
def F (K : Nat) (x : Ty1) : Option (Ty4) := T K x.1 x.2.1 x.2.2.1 x.2.2.2.1 x.2.2.2.2.1 x.2.2.2.2.2.1 x.2.2.2.2.2.2.1 x.2.2.2.2.2.2.2.1 x.2.2.2.2.2.2.2.2
def av (x : Ty1) : List VV := [.agg [.ints .u64 4 x.1, .ints .u64 4 x.2.1, .ints .u64 4 x.2.2.1], .fm 36 [.agg [.ints .u64 4 x.2.2.2.1, .ints .u64 4 x.2.2.2.2.1, .ints .u64 4 x.2.2.2.2.2.1, .ints .u64 4 x.2.2.2.2.2.2.1, .ints .u64 4 x.2.2.2.2.2.2.2.1]], .sl 0 0 1 1]
def bl (x : Ty1) : List (Nat × Blk) := [(0, ([.ints .u64 4 x.2.2.2.2.2.2.2.2], 24, .norm))]
def inA : VS → Option (Ty1)
 | ⟨[(0, .agg [.ints .u64 4 a0_0, .ints .u64 4 a0_1, .ints .u64 4 a0_2]), (1, .fm 36 [.agg [.ints .u64 4 a1_0, .ints .u64 4 a1_1, .ints .u64 4 a1_2, .ints .u64 4 a1_3, .ints .u64 4 a1_4]]), (2, .sl 0 0 1 1)], [(0, ([.ints .u64 4 m0], 24, .norm))], 1⟩ => some (a0_0, a0_1, a0_2, a1_0, a1_1, a1_2, a1_3, a1_4, m0)
 | _ => none
def o0 (y : Ty4) : VS := ⟨[(0, .tup [.agg [.ints .u64 4 y.1], .int .i64 y.2.1])], [(0, ([.ints .u64 4 y.2.2], 24, .norm))], 1⟩
def des : ∀ α : Type, (Ty4) → (VS → Option α) → Option α := (dv1 o0)
def out : Ty4 → VS := o0
def inR : VS → Option (Ty4)
 | ⟨[(0, .tup [.agg [.ints .u64 4 y_0], .int .i64 y_1])], [(0, ([.ints .u64 4 z0], 24, .norm))], 1⟩ => some (y_0, y_1, z0)
 | _ => none
noncomputable def E (K : Nat) : Entry := genE 1 inA (F K) des
theorem eq (K : Nat) (x : Ty1) : F K x = xrun (getA tys) (tabSp (tab K)) Tryz.f35.ntmps 1 (lp K) 400 c ⟨initL 0 (av x), bl x, 1⟩ (contF (getA tys) 1 Tryz.f35.results.toList inR) := by kernel_rfl
theorem ok (K : Nat) : EntryOK Tryz.prog 35 (E K) :=
  gen_ok mix tys_ok (tabOK K) Tryz.func35 (by kernel_rfl : Tryz.f35.body = some c) (by kernel_rfl) (loops K) (av := av) (bl := bl) (out := out) (fuel := 400)
    (by intro s x h; unfold inA at h; split at h <;> simp at h; subst h; rfl) (fun _ => Nat.le_of_ble_eq_true rfl)
    (by intro s y h; unfold inR at h; split at h <;> simp at h <;> subst h <;> rfl) (fun _ _ _ => rfl) (eq K)
end f35
end Go.Proofs

namespace Go.Proofs
open Go.VM
namespace f49
abbrev Ty0 := List Int × List Int × List Int × List Int × List Int
def T (K : Nat) (a0_0 : List Int) (_a0_1 : List Int) (_a0_2 : List Int) (a0_3 : List Int) (a0_4 : List Int) : Option (List Int × Int) :=
 (f19.F K (a0_3, a0_4, a0_0)).bind fun y1 =>
 some (y1.1, y1.2)
def F (K : Nat) (x : Ty0) : Option (List Int × Int) := T K x.1 x.2.1 x.2.2.1 x.2.2.2.1 x.2.2.2.2
def av (x : Ty0) : List VV := [.agg [.ints .u64 4 x.1, .ints .u64 4 x.2.1, .ints .u64 4 x.2.2.1, .ints .u64 4 x.2.2.2.1, .ints .u64 4 x.2.2.2.2]]
def bl (_x : Ty0) : List (Nat × Blk) := []
def inA : VS → Option (Ty0)
 | ⟨[(0, .agg [.ints .u64 4 a0_0, .ints .u64 4 a0_1, .ints .u64 4 a0_2, .ints .u64 4 a0_3, .ints .u64 4 a0_4])], [], 0⟩ => some (a0_0, a0_1, a0_2, a0_3, a0_4)
 | _ => none
def o0 (y : List Int × Int) : VS := ⟨[(0, .tup [.agg [.ints .u64 4 y.1], .int .i64 y.2])], [], 0⟩
def inR : VS → Option (List Int × Int)
 | ⟨[(0, .tup [.agg [.ints .u64 4 y_0], .int .i64 y_1])], [], 0⟩ => some (y_0, y_1)
 | _ => none
noncomputable def E (K : Nat) : Entry := genE 0 inA (F K) (dv1 o0)
theorem ok (K : Nat) : EntryOK Tryz.prog 49 (E K) := gen_ok mix tys_ok (tab_ok ((tab_cons (f19.ok K) tab_nil))) Tryz.func49 (c := bodyOf Tryz.f49) (by kernel_rfl) (by kernel_rfl) (loops_none (lp := lpNone) (by kernel_rfl)) (av := av) (bl := bl) (inR := inR) (out := o0) (fuel := 400)
  (by intro s x h; unfold inA at h; split at h <;> simp at h; subst h; rfl) (fun _ => Nat.le_of_ble_eq_true rfl)
  (by intro s y h; unfold inR at h; split at h <;> simp at h <;> subst h <;> rfl) (fun _ _ _ => rfl) (fun _ => by kernel_rfl)
end f49
end Go.Proofs

namespace Go.Proofs
open Go.VM
namespace f35v1
abbrev Ty0 := List Int × List Int × List Int × List Int × List Int × Int × Int × List Int × List Int × List Int × List Int × List Int
abbrev Ty1 := List Int × List Int × List Int × List Int × List Int × List Int × List Int × List Int × List Int
abbrev Ty2 := List Int × List Int × List Int × List Int × List Int × Int × List Int × List Int
abbrev Ty3 := List Int × List Int × List Int × List Int × List Int × List Int × List Int
abbrev Ty4 := List Int × Int × List Int
noncomputable def c : Code := bodyOf Tryz.f35
def s0t (K : Nat) (rec : Ty0 → Option ((Ty2) ⊕ (Ty3))) (t1_0 : List Int) (t1_1 : List Int) (t1_2 : List Int) (t1_3 : List Int) (t1_4 : List Int) (t11 : Int) (t12 : Int) (b0 : List Int) (b1_0 : List Int) (b1_1 : List Int) (b1_2 : List Int) (b2 : List Int) : Option ((Ty2) ⊕ (Ty3)) :=
 bif (decide (t12 < t11)) then
 bif decide (0 ≤ t12 ∧ t12 < 2) then
 (f50.F K (b1_0, b1_1, b1_2, (List.take 4 (List.drop ((Int.toNat t12) * 4) b0)))).bind fun y4 =>
 bif !y4 then
 some (.inl (t1_0, t1_1, t1_2, t1_3, t1_4, 1, b0, [0, 0, 0, 0]))
 else
 rec (t1_0, t1_1, t1_2, t1_3, t1_4, t11, (IntKind.wrap .i64 (t12 + 1)), b0, b1_0, b1_1, b1_2, b2)
 else
 none
 else
 some (.inr (t1_0, t1_1, t1_2, t1_3, t1_4, b0, b2))
def s0 (K : Nat) (rec : Ty0 → Option ((Ty2) ⊕ (Ty3))) (x : Ty0) : Option ((Ty2) ⊕ (Ty3)) := s0t K rec x.1 x.2.1 x.2.2.1 x.2.2.2.1 x.2.2.2.2.1 x.2.2.2.2.2.1 x.2.2.2.2.2.2.1 x.2.2.2.2.2.2.2.1 x.2.2.2.2.2.2.2.2.1 x.2.2.2.2.2.2.2.2.2.1 x.2.2.2.2.2.2.2.2.2.2.1 x.2.2.2.2.2.2.2.2.2.2.2
noncomputable def s0.b : Code := (findLoop 0 c).getD .skip
def s0.h : Hint := { lv := [1, 3, 6, 10, 11, 12] }
def s0.ho : Hint := { lv := [1, 6, 7] }
def s0.shp (x : Ty0) : VS := ⟨[(1, .fm 49 [.agg [.ints .u64 4 x.1, .ints .u64 4 x.2.1, .ints .u64 4 x.2.2.1, .ints .u64 4 x.2.2.2.1, .ints .u64 4 x.2.2.2.2.1]]), (3, .ptr 1 0), (6, .ptr 2 0), (10, .sl 0 0 2 2), (11, .int .i64 x.2.2.2.2.2.1), (12, .int .i64 x.2.2.2.2.2.2.1)], [(0, ([.ints .u64 8 x.2.2.2.2.2.2.2.1], 24, .norm)), (1, ([.ints .u64 4 x.2.2.2.2.2.2.2.2.1, .ints .u64 4 x.2.2.2.2.2.2.2.2.2.1, .ints .u64 4 x.2.2.2.2.2.2.2.2.2.2.1], 57, .norm)), (2, ([.ints .u64 4 x.2.2.2.2.2.2.2.2.2.2.2], 24, .norm))], 3⟩
def s0.inX : VS → Option (Ty0)
 | ⟨[(1, .fm 49 [.agg [.ints .u64 4 t1_0, .ints .u64 4 t1_1, .ints .u64 4 t1_2, .ints .u64 4 t1_3, .ints .u64 4 t1_4]]), (3, .ptr 1 0), (6, .ptr 2 0), (10, .sl 0 0 2 2), (11, .int .i64 t11), (12, .int .i64 t12)], [(0, ([.ints .u64 8 b0], 24, .norm)), (1, ([.ints .u64 4 b1_0, .ints .u64 4 b1_1, .ints .u64 4 b1_2], 57, .norm)), (2, ([.ints .u64 4 b2], 24, .norm))], 3⟩ => some (t1_0, t1_1, t1_2, t1_3, t1_4, t11, t12, b0, b1_0, b1_1, b1_2, b2)
 | _ => none
def s0.o0 (y : Ty2) : VS := ⟨[(1, .fm 49 [.agg [.ints .u64 4 y.1, .ints .u64 4 y.2.1, .ints .u64 4 y.2.2.1, .ints .u64 4 y.2.2.2.1, .ints .u64 4 y.2.2.2.2.1]]), (6, .ptr 1 0), (7, .int .i64 y.2.2.2.2.2.1)], [(0, ([.ints .u64 8 y.2.2.2.2.2.2.1], 24, .norm)), (1, ([.ints .u64 4 y.2.2.2.2.2.2.2], 24, .norm))], 2⟩
def s0.o1 (y : Ty3) : VS := ⟨[(1, .fm 49 [.agg [.ints .u64 4 y.1, .ints .u64 4 y.2.1, .ints .u64 4 y.2.2.1, .ints .u64 4 y.2.2.2.1, .ints .u64 4 y.2.2.2.2.1]]), (6, .ptr 1 0)], [(0, ([.ints .u64 8 y.2.2.2.2.2.1], 24, .norm)), (1, ([.ints .u64 4 y.2.2.2.2.2.2], 24, .norm))], 2⟩
def s0.des : ∀ α : Type, ((Ty2) ⊕ (Ty3)) → (Ex → VS → Option α) → Option α := (desA (des1 (.ret) s0.o0) (des1 (.exit 0) s0.o1))
def s0.out : (Ty2) ⊕ (Ty3) → Ex × VS := (alt (fun y => (.ret, s0.o0 y)) (fun y => (.exit 0, s0.o1 y)))
theorem s0.desOK : ∀ α y (k : Ex → VS → Option α), s0.des α y k = k (s0.out y).1 (s0.out y).2 := (desA_ok (fun _ _ _ => rfl) (fun _ _ _ => rfl))
def s0.inY : Ex → VS → Option ((Ty2) ⊕ (Ty3))
 | .ret, ⟨[(1, .fm 49 [.agg [.ints .u64 4 t1_0, .ints .u64 4 t1_1, .ints .u64 4 t1_2, .ints .u64 4 t1_3, .ints .u64 4 t1_4]]), (6, .ptr 1 0), (7, .int .i64 t7)], [(0, ([.ints .u64 8 b0], 24, .norm)), (1, ([.ints .u64 4 b1], 24, .norm))], 2⟩ => some (.inl (t1_0, t1_1, t1_2, t1_3, t1_4, t7, b0, b1))
 | .exit 0, ⟨[(1, .fm 49 [.agg [.ints .u64 4 t1_0, .ints .u64 4 t1_1, .ints .u64 4 t1_2, .ints .u64 4 t1_3, .ints .u64 4 t1_4]]), (6, .ptr 1 0)], [(0, ([.ints .u64 8 b0], 24, .norm)), (1, ([.ints .u64 4 b1], 24, .norm))], 2⟩ => some (.inr (t1_0, t1_1, t1_2, t1_3, t1_4, b0, b1))
 | _, _ => none
def lp (K : Nat) : Nat → Option (Hint × Summ) := tabLp [(0, s0.h, summOf (iter (s0 K) K) s0.inX s0.des)]
noncomputable def tab (K : Nat) : List (Nat × Entry) := [(50, (f50.E K)), (49, (f49.E K))]
theorem tabOK (K : Nat) : SpecOK Tryz.prog (tabSp (tab K)) := tab_ok ((tab_cons (f50.ok K) (tab_cons (f49.ok K) tab_nil)))
theorem s0.eq (K : Nat) (rec : Ty0 → Option ((Ty2) ⊕ (Ty3))) (x : Ty0) : s0 K rec x = roundL (getA tys) (tabSp (tab K)) 26 1 (lp K) 400 s0.b s0.h s0.ho s0.shp s0.inX s0.inY rec x := by kernel_rfl
theorem s0.lok (K : Nat) : LoopsOK Tryz.prog 26 1 (lp K) s0.b := loops_ok (by
  have h : loopsIn (lp K) s0.b = [] := by kernel_rfl
  rw [h]; simp)
theorem s0.ok (K : Nat) : SummOK Tryz.prog 26 1 (summOf (iter (s0 K) K) s0.inX s0.des) s0.b :=
  loop_ok mix tys_ok (tabOK K) (h := s0.h) (ho := s0.ho) (shp := s0.shp) (inX := s0.inX) (des := s0.des) (out := s0.out) (inY := s0.inY) (fuel := 400)
    (by intro st x h; unfold s0.inX at h; split at h <;> simp at h; subst h; rfl)
    (by intro e st y h; unfold s0.inY at h; split at h <;> simp at h <;> subst h <;> rfl)
    s0.desOK (s0.lok K) (s0 K) (s0.eq K) K
theorem loops (K : Nat) : LoopsOK Tryz.prog 26 1 (lp K) c := loops_ok (by
  have h : loopsIn (lp K) c = [(0, s0.b)] := by kernel_rfl
  rw [h]
  intro p hp
  simp only [List.mem_cons, List.not_mem_nil, or_false] at hp
  rcases hp with rfl
  · exact ⟨_, rfl, (s0.ok K)⟩)
def T (K : Nat) (a0_0 : List Int) (a0_1 : List Int) (a0_2 : List Int) (a1_0 : List Int) (a1_1 : List Int) (a1_2 : List Int) (a1_3 : List Int) (a1_4 : List Int) (m0 : List Int) : Option (Ty4) :=
 (iter (s0 K) K (a1_0, a1_1, a1_2, a1_3, a1_4, 2, 0, m0, a0_0, a0_1, a0_2, [0, 0, 0, 0])).bind fun y6 =>
 alt (fun y7 =>
 some (y7.2.2.2.2.2.2.2, y7.2.2.2.2.2.1, y7.2.2.2.2.2.2.1)) (fun y8 =>
 (f49.F K (y8.1, y8.2.1, y8.2.2.1, y8.2.2.2.1, y8.2.2.2.2.1)).bind fun y10 =>
 some (y10.1, y10.2, y8.2.2.2.2.2.1)) y6
def F (K : Nat) (x : Ty1) : Option (Ty4) := T K x.1 x.2.1 x.2.2.1 x.2.2.2.1 x.2.2.2.2.1 x.2.2.2.2.2.1 x.2.2.2.2.2.2.1 x.2.2.2.2.2.2.2.1 x.2.2.2.2.2.2.2.2
def av (x : Ty1) : List VV := [.agg [.ints .u64 4 x.1, .ints .u64 4 x.2.1, .ints .u64 4 x.2.2.1], .fm 49 [.agg [.ints .u64 4 x.2.2.2.1, .ints .u64 4 x.2.2.2.2.1, .ints .u64 4 x.2.2.2.2.2.1, .ints .u64 4 x.2.2.2.2.2.2.1, .ints .u64 4 x.2.2.2.2.2.2.2.1]], .sl 0 0 2 2]
def bl (x : Ty1) : List (Nat × Blk) := [(0, ([.ints .u64 8 x.2.2.2.2.2.2.2.2], 24, .norm))]
def inA : VS → Option (Ty1)
 | ⟨[(0, .agg [.ints .u64 4 a0_0, .ints .u64 4 a0_1, .ints .u64 4 a0_2]), (1, .fm 49 [.agg [.ints .u64 4 a1_0, .ints .u64 4 a1_1, .ints .u64 4 a1_2, .ints .u64 4 a1_3, .ints .u64 4 a1_4]]), (2, .sl 0 0 2 2)], [(0, ([.ints .u64 8 m0], 24, .norm))], 1⟩ => some (a0_0, a0_1, a0_2, a1_0, a1_1, a1_2, a1_3, a1_4, m0)
 | _ => none
def o0 (y : Ty4) : VS := ⟨[(0, .tup [.agg [.ints .u64 4 y.1], .int .i64 y.2.1])], [(0, ([.ints .u64 8 y.2.2], 24, .norm))], 1⟩
def des : ∀ α : Type, (Ty4) → (VS → Option α) → Option α := (dv1 o0)
def out : Ty4 → VS := o0
def inR : VS → Option (Ty4)
 | ⟨[(0, .tup [.agg [.ints .u64 4 y_0], .int .i64 y_1])], [(0, ([.ints .u64 8 z0], 24, .norm))], 1⟩ => some (y_0, y_1, z0)
 | _ => none
noncomputable def E (K : Nat) : Entry := genE 1 inA (F K) des
theorem eq (K : Nat) (x : Ty1) : F K x = xrun (getA tys) (tabSp (tab K)) Tryz.f35.ntmps 1 (lp K) 400 c ⟨initL 0 (av x), bl x, 1⟩ (contF (getA tys) 1 Tryz.f35.results.toList inR) := by kernel_rfl
theorem ok (K : Nat) : EntryOK Tryz.prog 35 (E K) :=
  gen_ok mix tys_ok (tabOK K) Tryz.func35 (by kernel_rfl : Tryz.f35.body = some c) (by kernel_rfl) (loops K) (av := av) (bl := bl) (out := out) (fuel := 400)
    (by intro s x h; unfold inA at h; split at h <;> simp at h; subst h; rfl) (fun _ => Nat.le_of_ble_eq_true rfl)
    (by intro s y h; unfold inR at h; split at h <;> simp at h <;> subst h <;> rfl) (fun _ _ _ => rfl) (eq K)
end f35v1
end Go.Proofs

namespace Go.Proofs
open Go.VM
namespace f14
abbrev Ty0 := List Int × List Int × List Int × List Int × List Int
def T (K : Nat) (a0_0 : List Int) (a0_1 : List Int) (a0_2 : List Int) (a1 : List Int) (a2 : List Int) : Option (List Int × Int) :=
 (f35.F K (a0_0, a0_1, a0_2, a0_0, a0_1, a0_2, a1, a2, a1)).bind fun y1 =>
 some (y1.1, y1.2.1)
def F (K : Nat) (x : Ty0) : Option (List Int × Int) := T K x.1 x.2.1 x.2.2.1 x.2.2.2.1 x.2.2.2.2
def av (x : Ty0) : List VV := [.agg [.ints .u64 4 x.1, .ints .u64 4 x.2.1, .ints .u64 4 x.2.2.1], .agg [.ints .u64 4 x.2.2.2.1], .agg [.ints .u64 4 x.2.2.2.2]]
def bl (_x : Ty0) : List (Nat × Blk) := []
def inA : VS → Option (Ty0)
 | ⟨[(0, .agg [.ints .u64 4 a0_0, .ints .u64 4 a0_1, .ints .u64 4 a0_2]), (1, .agg [.ints .u64 4 a1]), (2, .agg [.ints .u64 4 a2])], [], 0⟩ => some (a0_0, a0_1, a0_2, a1, a2)
 | _ => none
def o0 (y : List Int × Int) : VS := ⟨[(0, .tup [.agg [.ints .u64 4 y.1], .int .i64 y.2])], [], 0⟩
def inR : VS → Option (List Int × Int)
 | ⟨[(0, .tup [.agg [.ints .u64 4 y_0], .int .i64 y_1])], [], 0⟩ => some (y_0, y_1)
 | _ => none
noncomputable def E (K : Nat) : Entry := genE 0 inA (F K) (dv1 o0)
theorem ok (K : Nat) : EntryOK Tryz.prog 14 (E K) := gen_ok mix tys_ok (tab_ok ((tab_cons (f35.ok K) tab_nil))) Tryz.func14 (c := bodyOf Tryz.f14) (by kernel_rfl) (by kernel_rfl) (loops_none (lp := lpNone) (by kernel_rfl)) (av := av) (bl := bl) (inR := inR) (out := o0) (fuel := 400)
  (by intro s x h; unfold inA at h; split at h <;> simp at h; subst h; rfl) (fun _ => Nat.le_of_ble_eq_true rfl)
  (by intro s y h; unfold inR at h; split at h <;> simp at h <;> subst h <;> rfl) (fun _ _ _ => rfl) (fun _ => by kernel_rfl)
end f14
end Go.Proofs

namespace Go.Proofs
open Go.VM
namespace f25
abbrev Ty0 := List Int × List Int × List Int × List Int
def T (K : Nat) (a0_0 : List Int) (a0_1 : List Int) (a0_2 : List Int) (a1 : List Int) : Option (Bool) :=
 (f14.F K (a0_0, a0_1, a0_2, a1, a0_1)).bind fun y1 =>
 bif (y1.2 == 0) then
 (f33.F K ()).bind fun y2 =>
 some (eqL 4 y1.1 y2 && true)
 else
 some false
def F (K : Nat) (x : Ty0) : Option (Bool) := T K x.1 x.2.1 x.2.2.1 x.2.2.2
def av (x : Ty0) : List VV := [.agg [.ints .u64 4 x.1, .ints .u64 4 x.2.1, .ints .u64 4 x.2.2.1], .agg [.ints .u64 4 x.2.2.2]]
def bl (_x : Ty0) : List (Nat × Blk) := []
def inA : VS → Option (Ty0)
 | ⟨[(0, .agg [.ints .u64 4 a0_0, .ints .u64 4 a0_1, .ints .u64 4 a0_2]), (1, .agg [.ints .u64 4 a1])], [], 0⟩ => some (a0_0, a0_1, a0_2, a1)
 | _ => none
def o0 (y : Bool) : VS := ⟨[(0, .bool y)], [], 0⟩
def inR : VS → Option (Bool)
 | ⟨[(0, .bool y)], [], 0⟩ => some y
 | _ => none
noncomputable def E (K : Nat) : Entry := genE 0 inA (F K) (dv1 o0)
theorem ok (K : Nat) : EntryOK Tryz.prog 25 (E K) := gen_ok mix tys_ok (tab_ok ((tab_cons (f14.ok K) (tab_cons (f33.ok K) tab_nil)))) Tryz.func25 (c := bodyOf Tryz.f25) (by kernel_rfl) (by kernel_rfl) (loops_none (lp := lpNone) (by kernel_rfl)) (av := av) (bl := bl) (inR := inR) (out := o0) (fuel := 400)
  (by intro s x h; unfold inA at h; split at h <;> simp at h; subst h; rfl) (fun _ => Nat.le_of_ble_eq_true rfl)
  (by intro s y h; unfold inR at h; split at h <;> simp at h <;> subst h <;> rfl) (fun _ _ _ => rfl) (fun _ => by kernel_rfl)
end f25
end Go.Proofs

namespace Go.Proofs
open Go.VM
namespace f11
abbrev Ty0 := List Int × List Int × List Int
def T (K : Nat) (a0_0 : List Int) (a0_1 : List Int) (a0_2 : List Int) : Option (Bool) :=
 (f33.F K ()).bind fun y1 =>
 (f32.F K (a0_1, y1)).bind fun y2 =>
 bif (decide (y2 > 0)) then
 (f33.F K ()).bind fun y4 =>
 bif (!(eqL 4 a0_2 y4 && true)) then
 (f25.F K (a0_0, a0_1, a0_2, a0_2)).bind fun y6 =>
 some y6
 else
 some false
 else
 some false
def F (K : Nat) (x : Ty0) : Option (Bool) := T K x.1 x.2.1 x.2.2
def av (x : Ty0) : List VV := [.agg [.ints .u64 4 x.1, .ints .u64 4 x.2.1, .ints .u64 4 x.2.2]]
def bl (_x : Ty0) : List (Nat × Blk) := []
def inA : VS → Option (Ty0)
 | ⟨[(0, .agg [.ints .u64 4 a0_0, .ints .u64 4 a0_1, .ints .u64 4 a0_2])], [], 0⟩ => some (a0_0, a0_1, a0_2)
 | _ => none
def o0 (y : Bool) : VS := ⟨[(0, .bool y)], [], 0⟩
def inR : VS → Option (Bool)
 | ⟨[(0, .bool y)], [], 0⟩ => some y
 | _ => none
noncomputable def E (K : Nat) : Entry := genE 0 inA (F K) (dv1 o0)
theorem ok (K : Nat) : EntryOK Tryz.prog 11 (E K) := gen_ok mix tys_ok (tab_ok ((tab_cons (f33.ok K) (tab_cons (f32.ok K) (tab_cons (f25.ok K) tab_nil))))) Tryz.func11 (c := bodyOf Tryz.f11) (by kernel_rfl) (by kernel_rfl) (loops_none (lp := lpNone) (by kernel_rfl)) (av := av) (bl := bl) (inR := inR) (out := o0) (fuel := 400)
  (by intro s x h; unfold inA at h; split at h <;> simp at h; subst h; rfl) (fun _ => Nat.le_of_ble_eq_true rfl)
  (by intro s y h; unfold inR at h; split at h <;> simp at h <;> subst h <;> rfl) (fun _ _ _ => rfl) (fun _ => by kernel_rfl)
end f11
end Go.Proofs

namespace Go.Proofs
open Go.VM
namespace f13
def T (_K : Nat) (a0 : List Int) : Option (List Int) :=
 some a0
def F (K : Nat) (x : List Int) : Option (List Int) := T K x
def av (x : List Int) : List VV := [.agg [.ints .u64 4 x]]
def bl (_x : List Int) : List (Nat × Blk) := []
def inA : VS → Option (List Int)
 | ⟨[(0, .agg [.ints .u64 4 a0])], [], 0⟩ => some a0
 | _ => none
def o0 (y : List Int) : VS := ⟨[(0, .fn 34 [.ptr 0 0])], [(0, ([.ints .u64 4 y], 24, .norm))], 1⟩
def inR : VS → Option (List Int)
 | ⟨[(0, .fn 34 [.ptr 0 0])], [(0, ([.ints .u64 4 z0], 24, .norm))], 1⟩ => some z0
 | _ => none
noncomputable def E (K : Nat) : Entry := genE 0 inA (F K) (dv1 o0)
theorem ok (K : Nat) : EntryOK Tryz.prog 13 (E K) := gen_ok mix tys_ok (tab_ok ( tab_nil)) Tryz.func13 (c := bodyOf Tryz.f13) (by kernel_rfl) (by kernel_rfl) (loops_none (lp := lpNone) (by kernel_rfl)) (av := av) (bl := bl) (inR := inR) (out := o0) (fuel := 400)
  (by intro s x h; unfold inA at h; split at h <;> simp at h; subst h; rfl) (fun _ => Nat.le_of_ble_eq_true rfl)
  (by intro s y h; unfold inR at h; split at h <;> simp at h <;> subst h <;> rfl) (fun _ _ _ => rfl) (fun _ => by kernel_rfl)
end f13
end Go.Proofs

namespace Go.Proofs
open Go.VM
namespace f34
abbrev Ty0 := Int × Int × List Int × List Int
abbrev Ty1 := Bool × List Int × List Int
abbrev Ty2 := List Int × List Int
noncomputable def c : Code := bodyOf Tryz.f34
def s0t (K : Nat) (rec : Ty0 → Option ((Ty1) ⊕ (Ty2))) (t7 : Int) (t8 : Int) (b0 : List Int) (b1 : List Int) : Option ((Ty1) ⊕ (Ty2)) :=
 bif (decide (t8 < t7)) then
 bif decide (0 ≤ t8 ∧ t8 < 1) then
 (f32.F K ((List.take 4 (List.drop ((Int.toNat t8) * 4) b0)), b1)).bind fun y4 =>
 bif (decide (y4 ≥ 0)) then
 some (.inl (false, b0, b1))
 else
 rec (t7, (IntKind.wrap .i64 (t8 + 1)), b0, b1)
 else
 none
 else
 some (.inr (b0, b1))
def s0 (K : Nat) (rec : Ty0 → Option ((Ty1) ⊕ (Ty2))) (x : Ty0) : Option ((Ty1) ⊕ (Ty2)) := s0t K rec x.1 x.2.1 x.2.2.1 x.2.2.2
noncomputable def s0.b : Code := (findLoop 0 c).getD .skip
def s0.h : Hint := { lv := [1, 6, 7, 8] }
def s0.ho : Hint := { lv := [3] }
def s0.shp (x : Ty0) : VS := ⟨[(1, .ptr 1 0), (6, .sl 0 0 1 1), (7, .int .i64 x.1), (8, .int .i64 x.2.1)], [(0, ([.ints .u64 4 x.2.2.1], 24, .norm)), (1, ([.ints .u64 4 x.2.2.2], 24, .norm))], 2⟩
def s0.inX : VS → Option (Ty0)
 | ⟨[(1, .ptr 1 0), (6, .sl 0 0 1 1), (7, .int .i64 t7), (8, .int .i64 t8)], [(0, ([.ints .u64 4 b0], 24, .norm)), (1, ([.ints .u64 4 b1], 24, .norm))], 2⟩ => some (t7, t8, b0, b1)
 | _ => none
def s0.o0 (y : Ty1) : VS := ⟨[(3, .bool y.1)], [(0, ([.ints .u64 4 y.2.1], 24, .norm)), (1, ([.ints .u64 4 y.2.2], 24, .norm))], 2⟩
def s0.o1 (y : Ty2) : VS := ⟨[], [(0, ([.ints .u64 4 y.1], 24, .norm)), (1, ([.ints .u64 4 y.2], 24, .norm))], 2⟩
def s0.des : ∀ α : Type, ((Ty1) ⊕ (Ty2)) → (Ex → VS → Option α) → Option α := (desA (des1 (.ret) s0.o0) (des1 (.exit 0) s0.o1))
def s0.out : (Ty1) ⊕ (Ty2) → Ex × VS := (alt (fun y => (.ret, s0.o0 y)) (fun y => (.exit 0, s0.o1 y)))
theorem s0.desOK : ∀ α y (k : Ex → VS → Option α), s0.des α y k = k (s0.out y).1 (s0.out y).2 := (desA_ok (fun _ _ _ => rfl) (fun _ _ _ => rfl))
def s0.inY : Ex → VS → Option ((Ty1) ⊕ (Ty2))
 | .ret, ⟨[(3, .bool t3)], [(0, ([.ints .u64 4 b0], 24, .norm)), (1, ([.ints .u64 4 b1], 24, .norm))], 2⟩ => some (.inl (t3, b0, b1))
 | .exit 0, ⟨[], [(0, ([.ints .u64 4 b0], 24, .norm)), (1, ([.ints .u64 4 b1], 24, .norm))], 2⟩ => some (.inr (b0, b1))
 | _, _ => none
def lp (K : Nat) : Nat → Option (Hint × Summ) := tabLp [(0, s0.h, summOf (iter (s0 K) K) s0.inX s0.des)]
noncomputable def tab (K : Nat) : List (Nat × Entry) := [(32, (f32.E K))]
theorem tabOK (K : Nat) : SpecOK Tryz.prog (tabSp (tab K)) := tab_ok ((tab_cons (f32.ok K) tab_nil))
theorem s0.eq (K : Nat) (rec : Ty0 → Option ((Ty1) ⊕ (Ty2))) (x : Ty0) : s0 K rec x = roundL (getA tys) (tabSp (tab K)) 17 2 (lp K) 400 s0.b s0.h s0.ho s0.shp s0.inX s0.inY rec x := by kernel_rfl
theorem s0.lok (K : Nat) : LoopsOK Tryz.prog 17 2 (lp K) s0.b := loops_ok (by
  have h : loopsIn (lp K) s0.b = [] := by kernel_rfl
  rw [h]; simp)
theorem s0.ok (K : Nat) : SummOK Tryz.prog 17 2 (summOf (iter (s0 K) K) s0.inX s0.des) s0.b :=
  loop_ok mix tys_ok (tabOK K) (h := s0.h) (ho := s0.ho) (shp := s0.shp) (inX := s0.inX) (des := s0.des) (out := s0.out) (inY := s0.inY) (fuel := 400)
    (by intro st x h; unfold s0.inX at h; split at h <;> simp at h; subst h; rfl)
    (by intro e st y h; unfold s0.inY at h; split at h <;> simp at h <;> subst h <;> rfl)
    s0.desOK (s0.lok K) (s0 K) (s0.eq K) K
theorem loops (K : Nat) : LoopsOK Tryz.prog 17 2 (lp K) c := loops_ok (by
  have h : loopsIn (lp K) c = [(0, s0.b)] := by kernel_rfl
  rw [h]
  intro p hp
  simp only [List.mem_cons, List.not_mem_nil, or_false] at hp
  rcases hp with rfl
  · exact ⟨_, rfl, (s0.ok K)⟩)
def T (K : Nat) (m0 : List Int) (m1 : List Int) : Option (Ty1) :=
 (iter (s0 K) K (1, 0, m0, m1)).bind fun y7 =>
 alt (fun y8 =>
 some (y8.1, y8.2.1, y8.2.2)) (fun y9 =>
 some (true, y9.1, y9.2)) y7
def F (K : Nat) (x : Ty2) : Option (Ty1) := T K x.1 x.2
def av (_x : Ty2) : List VV := [.sl 0 0 1 1, .ptr 1 0]
def bl (x : Ty2) : List (Nat × Blk) := [(0, ([.ints .u64 4 x.1], 24, .norm)), (1, ([.ints .u64 4 x.2], 24, .norm))]
def inA : VS → Option (Ty2)
 | ⟨[(0, .sl 0 0 1 1), (1, .ptr 1 0)], [(0, ([.ints .u64 4 m0], 24, .norm)), (1, ([.ints .u64 4 m1], 24, .norm))], 2⟩ => some (m0, m1)
 | _ => none
def o0 (y : Ty1) : VS := ⟨[(0, .bool y.1)], [(0, ([.ints .u64 4 y.2.1], 24, .norm)), (1, ([.ints .u64 4 y.2.2], 24, .norm))], 2⟩
def des : ∀ α : Type, (Ty1) → (VS → Option α) → Option α := (dv1 o0)
def out : Ty1 → VS := o0
def inR : VS → Option (Ty1)
 | ⟨[(0, .bool y)], [(0, ([.ints .u64 4 z0], 24, .norm)), (1, ([.ints .u64 4 z1], 24, .norm))], 2⟩ => some (y, z0, z1)
 | _ => none
noncomputable def E (K : Nat) : Entry := genE 2 inA (F K) des
theorem eq (K : Nat) (x : Ty2) : F K x = xrun (getA tys) (tabSp (tab K)) Tryz.f34.ntmps 2 (lp K) 400 c ⟨initL 0 (av x), bl x, 2⟩ (contF (getA tys) 2 Tryz.f34.results.toList inR) := by kernel_rfl
theorem ok (K : Nat) : EntryOK Tryz.prog 34 (E K) :=
  gen_ok mix tys_ok (tabOK K) Tryz.func34 (by kernel_rfl : Tryz.f34.body = some c) (by kernel_rfl) (loops K) (av := av) (bl := bl) (out := out) (fuel := 400)
    (by intro s x h; unfold inA at h; split at h <;> simp at h; subst h; rfl) (fun _ => Nat.le_of_ble_eq_true rfl)
    (by intro s y h; unfold inR at h; split at h <;> simp at h <;> subst h <;> rfl) (fun _ _ _ => rfl) (eq K)
end f34
end Go.Proofs

namespace Go.Proofs
open Go.VM
namespace f4
abbrev Ty0 := List Int × List Int × List Int × List Int
abbrev Ty1 := List Int × Int
def T (K : Nat) (a0_0 : List Int) (a0_1 : List Int) (a0_2 : List Int) (a1 : List Int) : Option (Ty1) :=
 (f11.F K (a0_0, a0_1, a0_2)).bind fun y1 =>
 bif !y1 then
 some ([0, 0, 0, 0], 1)
 else
 (f12.F K 0).bind fun y2 =>
 bif (eqL 4 a1 y2 && true) then
 some ([0, 0, 0, 0], 1)
 else
 (f13.F K a0_1).bind fun y4 =>
 (f34.F K (a1, y4)).bind fun y5 =>
 bif !y5.1 then
 some ([0, 0, 0, 0], 1)
 else
 (f14.F K (a0_0, a0_1, a0_2, a0_2, a1)).bind fun y6 =>
 some (y6.1, y6.2)
def F (K : Nat) (x : Ty0) : Option (Ty1) := T K x.1 x.2.1 x.2.2.1 x.2.2.2
def av (x : Ty0) : List VV := [.agg [.ints .u64 4 x.1, .ints .u64 4 x.2.1, .ints .u64 4 x.2.2.1], .agg [.ints .u64 4 x.2.2.2]]
def bl (_x : Ty0) : List (Nat × Blk) := []
def inA : VS → Option (Ty0)
 | ⟨[(0, .agg [.ints .u64 4 a0_0, .ints .u64 4 a0_1, .ints .u64 4 a0_2]), (1, .agg [.ints .u64 4 a1])], [], 0⟩ => some (a0_0, a0_1, a0_2, a1)
 | _ => none
def o0 (y : Ty1) : VS := ⟨[(0, .tup [.agg [.ints .u64 4 y.1], .int .i64 y.2])], [], 0⟩
def inR : VS → Option (Ty1)
 | ⟨[(0, .tup [.agg [.ints .u64 4 y_0], .int .i64 y_1])], [], 0⟩ => some (y_0, y_1)
 | _ => none
noncomputable def E (K : Nat) : Entry := genE 0 inA (F K) (dv1 o0)
theorem ok (K : Nat) : EntryOK Tryz.prog 4 (E K) := gen_ok mix tys_ok (tab_ok ((tab_cons (f11.ok K) (tab_cons (f12.ok K) (tab_cons (f13.ok K) (tab_cons (f34.ok K) (tab_cons (f14.ok K) tab_nil))))))) Tryz.func4 (c := bodyOf Tryz.f4) (by kernel_rfl) (by kernel_rfl) (loops_none (lp := lpNone) (by kernel_rfl)) (av := av) (bl := bl) (inR := inR) (out := o0) (fuel := 400)
  (by intro s x h; unfold inA at h; split at h <;> simp at h; subst h; rfl) (fun _ => Nat.le_of_ble_eq_true rfl)
  (by intro s y h; unfold inR at h; split at h <;> simp at h <;> subst h <;> rfl) (fun _ _ _ => rfl) (fun _ => by kernel_rfl)
end f4
end Go.Proofs

namespace Go.Proofs
open Go.VM
namespace f10
def T (K : Nat)  : Option (Bool) :=
 (f4.F K ([23, 0, 0, 0], [11, 0, 0, 0], [4, 0, 0, 0], [0, 0, 0, 0])).bind fun y1 =>
 (f4.F K ([23, 0, 0, 0], [11, 0, 0, 0], [4, 0, 0, 0], [11, 0, 0, 0])).bind fun y2 =>
 (f4.F K ([23, 0, 0, 0], [11, 0, 0, 0], [4, 0, 0, 0], [1, 0, 0, 0])).bind fun y3 =>
 bif (y1.2 == 1) then
 bif (y2.2 == 1) then
 (f12.F K 4).bind fun y4 =>
 bif (eqL 4 y3.1 y4 && true) then
 some (y3.2 == 0)
 else
 some false
 else
 some false
 else
 some false
def F (K : Nat) (_x : Unit) : Option (Bool) := T K
def av (_x : Unit) : List VV := []
def bl (_x : Unit) : List (Nat × Blk) := []
def inA : VS → Option (Unit)
 | ⟨[], [], 0⟩ => some ()
 | _ => none
def o0 (y : Bool) : VS := ⟨[(0, .bool y)], [], 0⟩
def inR : VS → Option (Bool)
 | ⟨[(0, .bool y)], [], 0⟩ => some y
 | _ => none
noncomputable def E (K : Nat) : Entry := genE 0 inA (F K) (dv1 o0)
theorem ok (K : Nat) : EntryOK Tryz.prog 10 (E K) := gen_ok mix tys_ok (tab_ok ((tab_cons (f4.ok K) (tab_cons (f12.ok K) tab_nil)))) Tryz.func10 (c := bodyOf Tryz.f10) (by kernel_rfl) (by kernel_rfl) (loops_none (lp := lpNone) (by kernel_rfl)) (av := av) (bl := bl) (inR := inR) (out := o0) (fuel := 400)
  (by intro s x h; unfold inA at h; split at h <;> simp at h; rfl) (fun _ => Nat.le_of_ble_eq_true rfl)
  (by intro s y h; unfold inR at h; split at h <;> simp at h <;> subst h <;> rfl) (fun _ _ _ => rfl) (fun _ => by kernel_rfl)
end f10
end Go.Proofs

namespace Go.Proofs
open Go.VM
namespace f27
abbrev Ty0 := List Int × List Int × List Int × List Int × List Int
def T (K : Nat) (a0_0 : List Int) (a0_1 : List Int) (a0_2 : List Int) (a1 : List Int) (a2 : List Int) : Option (List Int × Int) :=
 (f35v1.F K (a0_0, a0_1, a0_2, a0_0, a0_1, a0_2, a1, a2, (spl (spl [] 0 4 a1) 4 4 a2))).bind fun y2 =>
 some (y2.1, y2.2.1)
def F (K : Nat) (x : Ty0) : Option (List Int × Int) := T K x.1 x.2.1 x.2.2.1 x.2.2.2.1 x.2.2.2.2
def av (x : Ty0) : List VV := [.agg [.ints .u64 4 x.1, .ints .u64 4 x.2.1, .ints .u64 4 x.2.2.1], .agg [.ints .u64 4 x.2.2.2.1], .agg [.ints .u64 4 x.2.2.2.2]]
def bl (_x : Ty0) : List (Nat × Blk) := []
def inA : VS → Option (Ty0)
 | ⟨[(0, .agg [.ints .u64 4 a0_0, .ints .u64 4 a0_1, .ints .u64 4 a0_2]), (1, .agg [.ints .u64 4 a1]), (2, .agg [.ints .u64 4 a2])], [], 0⟩ => some (a0_0, a0_1, a0_2, a1, a2)
 | _ => none
def o0 (y : List Int × Int) : VS := ⟨[(0, .tup [.agg [.ints .u64 4 y.1], .int .i64 y.2])], [], 0⟩
def inR : VS → Option (List Int × Int)
 | ⟨[(0, .tup [.agg [.ints .u64 4 y_0], .int .i64 y_1])], [], 0⟩ => some (y_0, y_1)
 | _ => none
noncomputable def E (K : Nat) : Entry := genE 0 inA (F K) (dv1 o0)
theorem ok (K : Nat) : EntryOK Tryz.prog 27 (E K) := gen_ok mix tys_ok (tab_ok ((tab_cons (f35v1.ok K) tab_nil))) Tryz.func27 (c := bodyOf Tryz.f27) (by kernel_rfl) (by kernel_rfl) (loops_none (lp := lpNone) (by kernel_rfl)) (av := av) (bl := bl) (inR := inR) (out := o0) (fuel := 400)
  (by intro s x h; unfold inA at h; split at h <;> simp at h; subst h; rfl) (fun _ => Nat.le_of_ble_eq_true rfl)
  (by intro s y h; unfold inR at h; split at h <;> simp at h <;> subst h <;> rfl) (fun _ _ _ => rfl) (fun _ => by kernel_rfl)
end f27
end Go.Proofs

namespace Go.Proofs
open Go.VM
def gin (P A : Nat) : Bool := decide (1 < P) && (decide (A ≠ 0) && decide (A < P))
theorem gin_iff {P A : Nat} : gin P A = true ↔ 1 < P ∧ A ≠ 0 ∧ A < P := by simp [gin]
theorem gin_may {P A : Nat} (h : gin P A = true) : may1 A P = true := by
  obtain ⟨h1, _, h2⟩ := gin_iff.1 h; exact may1_iff.2 ⟨h1, h2⟩
theorem f33.spec (K : Nat) : f33.F K () = some (num 1) := by
  simp only [f33.F, f33.T, f12.one, bind_s]
theorem f12.zero (K : Nat) : f12.F K 0 = some (num 0) := f12.nat K 0 (by decide)
theorem f50.spec (P A : Nat) (q g : List Int) (hP : P < 2 ^ 256) (hA : A < 2 ^ 256) : f50.F 100000 (num P, q, g, num A) = some (gin P A) := by
  simp only [f50.F, f50.T, f33.spec, f32.all, f12.zero, bind_s, cmp_gt, cmp_lt, mod_self_of hP, mod_self_of hA, show (1 : Nat) % 2 ^ 256 = 1 from rfl, eqN A 0 hA (by decide), Bool.and_true]
  unfold gin
  by_cases h1 : 1 < P
  · rw [decide_eq_true h1, cond_t, Bool.true_and]
    by_cases h2 : A = 0
    · rw [decide_eq_true h2, Bool.not_true, cond_f, decide_eq_false (by omega), Bool.false_and]
    · rw [decide_eq_false h2, Bool.not_false, cond_t, decide_eq_true h2, Bool.true_and]
  · rw [decide_eq_false h1, cond_f, Bool.false_and]
theorem rd0 (A : Nat) : List.take 4 (List.drop (Int.toNat (0 : Int) * 4) (num A)) = num A := rfl
theorem rd20 (A B : Nat) : List.take 4 (List.drop (Int.toNat (0 : Int) * 4) (num A ++ num B)) = num A := rfl
theorem rd21 (A B : Nat) : List.take 4 (List.drop (Int.toNat (1 : Int) * 4) (num A ++ num B)) = num B := rfl
theorem w01 : IntKind.wrap .i64 ((0 : Int) + 1) = 1 := by decide
theorem w12 : IntKind.wrap .i64 ((1 : Int) + 1) = 2 := by decide
theorem sp2 (A B : Nat) : spl (spl [] 0 4 (num A)) 4 4 (num B) = num A ++ num B := rfl
theorem f35.spec (P A N : Nat) (q g : List Int) (hP : P < 2 ^ 256) (hA : A < 2 ^ 256) (hN : N < 2 ^ 256) :
    f35.F 100000 (num P, q, g, num P, q, g, num A, num N, num A) = some (if gin P A = true then (num (A ^ N % P), 0, num A) else (num 0, 1, num A)) := by
  simp only [f35.F, f35.T]
  rw [show (100000 : Nat) = 99998 + 1 + 1 from rfl, iter]
  simp only [f35.s0, f35.s0t]
  rw [decide_eq_true (show (0 : Int) < 1 by decide), cond_t, decide_eq_true (show (0 : Int) ≤ 0 ∧ (0 : Int) < 1 by decide), cond_t, rd0, f50.spec P A q g hP hA, bind_s, w01]
  by_cases h : gin P A = true
  · rw [h, Bool.not_true, cond_f, iter]
    simp only [f35.s0, f35.s0t]
    rw [decide_eq_false (show ¬ (1 : Int) < 1 by decide), cond_f, bind_s, alt_r]
    simp only [f36.F, f36.T, f51.spec A N P hA hN hP, gin_may h, if_true, bind_s]
  · rw [Bool.not_eq_true] at h
    rw [h, Bool.not_false, cond_t, bind_s, alt_l]
    simp only [num_zero]
    rfl
theorem f35v1.spec (P A B : Nat) (q g : List Int) (hP : P < 2 ^ 256) (hA : A < 2 ^ 256) (hB : B < 2 ^ 256) :
    f35v1.F 100000 (num P, q, g, num P, q, g, num A, num B, num A ++ num B) = some (if (gin P A && gin P B) = true then (num (A * B % P), 0, num A ++ num B) else (num 0, 1, num A ++ num B)) := by
  simp only [f35v1.F, f35v1.T]
  rw [show (100000 : Nat) = 99997 + 1 + 1 + 1 from rfl, iter]
  simp only [f35v1.s0, f35v1.s0t]
  rw [decide_eq_true (show (0 : Int) < 2 by decide), cond_t, decide_eq_true (show (0 : Int) ≤ 0 ∧ (0 : Int) < 2 by decide), cond_t, rd20, f50.spec P A q g hP hA, bind_s, w01]
  by_cases h : gin P A = true
  · rw [h, Bool.not_true, cond_f, iter]
    simp only [f35v1.s0, f35v1.s0t]
    rw [decide_eq_true (show (1 : Int) < 2 by decide), cond_t, decide_eq_true (show (0 : Int) ≤ 1 ∧ (1 : Int) < 2 by decide), cond_t, rd21, f50.spec P B q g hP hB, bind_s, w12]
    by_cases h2 : gin P B = true
    · rw [h2, Bool.not_true, cond_f, iter]
      simp only [f35v1.s0, f35v1.s0t]
      rw [decide_eq_false (show ¬ (2 : Int) < 2 by decide), cond_f, bind_s, alt_r]
      obtain ⟨p1, _, p2⟩ := gin_iff.1 h
      obtain ⟨_, _, p3⟩ := gin_iff.1 h2
      simp only [f49.F, f49.T, f19.good p1 p2 p3 hP, bind_s, Bool.and_self, if_true]
    · rw [Bool.not_eq_true] at h2
      rw [h2, Bool.not_false, cond_t, bind_s, alt_l]
      simp only [num_zero]
      rfl
  · rw [Bool.not_eq_true] at h
    rw [h, Bool.not_false, cond_t, bind_s, alt_l]
    simp only [num_zero, Bool.false_and]
    rfl
theorem f14.spec (P A N : Nat) (q g : List Int) (hP : P < 2 ^ 256) (hA : A < 2 ^ 256) (hN : N < 2 ^ 256) :
    f14.F 100000 (num P, q, g, num A, num N) = some (if gin P A = true then (num (A ^ N % P), 0) else (num 0, 1)) := by
  simp only [f14.F, f14.T, f35.spec P A N q g hP hA hN, bind_s]
  by_cases h : gin P A = true
  · rw [if_pos h, if_pos h]
  · rw [if_neg h, if_neg h]
theorem f27.spec (P A B : Nat) (q g : List Int) (hP : P < 2 ^ 256) (hA : A < 2 ^ 256) (hB : B < 2 ^ 256) :
    f27.F 100000 (num P, q, g, num A, num B) = some (if (gin P A && gin P B) = true then (num (A * B % P), 0) else (num 0, 1)) := by
  simp only [f27.F, f27.T, sp2, f35v1.spec P A B q g hP hA hB, bind_s]
  by_cases h : (gin P A && gin P B) = true
  · rw [if_pos h, if_pos h]
  · rw [if_neg h, if_neg h]
def gmem (P Q A : Nat) : Bool := gin P A && decide (A ^ Q % P = 1)
theorem gmem_iff {P Q A : Nat} : gmem P Q A = true ↔ gin P A = true ∧ A ^ Q % P = 1 := by simp [gmem]
theorem f25.spec (P Q A : Nat) (g : List Int) (hP : P < 2 ^ 256) (hQ : Q < 2 ^ 256) (hA : A < 2 ^ 256) : f25.F 100000 (num P, num Q, g, num A) = some (gmem P Q A) := by
  simp only [f25.F, f25.T, f14.spec P A Q _ g hP hA hQ, f33.spec, bind_s]
  unfold gmem
  by_cases h : gin P A = true
  · obtain ⟨p1, _, p2⟩ := gin_iff.1 h
    have : A ^ Q % P < 2 ^ 256 := Nat.lt_trans (Nat.mod_lt _ (by omega)) hP
    rw [if_pos h, h]
    simp only [beq_self_eq_true, cond_t, eqN _ 1 this (by decide), Bool.and_true, Bool.true_and]
  · rw [if_neg h]
    rw [Bool.not_eq_true] at h
    rw [h]; rfl
def gfine (P Q G : Nat) : Bool := decide (1 < Q) && (decide (G ≠ 1) && gmem P Q G)
theorem f11.spec (P Q G : Nat) (hP : P < 2 ^ 256) (hQ : Q < 2 ^ 256) (hG : G < 2 ^ 256) : f11.F 100000 (num P, num Q, num G) = some (gfine P Q G) := by
  simp only [f11.F, f11.T, f33.spec, f32.all, bind_s, cmp_gt, mod_self_of hQ, show (1 : Nat) % 2 ^ 256 = 1 from rfl, eqN G 1 hG (by decide), Bool.and_true, f25.spec P Q G _ hP hQ hG]
  unfold gfine
  by_cases h1 : 1 < Q
  · rw [decide_eq_true h1, cond_t, Bool.true_and]
    by_cases h2 : G = 1
    · rw [decide_eq_true h2, Bool.not_true, cond_f, decide_eq_false (by omega), Bool.false_and]
    · rw [decide_eq_false h2, Bool.not_false, cond_t, decide_eq_true h2, Bool.true_and]
  · rw [decide_eq_false h1, cond_f, Bool.false_and]
theorem f34.spec (N Q : Nat) (hN : N < 2 ^ 256) (hQ : Q < 2 ^ 256) : f34.F 100000 (num N, num Q) = some (decide (N < Q), num N, num Q) := by
  simp only [f34.F, f34.T]
  rw [show (100000 : Nat) = 99998 + 1 + 1 from rfl, iter]
  simp only [f34.s0, f34.s0t]
  rw [decide_eq_true (show (0 : Int) < 1 by decide), cond_t, decide_eq_true (show (0 : Int) ≤ 0 ∧ (0 : Int) < 1 by decide), cond_t, rd0, f32.all, bind_s, mod_self_of hN, mod_self_of hQ, cmp_ge, w01]
  by_cases h : Q ≤ N
  · rw [decide_eq_true h, cond_t, bind_s, alt_l, decide_eq_false (by omega)]
  · rw [decide_eq_false h, cond_f, iter]
    simp only [f34.s0, f34.s0t]
    rw [decide_eq_false (show ¬ (1 : Int) < 1 by decide), cond_f, bind_s, alt_r, decide_eq_true (by omega)]
def gsec (P Q G N : Nat) : Bool := gfine P Q G && (decide (N ≠ 0) && decide (N < Q))
theorem f4.spec (P Q G N : Nat) (hP : P < 2 ^ 256) (hQ : Q < 2 ^ 256) (hG : G < 2 ^ 256) (hN : N < 2 ^ 256) :
    f4.F 100000 (num P, num Q, num G, num N) = some (if gsec P Q G N = true then (num (G ^ N % P), 0) else (num 0, 1)) := by
  simp only [f4.F, f4.T, f11.spec P Q G hP hQ hG, f12.zero, bind_s, eqN N 0 hN (by decide), Bool.and_true, f13.F, f13.T, f34.spec N Q hN hQ, num_zero, f14.spec P G N _ _ hP hG hN]
  unfold gsec
  by_cases h : gfine P Q G = true
  · rw [h, Bool.not_true, cond_f, Bool.true_and]
    have hg : gin P G = true := by
      unfold gfine at h
      simp only [Bool.and_eq_true] at h
      exact (gmem_iff.1 h.2.2).1
    by_cases h0 : N = 0
    · rw [decide_eq_true h0, cond_t, decide_eq_false (by omega), Bool.false_and]; rfl
    · rw [decide_eq_false h0, cond_f, decide_eq_true h0, Bool.true_and]
      by_cases hq : N < Q
      · rw [decide_eq_true hq, Bool.not_true, cond_f, if_pos rfl, if_pos hg]
      · rw [decide_eq_false hq]; rfl
  · rw [Bool.not_eq_true] at h
    rw [h]; rfl
set_option maxRecDepth 100000 in
theorem f10.spec : f10.F 100000 () = some true := by kernel_rfl
end Go.Proofs

namespace Go.Proofs
open Go.VM
end Go.Proofs

namespace Go.Proofs
open Go.VM
namespace f34v1
abbrev Ty0 := Int × Int × List Int × List Int
abbrev Ty1 := Bool × List Int × List Int
abbrev Ty2 := List Int × List Int
noncomputable def c : Code := bodyOf Tryz.f34
def s0t (K : Nat) (rec : Ty0 → Option ((Ty1) ⊕ (Ty2))) (t7 : Int) (t8 : Int) (b0 : List Int) (b1 : List Int) : Option ((Ty1) ⊕ (Ty2)) :=
 bif (decide (t8 < t7)) then
 bif decide (0 ≤ t8 ∧ t8 < 2) then
 (f32.F K ((List.take 4 (List.drop ((Int.toNat t8) * 4) b0)), b1)).bind fun y4 =>
 bif (decide (y4 ≥ 0)) then
 some (.inl (false, b0, b1))
 else
 rec (t7, (IntKind.wrap .i64 (t8 + 1)), b0, b1)
 else
 none
 else
 some (.inr (b0, b1))
def s0 (K : Nat) (rec : Ty0 → Option ((Ty1) ⊕ (Ty2))) (x : Ty0) : Option ((Ty1) ⊕ (Ty2)) := s0t K rec x.1 x.2.1 x.2.2.1 x.2.2.2
noncomputable def s0.b : Code := (findLoop 0 c).getD .skip
def s0.h : Hint := { lv := [1, 6, 7, 8] }
def s0.ho : Hint := { lv := [3] }
def s0.shp (x : Ty0) : VS := ⟨[(1, .ptr 1 0), (6, .sl 0 0 2 2), (7, .int .i64 x.1), (8, .int .i64 x.2.1)], [(0, ([.ints .u64 8 x.2.2.1], 24, .norm)), (1, ([.ints .u64 4 x.2.2.2], 24, .norm))], 2⟩
def s0.inX : VS → Option (Ty0)
 | ⟨[(1, .ptr 1 0), (6, .sl 0 0 2 2), (7, .int .i64 t7), (8, .int .i64 t8)], [(0, ([.ints .u64 8 b0], 24, .norm)), (1, ([.ints .u64 4 b1], 24, .norm))], 2⟩ => some (t7, t8, b0, b1)
 | _ => none
def s0.o0 (y : Ty1) : VS := ⟨[(3, .bool y.1)], [(0, ([.ints .u64 8 y.2.1], 24, .norm)), (1, ([.ints .u64 4 y.2.2], 24, .norm))], 2⟩
def s0.o1 (y : Ty2) : VS := ⟨[], [(0, ([.ints .u64 8 y.1], 24, .norm)), (1, ([.ints .u64 4 y.2], 24, .norm))], 2⟩
def s0.des : ∀ α : Type, ((Ty1) ⊕ (Ty2)) → (Ex → VS → Option α) → Option α := (desA (des1 (.ret) s0.o0) (des1 (.exit 0) s0.o1))
def s0.out : (Ty1) ⊕ (Ty2) → Ex × VS := (alt (fun y => (.ret, s0.o0 y)) (fun y => (.exit 0, s0.o1 y)))
theorem s0.desOK : ∀ α y (k : Ex → VS → Option α), s0.des α y k = k (s0.out y).1 (s0.out y).2 := (desA_ok (fun _ _ _ => rfl) (fun _ _ _ => rfl))
def s0.inY : Ex → VS → Option ((Ty1) ⊕ (Ty2))
 | .ret, ⟨[(3, .bool t3)], [(0, ([.ints .u64 8 b0], 24, .norm)), (1, ([.ints .u64 4 b1], 24, .norm))], 2⟩ => some (.inl (t3, b0, b1))
 | .exit 0, ⟨[], [(0, ([.ints .u64 8 b0], 24, .norm)), (1, ([.ints .u64 4 b1], 24, .norm))], 2⟩ => some (.inr (b0, b1))
 | _, _ => none
def lp (K : Nat) : Nat → Option (Hint × Summ) := tabLp [(0, s0.h, summOf (iter (s0 K) K) s0.inX s0.des)]
noncomputable def tab (K : Nat) : List (Nat × Entry) := [(32, (f32.E K))]
theorem tabOK (K : Nat) : SpecOK Tryz.prog (tabSp (tab K)) := tab_ok ((tab_cons (f32.ok K) tab_nil))
theorem s0.eq (K : Nat) (rec : Ty0 → Option ((Ty1) ⊕ (Ty2))) (x : Ty0) : s0 K rec x = roundL (getA tys) (tabSp (tab K)) 17 2 (lp K) 400 s0.b s0.h s0.ho s0.shp s0.inX s0.inY rec x := by kernel_rfl
theorem s0.lok (K : Nat) : LoopsOK Tryz.prog 17 2 (lp K) s0.b := loops_ok (by
  have h : loopsIn (lp K) s0.b = [] := by kernel_rfl
  rw [h]; simp)
theorem s0.ok (K : Nat) : SummOK Tryz.prog 17 2 (summOf (iter (s0 K) K) s0.inX s0.des) s0.b :=
  loop_ok mix tys_ok (tabOK K) (h := s0.h) (ho := s0.ho) (shp := s0.shp) (inX := s0.inX) (des := s0.des) (out := s0.out) (inY := s0.inY) (fuel := 400)
    (by intro st x h; unfold s0.inX at h; split at h <;> simp at h; subst h; rfl)
    (by intro e st y h; unfold s0.inY at h; split at h <;> simp at h <;> subst h <;> rfl)
    s0.desOK (s0.lok K) (s0 K) (s0.eq K) K
theorem loops (K : Nat) : LoopsOK Tryz.prog 17 2 (lp K) c := loops_ok (by
  have h : loopsIn (lp K) c = [(0, s0.b)] := by kernel_rfl
  rw [h]
  intro p hp
  simp only [List.mem_cons, List.not_mem_nil, or_false] at hp
  rcases hp with rfl
  · exact ⟨_, rfl, (s0.ok K)⟩)
def T (K : Nat) (m0 : List Int) (m1 : List Int) : Option (Ty1) :=
 (iter (s0 K) K (2, 0, m0, m1)).bind fun y7 =>
 alt (fun y8 =>
 some (y8.1, y8.2.1, y8.2.2)) (fun y9 =>
 some (true, y9.1, y9.2)) y7
def F (K : Nat) (x : Ty2) : Option (Ty1) := T K x.1 x.2
def av (_x : Ty2) : List VV := [.sl 0 0 2 2, .ptr 1 0]
def bl (x : Ty2) : List (Nat × Blk) := [(0, ([.ints .u64 8 x.1], 24, .norm)), (1, ([.ints .u64 4 x.2], 24, .norm))]
def inA : VS → Option (Ty2)
 | ⟨[(0, .sl 0 0 2 2), (1, .ptr 1 0)], [(0, ([.ints .u64 8 m0], 24, .norm)), (1, ([.ints .u64 4 m1], 24, .norm))], 2⟩ => some (m0, m1)
 | _ => none
def o0 (y : Ty1) : VS := ⟨[(0, .bool y.1)], [(0, ([.ints .u64 8 y.2.1], 24, .norm)), (1, ([.ints .u64 4 y.2.2], 24, .norm))], 2⟩
def des : ∀ α : Type, (Ty1) → (VS → Option α) → Option α := (dv1 o0)
def out : Ty1 → VS := o0
def inR : VS → Option (Ty1)
 | ⟨[(0, .bool y)], [(0, ([.ints .u64 8 z0], 24, .norm)), (1, ([.ints .u64 4 z1], 24, .norm))], 2⟩ => some (y, z0, z1)
 | _ => none
noncomputable def E (K : Nat) : Entry := genE 2 inA (F K) des
theorem eq (K : Nat) (x : Ty2) : F K x = xrun (getA tys) (tabSp (tab K)) Tryz.f34.ntmps 2 (lp K) 400 c ⟨initL 0 (av x), bl x, 2⟩ (contF (getA tys) 2 Tryz.f34.results.toList inR) := by kernel_rfl
theorem ok (K : Nat) : EntryOK Tryz.prog 34 (E K) :=
  gen_ok mix tys_ok (tabOK K) Tryz.func34 (by kernel_rfl : Tryz.f34.body = some c) (by kernel_rfl) (loops K) (av := av) (bl := bl) (out := out) (fuel := 400)
    (by intro s x h; unfold inA at h; split at h <;> simp at h; subst h; rfl) (fun _ => Nat.le_of_ble_eq_true rfl)
    (by intro s y h; unfold inR at h; split at h <;> simp at h <;> subst h <;> rfl) (fun _ _ _ => rfl) (eq K)
end f34v1
end Go.Proofs

namespace Go.Proofs
open Go.VM
namespace f6
abbrev Ty0 := List Int × List Int × List Int × List Int × List Int
abbrev Ty1 := List Int × List Int × Int
def k0 : ByteArray := ByteArray.mk #[100, 114, 97, 119]
def k1 : ByteArray := ByteArray.mk #[115, 105, 103, 110]
def T (K : Nat) (a0_0 : List Int) (a0_1 : List Int) (a0_2 : List Int) (a1 : List Int) (a2 : List Int) : Option (Ty1) :=
 (f4.F K (a0_0, a0_1, a0_2, a1)).bind fun y1 =>
 bif (y1.2 != 0) then
 some ([0, 0, 0, 0], [0, 0, 0, 0], y1.2)
 else
 (f18.F K (a0_0, a0_1, a0_2, k0, a2, a1)).bind fun y2 =>
 (f12.F K 0).bind fun y3 =>
 bif (eqL 4 y2.1 y3 && true) then
 (f12.F K 1).bind fun y5 =>
 (f14.F K (a0_0, a0_1, a0_2, a0_2, y5)).bind fun y6 =>
 (f18v1.F K (a0_0, a0_1, a0_2, k1, a2, (spl (spl [] 0 4 y1.1) 4 4 y6.1))).bind fun y8 =>
 (f19.F K (a1, y8.1, a0_1)).bind fun y9 =>
 (f20.F K (y5, y9.1, a0_1)).bind fun y10 =>
 some (y8.1, y10.1, 0)
 else
 (f14.F K (a0_0, a0_1, a0_2, a0_2, y2.1)).bind fun y11 =>
 (f18v1.F K (a0_0, a0_1, a0_2, k1, a2, (spl (spl [] 0 4 y1.1) 4 4 y11.1))).bind fun y13 =>
 (f19.F K (a1, y13.1, a0_1)).bind fun y14 =>
 (f20.F K (y2.1, y14.1, a0_1)).bind fun y15 =>
 some (y13.1, y15.1, 0)
def F (K : Nat) (x : Ty0) : Option (Ty1) := T K x.1 x.2.1 x.2.2.1 x.2.2.2.1 x.2.2.2.2
def av (x : Ty0) : List VV := [.agg [.ints .u64 4 x.1, .ints .u64 4 x.2.1, .ints .u64 4 x.2.2.1], .agg [.ints .u64 4 x.2.2.2.1], .agg [.ints .u8 32 x.2.2.2.2]]
def bl (_x : Ty0) : List (Nat × Blk) := []
def inA : VS → Option (Ty0)
 | ⟨[(0, .agg [.ints .u64 4 a0_0, .ints .u64 4 a0_1, .ints .u64 4 a0_2]), (1, .agg [.ints .u64 4 a1]), (2, .agg [.ints .u8 32 a2])], [], 0⟩ => some (a0_0, a0_1, a0_2, a1, a2)
 | _ => none
def o0 (y : Ty1) : VS := ⟨[(0, .tup [.agg [.ints .u64 4 y.1, .ints .u64 4 y.2.1], .int .i64 y.2.2])], [], 0⟩
def inR : VS → Option (Ty1)
 | ⟨[(0, .tup [.agg [.ints .u64 4 y_0, .ints .u64 4 y_1], .int .i64 y_2])], [], 0⟩ => some (y_0, y_1, y_2)
 | _ => none
noncomputable def E (K : Nat) : Entry := genE 0 inA (F K) (dv1 o0)
theorem ok (K : Nat) : EntryOK Tryz.prog 6 (E K) := gen_ok mix tys_ok (sp := tabSp [(4, (f4.E K)), (18, (orF (fitE 1 f18.inA) (f18.E K) (f18v1.E K))), (12, (f12.E K)), (14, (f14.E K)), (19, (f19.E K)), (20, (f20.E K))]) (tab_ok ((tab_cons (f4.ok K) (tab_cons (orF_ok (f18.ok K) (f18v1.ok K)) (tab_cons (f12.ok K) (tab_cons (f14.ok K) (tab_cons (f19.ok K) (tab_cons (f20.ok K) tab_nil)))))))) Tryz.func6 (c := bodyOf Tryz.f6) (by kernel_rfl) (by kernel_rfl) (loops_none (lp := lpNone) (by kernel_rfl)) (av := av) (bl := bl) (inR := inR) (out := o0) (fuel := 400)
  (by intro s x h; unfold inA at h; split at h <;> simp at h; subst h; rfl) (fun _ => Nat.le_of_ble_eq_true rfl)
  (by intro s y h; unfold inR at h; split at h <;> simp at h <;> subst h <;> rfl) (fun _ _ _ => rfl) (fun _ => by kernel_rfl)
end f6
end Go.Proofs

namespace Go.Proofs
open Go.VM
namespace f8
abbrev Ty0 := List Int × List Int × List Int × List Int × List Int × List Int × List Int
def k0 : ByteArray := ByteArray.mk #[115, 105, 103, 110]
def T (K : Nat) (a0_0 : List Int) (a0_1 : List Int) (a0_2 : List Int) (a1 : List Int) (a2 : List Int) (a3_0 : List Int) (a3_1 : List Int) : Option (Bool) :=
 (f11.F K (a0_0, a0_1, a0_2)).bind fun y1 =>
 bif !y1 then
 some false
 else
 (f25.F K (a0_0, a0_1, a0_2, a1)).bind fun y2 =>
 bif !y2 then
 some false
 else
 (f12.F K 1).bind fun y3 =>
 bif (eqL 4 a1 y3 && true) then
 some false
 else
 (f13.F K a0_1).bind fun y5 =>
 (f34v1.F K ((spl (spl [] 0 4 a3_0) 4 4 a3_1), y5)).bind fun y7 =>
 bif !y7.1 then
 some false
 else
 (f26.F K (a0_1, a3_0)).bind fun y8 =>
 (f14.F K (a0_0, a0_1, a0_2, a0_2, a3_1)).bind fun y9 =>
 (f14.F K (a0_0, a0_1, a0_2, a1, y8.1)).bind fun y10 =>
 (f27.F K (a0_0, a0_1, a0_2, y9.1, y10.1)).bind fun y11 =>
 (f18v1.F K (a0_0, a0_1, a0_2, k0, a2, (spl (spl [] 0 4 a1) 4 4 y11.1))).bind fun y13 =>
 some (eqL 4 y13.1 a3_0 && true)
def F (K : Nat) (x : Ty0) : Option (Bool) := T K x.1 x.2.1 x.2.2.1 x.2.2.2.1 x.2.2.2.2.1 x.2.2.2.2.2.1 x.2.2.2.2.2.2
def av (x : Ty0) : List VV := [.agg [.ints .u64 4 x.1, .ints .u64 4 x.2.1, .ints .u64 4 x.2.2.1], .agg [.ints .u64 4 x.2.2.2.1], .agg [.ints .u8 32 x.2.2.2.2.1], .agg [.ints .u64 4 x.2.2.2.2.2.1, .ints .u64 4 x.2.2.2.2.2.2]]
def bl (_x : Ty0) : List (Nat × Blk) := []
def inA : VS → Option (Ty0)
 | ⟨[(0, .agg [.ints .u64 4 a0_0, .ints .u64 4 a0_1, .ints .u64 4 a0_2]), (1, .agg [.ints .u64 4 a1]), (2, .agg [.ints .u8 32 a2]), (3, .agg [.ints .u64 4 a3_0, .ints .u64 4 a3_1])], [], 0⟩ => some (a0_0, a0_1, a0_2, a1, a2, a3_0, a3_1)
 | _ => none
def o0 (y : Bool) : VS := ⟨[(0, .bool y)], [], 0⟩
def inR : VS → Option (Bool)
 | ⟨[(0, .bool y)], [], 0⟩ => some y
 | _ => none
noncomputable def E (K : Nat) : Entry := genE 0 inA (F K) (dv1 o0)
theorem ok (K : Nat) : EntryOK Tryz.prog 8 (E K) := gen_ok mix tys_ok (tab_ok ((tab_cons (f11.ok K) (tab_cons (f25.ok K) (tab_cons (f12.ok K) (tab_cons (f13.ok K) (tab_cons (f34v1.ok K) (tab_cons (f26.ok K) (tab_cons (f14.ok K) (tab_cons (f27.ok K) (tab_cons (f18v1.ok K) tab_nil))))))))))) Tryz.func8 (c := bodyOf Tryz.f8) (by kernel_rfl) (by kernel_rfl) (loops_none (lp := lpNone) (by kernel_rfl)) (av := av) (bl := bl) (inR := inR) (out := o0) (fuel := 400)
  (by intro s x h; unfold inA at h; split at h <;> simp at h; subst h; rfl) (fun _ => Nat.le_of_ble_eq_true rfl)
  (by intro s y h; unfold inR at h; split at h <;> simp at h <;> subst h <;> rfl) (fun _ _ _ => rfl) (fun _ => by kernel_rfl)
end f8
end Go.Proofs

namespace Go.Proofs
open Go.VM
theorem f34v1.spec (A B Q : Nat) (hA : A < 2 ^ 256) (hB : B < 2 ^ 256) (hQ : Q < 2 ^ 256) : f34v1.F 100000 (spl (spl [] 0 4 (num A)) 4 4 (num B), num Q) = some (decide (A < Q) && decide (B < Q), num A ++ num B, num Q) := by
  simp only [f34v1.F, f34v1.T, sp2]
  rw [show (100000 : Nat) = 99997 + 1 + 1 + 1 from rfl, iter]
  simp only [f34v1.s0, f34v1.s0t]
  rw [decide_eq_true (show (0 : Int) < 2 by decide), cond_t, decide_eq_true (show (0 : Int) ≤ 0 ∧ (0 : Int) < 2 by decide), cond_t, rd20, f32.all, bind_s, mod_self_of hA, mod_self_of hQ, cmp_ge, w01]
  by_cases h : Q ≤ A
  · rw [decide_eq_true h, cond_t, bind_s, alt_l, decide_eq_false (by omega), Bool.false_and]
  · rw [decide_eq_false h, cond_f, iter]
    simp only [f34v1.s0, f34v1.s0t]
    rw [decide_eq_true (show (1 : Int) < 2 by decide), cond_t, decide_eq_true (show (0 : Int) ≤ 1 ∧ (1 : Int) < 2 by decide), cond_t, rd21, f32.all, bind_s, mod_self_of hB, mod_self_of hQ, cmp_ge, w12, decide_eq_true (show A < Q by omega), Bool.true_and]
    by_cases h2 : Q ≤ B
    · rw [decide_eq_true h2, cond_t, bind_s, alt_l, decide_eq_false (by omega)]
    · rw [decide_eq_false h2, cond_f, iter]
      simp only [f34v1.s0, f34v1.s0t]
      rw [decide_eq_false (show ¬ (2 : Int) < 2 by decide), cond_f, bind_s, alt_r, decide_eq_true (show B < Q by omega)]
theorem number_lt {Q : Nat} (name : List Int) (ps : List (List Int)) (h : 0 < Q) : Sh.number Q name ps < Q := Nat.mod_lt _ h
def Sg.draw (Q M : Nat) (s : List Int) : Nat := if Sh.number Q (strL f6.k0) [be 32 M, s] = 0 then 1 else Sh.number Q (strL f6.k0) [be 32 M, s]
def Sg.c (P Q G M : Nat) (s : List Int) : Nat := Sh.number Q (strL f6.k1) [be 32 (G ^ M % P), be 32 (G ^ Sg.draw Q M s % P), s]
def Sg.y (P Q G M : Nat) (s : List Int) : Nat := (Sg.draw Q M s + M * Sg.c P Q G M s % Q) % Q
theorem gsec_iff {P Q G N : Nat} : gsec P Q G N = true ↔ gfine P Q G = true ∧ N ≠ 0 ∧ N < Q := by simp [gsec]
theorem gfine_iff {P Q G : Nat} : gfine P Q G = true ↔ 1 < Q ∧ G ≠ 1 ∧ gmem P Q G = true := by simp [gfine]
theorem f6.spec (P Q G M : Nat) (s : List Int) (hP : P < 2 ^ 256) (hQ : Q < 2 ^ 256) (hG : G < 2 ^ 256) (hM : M < 2 ^ 256) (hl : s.length = 32) (ho : octets s) :
    f6.F 100000 (num P, num Q, num G, num M, s) = some (if gsec P Q G M = true then (num (Sg.c P Q G M s), num (Sg.y P Q G M s), 0) else (num 0, num 0, 1)) := by
  simp only [f6.F, f6.T]
  rw [f4.spec P Q G M hP hQ hG hM, bind_s]
  by_cases h : gsec P Q G M = true
  · obtain ⟨hf, hm0, hmQ⟩ := gsec_iff.1 h
    obtain ⟨hq1, _, hg⟩ := gfine_iff.1 hf
    obtain ⟨hin, _⟩ := gmem_iff.1 hg
    obtain ⟨hp1, _, _⟩ := gin_iff.1 hin
    rw [if_pos h, if_pos h]
    simp only []
    have hkey : G ^ M % P < 2 ^ 256 := Nat.lt_trans (Nat.mod_lt _ (by omega)) hP
    have hn := number_lt (Q := Q) (strL f6.k0) [be 32 M, s] (by omega)
    rw [show ((0 : Int) != 0) = false from rfl, cond_f, f18.spec Q M f6.k0 _ _ s (by decide) hQ (by omega) hM hl ho, bind_s, f12.zero, bind_s]
    simp only []
    rw [eqN _ 0 (by omega) (by decide), Bool.and_true]
    have rest : ∀ d, d < Q → (f14.F 100000 (num P, num Q, num G, num G, num d)).bind (fun y11 =>
      (f18v1.F 100000 (num P, num Q, num G, f6.k1, s, (spl (spl [] 0 4 (num (G ^ M % P))) 4 4 y11.1))).bind fun y13 =>
      (f19.F 100000 (num M, y13.1, num Q)).bind fun y14 =>
      (f20.F 100000 (num d, y14.1, num Q)).bind fun y15 =>
      some (y13.1, y15.1, (0 : Int))) = some (num (Sh.number Q (strL f6.k1) [be 32 (G ^ M % P), be 32 (G ^ d % P), s]), num ((d + M * Sh.number Q (strL f6.k1) [be 32 (G ^ M % P), be 32 (G ^ d % P), s] % Q) % Q), 0) := by
      intro d hd
      have hgd : G ^ d % P < 2 ^ 256 := Nat.lt_trans (Nat.mod_lt _ (by omega)) hP
      rw [f14.spec P G d _ _ hP hG (by omega), if_pos hin, bind_s, f18v1.spec Q _ _ f6.k1 _ _ s (by decide) hQ (by omega) hkey hgd hl ho, bind_s]
      have hc := number_lt (Q := Q) (strL f6.k1) [be 32 (G ^ M % P), be 32 (G ^ d % P), s] (by omega)
      rw [f19.good hq1 hmQ hc hQ, bind_s, f20.good hq1 hd (Nat.mod_lt _ (by omega)) hQ, bind_s]
    by_cases h0 : Sh.number Q (strL f6.k0) [be 32 M, s] = 0
    · rw [decide_eq_true h0, cond_t, f12.one, bind_s, rest 1 hq1, Sg.y, Sg.c, Sg.draw, if_pos h0]
    · rw [decide_eq_false h0, cond_f, rest _ hn, Sg.y, Sg.c, Sg.draw, if_neg h0]
  · rw [if_neg h, if_neg h]
    rfl
def Sg.back (P Q G A C Y : Nat) : Nat := if (gin P (if gin P G = true then G ^ Y % P else 0) && gin P (if gin P A = true then A ^ (Q - C) % P else 0)) = true then (G ^ Y % P) * (A ^ (Q - C) % P) % P else 0
def Sg.check (P Q G A : Nat) (s : List Int) (C Y : Nat) : Bool :=
  gfine P Q G && (gmem P Q A && (decide (A ≠ 1) && (decide (C < Q) && (decide (Y < Q) && decide (Sh.number Q (strL f8.k0) [be 32 A, be 32 (Sg.back P Q G A C Y), s] = C)))))
theorem f8.spec (P Q G A C Y : Nat) (s : List Int) (hP : P < 2 ^ 256) (hQ : Q < 2 ^ 256) (hG : G < 2 ^ 256) (hA : A < 2 ^ 256) (hC : C < 2 ^ 256) (hY : Y < 2 ^ 256) (hl : s.length = 32) (ho : octets s) :
    f8.F 100000 (num P, num Q, num G, num A, s, num C, num Y) = some (Sg.check P Q G A s C Y) := by
  simp only [f8.F, f8.T]
  rw [f11.spec P Q G hP hQ hG, bind_s]
  unfold Sg.check
  by_cases h1 : gfine P Q G = true
  case neg => rw [Bool.not_eq_true] at h1; rw [h1, Bool.not_false, cond_t, Bool.false_and]
  obtain ⟨hq1, _, hg⟩ := gfine_iff.1 h1
  obtain ⟨hin, _⟩ := gmem_iff.1 hg
  obtain ⟨hp1, _, _⟩ := gin_iff.1 hin
  rw [h1, Bool.not_true, cond_f, f25.spec P Q A _ hP hQ hA, bind_s, Bool.true_and]
  by_cases h2 : gmem P Q A = true
  case neg => rw [Bool.not_eq_true] at h2; rw [h2, Bool.not_false, cond_t, Bool.false_and]
  have hinA := (gmem_iff.1 h2).1
  rw [h2, Bool.not_true, cond_f, f12.one, bind_s, Bool.true_and, eqN A 1 hA (by decide), Bool.and_true]
  by_cases h3 : A = 1
  · rw [decide_eq_true h3, cond_t, decide_eq_false (by omega), Bool.false_and]
  rw [decide_eq_false h3, cond_f, decide_eq_true h3, Bool.true_and, show f13.F 100000 (num Q) = some (num Q) from rfl, bind_s, f34v1.spec C Y Q hC hY hQ, bind_s]
  simp only []
  by_cases h4 : C < Q
  case neg => rw [decide_eq_false h4, Bool.false_and, Bool.not_false, cond_t, Bool.false_and]
  by_cases h5 : Y < Q
  case neg => rw [decide_eq_false h5, Bool.and_false, Bool.not_false, cond_t, Bool.false_and, Bool.and_false]
  rw [decide_eq_true h4, decide_eq_true h5, Bool.and_self, Bool.not_true, cond_f, Bool.true_and, Bool.true_and]
  have m : ∀ X, X % P < 2 ^ 256 := fun X => Nat.lt_trans (Nat.mod_lt _ (by omega)) hP
  have eq : num (Q + 2 ^ 256 - C) = num (Q - C) := by
    show words 64 4 _ = words 64 4 _
    rw [← words_mod 64 4 (Q + 2 ^ 256 - C), show (2 : Nat) ^ (64 * 4) = 2 ^ 256 from rfl, show Q + 2 ^ 256 - C = Q - C + 2 ^ 256 by omega, Nat.add_mod_right, Nat.mod_eq_of_lt (by omega)]
  rw [f26.spec 100000 Q C hQ hC (by omega), bind_s, f14.spec P G Y _ _ hP hG hY, bind_s]
  simp only []
  rw [eq, f14.spec P A (Q - C) _ _ hP hA (by omega), bind_s, if_pos hin, if_pos hinA]
  simp only []
  rw [f27.spec P _ _ _ _ hP (m _) (m _), bind_s]
  have eb : (if (gin P (G ^ Y % P) && gin P (A ^ (Q - C) % P)) = true then (num (G ^ Y % P * (A ^ (Q - C) % P) % P), (0 : Int)) else (num 0, 1)).1 = num (Sg.back P Q G A C Y) := by
    rw [Sg.back, if_pos hin, if_pos hinA]
    split <;> rfl
  have hb : Sg.back P Q G A C Y < 2 ^ 256 := by
    rw [Sg.back, if_pos hin, if_pos hinA]
    split
    · exact m _
    · decide
  rw [eb, f18v1.spec Q A _ f8.k0 _ _ s (by decide) hQ (by omega) hA hb hl ho, bind_s]
  simp only []
  rw [eqN _ C (Nat.lt_trans (number_lt _ _ (by omega)) hQ) hC, Bool.and_true]
theorem sg_lt {P Q G M : Nat} (s : List Int) (h : gsec P Q G M = true) : Sg.c P Q G M s < Q ∧ Sg.y P Q G M s < Q := by
  obtain ⟨hf, hm0, hmQ⟩ := gsec_iff.1 h
  obtain ⟨hq1, _, hg⟩ := gfine_iff.1 hf
  exact ⟨number_lt _ _ (by omega), Nat.mod_lt _ (by omega)⟩
end Go.Proofs

namespace Go.Proofs
open Go.VM
namespace f37
abbrev Ty0 := List Int × List Int × List Int × List Int
def T (K : Nat) (a0_0 : List Int) (_a0_1 : List Int) (_a0_2 : List Int) (a1 : List Int) : Option (Bool) :=
 (f29.F K (a0_0, [1, 0, 0, 0])).bind fun y1 =>
 bif (decide (y1 > 0)) then
 bif (!(eqL 4 a1 [0, 0, 0, 0] && true)) then
 (f29.F K (a1, a0_0)).bind fun y4 =>
 some (decide (y4 < 0))
 else
 some false
 else
 some false
def F (K : Nat) (x : Ty0) : Option (Bool) := T K x.1 x.2.1 x.2.2.1 x.2.2.2
def av (x : Ty0) : List VV := [.agg [.ints .u64 4 x.1, .ints .u64 4 x.2.1, .ints .u64 4 x.2.2.1], .agg [.ints .u64 4 x.2.2.2]]
def bl (_x : Ty0) : List (Nat × Blk) := []
def inA : VS → Option (Ty0)
 | ⟨[(0, .agg [.ints .u64 4 a0_0, .ints .u64 4 a0_1, .ints .u64 4 a0_2]), (1, .agg [.ints .u64 4 a1])], [], 0⟩ => some (a0_0, a0_1, a0_2, a1)
 | _ => none
def o0 (y : Bool) : VS := ⟨[(0, .bool y)], [], 0⟩
def inR : VS → Option (Bool)
 | ⟨[(0, .bool y)], [], 0⟩ => some y
 | _ => none
noncomputable def E (K : Nat) : Entry := genE 0 inA (F K) (dv1 o0)
theorem ok (K : Nat) : EntryOK Tryz.prog 37 (E K) := gen_ok mix tys_ok (tab_ok ((tab_cons (f29.ok K) tab_nil))) Tryz.func37 (c := bodyOf Tryz.f37) (by kernel_rfl) (by kernel_rfl) (loops_none (lp := lpNone) (by kernel_rfl)) (av := av) (bl := bl) (inR := inR) (out := o0) (fuel := 400)
  (by intro s x h; unfold inA at h; split at h <;> simp at h; subst h; rfl) (fun _ => Nat.le_of_ble_eq_true rfl)
  (by intro s y h; unfold inR at h; split at h <;> simp at h <;> subst h <;> rfl) (fun _ _ _ => rfl) (fun _ => by kernel_rfl)
end f37
end Go.Proofs

namespace Go.Proofs
open Go.VM
namespace f44
abbrev Ty0 := List Int × List Int × List Int
def T (K : Nat) (a0 : List Int) (a1 : List Int) (a2 : List Int) : Option (Bool) :=
 (f53.F K 1).bind fun y1 =>
 (f29.F K (a2, y1)).bind fun y2 =>
 bif (decide (y2 > 0)) then
 (f29.F K (a0, a2)).bind fun y4 =>
 bif (decide (y4 < 0)) then
 (f29.F K (a1, a2)).bind fun y6 =>
 some (decide (y6 < 0))
 else
 some false
 else
 some false
def F (K : Nat) (x : Ty0) : Option (Bool) := T K x.1 x.2.1 x.2.2
def av (x : Ty0) : List VV := [.agg [.ints .u64 4 x.1], .agg [.ints .u64 4 x.2.1], .agg [.ints .u64 4 x.2.2]]
def bl (_x : Ty0) : List (Nat × Blk) := []
def inA : VS → Option (Ty0)
 | ⟨[(0, .agg [.ints .u64 4 a0]), (1, .agg [.ints .u64 4 a1]), (2, .agg [.ints .u64 4 a2])], [], 0⟩ => some (a0, a1, a2)
 | _ => none
def o0 (y : Bool) : VS := ⟨[(0, .bool y)], [], 0⟩
def inR : VS → Option (Bool)
 | ⟨[(0, .bool y)], [], 0⟩ => some y
 | _ => none
noncomputable def E (K : Nat) : Entry := genE 0 inA (F K) (dv1 o0)
theorem ok (K : Nat) : EntryOK Tryz.prog 44 (E K) := gen_ok mix tys_ok (tab_ok ((tab_cons (f53.ok K) (tab_cons (f29.ok K) tab_nil)))) Tryz.func44 (c := bodyOf Tryz.f44) (by kernel_rfl) (by kernel_rfl) (loops_none (lp := lpNone) (by kernel_rfl)) (av := av) (bl := bl) (inR := inR) (out := o0) (fuel := 400)
  (by intro s x h; unfold inA at h; split at h <;> simp at h; subst h; rfl) (fun _ => Nat.le_of_ble_eq_true rfl)
  (by intro s y h; unfold inR at h; split at h <;> simp at h <;> subst h <;> rfl) (fun _ _ _ => rfl) (fun _ => by kernel_rfl)
end f44
end Go.Proofs

namespace Go.Proofs
open Go.VM
namespace f54
abbrev Ty0 := Int × Int × Int × Int × List Int
abbrev Ty1 := Int × List Int × Int
noncomputable def c : Code := bodyOf Tryz.f54
def s0t (K : Nat) (rec : Ty0 → Option (Int)) (t0 : Int) (t2 : Int) (t7 : Int) (t8 : Int) (b0 : List Int) : Option (Int) :=
 bif (decide (t8 ≥ 0)) then
 (f69.F K (t7, t7)).bind fun y5 =>
 (f70.F K (y5.1, y5.2, t2)).bind fun y6 =>
 let v7 := IntKind.wrap .i64 (Int.tdiv t8 64)
 bif decide (0 ≤ v7 ∧ v7 < 4) then
 let v10 := Int.tmod t8 64
 bif decide (0 ≤ v10) then
 bif ((bits .and .u64 (shiftI .shr .u64 (List.getD b0 (Int.toNat v7) 0) v10) 1) == 1) then
 (f69.F K (y6.2, t0)).bind fun y13 =>
 (f70.F K (y13.1, y13.2, t2)).bind fun y14 =>
 rec (t0, t2, y14.2, (IntKind.wrap .i64 (t8 - 1)), b0)
 else
 rec (t0, t2, y6.2, (IntKind.wrap .i64 (t8 - 1)), b0)
 else
 none
 else
 none
 else
 some t7
def s0 (K : Nat) (rec : Ty0 → Option (Int)) (x : Ty0) : Option (Int) := s0t K rec x.1 x.2.1 x.2.2.1 x.2.2.2.1 x.2.2.2.2
noncomputable def s0.b : Code := (findLoop 0 c).getD .skip
def s0.h : Hint := { lv := [0, 2, 4, 7, 8] }
def s0.ho : Hint := { lv := [7] }
def s0.shp (x : Ty0) : VS := ⟨[(0, .int .u64 x.1), (2, .int .u64 x.2.1), (4, .ptr 0 0), (7, .int .u64 x.2.2.1), (8, .int .i64 x.2.2.2.1)], [(0, ([.ints .u64 4 x.2.2.2.2], 24, .norm))], 1⟩
def s0.inX : VS → Option (Ty0)
 | ⟨[(0, .int .u64 t0), (2, .int .u64 t2), (4, .ptr 0 0), (7, .int .u64 t7), (8, .int .i64 t8)], [(0, ([.ints .u64 4 b0], 24, .norm))], 1⟩ => some (t0, t2, t7, t8, b0)
 | _ => none
def s0.o0 (y : Int) : VS := ⟨[(7, .int .u64 y)], [], 0⟩
def s0.des : ∀ α : Type, Int → (Ex → VS → Option α) → Option α := (des1 (.exit 0) s0.o0)
def s0.out : Int → Ex × VS := (fun y => (.exit 0, s0.o0 y))
theorem s0.desOK : ∀ α y (k : Ex → VS → Option α), s0.des α y k = k (s0.out y).1 (s0.out y).2 := (fun _ _ _ => rfl)
def s0.inY : Ex → VS → Option (Int)
 | .exit 0, ⟨[(7, .int .u64 t7)], [], 0⟩ => some t7
 | _, _ => none
def lp (K : Nat) : Nat → Option (Hint × Summ) := tabLp [(0, s0.h, summOf (iter (s0 K) K) s0.inX s0.des)]
noncomputable def tab (K : Nat) : List (Nat × Entry) := [(55, (f55.E K)), (69, (f69.E K)), (70, (f70.E K))]
theorem tabOK (K : Nat) : SpecOK Tryz.prog (tabSp (tab K)) := tab_ok ((tab_cons (f55.ok K) (tab_cons (f69.ok K) (tab_cons (f70.ok K) tab_nil))))
theorem s0.eq (K : Nat) (rec : Ty0 → Option (Int)) (x : Ty0) : s0 K rec x = roundL (getA tys) (tabSp (tab K)) 56 0 (lp K) 400 s0.b s0.h s0.ho s0.shp s0.inX s0.inY rec x := by kernel_rfl
theorem s0.lok (K : Nat) : LoopsOK Tryz.prog 56 0 (lp K) s0.b := loops_ok (by
  have h : loopsIn (lp K) s0.b = [] := by kernel_rfl
  rw [h]; simp)
theorem s0.ok (K : Nat) : SummOK Tryz.prog 56 0 (summOf (iter (s0 K) K) s0.inX s0.des) s0.b :=
  loop_ok mix tys_ok (tabOK K) (h := s0.h) (ho := s0.ho) (shp := s0.shp) (inX := s0.inX) (des := s0.des) (out := s0.out) (inY := s0.inY) (fuel := 400)
    (by intro st x h; unfold s0.inX at h; split at h <;> simp at h; subst h; rfl)
    (by intro e st y h; unfold s0.inY at h; split at h <;> simp at h <;> subst h <;> rfl)
    s0.desOK (s0.lok K) (s0 K) (s0.eq K) K
theorem loops (K : Nat) : LoopsOK Tryz.prog 56 0 (lp K) c := loops_ok (by
  have h : loopsIn (lp K) c = [(0, s0.b)] := by kernel_rfl
  rw [h]
  intro p hp
  simp only [List.mem_cons, List.not_mem_nil, or_false] at hp
  rcases hp with rfl
  · exact ⟨_, rfl, (s0.ok K)⟩)
def T (K : Nat) (a0 : Int) (a1 : List Int) (a2 : Int) : Option (Int) :=
 bif decide (a2 ≠ 0) then
 (f55.F K a1).bind fun y2 =>
 (iter (s0 K) K (a0, a2, (Int.tmod 1 a2), (IntKind.wrap .i64 (y2 - 1)), a1)).bind fun y17 =>
 some y17
 else
 none
def F (K : Nat) (x : Ty1) : Option (Int) := T K x.1 x.2.1 x.2.2
def av (x : Ty1) : List VV := [.int .u64 x.1, .agg [.ints .u64 4 x.2.1], .int .u64 x.2.2]
def bl (_x : Ty1) : List (Nat × Blk) := []
def inA : VS → Option (Ty1)
 | ⟨[(0, .int .u64 a0), (1, .agg [.ints .u64 4 a1]), (2, .int .u64 a2)], [], 0⟩ => some (a0, a1, a2)
 | _ => none
def o0 (y : Int) : VS := ⟨[(0, .int .u64 y)], [], 0⟩
def des : ∀ α : Type, Int → (VS → Option α) → Option α := (dv1 o0)
def out : Int → VS := o0
def inR : VS → Option (Int)
 | ⟨[(0, .int .u64 y)], [], 0⟩ => some y
 | _ => none
noncomputable def E (K : Nat) : Entry := genE 0 inA (F K) des
theorem eq (K : Nat) (x : Ty1) : F K x = xrun (getA tys) (tabSp (tab K)) Tryz.f54.ntmps 0 (lp K) 400 c ⟨initL 0 (av x), bl x, 0⟩ (contF (getA tys) 0 Tryz.f54.results.toList inR) := by kernel_rfl
theorem ok (K : Nat) : EntryOK Tryz.prog 54 (E K) :=
  gen_ok mix tys_ok (tabOK K) Tryz.func54 (by kernel_rfl : Tryz.f54.body = some c) (by kernel_rfl) (loops K) (av := av) (bl := bl) (out := out) (fuel := 400)
    (by intro s x h; unfold inA at h; split at h <;> simp at h; subst h; rfl) (fun _ => Nat.le_of_ble_eq_true rfl)
    (by intro s y h; unfold inR at h; split at h <;> simp at h <;> subst h <;> rfl) (fun _ _ _ => rfl) (eq K)
end f54
end Go.Proofs

namespace Go.Proofs
open Go.VM
namespace f45
abbrev Ty0 := List Int × List Int × List Int
def T (K : Nat) (a0 : List Int) (a1 : List Int) (a2 : List Int) : Option (List Int) :=
 (f52.F K a2).bind fun y1 =>
 bif y1 then
 (f69.F K ((List.getD a0 0 0), (List.getD a1 0 0))).bind fun y4 =>
 (f70.F K (y4.1, y4.2, (List.getD a2 0 0))).bind fun y6 =>
 (f53.F K y6.2).bind fun y7 =>
 some y7
 else
 (f71.F K (a0, a1)).bind fun y8 =>
 (f66.F K (y8.1, y8.2, a2)).bind fun y9 =>
 some y9.1
def F (K : Nat) (x : Ty0) : Option (List Int) := T K x.1 x.2.1 x.2.2
def av (x : Ty0) : List VV := [.agg [.ints .u64 4 x.1], .agg [.ints .u64 4 x.2.1], .agg [.ints .u64 4 x.2.2]]
def bl (_x : Ty0) : List (Nat × Blk) := []
def inA : VS → Option (Ty0)
 | ⟨[(0, .agg [.ints .u64 4 a0]), (1, .agg [.ints .u64 4 a1]), (2, .agg [.ints .u64 4 a2])], [], 0⟩ => some (a0, a1, a2)
 | _ => none
def o0 (y : List Int) : VS := ⟨[(0, .agg [.ints .u64 4 y])], [], 0⟩
def inR : VS → Option (List Int)
 | ⟨[(0, .agg [.ints .u64 4 y])], [], 0⟩ => some y
 | _ => none
noncomputable def E (K : Nat) : Entry := genE 0 inA (F K) (dv1 o0)
theorem ok (K : Nat) : EntryOK Tryz.prog 45 (E K) := gen_ok mix tys_ok (tab_ok ((tab_cons (f52.ok K) (tab_cons (f69.ok K) (tab_cons (f70.ok K) (tab_cons (f53.ok K) (tab_cons (f71.ok K) (tab_cons (f66.ok K) tab_nil)))))))) Tryz.func45 (c := bodyOf Tryz.f45) (by kernel_rfl) (by kernel_rfl) (loops_none (lp := lpNone) (by kernel_rfl)) (av := av) (bl := bl) (inR := inR) (out := o0) (fuel := 400)
  (by intro s x h; unfold inA at h; split at h <;> simp at h; subst h; rfl) (fun _ => Nat.le_of_ble_eq_true rfl)
  (by intro s y h; unfold inR at h; split at h <;> simp at h <;> subst h <;> rfl) (fun _ _ _ => rfl) (fun _ => by kernel_rfl)
end f45
end Go.Proofs

namespace Go.Proofs
open Go.VM
namespace f38
abbrev Ty0 := Int × List Int × List Int × List Int × List Int × List Int
abbrev Ty1 := List Int × List Int × List Int
abbrev Ty2 := List Int × List Int
abbrev Ty3 := List Int × Int
noncomputable def c : Code := bodyOf Tryz.f38
def s0t (K : Nat) (rec : Ty0 → Option (Ty2)) (t9 : Int) (b0 : List Int) (b1 : List Int) (b2 : List Int) (b3 : List Int) (b4 : List Int) : Option (Ty2) :=
 bif (decide (t9 ≥ 0)) then
 (f45.F K (b4, b4, b2)).bind fun y11 =>
 (f56.F K (b1, t9)).bind fun y12 =>
 bif (y12 == 1) then
 (f45.F K (y11, b0, b2)).bind fun y13 =>
 rec ((IntKind.wrap .i64 (t9 - 1)), b0, b1, b2, b3, y13)
 else
 rec ((IntKind.wrap .i64 (t9 - 1)), b0, b1, b2, b3, y11)
 else
 some (b3, b4)
def s0 (K : Nat) (rec : Ty0 → Option (Ty2)) (x : Ty0) : Option (Ty2) := s0t K rec x.1 x.2.1 x.2.2.1 x.2.2.2.1 x.2.2.2.2.1 x.2.2.2.2.2
noncomputable def s0.b : Code := (findLoop 0 c).getD .skip
def s0.h : Hint := { lv := [3, 4, 5, 6, 8, 9] }
def s0.ho : Hint := { lv := [6, 8] }
def s0.shp (x : Ty0) : VS := ⟨[(3, .ptr 0 0), (4, .ptr 1 0), (5, .ptr 2 0), (6, .ptr 3 0), (8, .ptr 4 0), (9, .int .i64 x.1)], [(0, ([.ints .u64 4 x.2.1], 24, .norm)), (1, ([.ints .u64 4 x.2.2.1], 24, .norm)), (2, ([.ints .u64 4 x.2.2.2.1], 24, .norm)), (3, ([.ints .u64 4 x.2.2.2.2.1], 24, .norm)), (4, ([.ints .u64 4 x.2.2.2.2.2], 24, .norm))], 5⟩
def s0.inX : VS → Option (Ty0)
 | ⟨[(3, .ptr 0 0), (4, .ptr 1 0), (5, .ptr 2 0), (6, .ptr 3 0), (8, .ptr 4 0), (9, .int .i64 t9)], [(0, ([.ints .u64 4 b0], 24, .norm)), (1, ([.ints .u64 4 b1], 24, .norm)), (2, ([.ints .u64 4 b2], 24, .norm)), (3, ([.ints .u64 4 b3], 24, .norm)), (4, ([.ints .u64 4 b4], 24, .norm))], 5⟩ => some (t9, b0, b1, b2, b3, b4)
 | _ => none
def s0.o0 (y : Ty2) : VS := ⟨[(6, .ptr 0 0), (8, .ptr 1 0)], [(0, ([.ints .u64 4 y.1], 24, .norm)), (1, ([.ints .u64 4 y.2], 24, .norm))], 2⟩
def s0.des : ∀ α : Type, (Ty2) → (Ex → VS → Option α) → Option α := (des1 (.exit 0) s0.o0)
def s0.out : Ty2 → Ex × VS := (fun y => (.exit 0, s0.o0 y))
theorem s0.desOK : ∀ α y (k : Ex → VS → Option α), s0.des α y k = k (s0.out y).1 (s0.out y).2 := (fun _ _ _ => rfl)
def s0.inY : Ex → VS → Option (Ty2)
 | .exit 0, ⟨[(6, .ptr 0 0), (8, .ptr 1 0)], [(0, ([.ints .u64 4 b0], 24, .norm)), (1, ([.ints .u64 4 b1], 24, .norm))], 2⟩ => some (b0, b1)
 | _, _ => none
def lp (K : Nat) : Nat → Option (Hint × Summ) := tabLp [(0, s0.h, summOf (iter (s0 K) K) s0.inX s0.des)]
noncomputable def tab (K : Nat) : List (Nat × Entry) := [(44, (f44.E K)), (52, (f52.E K)), (54, (f54.E K)), (53, (f53.E K)), (55, (f55.E K)), (45, (f45.E K)), (56, (f56.E K))]
theorem tabOK (K : Nat) : SpecOK Tryz.prog (tabSp (tab K)) := tab_ok ((tab_cons (f44.ok K) (tab_cons (f52.ok K) (tab_cons (f54.ok K) (tab_cons (f53.ok K) (tab_cons (f55.ok K) (tab_cons (f45.ok K) (tab_cons (f56.ok K) tab_nil))))))))
theorem s0.eq (K : Nat) (rec : Ty0 → Option (Ty2)) (x : Ty0) : s0 K rec x = roundL (getA tys) (tabSp (tab K)) 46 0 (lp K) 400 s0.b s0.h s0.ho s0.shp s0.inX s0.inY rec x := by kernel_rfl
theorem s0.lok (K : Nat) : LoopsOK Tryz.prog 46 0 (lp K) s0.b := loops_ok (by
  have h : loopsIn (lp K) s0.b = [] := by kernel_rfl
  rw [h]; simp)
theorem s0.ok (K : Nat) : SummOK Tryz.prog 46 0 (summOf (iter (s0 K) K) s0.inX s0.des) s0.b :=
  loop_ok mix tys_ok (tabOK K) (h := s0.h) (ho := s0.ho) (shp := s0.shp) (inX := s0.inX) (des := s0.des) (out := s0.out) (inY := s0.inY) (fuel := 400)
    (by intro st x h; unfold s0.inX at h; split at h <;> simp at h; subst h; rfl)
    (by intro e st y h; unfold s0.inY at h; split at h <;> simp at h <;> subst h <;> rfl)
    s0.desOK (s0.lok K) (s0 K) (s0.eq K) K
theorem loops (K : Nat) : LoopsOK Tryz.prog 46 0 (lp K) c := loops_ok (by
  have h : loopsIn (lp K) c = [(0, s0.b)] := by kernel_rfl
  rw [h]
  intro p hp
  simp only [List.mem_cons, List.not_mem_nil, or_false] at hp
  rcases hp with rfl
  · exact ⟨_, rfl, (s0.ok K)⟩)
def T (K : Nat) (a0 : List Int) (a1 : List Int) (a2 : List Int) : Option (Ty3) :=
 (f44.F K (a0, a0, a2)).bind fun y1 =>
 bif !y1 then
 some ([0, 0, 0, 0], 1)
 else
 (f52.F K a2).bind fun y2 =>
 bif y2 then
 (f54.F K ((List.getD a0 0 0), a1, (List.getD a2 0 0))).bind fun y5 =>
 (f53.F K y5).bind fun y6 =>
 some (y6, 0)
 else
 (f53.F K 1).bind fun y7 =>
 (f55.F K a1).bind fun y8 =>
 (iter (s0 K) K ((IntKind.wrap .i64 (y8 - 1)), a0, a1, a2, [0, 0, 0, 0], y7)).bind fun y16 =>
 some (y16.2, 0)
def F (K : Nat) (x : Ty1) : Option (Ty3) := T K x.1 x.2.1 x.2.2
def av (x : Ty1) : List VV := [.agg [.ints .u64 4 x.1], .agg [.ints .u64 4 x.2.1], .agg [.ints .u64 4 x.2.2]]
def bl (_x : Ty1) : List (Nat × Blk) := []
def inA : VS → Option (Ty1)
 | ⟨[(0, .agg [.ints .u64 4 a0]), (1, .agg [.ints .u64 4 a1]), (2, .agg [.ints .u64 4 a2])], [], 0⟩ => some (a0, a1, a2)
 | _ => none
def o0 (y : Ty3) : VS := ⟨[(0, .tup [.agg [.ints .u64 4 y.1], .int .i64 y.2])], [], 0⟩
def des : ∀ α : Type, (Ty3) → (VS → Option α) → Option α := (dv1 o0)
def out : Ty3 → VS := o0
def inR : VS → Option (Ty3)
 | ⟨[(0, .tup [.agg [.ints .u64 4 y_0], .int .i64 y_1])], [], 0⟩ => some (y_0, y_1)
 | _ => none
noncomputable def E (K : Nat) : Entry := genE 0 inA (F K) des
theorem eq (K : Nat) (x : Ty1) : F K x = xrun (getA tys) (tabSp (tab K)) Tryz.f38.ntmps 0 (lp K) 400 c ⟨initL 0 (av x), bl x, 0⟩ (contF (getA tys) 0 Tryz.f38.results.toList inR) := by kernel_rfl
theorem ok (K : Nat) : EntryOK Tryz.prog 38 (E K) :=
  gen_ok mix tys_ok (tabOK K) Tryz.func38 (by kernel_rfl : Tryz.f38.body = some c) (by kernel_rfl) (loops K) (av := av) (bl := bl) (out := out) (fuel := 400)
    (by intro s x h; unfold inA at h; split at h <;> simp at h; subst h; rfl) (fun _ => Nat.le_of_ble_eq_true rfl)
    (by intro s y h; unfold inR at h; split at h <;> simp at h <;> subst h <;> rfl) (fun _ _ _ => rfl) (eq K)
end f38
end Go.Proofs

namespace Go.Proofs
open Go.VM
namespace f28
abbrev Ty0 := List Int × List Int × List Int × List Int
def T (K : Nat) (a0_0 : List Int) (a0_1 : List Int) (a0_2 : List Int) (a1 : List Int) : Option (Bool) :=
 (f37.F K (a0_0, a0_1, a0_2, a1)).bind fun y1 =>
 bif !y1 then
 some false
 else
 (f38.F K (a1, a0_1, a0_0)).bind fun y2 =>
 bif (y2.2 == 0) then
 some (eqL 4 y2.1 [1, 0, 0, 0] && true)
 else
 some false
def F (K : Nat) (x : Ty0) : Option (Bool) := T K x.1 x.2.1 x.2.2.1 x.2.2.2
def av (x : Ty0) : List VV := [.agg [.ints .u64 4 x.1, .ints .u64 4 x.2.1, .ints .u64 4 x.2.2.1], .agg [.ints .u64 4 x.2.2.2]]
def bl (_x : Ty0) : List (Nat × Blk) := []
def inA : VS → Option (Ty0)
 | ⟨[(0, .agg [.ints .u64 4 a0_0, .ints .u64 4 a0_1, .ints .u64 4 a0_2]), (1, .agg [.ints .u64 4 a1])], [], 0⟩ => some (a0_0, a0_1, a0_2, a1)
 | _ => none
def o0 (y : Bool) : VS := ⟨[(0, .bool y)], [], 0⟩
def inR : VS → Option (Bool)
 | ⟨[(0, .bool y)], [], 0⟩ => some y
 | _ => none
noncomputable def E (K : Nat) : Entry := genE 0 inA (F K) (dv1 o0)
theorem ok (K : Nat) : EntryOK Tryz.prog 28 (E K) := gen_ok mix tys_ok (tab_ok ((tab_cons (f37.ok K) (tab_cons (f38.ok K) tab_nil)))) Tryz.func28 (c := bodyOf Tryz.f28) (by kernel_rfl) (by kernel_rfl) (loops_none (lp := lpNone) (by kernel_rfl)) (av := av) (bl := bl) (inR := inR) (out := o0) (fuel := 400)
  (by intro s x h; unfold inA at h; split at h <;> simp at h; subst h; rfl) (fun _ => Nat.le_of_ble_eq_true rfl)
  (by intro s y h; unfold inR at h; split at h <;> simp at h <;> subst h <;> rfl) (fun _ _ _ => rfl) (fun _ => by kernel_rfl)
end f28
end Go.Proofs

namespace Go.Proofs
open Go.VM
namespace f15
abbrev Ty0 := List Int × List Int × List Int
def T (K : Nat) (a0_0 : List Int) (a0_1 : List Int) (a0_2 : List Int) : Option (Bool) :=
 (f29.F K (a0_0, [1, 0, 0, 0])).bind fun y1 =>
 bif (decide (y1 > 0)) then
 (f29.F K (a0_1, [1, 0, 0, 0])).bind fun y3 =>
 bif (decide (y3 > 0)) then
 (f28.F K (a0_0, a0_1, a0_2, a0_2)).bind fun y5 =>
 bif y5 then
 some (!(eqL 4 a0_2 [1, 0, 0, 0] && true))
 else
 some false
 else
 some false
 else
 some false
def F (K : Nat) (x : Ty0) : Option (Bool) := T K x.1 x.2.1 x.2.2
def av (x : Ty0) : List VV := [.agg [.ints .u64 4 x.1, .ints .u64 4 x.2.1, .ints .u64 4 x.2.2]]
def bl (_x : Ty0) : List (Nat × Blk) := []
def inA : VS → Option (Ty0)
 | ⟨[(0, .agg [.ints .u64 4 a0_0, .ints .u64 4 a0_1, .ints .u64 4 a0_2])], [], 0⟩ => some (a0_0, a0_1, a0_2)
 | _ => none
def o0 (y : Bool) : VS := ⟨[(0, .bool y)], [], 0⟩
def inR : VS → Option (Bool)
 | ⟨[(0, .bool y)], [], 0⟩ => some y
 | _ => none
noncomputable def E (K : Nat) : Entry := genE 0 inA (F K) (dv1 o0)
theorem ok (K : Nat) : EntryOK Tryz.prog 15 (E K) := gen_ok mix tys_ok (tab_ok ((tab_cons (f29.ok K) (tab_cons (f28.ok K) tab_nil)))) Tryz.func15 (c := bodyOf Tryz.f15) (by kernel_rfl) (by kernel_rfl) (loops_none (lp := lpNone) (by kernel_rfl)) (av := av) (bl := bl) (inR := inR) (out := o0) (fuel := 400)
  (by intro s x h; unfold inA at h; split at h <;> simp at h; subst h; rfl) (fun _ => Nat.le_of_ble_eq_true rfl)
  (by intro s y h; unfold inR at h; split at h <;> simp at h <;> subst h <;> rfl) (fun _ _ _ => rfl) (fun _ => by kernel_rfl)
end f15
end Go.Proofs

namespace Go.Proofs
open Go.VM
namespace f17
abbrev Ty0 := List Int × List Int × List Int × List Int × List Int
def T (K : Nat) (a0_0 : List Int) (a0_1 : List Int) (a0_2 : List Int) (a1 : List Int) (a2 : List Int) : Option (List Int × Int) :=
 (f37.F K (a0_0, a0_1, a0_2, a1)).bind fun y1 =>
 bif !y1 then
 some ([0, 0, 0, 0], 1)
 else
 (f38.F K (a1, a2, a0_0)).bind fun y2 =>
 some (y2.1, y2.2)
def F (K : Nat) (x : Ty0) : Option (List Int × Int) := T K x.1 x.2.1 x.2.2.1 x.2.2.2.1 x.2.2.2.2
def av (x : Ty0) : List VV := [.agg [.ints .u64 4 x.1, .ints .u64 4 x.2.1, .ints .u64 4 x.2.2.1], .agg [.ints .u64 4 x.2.2.2.1], .agg [.ints .u64 4 x.2.2.2.2]]
def bl (_x : Ty0) : List (Nat × Blk) := []
def inA : VS → Option (Ty0)
 | ⟨[(0, .agg [.ints .u64 4 a0_0, .ints .u64 4 a0_1, .ints .u64 4 a0_2]), (1, .agg [.ints .u64 4 a1]), (2, .agg [.ints .u64 4 a2])], [], 0⟩ => some (a0_0, a0_1, a0_2, a1, a2)
 | _ => none
def o0 (y : List Int × Int) : VS := ⟨[(0, .tup [.agg [.ints .u64 4 y.1], .int .i64 y.2])], [], 0⟩
def inR : VS → Option (List Int × Int)
 | ⟨[(0, .tup [.agg [.ints .u64 4 y_0], .int .i64 y_1])], [], 0⟩ => some (y_0, y_1)
 | _ => none
noncomputable def E (K : Nat) : Entry := genE 0 inA (F K) (dv1 o0)
theorem ok (K : Nat) : EntryOK Tryz.prog 17 (E K) := gen_ok mix tys_ok (tab_ok ((tab_cons (f37.ok K) (tab_cons (f38.ok K) tab_nil)))) Tryz.func17 (c := bodyOf Tryz.f17) (by kernel_rfl) (by kernel_rfl) (loops_none (lp := lpNone) (by kernel_rfl)) (av := av) (bl := bl) (inR := inR) (out := o0) (fuel := 400)
  (by intro s x h; unfold inA at h; split at h <;> simp at h; subst h; rfl) (fun _ => Nat.le_of_ble_eq_true rfl)
  (by intro s y h; unfold inR at h; split at h <;> simp at h <;> subst h <;> rfl) (fun _ _ _ => rfl) (fun _ => by kernel_rfl)
end f17
end Go.Proofs

namespace Go.Proofs
open Go.VM
namespace f23
abbrev Ty0 := List Int × List Int × List Int
def T (K : Nat) (a0 : List Int) (a1 : List Int) (a2 : List Int) : Option (List Int × Int) :=
 (f44.F K (a0, a1, a2)).bind fun y1 =>
 bif !y1 then
 some ([0, 0, 0, 0], 1)
 else
 (f45.F K (a0, a1, a2)).bind fun y2 =>
 some (y2, 0)
def F (K : Nat) (x : Ty0) : Option (List Int × Int) := T K x.1 x.2.1 x.2.2
def av (x : Ty0) : List VV := [.agg [.ints .u64 4 x.1], .agg [.ints .u64 4 x.2.1], .agg [.ints .u64 4 x.2.2]]
def bl (_x : Ty0) : List (Nat × Blk) := []
def inA : VS → Option (Ty0)
 | ⟨[(0, .agg [.ints .u64 4 a0]), (1, .agg [.ints .u64 4 a1]), (2, .agg [.ints .u64 4 a2])], [], 0⟩ => some (a0, a1, a2)
 | _ => none
def o0 (y : List Int × Int) : VS := ⟨[(0, .tup [.agg [.ints .u64 4 y.1], .int .i64 y.2])], [], 0⟩
def inR : VS → Option (List Int × Int)
 | ⟨[(0, .tup [.agg [.ints .u64 4 y_0], .int .i64 y_1])], [], 0⟩ => some (y_0, y_1)
 | _ => none
noncomputable def E (K : Nat) : Entry := genE 0 inA (F K) (dv1 o0)
theorem ok (K : Nat) : EntryOK Tryz.prog 23 (E K) := gen_ok mix tys_ok (tab_ok ((tab_cons (f44.ok K) (tab_cons (f45.ok K) tab_nil)))) Tryz.func23 (c := bodyOf Tryz.f23) (by kernel_rfl) (by kernel_rfl) (loops_none (lp := lpNone) (by kernel_rfl)) (av := av) (bl := bl) (inR := inR) (out := o0) (fuel := 400)
  (by intro s x h; unfold inA at h; split at h <;> simp at h; subst h; rfl) (fun _ => Nat.le_of_ble_eq_true rfl)
  (by intro s y h; unfold inR at h; split at h <;> simp at h <;> subst h <;> rfl) (fun _ _ _ => rfl) (fun _ => by kernel_rfl)
end f23
end Go.Proofs

namespace Go.Proofs
open Go.VM
namespace f31
abbrev Ty0 := List Int × List Int × List Int × List Int × List Int
def T (K : Nat) (a0_0 : List Int) (a0_1 : List Int) (a0_2 : List Int) (a1 : List Int) (a2 : List Int) : Option (List Int × Int) :=
 (f37.F K (a0_0, a0_1, a0_2, a1)).bind fun y1 =>
 bif !y1 then
 some ([0, 0, 0, 0], 1)
 else
 (f37.F K (a0_0, a0_1, a0_2, a2)).bind fun y2 =>
 bif !y2 then
 some ([0, 0, 0, 0], 1)
 else
 (f23.F K (a1, a2, a0_0)).bind fun y3 =>
 some (y3.1, y3.2)
def F (K : Nat) (x : Ty0) : Option (List Int × Int) := T K x.1 x.2.1 x.2.2.1 x.2.2.2.1 x.2.2.2.2
def av (x : Ty0) : List VV := [.agg [.ints .u64 4 x.1, .ints .u64 4 x.2.1, .ints .u64 4 x.2.2.1], .agg [.ints .u64 4 x.2.2.2.1], .agg [.ints .u64 4 x.2.2.2.2]]
def bl (_x : Ty0) : List (Nat × Blk) := []
def inA : VS → Option (Ty0)
 | ⟨[(0, .agg [.ints .u64 4 a0_0, .ints .u64 4 a0_1, .ints .u64 4 a0_2]), (1, .agg [.ints .u64 4 a1]), (2, .agg [.ints .u64 4 a2])], [], 0⟩ => some (a0_0, a0_1, a0_2, a1, a2)
 | _ => none
def o0 (y : List Int × Int) : VS := ⟨[(0, .tup [.agg [.ints .u64 4 y.1], .int .i64 y.2])], [], 0⟩
def inR : VS → Option (List Int × Int)
 | ⟨[(0, .tup [.agg [.ints .u64 4 y_0], .int .i64 y_1])], [], 0⟩ => some (y_0, y_1)
 | _ => none
noncomputable def E (K : Nat) : Entry := genE 0 inA (F K) (dv1 o0)
theorem ok (K : Nat) : EntryOK Tryz.prog 31 (E K) := gen_ok mix tys_ok (tab_ok ((tab_cons (f37.ok K) (tab_cons (f23.ok K) tab_nil)))) Tryz.func31 (c := bodyOf Tryz.f31) (by kernel_rfl) (by kernel_rfl) (loops_none (lp := lpNone) (by kernel_rfl)) (av := av) (bl := bl) (inR := inR) (out := o0) (fuel := 400)
  (by intro s x h; unfold inA at h; split at h <;> simp at h; subst h; rfl) (fun _ => Nat.le_of_ble_eq_true rfl)
  (by intro s y h; unfold inR at h; split at h <;> simp at h <;> subst h <;> rfl) (fun _ _ _ => rfl) (fun _ => by kernel_rfl)
end f31
end Go.Proofs

namespace Go.Proofs
open Go.VM
end Go.Proofs
