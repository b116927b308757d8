/- Plain laws: lemmas that hold with no condition but those that each states. -/
import Derived.Test.YtlncodfolaoilaaDoorQ2
import Derived.Test.YtlncodfolaoilaaDoorQ6
namespace Go.Proofs
open Go.VM
abbrev f4.Ty0 := Int × List Int × List Int
abbrev f4.Ty1 := Bool × List Int
noncomputable def f4.c : Code := bodyOf Tryd.f4
def f4.k0 : ByteArray := ByteArray.mk #[116, 97, 103]
def f4.s0t (_K : Nat) (rec : f4.Ty0 → Option ((f4.Ty1) ⊕ (List Int))) (t5 : Int) (b0 : List Int) (b1 : List Int) : Option ((f4.Ty1) ⊕ (List Int)) :=
  bif (decide (t5 < 16)) then
    bif decide (0 ≤ t5 ∧ t5 < 16) then
      let v7 := IntKind.wrap .i64 (t5 + 6)
      bif decide (0 ≤ v7 ∧ v7 < 32) then
        bif ((List.getD b0 (Int.toNat t5) 0) != (List.getD b1 (Int.toNat v7) 0)) then
          some (.inl (false, b0))
        else
          rec ((IntKind.wrap .i64 (t5 + 1)), b0, b1)
      else
        none
    else
      none
  else
    some (.inr b0)
def f4.s0 (K : Nat) (rec : f4.Ty0 → Option ((f4.Ty1) ⊕ (List Int))) (x : f4.Ty0) : Option ((f4.Ty1) ⊕ (List Int)) := f4.s0t K rec x.1 x.2.1 x.2.2
noncomputable def f4.s0.b : Code := (findLoop 0 f4.c).getD .skip
def f4.s0.h : Hint := { lv := [3, 4, 5] }
def f4.s0.ho : Hint := { lv := [2, 3] }
def f4.s0.shp (x : f4.Ty0) : VS := ⟨[(3, .ptr 0 0), (4, .ptr 1 0), (5, .int .i64 x.1)], [(0, ([.ints .u8 16 x.2.1], 26, .norm)), (1, ([.ints .u8 32 x.2.2], 37, .norm))], 2⟩
def f4.s0.inX : VS → Option (f4.Ty0)
  | ⟨[(3, .ptr 0 0), (4, .ptr 1 0), (5, .int .i64 t5)], [(0, ([.ints .u8 16 b0], 26, .norm)), (1, ([.ints .u8 32 b1], 37, .norm))], 2⟩ => some (t5, b0, b1)
  | _ => none
def f4.s0.o0 (y : f4.Ty1) : VS := ⟨[(2, .bool y.1), (3, .ptr 0 0)], [(0, ([.ints .u8 16 y.2], 26, .norm))], 1⟩
def f4.s0.o1 (y : List Int) : VS := ⟨[(3, .ptr 0 0)], [(0, ([.ints .u8 16 y], 26, .norm))], 1⟩
def f4.s0.des : ∀ α : Type, ((f4.Ty1) ⊕ (List Int)) → (Ex → VS → Option α) → Option α := (desA (des1 (.ret) f4.s0.o0) (des1 (.exit 0) f4.s0.o1))
def f4.s0.out : (f4.Ty1) ⊕ (List Int) → Ex × VS := (alt (fun y => (.ret, f4.s0.o0 y)) (fun y => (.exit 0, f4.s0.o1 y)))
theorem f4.s0.desOK : ∀ α y (k : Ex → VS → Option α), f4.s0.des α y k = k (f4.s0.out y).1 (f4.s0.out y).2 := (desA_ok (fun _ _ _ => rfl) (fun _ _ _ => rfl))
def f4.s0.inY : Ex → VS → Option ((f4.Ty1) ⊕ (List Int))
  | .ret, ⟨[(2, .bool t2), (3, .ptr 0 0)], [(0, ([.ints .u8 16 b0], 26, .norm))], 1⟩ => some (.inl (t2, b0))
  | .exit 0, ⟨[(3, .ptr 0 0)], [(0, ([.ints .u8 16 b0], 26, .norm))], 1⟩ => some (.inr b0)
  | _, _ => none
def f4.lp (K : Nat) : Nat → Option (Hint × Summ) := tabLp [(0, f4.s0.h, summOf (iter (f4.s0 K) K) f4.s0.inX f4.s0.des)]
noncomputable def f4.tab (K : Nat) : List (Nat × Entry) := [(8, (f8.E K)), (15, (viewE [(0, .u8)] (f15.E K))), (14, (rowsE 1 .u8 (f14.E K))), (5, (f5.E K))]
theorem f4.tabOK (K : Nat) : SpecOK Tryd.prog (tabSp (f4.tab K)) := tab_ok ((tab_cons (f8.ok K) (tab_cons (view_ok (f15.ok K)) (tab_cons (rows_ok (f14.ok K)) (tab_cons (f5.ok K) tab_nil)))))
theorem f4.s0.eq (K : Nat) (rec : f4.Ty0 → Option ((f4.Ty1) ⊕ (List Int))) (x : f4.Ty0) : f4.s0 K rec x = roundL (getA tys) (tabSp (f4.tab K)) 45 0 (f4.lp K) 400 f4.s0.b f4.s0.h f4.s0.ho f4.s0.shp f4.s0.inX f4.s0.inY rec x := by kernel_rfl
theorem f4.s0.lok (K : Nat) : LoopsOK Tryd.prog 45 0 (f4.lp K) f4.s0.b := loops_ok (by
  have h : loopsIn (f4.lp K) f4.s0.b = [] := by kernel_rfl
  rw [h]; simp)
theorem f4.s0.ok (K : Nat) : SummOK Tryd.prog 45 0 (summOf (iter (f4.s0 K) K) f4.s0.inX f4.s0.des) f4.s0.b :=
  loop_ok mix tys_ok (f4.tabOK K) (h := f4.s0.h) (ho := f4.s0.ho) (shp := f4.s0.shp) (inX := f4.s0.inX) (des := f4.s0.des) (out := f4.s0.out) (inY := f4.s0.inY) (fuel := 400)
    (by intro st x h; unfold f4.s0.inX at h; split at h <;> simp at h; subst h; rfl)
    (by intro e st y h; unfold f4.s0.inY at h; split at h <;> simp at h <;> subst h <;> rfl)
    f4.s0.desOK (f4.s0.lok K) (f4.s0 K) (f4.s0.eq K) K
theorem f4.loops (K : Nat) : LoopsOK Tryd.prog 45 0 (f4.lp K) f4.c := loops_ok (by
  have h : loopsIn (f4.lp K) f4.c = [(0, f4.s0.b)] := by kernel_rfl
  rw [h]
  intro p hp
  simp only [List.mem_cons, List.not_mem_nil, or_false] at hp
  rcases hp with rfl
  · exact ⟨_, rfl, (f4.s0.ok K)⟩)
def f4.T (K : Nat) (a0 : List Int) : Option (Bool) :=
  (f8.F K a0).bind fun y1 =>
  (f15.F K (0, a0, 0, [])).bind fun y2 =>
  bif ((Nat.ble (0 + y2.1) y2.2.2.2.2.1 && (Nat.ble y2.1 y2.2.1)) && true) then
    (f14.F K (f4.k0, y2.1, y2.1, (subI y2.2.2.2.2.2 0 y2.1))).bind fun y3 =>
    (iter (f4.s0 K) K (4, y1, y3.1)).bind fun y11 =>
    alt (fun y12 =>
      some y12.1) (fun y13 =>
      bif ((List.getD y13 0 0) == 32) then
        bif ((List.getD y13 1 0) == 1) then
          bif ((List.getD y13 2 0) == 0) then
            bif ((List.getD y13 3 0) == 33) then
              (f5.F K ()).bind fun y18 =>
              some y18
            else
              some false
          else
            some false
        else
          some false
      else
        some false) y11
  else
    none
def f4.F (K : Nat) (x : List Int) : Option (Bool) := f4.T K x
def f4.av (x : List Int) : List VV := [.agg [.ints .u64 4 x]]
def f4.bl (_x : List Int) : List (Nat × Blk) := []
def f4.inA : VS → Option (List Int)
  | ⟨[(0, .agg [.ints .u64 4 a0])], [], 0⟩ => some a0
  | _ => none
def f4.o0 (y : Bool) : VS := ⟨[(0, .bool y)], [], 0⟩
def f4.des : ∀ α : Type, Bool → (VS → Option α) → Option α := (dv1 f4.o0)
def f4.out : Bool → VS := f4.o0
def f4.inR : VS → Option (Bool)
  | ⟨[(0, .bool y)], [], 0⟩ => some y
  | _ => none
noncomputable def f4.E (K : Nat) : Entry := genE 0 f4.inA (f4.F K) f4.des
theorem f4.eq (K : Nat) (x : List Int) : f4.F K x = xrun (getA tys) (tabSp (f4.tab K)) Tryd.f4.ntmps 0 (f4.lp K) 400 f4.c ⟨initL 0 (f4.av x), f4.bl x, 0⟩ (contF (getA tys) 0 Tryd.f4.results.toList f4.inR) := by kernel_rfl
theorem f4.ok (K : Nat) : EntryOK Tryd.prog 4 (f4.E K) :=
  gen_ok mix tys_ok (f4.tabOK K) Tryd.func4 (by kernel_rfl : Tryd.f4.body = some f4.c) (by kernel_rfl) (f4.loops K) (av := f4.av) (bl := f4.bl) (out := f4.out) (fuel := 400)
    (by intro s x h; unfold f4.inA at h; split at h <;> simp at h; subst h; rfl) (fun _ => Nat.le_of_ble_eq_true rfl)
    (by intro s y h; unfold f4.inR at h; split at h <;> simp at h <;> subst h <;> rfl) (fun _ _ _ => rfl) (f4.eq K)
end Go.Proofs

namespace Go.Proofs
open Go.VM
theorem f14.spec (K : Nat) (name : ByteArray) (n0 : Nat) (l0 : List Int) (hs : name.size ≤ 1000000000) (e0 : l0.length = n0) (o0 : octets l0) (z0 : n0 ≤ 1000000000) (hK : 200 + name.size < K) (k0 : 68 + n0 < K) :
    f14.F K (name, n0, n0, l0) = some (Sh.sha (strL name) [l0], n0, n0, l0) := by
  have hnl := strL_length name
  have hno := strL_octets name
  simp only [f14.F, f14.T]
  rw [show f20.F K () = some ([0, 0, 0, 0, 0, 0, 0, 0, 0, 0, 0, 0, 0, 0, 0, 0, 0, 0, 0, 0, 0, 0, 0, 0, 0, 0, 0, 0, 0, 0, 0, 0, 0, 0, 0, 0, 0, 0, 0, 0, 0, 0, 0, 0, 0, 0, 0, 0, 0, 0, 0, 0, 0, 0, 0, 0, 0, 0, 0, 0, 0, 0, 0, 0], 0, 0, Sh.init) from rfl, bind_s]
  have a0 : f22.F K (0, name.size, 0, [], name.size, strL name) = some (0 + 4 + name.size, 0, [], name.size, strL name, 0 + 4 + name.size, [] ++ Sh.frame (strL name)) := f22.spec K 0 name.size [] (strL name) rfl hnl (by omega) (by omega)
  have a1 : f23.F K (0, ((1 : Nat) : Int), ((4 : Nat) : Int), 0, []) = some (4, 4, 0, [], 4, [] ++ be 4 1) := f23.spec K 0 4 1 [] rfl (by omega) (by omega) (by omega)
  rw [Nat.zero_add, List.nil_append] at a0
  rw [List.nil_append] at a1
  rw [Nat.zero_add, ble_true (Nat.le_refl name.size), Bool.and_self, Bool.and_self, cond_t, subI_self _ hnl, a0, bind_s, show ((1 : Int)) = ((1 : Nat) : Int) from rfl, show ((4 : Int)) = ((4 : Nat) : Int) from rfl, a1, bind_s]
  simp only []
  have hf := frame_length (strL name)
  rw [hnl] at hf
  rw [Nat.zero_add, Nat.zero_add, ble_true (Nat.le_refl (4 + name.size)), ble_true (Nat.le_refl 4), Bool.and_self, Bool.and_self, Bool.and_self, cond_t, subI_self _ hf, subI_self _ (be_length 4 1)]
  obtain ⟨B, H, S, c0, R⟩ := f21.spec K [] (4 + name.size) (Sh.frame (strL name)) 4 (be 4 1) hf (frame_octets hno) (by omega) (be_length _ _) (be_octets _ _) (by omega) _ _ _ Sh.rep0 (by omega)
  rw [show f21.F K ([0, 0, 0, 0, 0, 0, 0, 0, 0, 0, 0, 0, 0, 0, 0, 0, 0, 0, 0, 0, 0, 0, 0, 0, 0, 0, 0, 0, 0, 0, 0, 0, 0, 0, 0, 0, 0, 0, 0, 0, 0, 0, 0, 0, 0, 0, 0, 0, 0, 0, 0, 0, 0, 0, 0, 0, 0, 0, 0, 0, 0, 0, 0, 0], 0, 0, 4 + name.size, 4, Sh.init, 4 + name.size, Sh.frame (strL name), 4, be 4 1) = _ from c0, bind_s]
  simp only []
  have g0 : f22.F K (0, n0, 0, [], n0, l0) = some (4 + n0, 0, [], n0, l0, 4 + n0, Sh.frame l0) := by
    have := f22.spec K 0 n0 [] l0 rfl e0 (by omega) (by omega)
    rw [Nat.zero_add, List.nil_append] at this
    exact this
  have f0_ : (Sh.frame l0).length = 4 + n0 := by rw [frame_length, e0]
  rw [Nat.zero_add, ble_true (Nat.le_refl n0), Bool.and_self, Bool.and_self, cond_t, subI_self _ e0, g0, bind_s]
  simp only []
  rw [Nat.zero_add, ble_true (Nat.le_refl (4 + n0)), Bool.and_self, Bool.and_self, cond_t, subI_self _ f0_]
  obtain ⟨B0, H0, S0, c0_, R0⟩ := f21v1.spec K ([] ++ Sh.frame (strL name) ++ be 4 1) (4 + n0) (Sh.frame l0) f0_ (frame_octets o0) (by omega) _ _ _ R (by omega)
  rw [c0_, bind_s]
  simp only []
  rw [f24.spec K _ _ _ _ R0 (by omega), bind_s]
  simp only []
  have hM : [] ++ Sh.frame (strL name) ++ be 4 1 ++ Sh.frame l0 = Sh.cut (strL name) [l0] := by
    simp only [Sh.cut, List.nil_append, List.length_cons, List.length_nil, List.flatMap_cons, List.flatMap_nil, List.append_nil, List.append_assoc]
  rw [hM, ← Sh.sha]
def Tg.of (s : List Int) : List Int := spl [32, 1, 0, 33, 0, 0, 0, 0, 0, 0, 0, 0, 0, 0, 0, 0] 4 12 (subI s 10 22)
def Tg.sum (A : Nat) : List Int := Sh.sha (strL f8.k0) [be 32 A]
theorem f8.spec (K A : Nat) (hA : A < 2 ^ 256) (hK : 1000 < K) : f8.F K (num A) = some (Tg.of (Tg.sum A)) := by
  have hs : f8.k0.size = 3 := rfl
  simp only [f8.F, f8.T]
  have e : f15.F K (0, num A, 0, []) = some (0 + 32, 0 + 32, 0, [], 0 + 32, [] ++ be 32 A) := f15.spec K 0 A [] rfl hA (by omega)
  rw [e, bind_s]
  simp only [Nat.zero_add, List.nil_append]
  rw [ble_true (Nat.le_refl 32), Bool.and_self, Bool.and_self, cond_t, subI_self _ (be_length 32 A), f14.spec K f8.k0 32 (be 32 A) (by omega) (be_length _ _) (be_octets _ _) (by omega) (by omega) (by omega), bind_s]
  rfl
theorem Tg.of_eq (s : List Int) : Tg.of s = [32, 1, 0, 33, s.getD 10 0, s.getD 11 0, s.getD 12 0, s.getD 13 0, s.getD 14 0, s.getD 15 0, s.getD 16 0, s.getD 17 0, s.getD 18 0, s.getD 19 0, s.getD 20 0, s.getD 21 0] := rfl
theorem Tg.of_get (s : List Int) (i : Nat) (hi : i < 16) (h4 : 4 ≤ i) : (Tg.of s).getD i 0 = s.getD (i + 6) 0 := by
  rw [Tg.of_eq]
  rcases (by omega : i = 4 ∨ i = 5 ∨ i = 6 ∨ i = 7 ∨ i = 8 ∨ i = 9 ∨ i = 10 ∨ i = 11 ∨ i = 12 ∨ i = 13 ∨ i = 14 ∨ i = 15) with rfl | rfl | rfl | rfl | rfl | rfl | rfl | rfl | rfl | rfl | rfl | rfl <;> rfl
theorem Tg.of_low (s : List Int) : (Tg.of s).getD 0 0 = 32 ∧ (Tg.of s).getD 1 0 = 1 ∧ (Tg.of s).getD 2 0 = 0 ∧ (Tg.of s).getD 3 0 = 33 := ⟨rfl, rfl, rfl, rfl⟩
theorem f4.holds (A : Nat) (hA : A < 2 ^ 256) : f4.F 100000 (num A) = some true := by
  have hs : f4.k0.size = 3 := rfl
  simp only [f4.F, f4.T]
  have e : f15.F 100000 (0, num A, 0, []) = some (0 + 32, 0 + 32, 0, [], 0 + 32, [] ++ be 32 A) := f15.spec 100000 0 A [] rfl hA (by omega)
  rw [f8.spec 100000 A hA (by omega), bind_s, e, bind_s]
  simp only [Nat.zero_add, List.nil_append]
  rw [ble_true (Nat.le_refl 32), Bool.and_self, Bool.and_self, cond_t, subI_self _ (be_length 32 A), f14.spec 100000 f4.k0 32 (be 32 A) (by omega) (be_length _ _) (be_octets _ _) (by omega) (by omega) (by omega), bind_s]
  simp only []
  rw [show Sh.sha (strL f4.k0) [be 32 A] = Tg.sum A from rfl]
  generalize Tg.sum A = s
  have := iter_for (stp := f4.s0 100000) (N := 12) (fun i => (((4 + i : Nat) : Int), Tg.of s, s)) (y := some (.inr (Tg.of s))) ?_ ?_ (show 12 < 100000 by omega)
  · rw [show iter (f4.s0 100000) 100000 (4, Tg.of s, s) = _ from this, bind_s, altr]
    obtain ⟨h0, h1, h2, h3⟩ := Tg.of_low s
    rw [h0, h1, h2, h3, f5.spec 100000 (by omega), bind_s]
    rfl
  · intro i hi rec
    simp only [f4.s0, f4.s0t]
    have e6 : IntKind.wrap .i64 (((4 + i : Nat) : Int) + 6) = ((4 + i + 6 : Nat) : Int) := by rw [wrap_i _ (by omega) (by omega)]; omega
    simp only [e6, Int.toNat_natCast]
    rw [decide_eq_true (show ((4 + i : Nat) : Int) < 16 by omega), cond_t, decide_eq_true (show (0 : Int) ≤ ((4 + i : Nat) : Int) ∧ ((4 + i : Nat) : Int) < 16 by omega), cond_t, decide_eq_true (show (0 : Int) ≤ ((4 + i + 6 : Nat) : Int) ∧ ((4 + i + 6 : Nat) : Int) < 32 by omega), cond_t, Tg.of_get s (4 + i) (by omega) (by omega), show ((List.getD s (4 + i + 6) 0) != (List.getD s (4 + i + 6) 0)) = false by simp, cond_f, wrap_i _ (by omega) (by omega)]
    rfl
  · intro rec
    simp only [f4.s0, f4.s0t]
    rw [decide_eq_false (show ¬ (((4 + 12 : Nat) : Int) < 16) by omega), cond_f]
end Go.Proofs
