/- Go functions: for each a Lean function with the same answers, and the proof that the call comes to them, with no condition. -/
import Derived.Test.YtjkelipglcnpmaaFl
import Derived.Test.YtjkelipglcnpmaaFw
namespace Go.Proofs
open Go.VM
noncomputable def f155.c : Code := bodyOf Try.f155
def f155.lp (_ : Nat) : Nat → Option (Hint × Summ) := fun _ => none
noncomputable def f155.tab (_K : Nat) : List (Nat × Entry) := []
theorem f155.tabOK (K : Nat) : SpecOK Try.prog (tabSp (f155.tab K)) := tab_ok ( tab_nil)
theorem f155.loops (K : Nat) : LoopsOK Try.prog 17 0 (f155.lp K) f155.c := loops_ok (by
  have h : loopsIn (f155.lp K) f155.c = [] := by kernel_rfl
  rw [h]; simp)
def f155.T (_K : Nat) (a0 : Int) (a1 : Int) : Option (Int) :=
  let v2 := bits .and .u64 (IntKind.wrap .u64 a1) 31
  bif decide (0 ≤ v2) then
    let v4 := IntKind.wrap .u64 (32 - v2)
    bif decide (0 ≤ v4) then
      some (bits .or .u32 (shiftI .shl .u32 a0 v2) (shiftI .shr .u32 a0 v4))
    else
      none
  else
    none
def f155.F (K : Nat) (x : Int × Int) : Option (Int) := f155.T K x.1 x.2
def f155.av (x : Int × Int) : List VV := [.int .u32 x.1, .int .i64 x.2]
def f155.bl (_x : Int × Int) : List (Nat × Blk) := []
def f155.inA : VS → Option (Int × Int)
  | ⟨[(0, .int .u32 a0), (1, .int .i64 a1)], [], 0⟩ => some (a0, a1)
  | _ => none
def f155.o0 (y : Int) : VS := ⟨[(0, .int .u32 y)], [], 0⟩
def f155.des : ∀ α : Type, Int → (VS → Option α) → Option α := (dv1 f155.o0)
def f155.out : Int → VS := f155.o0
def f155.inR : VS → Option (Int)
  | ⟨[(0, .int .u32 y)], [], 0⟩ => some y
  | _ => none
noncomputable def f155.E (K : Nat) : Entry := genE 0 f155.inA (f155.F K) f155.des
theorem f155.eq (K : Nat) (x : Int × Int) : f155.F K x = xrun (getA tys) (tabSp (f155.tab K)) Try.f155.ntmps 0 (f155.lp K) 400 f155.c ⟨initL 0 (f155.av x), f155.bl x, 0⟩ (contF (getA tys) 0 Try.f155.results.toList f155.inR) := by kernel_rfl
theorem f155.ok (K : Nat) : EntryOK Try.prog 155 (f155.E K) :=
  gen_ok mix tys_ok (f155.tabOK K) Try.func155 (by kernel_rfl : Try.f155.body = some f155.c) (by kernel_rfl) (f155.loops K) (av := f155.av) (bl := f155.bl) (out := f155.out) (fuel := 400)
    (by intro s x h; unfold f155.inA at h; split at h <;> simp at h; subst h; rfl) (fun _ => Nat.le_of_ble_eq_true rfl)
    (by intro s y h; unfold f155.inR at h; split at h <;> simp at h <;> subst h <;> rfl) (fun _ _ _ => rfl) (f155.eq K)
end Go.Proofs

namespace Go.Proofs
open Go.VM
noncomputable def f153.c : Code := bodyOf Try.f153
def f153.s0t (K : Nat) (rec : Int × Int × Nat × Int × Int × Nat × List Int → Option (Int × Nat × List Int)) (t0 : Int) (t5 : Int) (t8 : Nat) (t9 : Int) (t10 : Int) (b0_0 : Nat) (b0_1 : List Int) : Option (Int × Nat × List Int) :=
  bif (decide (t10 < t9)) then
    bif decide (0 ≤ t10 ∧ t10 < ((t8 : Nat) : Int)) then
      let v3 := 0 + (Int.toNat t10)
      bif Nat.blt v3 b0_0 then
        (f155.F K (t0, (IntKind.wrap .i64 (0 - (List.getD b0_1 v3 0))))).bind fun y6 =>
        rec (t0, (bits .xor .u32 t5 y6), t8, t9, (IntKind.wrap .i64 (t10 + 1)), b0_0, b0_1)
      else
        none
    else
      none
  else
    some (t5, b0_0, b0_1)
def f153.s0 (K : Nat) (rec : Int × Int × Nat × Int × Int × Nat × List Int → Option (Int × Nat × List Int)) (x : Int × Int × Nat × Int × Int × Nat × List Int) : Option (Int × Nat × List Int) := f153.s0t K rec x.1 x.2.1 x.2.2.1 x.2.2.2.1 x.2.2.2.2.1 x.2.2.2.2.2.1 x.2.2.2.2.2.2
noncomputable def f153.s0.b : Code := (findLoop 0 f153.c).getD .skip
def f153.s0.h : Hint := { lv := [0, 5, 8, 9, 10] }
def f153.s0.ho : Hint := { lv := [5] }
def f153.s0.shp (x : Int × Int × Nat × Int × Int × Nat × List Int) : VS := ⟨[(0, .int .u32 x.1), (5, .int .u32 x.2.1), (8, .vw true 0 0 x.2.2.1 1), (9, .int .i64 x.2.2.2.1), (10, .int .i64 x.2.2.2.2.1)], [(0, ([.ints .i64 x.2.2.2.2.2.1 x.2.2.2.2.2.2], 0, .ro))], 2⟩
def f153.s0.inX : VS → Option (Int × Int × Nat × Int × Int × Nat × List Int)
  | ⟨[(0, .int .u32 t0), (5, .int .u32 t5), (8, .vw true 0 0 t8 1), (9, .int .i64 t9), (10, .int .i64 t10)], [(0, ([.ints .i64 b0_0 b0_1], 0, .ro))], 2⟩ => some (t0, t5, t8, t9, t10, b0_0, b0_1)
  | _ => none
def f153.s0.o0 (y : Int × Nat × List Int) : VS := ⟨[(5, .int .u32 y.1)], [(0, ([.ints .i64 y.2.1 y.2.2], 0, .ro))], 2⟩
def f153.s0.des : ∀ α : Type, (Int × Nat × List Int) → (Ex → VS → Option α) → Option α := (des1 (.exit 0) f153.s0.o0)
def f153.s0.out : Int × Nat × List Int → Ex × VS := (fun y => (.exit 0, f153.s0.o0 y))
theorem f153.s0.desOK : ∀ α y (k : Ex → VS → Option α), f153.s0.des α y k = k (f153.s0.out y).1 (f153.s0.out y).2 := (fun _ _ _ => rfl)
def f153.s0.inY : Ex → VS → Option (Int × Nat × List Int)
  | .exit 0, ⟨[(5, .int .u32 t5)], [(0, ([.ints .i64 b0_0 b0_1], 0, .ro))], 2⟩ => some (t5, b0_0, b0_1)
  | _, _ => none
def f153.lp (K : Nat) : Nat → Option (Hint × Summ) := tabLp [(0, f153.s0.h, summOf (iter (f153.s0 K) K) f153.s0.inX f153.s0.des)]
noncomputable def f153.tab (K : Nat) : List (Nat × Entry) := [(155, (f155.E K))]
theorem f153.tabOK (K : Nat) : SpecOK Try.prog (tabSp (f153.tab K)) := tab_ok ((tab_cons (f155.ok K) tab_nil))
theorem f153.s0.eq (K : Nat) (rec : Int × Int × Nat × Int × Int × Nat × List Int → Option (Int × Nat × List Int)) (x : Int × Int × Nat × Int × Int × Nat × List Int) : f153.s0 K rec x = roundL (getA tys) (tabSp (f153.tab K)) 22 2 (f153.lp K) 400 f153.s0.b f153.s0.h f153.s0.ho f153.s0.shp f153.s0.inX f153.s0.inY rec x := by kernel_rfl
theorem f153.s0.lok (K : Nat) : LoopsOK Try.prog 22 2 (f153.lp K) f153.s0.b := loops_ok (by
  have h : loopsIn (f153.lp K) f153.s0.b = [] := by kernel_rfl
  rw [h]; simp)
theorem f153.s0.ok (K : Nat) : SummOK Try.prog 22 2 (summOf (iter (f153.s0 K) K) f153.s0.inX f153.s0.des) f153.s0.b :=
  loop_ok mix tys_ok (f153.tabOK K) (h := f153.s0.h) (ho := f153.s0.ho) (shp := f153.s0.shp) (inX := f153.s0.inX) (des := f153.s0.des) (out := f153.s0.out) (inY := f153.s0.inY) (fuel := 400)
    (by intro st x h; unfold f153.s0.inX at h; split at h <;> simp at h; subst h; rfl)
    (by intro e st y h; unfold f153.s0.inY at h; split at h <;> simp at h <;> subst h <;> rfl)
    f153.s0.desOK (f153.s0.lok K) (f153.s0 K) (f153.s0.eq K) K
theorem f153.loops (K : Nat) : LoopsOK Try.prog 22 2 (f153.lp K) f153.c := loops_ok (by
  have h : loopsIn (f153.lp K) f153.c = [(0, f153.s0.b)] := by kernel_rfl
  rw [h]
  intro p hp
  simp only [List.mem_cons, List.not_mem_nil, or_false] at hp
  rcases hp with rfl
  · exact ⟨_, rfl, (f153.s0.ok K)⟩)
def f153.T (K : Nat) (a0 : Int) (a1 : Nat) (m0_0 : Nat) (m0_1 : List Int) : Option (Int × Nat × List Int) :=
  (iter (f153.s0 K) K (a0, 0, a1, ((a1 : Nat) : Int), 0, m0_0, m0_1)).bind fun y9 =>
  some (y9.1, y9.2.1, y9.2.2)
def f153.F (K : Nat) (x : Int × Nat × Nat × List Int) : Option (Int × Nat × List Int) := f153.T K x.1 x.2.1 x.2.2.1 x.2.2.2
def f153.av (x : Int × Nat × Nat × List Int) : List VV := [.int .u32 x.1, .vw true 0 0 x.2.1 1]
def f153.bl (x : Int × Nat × Nat × List Int) : List (Nat × Blk) := [(0, ([.ints .i64 x.2.2.1 x.2.2.2], 0, .ro))]
def f153.inA : VS → Option (Int × Nat × Nat × List Int)
  | ⟨[(0, .int .u32 a0), (1, .vw true 0 0 a1 1)], [(0, ([.ints .i64 m0_0 m0_1], 0, .ro))], 2⟩ => some (a0, a1, m0_0, m0_1)
  | _ => none
def f153.o0 (y : Int × Nat × List Int) : VS := ⟨[(0, .int .u32 y.1)], [(0, ([.ints .i64 y.2.1 y.2.2], 0, .ro))], 2⟩
def f153.des : ∀ α : Type, (Int × Nat × List Int) → (VS → Option α) → Option α := (dv1 f153.o0)
def f153.out : Int × Nat × List Int → VS := f153.o0
def f153.inR : VS → Option (Int × Nat × List Int)
  | ⟨[(0, .int .u32 y)], [(0, ([.ints .i64 z0_0 z0_1], 0, .ro))], 2⟩ => some (y, z0_0, z0_1)
  | _ => none
noncomputable def f153.E (K : Nat) : Entry := genE 2 f153.inA (f153.F K) f153.des
theorem f153.eq (K : Nat) (x : Int × Nat × Nat × List Int) : f153.F K x = xrun (getA tys) (tabSp (f153.tab K)) Try.f153.ntmps 2 (f153.lp K) 400 f153.c ⟨initL 0 (f153.av x), f153.bl x, 2⟩ (contF (getA tys) 2 Try.f153.results.toList f153.inR) := by kernel_rfl
theorem f153.ok (K : Nat) : EntryOK Try.prog 153 (f153.E K) :=
  gen_ok mix tys_ok (f153.tabOK K) Try.func153 (by kernel_rfl : Try.f153.body = some f153.c) (by kernel_rfl) (f153.loops K) (av := f153.av) (bl := f153.bl) (out := f153.out) (fuel := 400)
    (by intro s x h; unfold f153.inA at h; split at h <;> simp at h; subst h; rfl) (fun _ => Nat.le_of_ble_eq_true rfl)
    (by intro s y h; unfold f153.inR at h; split at h <;> simp at h <;> subst h <;> rfl) (fun _ _ _ => rfl) (f153.eq K)
end Go.Proofs

namespace Go.Proofs
open Go.VM
noncomputable def f152.c : Code := bodyOf Try.f152
def f152.lp (_ : Nat) : Nat → Option (Hint × Summ) := fun _ => none
noncomputable def f152.tab (_K : Nat) : List (Nat × Entry) := []
theorem f152.tabOK (K : Nat) : SpecOK Try.prog (tabSp (f152.tab K)) := tab_ok ( tab_nil)
theorem f152.loops (K : Nat) : LoopsOK Try.prog 2 0 (f152.lp K) f152.c := loops_ok (by
  have h : loopsIn (f152.lp K) f152.c = [] := by kernel_rfl
  rw [h]; simp)
def f152.T (_K : Nat)  : Option (List Int) :=
  some ([1116352408, 1899447441, 3049323471, 3921009573, 961987163, 1508970993, 2453635748, 2870763221, 3624381080, 310598401, 607225278, 1426881987, 1925078388, 2162078206, 2614888103, 3248222580, 3835390401, 4022224774, 264347078, 604807628, 770255983, 1249150122, 1555081692, 1996064986, 2554220882, 2821834349, 2952996808, 3210313671, 3336571891, 3584528711, 113926993, 338241895, 666307205, 773529912, 1294757372, 1396182291, 1695183700, 1986661051, 2177026350, 2456956037, 2730485921, 2820302411, 3259730800, 3345764771, 3516065817, 3600352804, 4094571909, 275423344, 430227734, 506948616, 659060556, 883997877, 958139571, 1322822218, 1537002063, 1747873779, 1955562222, 2024104815, 2227730452, 2361852424, 2428436474, 2756734187, 3204031479, 3329325298])
def f152.F (K : Nat) (_x : Unit) : Option (List Int) := f152.T K
def f152.av (_x : Unit) : List VV := []
def f152.bl (_x : Unit) : List (Nat × Blk) := []
def f152.inA : VS → Option (Unit)
  | ⟨[], [], 0⟩ => some ()
  | _ => none
def f152.o0 (y : List Int) : VS := ⟨[(0, .agg [.ints .u32 64 y])], [], 0⟩
def f152.des : ∀ α : Type, (List Int) → (VS → Option α) → Option α := (dv1 f152.o0)
def f152.out : List Int → VS := f152.o0
def f152.inR : VS → Option (List Int)
  | ⟨[(0, .agg [.ints .u32 64 y])], [], 0⟩ => some y
  | _ => none
noncomputable def f152.E (K : Nat) : Entry := genE 0 f152.inA (f152.F K) f152.des
theorem f152.eq (K : Nat) (x : Unit) : f152.F K x = xrun (getA tys) (tabSp (f152.tab K)) Try.f152.ntmps 0 (f152.lp K) 400 f152.c ⟨initL 0 (f152.av x), f152.bl x, 0⟩ (contF (getA tys) 0 Try.f152.results.toList f152.inR) := by kernel_rfl
theorem f152.ok (K : Nat) : EntryOK Try.prog 152 (f152.E K) :=
  gen_ok mix tys_ok (f152.tabOK K) Try.func152 (by kernel_rfl : Try.f152.body = some f152.c) (by kernel_rfl) (f152.loops K) (av := f152.av) (bl := f152.bl) (out := f152.out) (fuel := 400)
    (by intro s x h; unfold f152.inA at h; split at h <;> simp at h; rfl) (fun _ => Nat.le_of_ble_eq_true rfl)
    (by intro s y h; unfold f152.inR at h; split at h <;> simp at h <;> subst h <;> rfl) (fun _ _ _ => rfl) (f152.eq K)
end Go.Proofs

namespace Go.Proofs
open Go.VM
noncomputable def f146.c : Code := bodyOf Try.f146
def f146.s0t (_K : Nat) (rec : Int × Int × Nat × List Int × List Int → Option (Int × Nat × List Int)) (t4 : Int) (t23 : Int) (b0_0 : Nat) (b0_1 : List Int) (b2 : List Int) : Option (Int × Nat × List Int) :=
  bif (decide (t23 < 8)) then
    bif decide (0 ≤ t23 ∧ t23 < 8) then
      rec ((IntKind.wrap .u64 ((IntKind.wrap .u64 (256 * t4)) + (IntKind.wrap .u64 (List.getD b2 (Int.toNat t23) 0)))), (IntKind.wrap .i64 (t23 + 1)), b0_0, b0_1, b2)
    else
      none
  else
    some (t4, b0_0, b0_1)
def f146.s0 (K : Nat) (rec : Int × Int × Nat × List Int × List Int → Option (Int × Nat × List Int)) (x : Int × Int × Nat × List Int × List Int) : Option (Int × Nat × List Int) := f146.s0t K rec x.1 x.2.1 x.2.2.1 x.2.2.2.1 x.2.2.2.2
noncomputable def f146.s0.b : Code := (findLoop 0 f146.c).getD .skip
def f146.s0.h : Hint := { lv := [4, 6, 23] }
def f146.s0.ho : Hint := { lv := [4] }
def f146.s0.shp (x : Int × Int × Nat × List Int × List Int) : VS := ⟨[(4, .int .u64 x.1), (6, .ptr 2 0), (23, .int .i64 x.2.1)], [(0, ([.ints .u8 x.2.2.1 x.2.2.2.1], 0, .ro)), (2, ([.ints .u8 8 x.2.2.2.2], 150, .norm))], 3⟩
def f146.s0.inX : VS → Option (Int × Int × Nat × List Int × List Int)
  | ⟨[(4, .int .u64 t4), (6, .ptr 2 0), (23, .int .i64 t23)], [(0, ([.ints .u8 b0_0 b0_1], 0, .ro)), (2, ([.ints .u8 8 b2], 150, .norm))], 3⟩ => some (t4, t23, b0_0, b0_1, b2)
  | _ => none
def f146.s0.o0 (y : Int × Nat × List Int) : VS := ⟨[(4, .int .u64 y.1)], [(0, ([.ints .u8 y.2.1 y.2.2], 0, .ro))], 2⟩
def f146.s0.des : ∀ α : Type, (Int × Nat × List Int) → (Ex → VS → Option α) → Option α := (des1 (.exit 0) f146.s0.o0)
def f146.s0.out : Int × Nat × List Int → Ex × VS := (fun y => (.exit 0, f146.s0.o0 y))
theorem f146.s0.desOK : ∀ α y (k : Ex → VS → Option α), f146.s0.des α y k = k (f146.s0.out y).1 (f146.s0.out y).2 := (fun _ _ _ => rfl)
def f146.s0.inY : Ex → VS → Option (Int × Nat × List Int)
  | .exit 0, ⟨[(4, .int .u64 t4)], [(0, ([.ints .u8 b0_0 b0_1], 0, .ro))], 2⟩ => some (t4, b0_0, b0_1)
  | _, _ => none
def f146.lp (K : Nat) : Nat → Option (Hint × Summ) := tabLp [(0, f146.s0.h, summOf (iter (f146.s0 K) K) f146.s0.inX f146.s0.des)]
noncomputable def f146.tab (_K : Nat) : List (Nat × Entry) := []
theorem f146.tabOK (K : Nat) : SpecOK Try.prog (tabSp (f146.tab K)) := tab_ok ( tab_nil)
theorem f146.s0.eq (K : Nat) (rec : Int × Int × Nat × List Int × List Int → Option (Int × Nat × List Int)) (x : Int × Int × Nat × List Int × List Int) : f146.s0 K rec x = roundL (getA tys) (tabSp (f146.tab K)) 35 2 (f146.lp K) 400 f146.s0.b f146.s0.h f146.s0.ho f146.s0.shp f146.s0.inX f146.s0.inY rec x := by kernel_rfl
theorem f146.s0.lok (K : Nat) : LoopsOK Try.prog 35 2 (f146.lp K) f146.s0.b := loops_ok (by
  have h : loopsIn (f146.lp K) f146.s0.b = [] := by kernel_rfl
  rw [h]; simp)
theorem f146.s0.ok (K : Nat) : SummOK Try.prog 35 2 (summOf (iter (f146.s0 K) K) f146.s0.inX f146.s0.des) f146.s0.b :=
  loop_ok mix tys_ok (f146.tabOK K) (h := f146.s0.h) (ho := f146.s0.ho) (shp := f146.s0.shp) (inX := f146.s0.inX) (des := f146.s0.des) (out := f146.s0.out) (inY := f146.s0.inY) (fuel := 400)
    (by intro st x h; unfold f146.s0.inX at h; split at h <;> simp at h; subst h; rfl)
    (by intro e st y h; unfold f146.s0.inY at h; split at h <;> simp at h <;> subst h <;> rfl)
    f146.s0.desOK (f146.s0.lok K) (f146.s0 K) (f146.s0.eq K) K
theorem f146.loops (K : Nat) : LoopsOK Try.prog 35 2 (f146.lp K) f146.c := loops_ok (by
  have h : loopsIn (f146.lp K) f146.c = [(0, f146.s0.b)] := by kernel_rfl
  rw [h]
  intro p hp
  simp only [List.mem_cons, List.not_mem_nil, or_false] at hp
  rcases hp with rfl
  · exact ⟨_, rfl, (f146.s0.ok K)⟩)
def f146.T (K : Nat) (a0 : Nat) (a1 : Int) (m0_0 : Nat) (m0_1 : List Int) : Option (Int × Int × Nat × List Int) :=
  bif (decide (a1 < 0)) then
    some (0, 1, m0_0, m0_1)
  else
    bif (decide (a1 > 8)) then
      some (0, 1, m0_0, m0_1)
    else
      bif (decide (((a0 : Nat) : Int) < a1)) then
        some (0, 5, m0_0, m0_1)
      else
        let v5 := IntKind.wrap .i64 (8 - a1)
        bif decide (0 ≤ v5 ∧ v5 ≤ 8) then
          let v6 := bif Nat.beq 8 (Int.toNat v5) then 0 else 0 + (Int.toNat v5)
          let v7 := 8 - (Int.toNat v5)
          bif ((Nat.ble (0 + a0) m0_0 && (Nat.ble (v6 + v7) 8)) && (Nat.beq a0 a0)) then
            (iter (f146.s0 K) K (0, 0, m0_0, m0_1, (spl [0, 0, 0, 0, 0, 0, 0, 0] v6 (Nat.min a0 v7) (subI m0_1 0 a0)))).bind fun y18 =>
            some (y18.1, 0, y18.2.1, y18.2.2)
          else
            none
        else
          none
def f146.F (K : Nat) (x : Nat × Int × Nat × List Int) : Option (Int × Int × Nat × List Int) := f146.T K x.1 x.2.1 x.2.2.1 x.2.2.2
def f146.av (x : Nat × Int × Nat × List Int) : List VV := [.vw true 0 0 x.1 1, .int .i64 x.2.1]
def f146.bl (x : Nat × Int × Nat × List Int) : List (Nat × Blk) := [(0, ([.ints .u8 x.2.2.1 x.2.2.2], 0, .ro))]
def f146.inA : VS → Option (Nat × Int × Nat × List Int)
  | ⟨[(0, .vw true 0 0 a0 1), (1, .int .i64 a1)], [(0, ([.ints .u8 m0_0 m0_1], 0, .ro))], 2⟩ => some (a0, a1, m0_0, m0_1)
  | _ => none
def f146.o0 (y : Int × Int × Nat × List Int) : VS := ⟨[(0, .tup [.int .u64 y.1, .int .i64 y.2.1])], [(0, ([.ints .u8 y.2.2.1 y.2.2.2], 0, .ro))], 2⟩
def f146.des : ∀ α : Type, (Int × Int × Nat × List Int) → (VS → Option α) → Option α := (dv1 f146.o0)
def f146.out : Int × Int × Nat × List Int → VS := f146.o0
def f146.inR : VS → Option (Int × Int × Nat × List Int)
  | ⟨[(0, .tup [.int .u64 y_0, .int .i64 y_1])], [(0, ([.ints .u8 z0_0 z0_1], 0, .ro))], 2⟩ => some (y_0, y_1, z0_0, z0_1)
  | _ => none
noncomputable def f146.E (K : Nat) : Entry := genE 2 f146.inA (f146.F K) f146.des
theorem f146.eq (K : Nat) (x : Nat × Int × Nat × List Int) : f146.F K x = xrun (getA tys) (tabSp (f146.tab K)) Try.f146.ntmps 2 (f146.lp K) 400 f146.c ⟨initL 0 (f146.av x), f146.bl x, 2⟩ (contF (getA tys) 2 Try.f146.results.toList f146.inR) := by kernel_rfl
theorem f146.ok (K : Nat) : EntryOK Try.prog 146 (f146.E K) :=
  gen_ok mix tys_ok (f146.tabOK K) Try.func146 (by kernel_rfl : Try.f146.body = some f146.c) (by kernel_rfl) (f146.loops K) (av := f146.av) (bl := f146.bl) (out := f146.out) (fuel := 400)
    (by intro s x h; unfold f146.inA at h; split at h <;> simp at h; subst h; rfl) (fun _ => Nat.le_of_ble_eq_true rfl)
    (by intro s y h; unfold f146.inR at h; split at h <;> simp at h <;> subst h <;> rfl) (fun _ _ _ => rfl) (f146.eq K)
end Go.Proofs

namespace Go.Proofs
open Go.VM
noncomputable def f139.c : Code := bodyOf Try.f139
def f139.s0t (K : Nat) (rec : Nat × Int × Int × Nat × List Int × List Int → Option ((Int × Nat × List Int × List Int) ⊕ (Int × Nat × List Int × List Int))) (t0 : Nat) (t3 : Int) (t6 : Int) (b0_0 : Nat) (b0_1 : List Int) (b2 : List Int) : Option ((Int × Nat × List Int × List Int) ⊕ (Int × Nat × List Int × List Int)) :=
  bif (decide (t6 < 4)) then
    bif (decide (((t0 : Nat) : Int) < 32)) then
      some (.inl (5, b0_0, b0_1, [0, 0, 0, 0]))
    else
      let v6 := IntKind.wrap .i64 (32 - (IntKind.wrap .i64 (8 * (IntKind.wrap .i64 (t6 + 1)))))
      let v7 := IntKind.wrap .i64 (v6 + 8)
      bif (decide (0 ≤ v7 ∧ v7 ≤ ((t0 : Nat) : Int)) && (decide (0 ≤ v6 ∧ v6 ≤ ((Int.toNat v7 : Nat) : Int)))) then
        let v8 := 0 + (Int.toNat v6)
        let v9 := (Int.toNat v7) - (Int.toNat v6)
        bif ((Nat.ble (v8 + v9) b0_0 && true) && true) then
          (f146.F K (v9, 8, v9, (subI b0_1 v8 v9))).bind fun y10 =>
          bif decide (0 ≤ t6 ∧ t6 < 4) then
            rec (t0, y10.2.1, (IntKind.wrap .i64 (t6 + 1)), b0_0, b0_1, (setD b2 (Int.toNat t6) y10.1))
          else
            none
        else
          none
      else
        none
  else
    some (.inr (t3, b0_0, b0_1, b2))
def f139.s0 (K : Nat) (rec : Nat × Int × Int × Nat × List Int × List Int → Option ((Int × Nat × List Int × List Int) ⊕ (Int × Nat × List Int × List Int))) (x : Nat × Int × Int × Nat × List Int × List Int) : Option ((Int × Nat × List Int × List Int) ⊕ (Int × Nat × List Int × List Int)) := f139.s0t K rec x.1 x.2.1 x.2.2.1 x.2.2.2.1 x.2.2.2.2.1 x.2.2.2.2.2
noncomputable def f139.s0.b : Code := (findLoop 0 f139.c).getD .skip
def f139.s0.h : Hint := { lv := [0, 2, 3, 6] }
def f139.s0.ho : Hint := { lv := [2, 3] }
def f139.s0.shp (x : Nat × Int × Int × Nat × List Int × List Int) : VS := ⟨[(0, .vw true 0 0 x.1 1), (2, .ptr 2 0), (3, .int .i64 x.2.1), (6, .int .i64 x.2.2.1)], [(0, ([.ints .u8 x.2.2.2.1 x.2.2.2.2.1], 0, .ro)), (2, ([.ints .u64 4 x.2.2.2.2.2], 24, .norm))], 3⟩
def f139.s0.inX : VS → Option (Nat × Int × Int × Nat × List Int × List Int)
  | ⟨[(0, .vw true 0 0 t0 1), (2, .ptr 2 0), (3, .int .i64 t3), (6, .int .i64 t6)], [(0, ([.ints .u8 b0_0 b0_1], 0, .ro)), (2, ([.ints .u64 4 b2], 24, .norm))], 3⟩ => some (t0, t3, t6, b0_0, b0_1, b2)
  | _ => none
def f139.s0.o0 (y : Int × Nat × List Int × List Int) : VS := ⟨[(2, .ptr 2 0), (3, .int .i64 y.1)], [(0, ([.ints .u8 y.2.1 y.2.2.1], 0, .ro)), (2, ([.ints .u64 4 y.2.2.2], 24, .norm))], 3⟩
def f139.s0.o1 (y : Int × Nat × List Int × List Int) : VS := ⟨[(2, .ptr 2 0), (3, .int .i64 y.1)], [(0, ([.ints .u8 y.2.1 y.2.2.1], 0, .ro)), (2, ([.ints .u64 4 y.2.2.2], 24, .norm))], 3⟩
def f139.s0.des : ∀ α : Type, ((Int × Nat × List Int × List Int) ⊕ (Int × Nat × List Int × List Int)) → (Ex → VS → Option α) → Option α := (desA (des1 (.ret) f139.s0.o0) (des1 (.exit 0) f139.s0.o1))
def f139.s0.out : (Int × Nat × List Int × List Int) ⊕ (Int × Nat × List Int × List Int) → Ex × VS := (alt (fun y => (.ret, f139.s0.o0 y)) (fun y => (.exit 0, f139.s0.o1 y)))
theorem f139.s0.desOK : ∀ α y (k : Ex → VS → Option α), f139.s0.des α y k = k (f139.s0.out y).1 (f139.s0.out y).2 := (desA_ok (fun _ _ _ => rfl) (fun _ _ _ => rfl))
def f139.s0.inY : Ex → VS → Option ((Int × Nat × List Int × List Int) ⊕ (Int × Nat × List Int × List Int))
  | .ret, ⟨[(2, .ptr 2 0), (3, .int .i64 t3)], [(0, ([.ints .u8 b0_0 b0_1], 0, .ro)), (2, ([.ints .u64 4 b2], 24, .norm))], 3⟩ => some (.inl (t3, b0_0, b0_1, b2))
  | .exit 0, ⟨[(2, .ptr 2 0), (3, .int .i64 t3)], [(0, ([.ints .u8 b0_0 b0_1], 0, .ro)), (2, ([.ints .u64 4 b2], 24, .norm))], 3⟩ => some (.inr (t3, b0_0, b0_1, b2))
  | _, _ => none
def f139.lp (K : Nat) : Nat → Option (Hint × Summ) := tabLp [(0, f139.s0.h, summOf (iter (f139.s0 K) K) f139.s0.inX f139.s0.des)]
noncomputable def f139.tab (K : Nat) : List (Nat × Entry) := [(146, (viewE [(0, .u8)] (f146.E K)))]
theorem f139.tabOK (K : Nat) : SpecOK Try.prog (tabSp (f139.tab K)) := tab_ok ((tab_cons (view_ok (f146.ok K)) tab_nil))
theorem f139.s0.eq (K : Nat) (rec : Nat × Int × Int × Nat × List Int × List Int → Option ((Int × Nat × List Int × List Int) ⊕ (Int × Nat × List Int × List Int))) (x : Nat × Int × Int × Nat × List Int × List Int) : f139.s0 K rec x = roundL (getA tys) (tabSp (f139.tab K)) 31 2 (f139.lp K) 400 f139.s0.b f139.s0.h f139.s0.ho f139.s0.shp f139.s0.inX f139.s0.inY rec x := by kernel_rfl
theorem f139.s0.lok (K : Nat) : LoopsOK Try.prog 31 2 (f139.lp K) f139.s0.b := loops_ok (by
  have h : loopsIn (f139.lp K) f139.s0.b = [] := by kernel_rfl
  rw [h]; simp)
theorem f139.s0.ok (K : Nat) : SummOK Try.prog 31 2 (summOf (iter (f139.s0 K) K) f139.s0.inX f139.s0.des) f139.s0.b :=
  loop_ok mix tys_ok (f139.tabOK K) (h := f139.s0.h) (ho := f139.s0.ho) (shp := f139.s0.shp) (inX := f139.s0.inX) (des := f139.s0.des) (out := f139.s0.out) (inY := f139.s0.inY) (fuel := 400)
    (by intro st x h; unfold f139.s0.inX at h; split at h <;> simp at h; subst h; rfl)
    (by intro e st y h; unfold f139.s0.inY at h; split at h <;> simp at h <;> subst h <;> rfl)
    f139.s0.desOK (f139.s0.lok K) (f139.s0 K) (f139.s0.eq K) K
theorem f139.loops (K : Nat) : LoopsOK Try.prog 31 2 (f139.lp K) f139.c := loops_ok (by
  have h : loopsIn (f139.lp K) f139.c = [(0, f139.s0.b)] := by kernel_rfl
  rw [h]
  intro p hp
  simp only [List.mem_cons, List.not_mem_nil, or_false] at hp
  rcases hp with rfl
  · exact ⟨_, rfl, (f139.s0.ok K)⟩)
def f139.T (K : Nat) (a0 : Nat) (m0_0 : Nat) (m0_1 : List Int) : Option (List Int × Int × Nat × List Int) :=
  (iter (f139.s0 K) K (a0, 0, 0, m0_0, m0_1, [0, 0, 0, 0])).bind fun y14 =>
  alt (fun y15 =>
    some (y15.2.2.2, y15.1, y15.2.1, y15.2.2.1)) (fun y16 =>
    some (y16.2.2.2, y16.1, y16.2.1, y16.2.2.1)) y14
def f139.F (K : Nat) (x : Nat × Nat × List Int) : Option (List Int × Int × Nat × List Int) := f139.T K x.1 x.2.1 x.2.2
def f139.av (x : Nat × Nat × List Int) : List VV := [.vw true 0 0 x.1 1]
def f139.bl (x : Nat × Nat × List Int) : List (Nat × Blk) := [(0, ([.ints .u8 x.2.1 x.2.2], 0, .ro))]
def f139.inA : VS → Option (Nat × Nat × List Int)
  | ⟨[(0, .vw true 0 0 a0 1)], [(0, ([.ints .u8 m0_0 m0_1], 0, .ro))], 2⟩ => some (a0, m0_0, m0_1)
  | _ => none
def f139.o0 (y : List Int × Int × Nat × List Int) : VS := ⟨[(0, .tup [.agg [.ints .u64 4 y.1], .int .i64 y.2.1])], [(0, ([.ints .u8 y.2.2.1 y.2.2.2], 0, .ro))], 2⟩
def f139.des : ∀ α : Type, (List Int × Int × Nat × List Int) → (VS → Option α) → Option α := (dv1 f139.o0)
def f139.out : List Int × Int × Nat × List Int → VS := f139.o0
def f139.inR : VS → Option (List Int × Int × Nat × List Int)
  | ⟨[(0, .tup [.agg [.ints .u64 4 y_0], .int .i64 y_1])], [(0, ([.ints .u8 z0_0 z0_1], 0, .ro))], 2⟩ => some (y_0, y_1, z0_0, z0_1)
  | _ => none
noncomputable def f139.E (K : Nat) : Entry := genE 2 f139.inA (f139.F K) f139.des
theorem f139.eq (K : Nat) (x : Nat × Nat × List Int) : f139.F K x = xrun (getA tys) (tabSp (f139.tab K)) Try.f139.ntmps 2 (f139.lp K) 400 f139.c ⟨initL 0 (f139.av x), f139.bl x, 2⟩ (contF (getA tys) 2 Try.f139.results.toList f139.inR) := by kernel_rfl
theorem f139.ok (K : Nat) : EntryOK Try.prog 139 (f139.E K) :=
  gen_ok mix tys_ok (f139.tabOK K) Try.func139 (by kernel_rfl : Try.f139.body = some f139.c) (by kernel_rfl) (f139.loops K) (av := f139.av) (bl := f139.bl) (out := f139.out) (fuel := 400)
    (by intro s x h; unfold f139.inA at h; split at h <;> simp at h; subst h; rfl) (fun _ => Nat.le_of_ble_eq_true rfl)
    (by intro s y h; unfold f139.inR at h; split at h <;> simp at h <;> subst h <;> rfl) (fun _ _ _ => rfl) (f139.eq K)
end Go.Proofs

namespace Go.Proofs
open Go.VM
noncomputable def f144.c : Code := bodyOf Try.f144
def f144.lp (_ : Nat) : Nat → Option (Hint × Summ) := fun _ => none
noncomputable def f144.tab (K : Nat) : List (Nat × Entry) := [(136, (viewE [(0, .u8), (2, .u64)] (f136.E K)))]
theorem f144.tabOK (K : Nat) : SpecOK Try.prog (tabSp (f144.tab K)) := tab_ok ((tab_cons (view_ok (f136.ok K)) tab_nil))
theorem f144.loops (K : Nat) : LoopsOK Try.prog 14 2 (f144.lp K) f144.c := loops_ok (by
  have h : loopsIn (f144.lp K) f144.c = [] := by kernel_rfl
  rw [h]; simp)
def f144.T (K : Nat) (a0 : Nat) (a1 : Int) (a2 : Int) (m0_0 : Nat) (m0_1 : List Int) : Option (Nat × Nat × Nat × List Int × Nat × List Int) :=
  bif ((Nat.ble (0 + a0) m0_0 && true) && true) then
    (f136.F K (a0, (maxE 0 (minE 8 a2)), 1, a0, (subI m0_1 0 a0), 1, [a1])).bind fun y2 =>
    some (y2.1, y2.2.1, m0_0, m0_1, y2.2.2.2.2.2.2.1, y2.2.2.2.2.2.2.2)
  else
    none
def f144.F (K : Nat) (x : Nat × Int × Int × Nat × List Int) : Option (Nat × Nat × Nat × List Int × Nat × List Int) := f144.T K x.1 x.2.1 x.2.2.1 x.2.2.2.1 x.2.2.2.2
def f144.av (x : Nat × Int × Int × Nat × List Int) : List VV := [.vw true 0 0 x.1 1, .int .u64 x.2.1, .int .i64 x.2.2.1]
def f144.bl (x : Nat × Int × Int × Nat × List Int) : List (Nat × Blk) := [(0, ([.ints .u8 x.2.2.2.1 x.2.2.2.2], 0, .ro))]
def f144.inA : VS → Option (Nat × Int × Int × Nat × List Int)
  | ⟨[(0, .vw true 0 0 a0 1), (1, .int .u64 a1), (2, .int .i64 a2)], [(0, ([.ints .u8 m0_0 m0_1], 0, .ro))], 2⟩ => some (a0, a1, a2, m0_0, m0_1)
  | _ => none
def f144.o0 (y : Nat × Nat × Nat × List Int × Nat × List Int) : VS := ⟨[(0, .sl 2 0 y.1 y.2.1)], [(0, ([.ints .u8 y.2.2.1 y.2.2.2.1], 0, .ro)), (2, ([.ints .u8 y.2.2.2.2.1 y.2.2.2.2.2], 5, .norm))], 3⟩
def f144.des : ∀ α : Type, (Nat × Nat × Nat × List Int × Nat × List Int) → (VS → Option α) → Option α := (dv1 f144.o0)
def f144.out : Nat × Nat × Nat × List Int × Nat × List Int → VS := f144.o0
def f144.inR : VS → Option (Nat × Nat × Nat × List Int × Nat × List Int)
  | ⟨[(0, .sl 2 0 y_0 y_1)], [(0, ([.ints .u8 z0_0 z0_1], 0, .ro)), (2, ([.ints .u8 z2_0 z2_1], 5, .norm))], 3⟩ => some (y_0, y_1, z0_0, z0_1, z2_0, z2_1)
  | _ => none
noncomputable def f144.E (K : Nat) : Entry := genE 2 f144.inA (f144.F K) f144.des
theorem f144.eq (K : Nat) (x : Nat × Int × Int × Nat × List Int) : f144.F K x = xrun (getA tys) (tabSp (f144.tab K)) Try.f144.ntmps 2 (f144.lp K) 400 f144.c ⟨initL 0 (f144.av x), f144.bl x, 2⟩ (contF (getA tys) 2 Try.f144.results.toList f144.inR) := by kernel_rfl
theorem f144.ok (K : Nat) : EntryOK Try.prog 144 (f144.E K) :=
  gen_ok mix tys_ok (f144.tabOK K) Try.func144 (by kernel_rfl : Try.f144.body = some f144.c) (by kernel_rfl) (f144.loops K) (av := f144.av) (bl := f144.bl) (out := f144.out) (fuel := 400)
    (by intro s x h; unfold f144.inA at h; split at h <;> simp at h; subst h; rfl) (fun _ => Nat.le_of_ble_eq_true rfl)
    (by intro s y h; unfold f144.inR at h; split at h <;> simp at h <;> subst h <;> rfl) (fun _ _ _ => rfl) (f144.eq K)
end Go.Proofs

namespace Go.Proofs
open Go.VM
noncomputable def f128.c : Code := bodyOf Try.f128
def f128.lp (_ : Nat) : Nat → Option (Hint × Summ) := fun _ => none
noncomputable def f128.tab (K : Nat) : List (Nat × Entry) := [(136, (viewE [(0, .u8), (2, .u64)] (f136.E K)))]
theorem f128.tabOK (K : Nat) : SpecOK Try.prog (tabSp (f128.tab K)) := tab_ok ((tab_cons (view_ok (f136.ok K)) tab_nil))
theorem f128.loops (K : Nat) : LoopsOK Try.prog 16 2 (f128.lp K) f128.c := loops_ok (by
  have h : loopsIn (f128.lp K) f128.c = [] := by kernel_rfl
  rw [h]; simp)
def f128.T (K : Nat) (a0 : Nat) (a1 : List Int) (m0_0 : Nat) (m0_1 : List Int) : Option (Nat × Nat × Nat × List Int × Nat × List Int) :=
  bif ((Nat.ble (0 + a0) m0_0 && true) && true) then
    (f136.F K (a0, 8, 4, a0, (subI m0_1 0 a0), 4, [(List.getD a1 3 0), (List.getD a1 2 0), (List.getD a1 1 0), (List.getD a1 0 0)])).bind fun y5 =>
    some (y5.1, y5.2.1, m0_0, m0_1, y5.2.2.2.2.2.2.1, y5.2.2.2.2.2.2.2)
  else
    none
def f128.F (K : Nat) (x : Nat × List Int × Nat × List Int) : Option (Nat × Nat × Nat × List Int × Nat × List Int) := f128.T K x.1 x.2.1 x.2.2.1 x.2.2.2
def f128.av (x : Nat × List Int × Nat × List Int) : List VV := [.vw true 0 0 x.1 1, .agg [.ints .u64 4 x.2.1]]
def f128.bl (x : Nat × List Int × Nat × List Int) : List (Nat × Blk) := [(0, ([.ints .u8 x.2.2.1 x.2.2.2], 0, .ro))]
def f128.inA : VS → Option (Nat × List Int × Nat × List Int)
  | ⟨[(0, .vw true 0 0 a0 1), (1, .agg [.ints .u64 4 a1])], [(0, ([.ints .u8 m0_0 m0_1], 0, .ro))], 2⟩ => some (a0, a1, m0_0, m0_1)
  | _ => none
def f128.o0 (y : Nat × Nat × Nat × List Int × Nat × List Int) : VS := ⟨[(0, .sl 2 0 y.1 y.2.1)], [(0, ([.ints .u8 y.2.2.1 y.2.2.2.1], 0, .ro)), (2, ([.ints .u8 y.2.2.2.2.1 y.2.2.2.2.2], 5, .norm))], 3⟩
def f128.des : ∀ α : Type, (Nat × Nat × Nat × List Int × Nat × List Int) → (VS → Option α) → Option α := (dv1 f128.o0)
def f128.out : Nat × Nat × Nat × List Int × Nat × List Int → VS := f128.o0
def f128.inR : VS → Option (Nat × Nat × Nat × List Int × Nat × List Int)
  | ⟨[(0, .sl 2 0 y_0 y_1)], [(0, ([.ints .u8 z0_0 z0_1], 0, .ro)), (2, ([.ints .u8 z2_0 z2_1], 5, .norm))], 3⟩ => some (y_0, y_1, z0_0, z0_1, z2_0, z2_1)
  | _ => none
noncomputable def f128.E (K : Nat) : Entry := genE 2 f128.inA (f128.F K) f128.des
theorem f128.eq (K : Nat) (x : Nat × List Int × Nat × List Int) : f128.F K x = xrun (getA tys) (tabSp (f128.tab K)) Try.f128.ntmps 2 (f128.lp K) 400 f128.c ⟨initL 0 (f128.av x), f128.bl x, 2⟩ (contF (getA tys) 2 Try.f128.results.toList f128.inR) := by kernel_rfl
theorem f128.ok (K : Nat) : EntryOK Try.prog 128 (f128.E K) :=
  gen_ok mix tys_ok (f128.tabOK K) Try.func128 (by kernel_rfl : Try.f128.body = some f128.c) (by kernel_rfl) (f128.loops K) (av := f128.av) (bl := f128.bl) (out := f128.out) (fuel := 400)
    (by intro s x h; unfold f128.inA at h; split at h <;> simp at h; subst h; rfl) (fun _ => Nat.le_of_ble_eq_true rfl)
    (by intro s y h; unfold f128.inR at h; split at h <;> simp at h <;> subst h <;> rfl) (fun _ _ _ => rfl) (f128.eq K)
end Go.Proofs

namespace Go.Proofs
open Go.VM
noncomputable def f149.c : Code := bodyOf Try.f149
def f149.lp (_ : Nat) : Nat → Option (Hint × Summ) := fun _ => none
noncomputable def f149.tab (_K : Nat) : List (Nat × Entry) := []
theorem f149.tabOK (K : Nat) : SpecOK Try.prog (tabSp (f149.tab K)) := tab_ok ( tab_nil)
theorem f149.loops (K : Nat) : LoopsOK Try.prog 27 1 (f149.lp K) f149.c := loops_ok (by
  have h : loopsIn (f149.lp K) f149.c = [] := by kernel_rfl
  rw [h]; simp)
def f149.T (_K : Nat) (a0_0 : Nat) (a0_1 : Nat) (a1 : Int) (m0_0 : Nat) (m0_1 : List Int) : Option ((Nat × Nat × List Int) ⊕ (Nat × Nat × Nat × List Int)) :=
  bif (decide (a1 < 0)) then
    none
  else
    let v5 := IntKind.wrap .i64 (a1 - (IntKind.wrap .i64 (((a0_1 : Nat) : Int) - ((a0_0 : Nat) : Int))))
    bif (decide (v5 > 0)) then
      let v7 := ((a0_1 : Nat) : Int)
      bif (decide (0 ≤ v7 ∧ v7 ≤ ((a0_1 : Nat) : Int)) && true) then
        let v8 := Int.toNat v7
        bif ((((decide (0 ≤ v5) && (fitB ((Int.toNat v5) * 1))) && (Nat.ble v8 m0_0)) && (Nat.ble a0_1 m0_0)) && (fitB ((v8 + (Int.toNat v5)) * 1))) then
          let v9 := v8 + (Int.toNat v5)
          let v10 := v8 + (Int.toNat v5)
          let v12 := ((a0_0 : Nat) : Int)
          bif (decide (0 ≤ v12 ∧ v12 ≤ ((v9 : Nat) : Int)) && (Nat.ble (0 + v9) v10)) then
            some (.inl ((Int.toNat v12), v10, ((padT m0_1 v8) ++ (padT [] (Int.toNat v5)))))
          else
            none
        else
          none
      else
        none
    else
      some (.inr (a0_0, a0_1, m0_0, m0_1))
def f149.F (K : Nat) (x : Nat × Nat × Int × Nat × List Int) : Option ((Nat × Nat × List Int) ⊕ (Nat × Nat × Nat × List Int)) := f149.T K x.1 x.2.1 x.2.2.1 x.2.2.2.1 x.2.2.2.2
def f149.av (x : Nat × Nat × Int × Nat × List Int) : List VV := [.sl 0 0 x.1 x.2.1, .int .i64 x.2.2.1]
def f149.bl (x : Nat × Nat × Int × Nat × List Int) : List (Nat × Blk) := [(0, ([.ints .u8 x.2.2.2.1 x.2.2.2.2], 5, .norm))]
def f149.inA : VS → Option (Nat × Nat × Int × Nat × List Int)
  | ⟨[(0, .sl 0 0 a0_0 a0_1), (1, .int .i64 a1)], [(0, ([.ints .u8 m0_0 m0_1], 5, .norm))], 1⟩ => some (a0_0, a0_1, a1, m0_0, m0_1)
  | _ => none
def f149.o0 (y : Nat × Nat × List Int) : VS := ⟨[(0, .vec 1 0 y.1 2)], [(0, ([], 5, .dead)), (1, ([.ints .u8 y.2.1 y.2.2], 5, .vec 2))], 3⟩
def f149.o1 (y : Nat × Nat × Nat × List Int) : VS := ⟨[(0, .sl 0 0 y.1 y.2.1)], [(0, ([.ints .u8 y.2.2.1 y.2.2.2], 5, .norm))], 1⟩
def f149.des : ∀ α : Type, ((Nat × Nat × List Int) ⊕ (Nat × Nat × Nat × List Int)) → (VS → Option α) → Option α := (dvA (dv1 f149.o0) (dv1 f149.o1))
def f149.out : (Nat × Nat × List Int) ⊕ (Nat × Nat × Nat × List Int) → VS := (alt f149.o0 f149.o1)
def f149.inR : VS → Option ((Nat × Nat × List Int) ⊕ (Nat × Nat × Nat × List Int))
  | ⟨[(0, .vec 1 0 y 2)], [(0, ([], 5, .dead)), (1, ([.ints .u8 z1_0 z1_1], 5, .vec 2))], 3⟩ => some (.inl (y, z1_0, z1_1))
  | ⟨[(0, .sl 0 0 y_0 y_1)], [(0, ([.ints .u8 z0_0 z0_1], 5, .norm))], 1⟩ => some (.inr (y_0, y_1, z0_0, z0_1))
  | _ => none
noncomputable def f149.E (K : Nat) : Entry := genE 1 f149.inA (f149.F K) f149.des
theorem f149.eq (K : Nat) (x : Nat × Nat × Int × Nat × List Int) : f149.F K x = xrun (getA tys) (tabSp (f149.tab K)) Try.f149.ntmps 1 (f149.lp K) 400 f149.c ⟨initL 0 (f149.av x), f149.bl x, 1⟩ (contF (getA tys) 1 Try.f149.results.toList f149.inR) := by kernel_rfl
theorem f149.ok (K : Nat) : EntryOK Try.prog 149 (f149.E K) :=
  gen_ok mix tys_ok (f149.tabOK K) Try.func149 (by kernel_rfl : Try.f149.body = some f149.c) (by kernel_rfl) (f149.loops K) (av := f149.av) (bl := f149.bl) (out := f149.out) (fuel := 400)
    (by intro s x h; unfold f149.inA at h; split at h <;> simp at h; subst h; rfl) (fun _ => Nat.le_of_ble_eq_true rfl)
    (by intro s y h; unfold f149.inR at h; split at h <;> simp at h <;> subst h <;> rfl) (dvA_ok (fun _ _ _ => rfl) (fun _ _ _ => rfl)) (f149.eq K)
end Go.Proofs

namespace Go.Proofs
open Go.VM
noncomputable def f150.c : Code := bodyOf Try.f150
def f150.lp (_ : Nat) : Nat → Option (Hint × Summ) := fun _ => none
noncomputable def f150.tab (_K : Nat) : List (Nat × Entry) := []
theorem f150.tabOK (K : Nat) : SpecOK Try.prog (tabSp (f150.tab K)) := tab_ok ( tab_nil)
theorem f150.loops (K : Nat) : LoopsOK Try.prog 9 2 (f150.lp K) f150.c := loops_ok (by
  have h : loopsIn (f150.lp K) f150.c = [] := by kernel_rfl
  rw [h]; simp)
def f150.T (_K : Nat) (a0 : Nat) (m0_0 : Nat) (m0_1 : List Int) : Option (Nat × Nat × List Int) :=
  let v1 := ((a0 : Nat) : Int)
  let v2 := ((a0 : Nat) : Int)
  bif (((decide (0 ≤ v2 ∧ v2 ≤ ((a0 : Nat) : Int)) && (decide (0 ≤ v1 ∧ v1 ≤ ((Int.toNat v2 : Nat) : Int)))) && true) && (Nat.ble (0 + a0) m0_0)) then
    some ((Int.toNat v1), m0_0, m0_1)
  else
    none
def f150.F (K : Nat) (x : Nat × Nat × List Int) : Option (Nat × Nat × List Int) := f150.T K x.1 x.2.1 x.2.2
def f150.av (x : Nat × Nat × List Int) : List VV := [.vec 0 0 x.1 1]
def f150.bl (x : Nat × Nat × List Int) : List (Nat × Blk) := [(0, ([.ints .u8 x.2.1 x.2.2], 5, .vec 1))]
def f150.inA : VS → Option (Nat × Nat × List Int)
  | ⟨[(0, .vec 0 0 a0 1)], [(0, ([.ints .u8 m0_0 m0_1], 5, .vec 1))], 2⟩ => some (a0, m0_0, m0_1)
  | _ => none
def f150.o0 (y : Nat × Nat × List Int) : VS := ⟨[(0, .vw false 0 0 y.1 2)], [(0, ([.ints .u8 y.2.1 y.2.2], 5, .vec 1))], 3⟩
def f150.des : ∀ α : Type, (Nat × Nat × List Int) → (VS → Option α) → Option α := (dv1 f150.o0)
def f150.out : Nat × Nat × List Int → VS := f150.o0
def f150.inR : VS → Option (Nat × Nat × List Int)
  | ⟨[(0, .vw false 0 0 y 2)], [(0, ([.ints .u8 z0_0 z0_1], 5, .vec 1))], 3⟩ => some (y, z0_0, z0_1)
  | _ => none
noncomputable def f150.E (K : Nat) : Entry := genE 2 f150.inA (f150.F K) f150.des
theorem f150.eq (K : Nat) (x : Nat × Nat × List Int) : f150.F K x = xrun (getA tys) (tabSp (f150.tab K)) Try.f150.ntmps 2 (f150.lp K) 400 f150.c ⟨initL 0 (f150.av x), f150.bl x, 2⟩ (contF (getA tys) 2 Try.f150.results.toList f150.inR) := by kernel_rfl
theorem f150.ok (K : Nat) : EntryOK Try.prog 150 (f150.E K) :=
  gen_ok mix tys_ok (f150.tabOK K) Try.func150 (by kernel_rfl : Try.f150.body = some f150.c) (by kernel_rfl) (f150.loops K) (av := f150.av) (bl := f150.bl) (out := f150.out) (fuel := 400)
    (by intro s x h; unfold f150.inA at h; split at h <;> simp at h; subst h; rfl) (fun _ => Nat.le_of_ble_eq_true rfl)
    (by intro s y h; unfold f150.inR at h; split at h <;> simp at h <;> subst h <;> rfl) (fun _ _ _ => rfl) (f150.eq K)
end Go.Proofs

namespace Go.Proofs
open Go.VM
noncomputable def f143.c : Code := bodyOf Try.f143
def f143.lp (_ : Nat) : Nat → Option (Hint × Summ) := fun _ => none
noncomputable def f143.tab (K : Nat) : List (Nat × Entry) := [(136, (viewE [(0, .u8), (2, .u64)] (f136.E K))), (149, (f149.E K)), (150, (f150.E K))]
theorem f143.tabOK (K : Nat) : SpecOK Try.prog (tabSp (f143.tab K)) := tab_ok ((tab_cons (view_ok (f136.ok K)) (tab_cons (f149.ok K) (tab_cons (f150.ok K) tab_nil))))
theorem f143.loops (K : Nat) : LoopsOK Try.prog 19 4 (f143.lp K) f143.c := loops_ok (by
  have h : loopsIn (f143.lp K) f143.c = [] := by kernel_rfl
  rw [h]; simp)
def f143.T (K : Nat) (a0 : Nat) (a1 : Nat) (m0_0 : Nat) (m0_1 : List Int) (m2_0 : Nat) (m2_1 : List Int) : Option (Nat × Nat × List Int × Nat × List Int × Nat × List Int) :=
  bif ((Nat.ble (0 + a0) m0_0 && true) && true) then
    (f136.F K (a0, 4, 1, a0, (subI m0_1 0 a0), 1, [(IntKind.wrap .u64 ((a1 : Nat) : Int))])).bind fun y3 =>
    (f149.F K (y3.1, y3.2.1, ((a1 : Nat) : Int), y3.2.2.2.2.2.2.1, y3.2.2.2.2.2.2.2)).bind fun y5 =>
    alt (fun y6 =>
      bif ((Nat.ble (0 + a1) m2_0 && (Nat.ble y6.1 y6.2.1)) && (fitB ((y6.1 + a1) * 1))) then
        (f150.F K ((y6.1 + a1), (y6.1 + a1), ((padT y6.2.2 y6.1) ++ (padT (subI m2_1 0 a1) a1)))).bind fun y9 =>
        some (y9.1, m0_0, m0_1, m2_0, m2_1, y9.2.1, y9.2.2)
      else
        none) (fun y7 =>
      bif (((Nat.ble (0 + a1) m2_0 && (Nat.ble y7.1 y7.2.2.1)) && (Nat.ble y7.2.1 y7.2.2.1)) && (fitB ((y7.1 + a1) * 1))) then
        (f150.F K ((y7.1 + a1), (y7.1 + a1), ((padT y7.2.2.2 y7.1) ++ (padT (subI m2_1 0 a1) a1)))).bind fun y11 =>
        some (y11.1, m0_0, m0_1, m2_0, m2_1, y11.2.1, y11.2.2)
      else
        none) y5
  else
    none
def f143.F (K : Nat) (x : Nat × Nat × Nat × List Int × Nat × List Int) : Option (Nat × Nat × List Int × Nat × List Int × Nat × List Int) := f143.T K x.1 x.2.1 x.2.2.1 x.2.2.2.1 x.2.2.2.2.1 x.2.2.2.2.2
def f143.av (x : Nat × Nat × Nat × List Int × Nat × List Int) : List VV := [.vw true 0 0 x.1 1, .vw true 2 0 x.2.1 3]
def f143.bl (x : Nat × Nat × Nat × List Int × Nat × List Int) : List (Nat × Blk) := [(0, ([.ints .u8 x.2.2.1 x.2.2.2.1], 0, .ro)), (2, ([.ints .u8 x.2.2.2.2.1 x.2.2.2.2.2], 0, .ro))]
def f143.inA : VS → Option (Nat × Nat × Nat × List Int × Nat × List Int)
  | ⟨[(0, .vw true 0 0 a0 1), (1, .vw true 2 0 a1 3)], [(0, ([.ints .u8 m0_0 m0_1], 0, .ro)), (2, ([.ints .u8 m2_0 m2_1], 0, .ro))], 4⟩ => some (a0, a1, m0_0, m0_1, m2_0, m2_1)
  | _ => none
def f143.o0 (y : Nat × Nat × List Int × Nat × List Int × Nat × List Int) : VS := ⟨[(0, .vw false 4 0 y.1 5)], [(0, ([.ints .u8 y.2.1 y.2.2.1], 0, .ro)), (2, ([.ints .u8 y.2.2.2.1 y.2.2.2.2.1], 0, .ro)), (4, ([.ints .u8 y.2.2.2.2.2.1 y.2.2.2.2.2.2], 5, .vec 6))], 7⟩
def f143.des : ∀ α : Type, (Nat × Nat × List Int × Nat × List Int × Nat × List Int) → (VS → Option α) → Option α := (dv1 f143.o0)
def f143.out : Nat × Nat × List Int × Nat × List Int × Nat × List Int → VS := f143.o0
def f143.inR : VS → Option (Nat × Nat × List Int × Nat × List Int × Nat × List Int)
  | ⟨[(0, .vw false 4 0 y 5)], [(0, ([.ints .u8 z0_0 z0_1], 0, .ro)), (2, ([.ints .u8 z2_0 z2_1], 0, .ro)), (4, ([.ints .u8 z4_0 z4_1], 5, .vec 6))], 7⟩ => some (y, z0_0, z0_1, z2_0, z2_1, z4_0, z4_1)
  | _ => none
noncomputable def f143.E (K : Nat) : Entry := genE 4 f143.inA (f143.F K) f143.des
theorem f143.eq (K : Nat) (x : Nat × Nat × Nat × List Int × Nat × List Int) : f143.F K x = xrun (getA tys) (tabSp (f143.tab K)) Try.f143.ntmps 4 (f143.lp K) 400 f143.c ⟨initL 0 (f143.av x), f143.bl x, 4⟩ (contF (getA tys) 4 Try.f143.results.toList f143.inR) := by kernel_rfl
theorem f143.ok (K : Nat) : EntryOK Try.prog 143 (f143.E K) :=
  gen_ok mix tys_ok (f143.tabOK K) Try.func143 (by kernel_rfl : Try.f143.body = some f143.c) (by kernel_rfl) (f143.loops K) (av := f143.av) (bl := f143.bl) (out := f143.out) (fuel := 400)
    (by intro s x h; unfold f143.inA at h; split at h <;> simp at h; subst h; rfl) (fun _ => Nat.le_of_ble_eq_true rfl)
    (by intro s y h; unfold f143.inR at h; split at h <;> simp at h <;> subst h <;> rfl) (fun _ _ _ => rfl) (f143.eq K)
end Go.Proofs

namespace Go.Proofs
open Go.VM
noncomputable def f141.c : Code := bodyOf Try.f141
def f141.lp (_ : Nat) : Nat → Option (Hint × Summ) := fun _ => none
noncomputable def f141.tab (_K : Nat) : List (Nat × Entry) := []
theorem f141.tabOK (K : Nat) : SpecOK Try.prog (tabSp (f141.tab K)) := tab_ok ( tab_nil)
theorem f141.loops (K : Nat) : LoopsOK Try.prog 5 0 (f141.lp K) f141.c := loops_ok (by
  have h : loopsIn (f141.lp K) f141.c = [] := by kernel_rfl
  rw [h]; simp)
def f141.T (_K : Nat)  : Option (List Int × Int × Int × List Int) :=
  some ([0, 0, 0, 0, 0, 0, 0, 0, 0, 0, 0, 0, 0, 0, 0, 0, 0, 0, 0, 0, 0, 0, 0, 0, 0, 0, 0, 0, 0, 0, 0, 0, 0, 0, 0, 0, 0, 0, 0, 0, 0, 0, 0, 0, 0, 0, 0, 0, 0, 0, 0, 0, 0, 0, 0, 0, 0, 0, 0, 0, 0, 0, 0, 0], 0, 0, [1779033703, 3144134277, 1013904242, 2773480762, 1359893119, 2600822924, 528734635, 1541459225])
def f141.F (K : Nat) (_x : Unit) : Option (List Int × Int × Int × List Int) := f141.T K
def f141.av (_x : Unit) : List VV := []
def f141.bl (_x : Unit) : List (Nat × Blk) := []
def f141.inA : VS → Option (Unit)
  | ⟨[], [], 0⟩ => some ()
  | _ => none
def f141.o0 (y : List Int × Int × Int × List Int) : VS := ⟨[(0, .ptr 0 0)], [(0, ([.ptr 1 0, .ints .u8 64 y.1, .int .i64 y.2.1, .int .u64 y.2.2.1], 145, .norm)), (1, ([.ints .u32 8 y.2.2.2], 140, .norm))], 2⟩
def f141.des : ∀ α : Type, (List Int × Int × Int × List Int) → (VS → Option α) → Option α := (dv1 f141.o0)
def f141.out : List Int × Int × Int × List Int → VS := f141.o0
def f141.inR : VS → Option (List Int × Int × Int × List Int)
  | ⟨[(0, .ptr 0 0)], [(0, ([.ptr 1 0, .ints .u8 64 z0_0, .int .i64 z0_1, .int .u64 z0_2], 145, .norm)), (1, ([.ints .u32 8 z1], 140, .norm))], 2⟩ => some (z0_0, z0_1, z0_2, z1)
  | _ => none
noncomputable def f141.E (K : Nat) : Entry := genE 0 f141.inA (f141.F K) f141.des
theorem f141.eq (K : Nat) (x : Unit) : f141.F K x = xrun (getA tys) (tabSp (f141.tab K)) Try.f141.ntmps 0 (f141.lp K) 400 f141.c ⟨initL 0 (f141.av x), f141.bl x, 0⟩ (contF (getA tys) 0 Try.f141.results.toList f141.inR) := by kernel_rfl
theorem f141.ok (K : Nat) : EntryOK Try.prog 141 (f141.E K) :=
  gen_ok mix tys_ok (f141.tabOK K) Try.func141 (by kernel_rfl : Try.f141.body = some f141.c) (by kernel_rfl) (f141.loops K) (av := f141.av) (bl := f141.bl) (out := f141.out) (fuel := 400)
    (by intro s x h; unfold f141.inA at h; split at h <;> simp at h; rfl) (fun _ => Nat.le_of_ble_eq_true rfl)
    (by intro s y h; unfold f141.inR at h; split at h <;> simp at h <;> subst h <;> rfl) (fun _ _ _ => rfl) (f141.eq K)
end Go.Proofs

namespace Go.Proofs
open Go.VM
noncomputable def f151.c : Code := bodyOf Try.f151
def f151.lp (_ : Nat) : Nat → Option (Hint × Summ) := fun _ => none
noncomputable def f151.tab (_K : Nat) : List (Nat × Entry) := []
theorem f151.tabOK (K : Nat) : SpecOK Try.prog (tabSp (f151.tab K)) := tab_ok ( tab_nil)
theorem f151.loops (K : Nat) : LoopsOK Try.prog 6 2 (f151.lp K) f151.c := loops_ok (by
  have h : loopsIn (f151.lp K) f151.c = [] := by kernel_rfl
  rw [h]; simp)
def f151.T (_K : Nat) (m0_0 : List Int) (m0_1 : Int) (m0_2 : Int) (m1 : List Int) : Option (List Int × Int × Int × List Int × List Int × Int) :=
  some (m0_0, m0_1, m0_2, m1, [0, 0, 0, 0, 0, 0, 0, 0, 0, 0, 0, 0, 0, 0, 0, 0], 0)
def f151.F (K : Nat) (x : List Int × Int × Int × List Int) : Option (List Int × Int × Int × List Int × List Int × Int) := f151.T K x.1 x.2.1 x.2.2.1 x.2.2.2
def f151.av (_x : List Int × Int × Int × List Int) : List VV := [.ptr 0 1]
def f151.bl (x : List Int × Int × Int × List Int) : List (Nat × Blk) := [(0, ([.ptr 1 0, .ints .u8 64 x.1, .int .i64 x.2.1, .int .u64 x.2.2.1], 145, .norm)), (1, ([.ints .u32 8 x.2.2.2], 140, .norm))]
def f151.inA : VS → Option (List Int × Int × Int × List Int)
  | ⟨[(0, .ptr 0 1)], [(0, ([.ptr 1 0, .ints .u8 64 m0_0, .int .i64 m0_1, .int .u64 m0_2], 145, .norm)), (1, ([.ints .u32 8 m1], 140, .norm))], 2⟩ => some (m0_0, m0_1, m0_2, m1)
  | _ => none
def f151.o0 (y : List Int × Int × Int × List Int × List Int × Int) : VS := ⟨[(0, .fn 154 [.ptr 2 0, .ptr 3 0, .ptr 4 0])], [(0, ([.ptr 1 0, .ints .u8 64 y.1, .int .i64 y.2.1, .int .u64 y.2.2.1], 145, .norm)), (1, ([.ints .u32 8 y.2.2.2.1], 140, .norm)), (2, ([.ints .u32 16 y.2.2.2.2.1], 157, .norm)), (3, ([.int .i64 y.2.2.2.2.2], 3, .norm)), (4, ([.ptr 0 1], 147, .norm))], 5⟩
def f151.des : ∀ α : Type, (List Int × Int × Int × List Int × List Int × Int) → (VS → Option α) → Option α := (dv1 f151.o0)
def f151.out : List Int × Int × Int × List Int × List Int × Int → VS := f151.o0
def f151.inR : VS → Option (List Int × Int × Int × List Int × List Int × Int)
  | ⟨[(0, .fn 154 [.ptr 2 0, .ptr 3 0, .ptr 4 0])], [(0, ([.ptr 1 0, .ints .u8 64 z0_0, .int .i64 z0_1, .int .u64 z0_2], 145, .norm)), (1, ([.ints .u32 8 z1], 140, .norm)), (2, ([.ints .u32 16 z2], 157, .norm)), (3, ([.int .i64 z3], 3, .norm)), (4, ([.ptr 0 1], 147, .norm))], 5⟩ => some (z0_0, z0_1, z0_2, z1, z2, z3)
  | _ => none
noncomputable def f151.E (K : Nat) : Entry := genE 2 f151.inA (f151.F K) f151.des
theorem f151.eq (K : Nat) (x : List Int × Int × Int × List Int) : f151.F K x = xrun (getA tys) (tabSp (f151.tab K)) Try.f151.ntmps 2 (f151.lp K) 400 f151.c ⟨initL 0 (f151.av x), f151.bl x, 2⟩ (contF (getA tys) 2 Try.f151.results.toList f151.inR) := by kernel_rfl
theorem f151.ok (K : Nat) : EntryOK Try.prog 151 (f151.E K) :=
  gen_ok mix tys_ok (f151.tabOK K) Try.func151 (by kernel_rfl : Try.f151.body = some f151.c) (by kernel_rfl) (f151.loops K) (av := f151.av) (bl := f151.bl) (out := f151.out) (fuel := 400)
    (by intro s x h; unfold f151.inA at h; split at h <;> simp at h; subst h; rfl) (fun _ => Nat.le_of_ble_eq_true rfl)
    (by intro s y h; unfold f151.inR at h; split at h <;> simp at h <;> subst h <;> rfl) (fun _ _ _ => rfl) (f151.eq K)
end Go.Proofs

namespace Go.Proofs
open Go.VM
noncomputable def f154.c : Code := bodyOf Try.f154
def f154.lp (_ : Nat) : Nat → Option (Hint × Summ) := fun _ => none
noncomputable def f154.tab (K : Nat) : List (Nat × Entry) := [(146, (viewE [(0, .u8)] (f146.E K))), (153, (viewE [(1, .i64)] (f153.E K)))]
theorem f154.tabOK (K : Nat) : SpecOK Try.prog (tabSp (f154.tab K)) := tab_ok ((tab_cons (view_ok (f146.ok K)) (tab_cons (view_ok (f153.ok K)) tab_nil)))
theorem f154.loops (K : Nat) : LoopsOK Try.prog 75 5 (f154.lp K) f154.c := loops_ok (by
  have h : loopsIn (f154.lp K) f154.c = [] := by kernel_rfl
  rw [h]; simp)
def f154.T (K : Nat) (m0 : List Int) (m1 : Int) (m3_0 : List Int) (m3_1 : Int) (m3_2 : Int) (m4 : List Int) : Option (Int × List Int × Int × List Int × Int × Int × List Int) :=
  let v1 := Int.tmod m1 16
  bif decide (0 ≤ v1 ∧ v1 < 16) then
    let v2 := Int.toNat v1
    bif (decide (m1 < 16)) then
      let v4 := IntKind.wrap .i64 (4 * m1)
      bif decide (0 ≤ v4 ∧ v4 ≤ 64) then
        let v5 := bif Nat.beq 64 (Int.toNat v4) then 0 else (Int.toNat v4)
        let v6 := 64 - (Int.toNat v4)
        bif ((Nat.ble (v5 + v6) 64 && (Nat.ble v6 (64 - (Int.toNat v4)))) && true) then
          (f146.F K (v6, 4, v6, (subI m3_0 v5 v6))).bind fun y8 =>
          let v10 := setD m0 v2 (IntKind.wrap .u32 y8.1)
          some ((List.getD v10 v2 0), v10, (IntKind.wrap .i64 (m1 + 1)), m3_0, m3_1, m3_2, m4)
        else
          none
      else
        none
    else
      let v14 := Int.tmod (IntKind.wrap .i64 (m1 + 1)) 16
      bif decide (0 ≤ v14 ∧ v14 < 16) then
        let v16 := List.getD m0 (Int.toNat v14) 0
        let v18 := Int.tmod (IntKind.wrap .i64 (m1 + 14)) 16
        bif decide (0 ≤ v18 ∧ v18 < 16) then
          let v20 := List.getD m0 (Int.toNat v18) 0
          (f153.F K (v16, 2, 2, [7, 18])).bind fun y22 =>
          let v26 := setD m0 v2 (IntKind.wrap .u32 ((List.getD m0 v2 0) + (bits .xor .u32 y22.1 (Int.fdiv v16 (2 ^ 3)))))
          (f153.F K (v20, 2, 2, [17, 19])).bind fun y28 =>
          let v32 := setD v26 v2 (IntKind.wrap .u32 ((List.getD v26 v2 0) + (bits .xor .u32 y28.1 (Int.fdiv v20 (2 ^ 10)))))
          let v35 := Int.tmod (IntKind.wrap .i64 (m1 + 9)) 16
          bif decide (0 ≤ v35 ∧ v35 < 16) then
            let v39 := setD v32 v2 (IntKind.wrap .u32 ((List.getD v32 v2 0) + (List.getD v32 (Int.toNat v35) 0)))
            some ((List.getD v39 v2 0), v39, (IntKind.wrap .i64 (m1 + 1)), m3_0, m3_1, m3_2, m4)
          else
            none
        else
          none
      else
        none
  else
    none
def f154.F (K : Nat) (x : List Int × Int × List Int × Int × Int × List Int) : Option (Int × List Int × Int × List Int × Int × Int × List Int) := f154.T K x.1 x.2.1 x.2.2.1 x.2.2.2.1 x.2.2.2.2.1 x.2.2.2.2.2
def f154.av (_x : List Int × Int × List Int × Int × Int × List Int) : List VV := [.ptr 0 0, .ptr 1 0, .ptr 2 0]
def f154.bl (x : List Int × Int × List Int × Int × Int × List Int) : List (Nat × Blk) := [(0, ([.ints .u32 16 x.1], 157, .norm)), (1, ([.int .i64 x.2.1], 3, .norm)), (2, ([.ptr 3 1], 147, .norm)), (3, ([.ptr 4 0, .ints .u8 64 x.2.2.1, .int .i64 x.2.2.2.1, .int .u64 x.2.2.2.2.1], 145, .norm)), (4, ([.ints .u32 8 x.2.2.2.2.2], 140, .norm))]
def f154.inA : VS → Option (List Int × Int × List Int × Int × Int × List Int)
  | ⟨[(0, .ptr 0 0), (1, .ptr 1 0), (2, .ptr 2 0)], [(0, ([.ints .u32 16 m0], 157, .norm)), (1, ([.int .i64 m1], 3, .norm)), (2, ([.ptr 3 1], 147, .norm)), (3, ([.ptr 4 0, .ints .u8 64 m3_0, .int .i64 m3_1, .int .u64 m3_2], 145, .norm)), (4, ([.ints .u32 8 m4], 140, .norm))], 5⟩ => some (m0, m1, m3_0, m3_1, m3_2, m4)
  | _ => none
def f154.o0 (y : Int × List Int × Int × List Int × Int × Int × List Int) : VS := ⟨[(0, .int .u32 y.1)], [(0, ([.ints .u32 16 y.2.1], 157, .norm)), (1, ([.int .i64 y.2.2.1], 3, .norm)), (2, ([.ptr 3 1], 147, .norm)), (3, ([.ptr 4 0, .ints .u8 64 y.2.2.2.1, .int .i64 y.2.2.2.2.1, .int .u64 y.2.2.2.2.2.1], 145, .norm)), (4, ([.ints .u32 8 y.2.2.2.2.2.2], 140, .norm))], 5⟩
def f154.des : ∀ α : Type, (Int × List Int × Int × List Int × Int × Int × List Int) → (VS → Option α) → Option α := (dv1 f154.o0)
def f154.out : Int × List Int × Int × List Int × Int × Int × List Int → VS := f154.o0
def f154.inR : VS → Option (Int × List Int × Int × List Int × Int × Int × List Int)
  | ⟨[(0, .int .u32 y)], [(0, ([.ints .u32 16 z0], 157, .norm)), (1, ([.int .i64 z1], 3, .norm)), (2, ([.ptr 3 1], 147, .norm)), (3, ([.ptr 4 0, .ints .u8 64 z3_0, .int .i64 z3_1, .int .u64 z3_2], 145, .norm)), (4, ([.ints .u32 8 z4], 140, .norm))], 5⟩ => some (y, z0, z1, z3_0, z3_1, z3_2, z4)
  | _ => none
noncomputable def f154.E (K : Nat) : Entry := genE 5 f154.inA (f154.F K) f154.des
theorem f154.eq (K : Nat) (x : List Int × Int × List Int × Int × Int × List Int) : f154.F K x = xrun (getA tys) (tabSp (f154.tab K)) Try.f154.ntmps 5 (f154.lp K) 400 f154.c ⟨initL 0 (f154.av x), f154.bl x, 5⟩ (contF (getA tys) 5 Try.f154.results.toList f154.inR) := by kernel_rfl
theorem f154.ok (K : Nat) : EntryOK Try.prog 154 (f154.E K) :=
  gen_ok mix tys_ok (f154.tabOK K) Try.func154 (by kernel_rfl : Try.f154.body = some f154.c) (by kernel_rfl) (f154.loops K) (av := f154.av) (bl := f154.bl) (out := f154.out) (fuel := 400)
    (by intro s x h; unfold f154.inA at h; split at h <;> simp at h; subst h; rfl) (fun _ => Nat.le_of_ble_eq_true rfl)
    (by intro s y h; unfold f154.inR at h; split at h <;> simp at h <;> subst h <;> rfl) (fun _ _ _ => rfl) (f154.eq K)
end Go.Proofs

namespace Go.Proofs
open Go.VM
noncomputable def f148.c : Code := bodyOf Try.f148
def f148.s0t (K : Nat) (rec : List Int × Int × List Int × Int × Int × List Int × List Int × List Int × List Int × List Int × Int → Option (List Int × Int × Int × List Int × List Int × List Int × List Int)) (t16 : List Int) (t17 : Int) (b0_0 : List Int) (b0_1 : Int) (b0_2 : Int) (b1 : List Int) (b2 : List Int) (b3 : List Int) (b4 : List Int) (b5 : List Int) (b6 : Int) : Option (List Int × Int × Int × List Int × List Int × List Int × List Int) :=
  bif (decide (t17 < 64)) then
    bif decide (0 ≤ t17 ∧ t17 < 64) then
      (f153.F K ((List.getD b4 4 0), 3, 3, [6, 11, 25])).bind fun y7 =>
      (f154.F K (b5, b6, b0_0, b0_1, b0_2, b1)).bind fun y19 =>
      let v20 := IntKind.wrap .u32 ((IntKind.wrap .u32 ((IntKind.wrap .u32 ((IntKind.wrap .u32 ((List.getD b4 7 0) + y7.1)) + (bits .or .u32 (bits .and .u32 (List.getD b4 4 0) (List.getD b4 5 0)) (bits .and .u32 (bits .xor .u32 4294967295 (List.getD b4 4 0)) (List.getD b4 6 0))))) + (List.getD t16 (Int.toNat t17) 0))) + y19.1)
      (f153.F K ((List.getD b4 0 0), 3, 3, [2, 13, 22])).bind fun y22 =>
      let v33 := spl b4 1 7 (subI b4 0 7)
      rec (t16, (IntKind.wrap .i64 (t17 + 1)), y19.2.2.2.1, y19.2.2.2.2.1, y19.2.2.2.2.2.1, y19.2.2.2.2.2.2, b2, b3, (setD (setD v33 4 (IntKind.wrap .u32 ((List.getD v33 4 0) + v20))) 0 (IntKind.wrap .u32 (v20 + (IntKind.wrap .u32 (y22.1 + (bits .xor .u32 (bits .and .u32 (List.getD b4 0 0) (bits .xor .u32 (List.getD b4 1 0) (List.getD b4 2 0))) (bits .and .u32 (List.getD b4 1 0) (List.getD b4 2 0)))))))), y19.2.1, y19.2.2.1)
    else
      none
  else
    some (b0_0, b0_1, b0_2, b1, b2, b3, b4)
def f148.s0 (K : Nat) (rec : List Int × Int × List Int × Int × Int × List Int × List Int × List Int × List Int × List Int × Int → Option (List Int × Int × Int × List Int × List Int × List Int × List Int)) (x : List Int × Int × List Int × Int × Int × List Int × List Int × List Int × List Int × List Int × Int) : Option (List Int × Int × Int × List Int × List Int × List Int × List Int) := f148.s0t K rec x.1 x.2.1 x.2.2.1 x.2.2.2.1 x.2.2.2.2.1 x.2.2.2.2.2.1 x.2.2.2.2.2.2.1 x.2.2.2.2.2.2.2.1 x.2.2.2.2.2.2.2.2.1 x.2.2.2.2.2.2.2.2.2.1 x.2.2.2.2.2.2.2.2.2.2
noncomputable def f148.s0.b : Code := (findLoop 0 f148.c).getD .skip
def f148.s0.h : Hint := { lv := [2, 4, 5, 6, 16, 17] }
def f148.s0.ho : Hint := { lv := [2, 4, 5] }
def f148.s0.shp (x : List Int × Int × List Int × Int × Int × List Int × List Int × List Int × List Int × List Int × Int) : VS := ⟨[(2, .ptr 2 0), (4, .ptr 3 0), (5, .ptr 4 0), (6, .fn 154 [.ptr 5 0, .ptr 6 0, .ptr 7 0]), (16, .agg [.ints .u32 64 x.1]), (17, .int .i64 x.2.1)], [(0, ([.ptr 1 0, .ints .u8 64 x.2.2.1, .int .i64 x.2.2.2.1, .int .u64 x.2.2.2.2.1], 145, .norm)), (1, ([.ints .u32 8 x.2.2.2.2.2.1], 140, .norm)), (2, ([.ints .u32 8 x.2.2.2.2.2.2.1], 140, .norm)), (3, ([.ints .u32 8 x.2.2.2.2.2.2.2.1], 140, .norm)), (4, ([.ints .u32 8 x.2.2.2.2.2.2.2.2.1], 140, .norm)), (5, ([.ints .u32 16 x.2.2.2.2.2.2.2.2.2.1], 157, .norm)), (6, ([.int .i64 x.2.2.2.2.2.2.2.2.2.2], 3, .norm)), (7, ([.ptr 0 1], 147, .norm))], 8⟩
def f148.s0.inX : VS → Option (List Int × Int × List Int × Int × Int × List Int × List Int × List Int × List Int × List Int × Int)
  | ⟨[(2, .ptr 2 0), (4, .ptr 3 0), (5, .ptr 4 0), (6, .fn 154 [.ptr 5 0, .ptr 6 0, .ptr 7 0]), (16, .agg [.ints .u32 64 t16]), (17, .int .i64 t17)], [(0, ([.ptr 1 0, .ints .u8 64 b0_0, .int .i64 b0_1, .int .u64 b0_2], 145, .norm)), (1, ([.ints .u32 8 b1], 140, .norm)), (2, ([.ints .u32 8 b2], 140, .norm)), (3, ([.ints .u32 8 b3], 140, .norm)), (4, ([.ints .u32 8 b4], 140, .norm)), (5, ([.ints .u32 16 b5], 157, .norm)), (6, ([.int .i64 b6], 3, .norm)), (7, ([.ptr 0 1], 147, .norm))], 8⟩ => some (t16, t17, b0_0, b0_1, b0_2, b1, b2, b3, b4, b5, b6)
  | _ => none
def f148.s0.o0 (y : List Int × Int × Int × List Int × List Int × List Int × List Int) : VS := ⟨[(2, .ptr 2 0), (4, .ptr 3 0), (5, .ptr 4 0)], [(0, ([.ptr 1 0, .ints .u8 64 y.1, .int .i64 y.2.1, .int .u64 y.2.2.1], 145, .norm)), (1, ([.ints .u32 8 y.2.2.2.1], 140, .norm)), (2, ([.ints .u32 8 y.2.2.2.2.1], 140, .norm)), (3, ([.ints .u32 8 y.2.2.2.2.2.1], 140, .norm)), (4, ([.ints .u32 8 y.2.2.2.2.2.2], 140, .norm))], 5⟩
def f148.s0.des : ∀ α : Type, (List Int × Int × Int × List Int × List Int × List Int × List Int) → (Ex → VS → Option α) → Option α := (des1 (.exit 0) f148.s0.o0)
def f148.s0.out : List Int × Int × Int × List Int × List Int × List Int × List Int → Ex × VS := (fun y => (.exit 0, f148.s0.o0 y))
theorem f148.s0.desOK : ∀ α y (k : Ex → VS → Option α), f148.s0.des α y k = k (f148.s0.out y).1 (f148.s0.out y).2 := (fun _ _ _ => rfl)
def f148.s0.inY : Ex → VS → Option (List Int × Int × Int × List Int × List Int × List Int × List Int)
  | .exit 0, ⟨[(2, .ptr 2 0), (4, .ptr 3 0), (5, .ptr 4 0)], [(0, ([.ptr 1 0, .ints .u8 64 b0_0, .int .i64 b0_1, .int .u64 b0_2], 145, .norm)), (1, ([.ints .u32 8 b1], 140, .norm)), (2, ([.ints .u32 8 b2], 140, .norm)), (3, ([.ints .u32 8 b3], 140, .norm)), (4, ([.ints .u32 8 b4], 140, .norm))], 5⟩ => some (b0_0, b0_1, b0_2, b1, b2, b3, b4)
  | _, _ => none
def f148.s2t (_K : Nat) (rec : List Int × Int × List Int × Int × Int × List Int × List Int × List Int → Option (List Int × Int × Int × List Int × List Int × List Int)) (t77 : List Int) (t78 : Int) (b0_0 : List Int) (b0_1 : Int) (b0_2 : Int) (b1 : List Int) (b2 : List Int) (b3 : List Int) : Option (List Int × Int × Int × List Int × List Int × List Int) :=
  bif (decide (t78 < 8)) then
    bif decide (0 ≤ t78 ∧ t78 < 8) then
      bif decide (0 ≤ t78 ∧ t78 < 8) then
        bif decide (0 ≤ t78 ∧ t78 < 8) then
          rec (t77, (IntKind.wrap .i64 (t78 + 1)), b0_0, b0_1, b0_2, b1, b2, (setD b3 (Int.toNat t78) (IntKind.wrap .u32 ((List.getD b3 (Int.toNat t78) 0) + (List.getD t77 (Int.toNat t78) 0)))))
        else
          none
      else
        none
    else
      none
  else
    some (b0_0, b0_1, b0_2, b1, b2, b3)
def f148.s2 (K : Nat) (rec : List Int × Int × List Int × Int × Int × List Int × List Int × List Int → Option (List Int × Int × Int × List Int × List Int × List Int)) (x : List Int × Int × List Int × Int × Int × List Int × List Int × List Int) : Option (List Int × Int × Int × List Int × List Int × List Int) := f148.s2t K rec x.1 x.2.1 x.2.2.1 x.2.2.2.1 x.2.2.2.2.1 x.2.2.2.2.2.1 x.2.2.2.2.2.2.1 x.2.2.2.2.2.2.2
noncomputable def f148.s2.b : Code := (findLoop 2 f148.c).getD .skip
def f148.s2.h : Hint := { lv := [4, 5, 77, 78] }
def f148.s2.ho : Hint := { lv := [4, 5] }
def f148.s2.shp (x : List Int × Int × List Int × Int × Int × List Int × List Int × List Int) : VS := ⟨[(4, .ptr 2 0), (5, .ptr 3 0), (77, .agg [.ints .u32 8 x.1]), (78, .int .i64 x.2.1)], [(0, ([.ptr 1 0, .ints .u8 64 x.2.2.1, .int .i64 x.2.2.2.1, .int .u64 x.2.2.2.2.1], 145, .norm)), (1, ([.ints .u32 8 x.2.2.2.2.2.1], 140, .norm)), (2, ([.ints .u32 8 x.2.2.2.2.2.2.1], 140, .norm)), (3, ([.ints .u32 8 x.2.2.2.2.2.2.2], 140, .norm))], 4⟩
def f148.s2.inX : VS → Option (List Int × Int × List Int × Int × Int × List Int × List Int × List Int)
  | ⟨[(4, .ptr 2 0), (5, .ptr 3 0), (77, .agg [.ints .u32 8 t77]), (78, .int .i64 t78)], [(0, ([.ptr 1 0, .ints .u8 64 b0_0, .int .i64 b0_1, .int .u64 b0_2], 145, .norm)), (1, ([.ints .u32 8 b1], 140, .norm)), (2, ([.ints .u32 8 b2], 140, .norm)), (3, ([.ints .u32 8 b3], 140, .norm))], 4⟩ => some (t77, t78, b0_0, b0_1, b0_2, b1, b2, b3)
  | _ => none
def f148.s2.o0 (y : List Int × Int × Int × List Int × List Int × List Int) : VS := ⟨[(4, .ptr 2 0), (5, .ptr 3 0)], [(0, ([.ptr 1 0, .ints .u8 64 y.1, .int .i64 y.2.1, .int .u64 y.2.2.1], 145, .norm)), (1, ([.ints .u32 8 y.2.2.2.1], 140, .norm)), (2, ([.ints .u32 8 y.2.2.2.2.1], 140, .norm)), (3, ([.ints .u32 8 y.2.2.2.2.2], 140, .norm))], 4⟩
def f148.s2.des : ∀ α : Type, (List Int × Int × Int × List Int × List Int × List Int) → (Ex → VS → Option α) → Option α := (des1 (.exit 2) f148.s2.o0)
def f148.s2.out : List Int × Int × Int × List Int × List Int × List Int → Ex × VS := (fun y => (.exit 2, f148.s2.o0 y))
theorem f148.s2.desOK : ∀ α y (k : Ex → VS → Option α), f148.s2.des α y k = k (f148.s2.out y).1 (f148.s2.out y).2 := (fun _ _ _ => rfl)
def f148.s2.inY : Ex → VS → Option (List Int × Int × Int × List Int × List Int × List Int)
  | .exit 2, ⟨[(4, .ptr 2 0), (5, .ptr 3 0)], [(0, ([.ptr 1 0, .ints .u8 64 b0_0, .int .i64 b0_1, .int .u64 b0_2], 145, .norm)), (1, ([.ints .u32 8 b1], 140, .norm)), (2, ([.ints .u32 8 b2], 140, .norm)), (3, ([.ints .u32 8 b3], 140, .norm))], 4⟩ => some (b0_0, b0_1, b0_2, b1, b2, b3)
  | _, _ => none
def f148.lp (K : Nat) : Nat → Option (Hint × Summ) := tabLp [(0, f148.s0.h, summOf (iter (f148.s0 K) K) f148.s0.inX f148.s0.des), (2, f148.s2.h, summOf (iter (f148.s2 K) K) f148.s2.inX f148.s2.des)]
noncomputable def f148.tab (K : Nat) : List (Nat × Entry) := [(151, (f151.E K)), (152, (f152.E K)), (153, (viewE [(1, .i64)] (f153.E K))), (154, (f154.E K))]
theorem f148.tabOK (K : Nat) : SpecOK Try.prog (tabSp (f148.tab K)) := tab_ok ((tab_cons (f151.ok K) (tab_cons (f152.ok K) (tab_cons (view_ok (f153.ok K)) (tab_cons (f154.ok K) tab_nil)))))
theorem f148.s0.eq (K : Nat) (rec : List Int × Int × List Int × Int × Int × List Int × List Int × List Int × List Int × List Int × Int → Option (List Int × Int × Int × List Int × List Int × List Int × List Int)) (x : List Int × Int × List Int × Int × Int × List Int × List Int × List Int × List Int × List Int × Int) : f148.s0 K rec x = roundL (getA tys) (tabSp (f148.tab K)) 90 2 (f148.lp K) 400 f148.s0.b f148.s0.h f148.s0.ho f148.s0.shp f148.s0.inX f148.s0.inY rec x := by kernel_rfl
theorem f148.s0.lok (K : Nat) : LoopsOK Try.prog 90 2 (f148.lp K) f148.s0.b := loops_ok (by
  have h : loopsIn (f148.lp K) f148.s0.b = [] := by kernel_rfl
  rw [h]; simp)
theorem f148.s0.ok (K : Nat) : SummOK Try.prog 90 2 (summOf (iter (f148.s0 K) K) f148.s0.inX f148.s0.des) f148.s0.b :=
  loop_ok mix tys_ok (f148.tabOK K) (h := f148.s0.h) (ho := f148.s0.ho) (shp := f148.s0.shp) (inX := f148.s0.inX) (des := f148.s0.des) (out := f148.s0.out) (inY := f148.s0.inY) (fuel := 400)
    (by intro st x h; unfold f148.s0.inX at h; split at h <;> simp at h; subst h; rfl)
    (by intro e st y h; unfold f148.s0.inY at h; split at h <;> simp at h <;> subst h <;> rfl)
    f148.s0.desOK (f148.s0.lok K) (f148.s0 K) (f148.s0.eq K) K
theorem f148.s2.eq (K : Nat) (rec : List Int × Int × List Int × Int × Int × List Int × List Int × List Int → Option (List Int × Int × Int × List Int × List Int × List Int)) (x : List Int × Int × List Int × Int × Int × List Int × List Int × List Int) : f148.s2 K rec x = roundL (getA tys) (tabSp (f148.tab K)) 90 2 (f148.lp K) 400 f148.s2.b f148.s2.h f148.s2.ho f148.s2.shp f148.s2.inX f148.s2.inY rec x := by kernel_rfl
theorem f148.s2.lok (K : Nat) : LoopsOK Try.prog 90 2 (f148.lp K) f148.s2.b := loops_ok (by
  have h : loopsIn (f148.lp K) f148.s2.b = [] := by kernel_rfl
  rw [h]; simp)
theorem f148.s2.ok (K : Nat) : SummOK Try.prog 90 2 (summOf (iter (f148.s2 K) K) f148.s2.inX f148.s2.des) f148.s2.b :=
  loop_ok mix tys_ok (f148.tabOK K) (h := f148.s2.h) (ho := f148.s2.ho) (shp := f148.s2.shp) (inX := f148.s2.inX) (des := f148.s2.des) (out := f148.s2.out) (inY := f148.s2.inY) (fuel := 400)
    (by intro st x h; unfold f148.s2.inX at h; split at h <;> simp at h; subst h; rfl)
    (by intro e st y h; unfold f148.s2.inY at h; split at h <;> simp at h <;> subst h <;> rfl)
    f148.s2.desOK (f148.s2.lok K) (f148.s2 K) (f148.s2.eq K) K
theorem f148.loops (K : Nat) : LoopsOK Try.prog 90 2 (f148.lp K) f148.c := loops_ok (by
  have h : loopsIn (f148.lp K) f148.c = [(0, f148.s0.b), (2, f148.s2.b)] := by kernel_rfl
  rw [h]
  intro p hp
  simp only [List.mem_cons, List.not_mem_nil, or_false] at hp
  rcases hp with rfl | rfl
  · exact ⟨_, rfl, (f148.s0.ok K)⟩
  · exact ⟨_, rfl, (f148.s2.ok K)⟩)
def f148.T (K : Nat) (a0 : List Int) (m0_0 : List Int) (m0_1 : Int) (m0_2 : Int) (m1 : List Int) : Option (List Int × List Int × Int × Int × List Int) :=
  (f151.F K (m0_0, m0_1, m0_2, m1)).bind fun y1 =>
  (f152.F K ()).bind fun y2 =>
  (iter (f148.s0 K) K (y2, 0, y1.1, y1.2.1, y1.2.2.1, y1.2.2.2.1, a0, [0, 0, 0, 0, 0, 0, 0, 0], a0, y1.2.2.2.2.1, y1.2.2.2.2.2)).bind fun y40 =>
  (iter (f148.s2 K) K (y40.2.2.2.2.1, 0, y40.1, y40.2.1, y40.2.2.1, y40.2.2.2.1, y40.2.2.2.2.2.1, y40.2.2.2.2.2.2)).bind fun y50 =>
  some (y50.2.2.2.2.2, y50.1, y50.2.1, y50.2.2.1, y50.2.2.2.1)
def f148.F (K : Nat) (x : List Int × List Int × Int × Int × List Int) : Option (List Int × List Int × Int × Int × List Int) := f148.T K x.1 x.2.1 x.2.2.1 x.2.2.2.1 x.2.2.2.2
def f148.av (x : List Int × List Int × Int × Int × List Int) : List VV := [.agg [.ints .u32 8 x.1], .ptr 0 1]
def f148.bl (x : List Int × List Int × Int × Int × List Int) : List (Nat × Blk) := [(0, ([.ptr 1 0, .ints .u8 64 x.2.1, .int .i64 x.2.2.1, .int .u64 x.2.2.2.1], 145, .norm)), (1, ([.ints .u32 8 x.2.2.2.2], 140, .norm))]
def f148.inA : VS → Option (List Int × List Int × Int × Int × List Int)
  | ⟨[(0, .agg [.ints .u32 8 a0]), (1, .ptr 0 1)], [(0, ([.ptr 1 0, .ints .u8 64 m0_0, .int .i64 m0_1, .int .u64 m0_2], 145, .norm)), (1, ([.ints .u32 8 m1], 140, .norm))], 2⟩ => some (a0, m0_0, m0_1, m0_2, m1)
  | _ => none
def f148.o0 (y : List Int × List Int × Int × Int × List Int) : VS := ⟨[(0, .agg [.ints .u32 8 y.1])], [(0, ([.ptr 1 0, .ints .u8 64 y.2.1, .int .i64 y.2.2.1, .int .u64 y.2.2.2.1], 145, .norm)), (1, ([.ints .u32 8 y.2.2.2.2], 140, .norm))], 2⟩
def f148.des : ∀ α : Type, (List Int × List Int × Int × Int × List Int) → (VS → Option α) → Option α := (dv1 f148.o0)
def f148.out : List Int × List Int × Int × Int × List Int → VS := f148.o0
def f148.inR : VS → Option (List Int × List Int × Int × Int × List Int)
  | ⟨[(0, .agg [.ints .u32 8 y])], [(0, ([.ptr 1 0, .ints .u8 64 z0_0, .int .i64 z0_1, .int .u64 z0_2], 145, .norm)), (1, ([.ints .u32 8 z1], 140, .norm))], 2⟩ => some (y, z0_0, z0_1, z0_2, z1)
  | _ => none
noncomputable def f148.E (K : Nat) : Entry := genE 2 f148.inA (f148.F K) f148.des
theorem f148.eq (K : Nat) (x : List Int × List Int × Int × Int × List Int) : f148.F K x = xrun (getA tys) (tabSp (f148.tab K)) Try.f148.ntmps 2 (f148.lp K) 400 f148.c ⟨initL 0 (f148.av x), f148.bl x, 2⟩ (contF (getA tys) 2 Try.f148.results.toList f148.inR) := by kernel_rfl
theorem f148.ok (K : Nat) : EntryOK Try.prog 148 (f148.E K) :=
  gen_ok mix tys_ok (f148.tabOK K) Try.func148 (by kernel_rfl : Try.f148.body = some f148.c) (by kernel_rfl) (f148.loops K) (av := f148.av) (bl := f148.bl) (out := f148.out) (fuel := 400)
    (by intro s x h; unfold f148.inA at h; split at h <;> simp at h; subst h; rfl) (fun _ => Nat.le_of_ble_eq_true rfl)
    (by intro s y h; unfold f148.inR at h; split at h <;> simp at h <;> subst h <;> rfl) (fun _ _ _ => rfl) (f148.eq K)
end Go.Proofs

namespace Go.Proofs
open Go.VM
noncomputable def f142.c : Code := bodyOf Try.f142
def f142.s2t (K : Nat) (rec : Nat × Nat × List Int × Int × Int × Nat × Nat × Nat × List Int × Nat × List Int × List Int → Option (List Int × Int × Int × Nat × Nat × Nat × List Int × Nat × List Int × List Int)) (t5_0 : Nat) (t5_1 : Nat) (b0_0 : List Int) (b0_1 : Int) (b0_2 : Int) (b1_0 : Nat) (b1_1 : Nat) (b4_0 : Nat) (b4_1 : List Int) (b6_0 : Nat) (b6_1 : List Int) (b9 : List Int) : Option (List Int × Int × Int × Nat × Nat × Nat × List Int × Nat × List Int × List Int) :=
  bif (decide (((t5_1 : Nat) : Int) > 0)) then
    bif decide (0 ≤ b0_1 ∧ b0_1 ≤ 64) then
      let v6 := bif Nat.beq 64 (Int.toNat b0_1) then 0 else (Int.toNat b0_1)
      let v7 := 64 - (Int.toNat b0_1)
      bif (((Nat.ble (t5_0 + t5_1) b4_0 && true) && (Nat.ble (v6 + v7) 64)) && (Nat.beq t5_1 t5_1)) then
        let v9 := ((Nat.min t5_1 v7 : Nat) : Int)
        let v10 := spl b0_0 v6 (Nat.min t5_1 v7) (subI b4_1 t5_0 t5_1)
        bif decide (0 ≤ v9 ∧ v9 ≤ ((t5_1 : Nat) : Int)) then
          let v11 := t5_0 + (Int.toNat v9)
          let v12 := t5_1 - (Int.toNat v9)
          let v13 := IntKind.wrap .i64 (b0_1 + v9)
          bif (v13 == 64) then
            (f148.F K (b9, v10, v13, b0_2, b9)).bind fun y14 =>
            rec (v11, v12, y14.2.1, 0, y14.2.2.2.1, b1_0, b1_1, b4_0, b4_1, b6_0, b6_1, y14.1)
          else
            rec (v11, v12, v10, v13, b0_2, b1_0, b1_1, b4_0, b4_1, b6_0, b6_1, b9)
        else
          none
      else
        none
    else
      none
  else
    some (b0_0, b0_1, b0_2, b1_0, b1_1, b4_0, b4_1, b6_0, b6_1, b9)
def f142.s2 (K : Nat) (rec : Nat × Nat × List Int × Int × Int × Nat × Nat × Nat × List Int × Nat × List Int × List Int → Option (List Int × Int × Int × Nat × Nat × Nat × List Int × Nat × List Int × List Int)) (x : Nat × Nat × List Int × Int × Int × Nat × Nat × Nat × List Int × Nat × List Int × List Int) : Option (List Int × Int × Int × Nat × Nat × Nat × List Int × Nat × List Int × List Int) := f142.s2t K rec x.1 x.2.1 x.2.2.1 x.2.2.2.1 x.2.2.2.2.1 x.2.2.2.2.2.1 x.2.2.2.2.2.2.1 x.2.2.2.2.2.2.2.1 x.2.2.2.2.2.2.2.2.1 x.2.2.2.2.2.2.2.2.2.1 x.2.2.2.2.2.2.2.2.2.2.1 x.2.2.2.2.2.2.2.2.2.2.2
noncomputable def f142.s2.b : Code := (findLoop 2 f142.c).getD .skip
def f142.s2.h : Hint := { lv := [0, 5, 8, 9, 10], co := [(5, 0, [])], mv := [3] }
def f142.s2.ho : Hint := { lv := [0, 8, 9, 10] }
def f142.s2.shp (x : Nat × Nat × List Int × Int × Int × Nat × Nat × Nat × List Int × Nat × List Int × List Int) : VS := ⟨[(0, .ptr 0 0), (5, .vw true 4 x.1 x.2.1 8), (8, .vw true 1 0 2 2), (9, .int .i64 2), (10, .int .i64 0)], [(0, ([.ptr 9 0, .ints .u8 64 x.2.2.1, .int .i64 x.2.2.2.1, .int .u64 x.2.2.2.2.1], 145, .norm)), (1, ([.vw true 4 0 x.2.2.2.2.2.1 5, .vw true 6 0 x.2.2.2.2.2.2.1 7], 0, .ro)), (3, ([], 140, .dead)), (4, ([.ints .u8 x.2.2.2.2.2.2.2.1 x.2.2.2.2.2.2.2.2.1], 0, .ro)), (6, ([.ints .u8 x.2.2.2.2.2.2.2.2.2.1 x.2.2.2.2.2.2.2.2.2.2.1], 0, .ro)), (9, ([.ints .u32 8 x.2.2.2.2.2.2.2.2.2.2.2], 140, .norm))], 10⟩
def f142.s2.inX : VS → Option (Nat × Nat × List Int × Int × Int × Nat × Nat × Nat × List Int × Nat × List Int × List Int)
  | ⟨[(0, .ptr 0 0), (5, .vw true 4 t5_0 t5_1 8), (8, .vw true 1 0 2 2), (9, .int .i64 2), (10, .int .i64 0)], [(0, ([.ptr 9 0, .ints .u8 64 b0_0, .int .i64 b0_1, .int .u64 b0_2], 145, .norm)), (1, ([.vw true 4 0 b1_0 5, .vw true 6 0 b1_1 7], 0, .ro)), (3, ([], 140, .dead)), (4, ([.ints .u8 b4_0 b4_1], 0, .ro)), (6, ([.ints .u8 b6_0 b6_1], 0, .ro)), (9, ([.ints .u32 8 b9], 140, .norm))], 10⟩ => some (t5_0, t5_1, b0_0, b0_1, b0_2, b1_0, b1_1, b4_0, b4_1, b6_0, b6_1, b9)
  | _ => none
def f142.s2.o0 (y : List Int × Int × Int × Nat × Nat × Nat × List Int × Nat × List Int × List Int) : VS := ⟨[(0, .ptr 0 0), (8, .vw true 1 0 2 2), (9, .int .i64 2), (10, .int .i64 0)], [(0, ([.ptr 8 0, .ints .u8 64 y.1, .int .i64 y.2.1, .int .u64 y.2.2.1], 145, .norm)), (1, ([.vw true 4 0 y.2.2.2.1 5, .vw true 6 0 y.2.2.2.2.1 7], 0, .ro)), (3, ([], 140, .dead)), (4, ([.ints .u8 y.2.2.2.2.2.1 y.2.2.2.2.2.2.1], 0, .ro)), (6, ([.ints .u8 y.2.2.2.2.2.2.2.1 y.2.2.2.2.2.2.2.2.1], 0, .ro)), (8, ([.ints .u32 8 y.2.2.2.2.2.2.2.2.2], 140, .norm))], 9⟩
def f142.s2.des : ∀ α : Type, (List Int × Int × Int × Nat × Nat × Nat × List Int × Nat × List Int × List Int) → (Ex → VS → Option α) → Option α := (des1 (.exit 2) f142.s2.o0)
def f142.s2.out : List Int × Int × Int × Nat × Nat × Nat × List Int × Nat × List Int × List Int → Ex × VS := (fun y => (.exit 2, f142.s2.o0 y))
theorem f142.s2.desOK : ∀ α y (k : Ex → VS → Option α), f142.s2.des α y k = k (f142.s2.out y).1 (f142.s2.out y).2 := (fun _ _ _ => rfl)
def f142.s2.inY : Ex → VS → Option (List Int × Int × Int × Nat × Nat × Nat × List Int × Nat × List Int × List Int)
  | .exit 2, ⟨[(0, .ptr 0 0), (8, .vw true 1 0 2 2), (9, .int .i64 2), (10, .int .i64 0)], [(0, ([.ptr 8 0, .ints .u8 64 b0_0, .int .i64 b0_1, .int .u64 b0_2], 145, .norm)), (1, ([.vw true 4 0 b1_0 5, .vw true 6 0 b1_1 7], 0, .ro)), (3, ([], 140, .dead)), (4, ([.ints .u8 b4_0 b4_1], 0, .ro)), (6, ([.ints .u8 b6_0 b6_1], 0, .ro)), (8, ([.ints .u32 8 b8], 140, .norm))], 9⟩ => some (b0_0, b0_1, b0_2, b1_0, b1_1, b4_0, b4_1, b6_0, b6_1, b8)
  | _, _ => none
def f142.s2bt (K : Nat) (rec : Nat × Nat × List Int × Int × Int × Nat × Nat × Nat × List Int × Nat × List Int × List Int → Option (List Int × Int × Int × Nat × Nat × Nat × List Int × Nat × List Int × List Int)) (t5_0 : Nat) (t5_1 : Nat) (b0_0 : List Int) (b0_1 : Int) (b0_2 : Int) (b1_0 : Nat) (b1_1 : Nat) (b4_0 : Nat) (b4_1 : List Int) (b6_0 : Nat) (b6_1 : List Int) (b9 : List Int) : Option (List Int × Int × Int × Nat × Nat × Nat × List Int × Nat × List Int × List Int) :=
  bif (decide (((t5_1 : Nat) : Int) > 0)) then
    bif decide (0 ≤ b0_1 ∧ b0_1 ≤ 64) then
      let v22 := bif Nat.beq 64 (Int.toNat b0_1) then 0 else (Int.toNat b0_1)
      let v23 := 64 - (Int.toNat b0_1)
      bif (((Nat.ble (t5_0 + t5_1) b6_0 && true) && (Nat.ble (v22 + v23) 64)) && (Nat.beq t5_1 t5_1)) then
        let v25 := ((Nat.min t5_1 v23 : Nat) : Int)
        let v26 := spl b0_0 v22 (Nat.min t5_1 v23) (subI b6_1 t5_0 t5_1)
        bif decide (0 ≤ v25 ∧ v25 ≤ ((t5_1 : Nat) : Int)) then
          let v27 := t5_0 + (Int.toNat v25)
          let v28 := t5_1 - (Int.toNat v25)
          let v29 := IntKind.wrap .i64 (b0_1 + v25)
          bif (v29 == 64) then
            (f148.F K (b9, v26, v29, b0_2, b9)).bind fun y30 =>
            rec (v27, v28, y30.2.1, 0, y30.2.2.2.1, b1_0, b1_1, b4_0, b4_1, b6_0, b6_1, y30.1)
          else
            rec (v27, v28, v26, v29, b0_2, b1_0, b1_1, b4_0, b4_1, b6_0, b6_1, b9)
        else
          none
      else
        none
    else
      none
  else
    some (b0_0, b0_1, b0_2, b1_0, b1_1, b4_0, b4_1, b6_0, b6_1, b9)
def f142.s2b (K : Nat) (rec : Nat × Nat × List Int × Int × Int × Nat × Nat × Nat × List Int × Nat × List Int × List Int → Option (List Int × Int × Int × Nat × Nat × Nat × List Int × Nat × List Int × List Int)) (x : Nat × Nat × List Int × Int × Int × Nat × Nat × Nat × List Int × Nat × List Int × List Int) : Option (List Int × Int × Int × Nat × Nat × Nat × List Int × Nat × List Int × List Int) := f142.s2bt K rec x.1 x.2.1 x.2.2.1 x.2.2.2.1 x.2.2.2.2.1 x.2.2.2.2.2.1 x.2.2.2.2.2.2.1 x.2.2.2.2.2.2.2.1 x.2.2.2.2.2.2.2.2.1 x.2.2.2.2.2.2.2.2.2.1 x.2.2.2.2.2.2.2.2.2.2.1 x.2.2.2.2.2.2.2.2.2.2.2
noncomputable def f142.s2b.b : Code := (findLoop 2 f142.c).getD .skip
def f142.s2b.h : Hint := { lv := [0, 5, 8, 9, 10], co := [(5, 0, [])], mv := [3] }
def f142.s2b.ho : Hint := { lv := [0, 8, 9, 10] }
def f142.s2b.shp (x : Nat × Nat × List Int × Int × Int × Nat × Nat × Nat × List Int × Nat × List Int × List Int) : VS := ⟨[(0, .ptr 0 0), (5, .vw true 6 x.1 x.2.1 8), (8, .vw true 1 0 2 2), (9, .int .i64 2), (10, .int .i64 1)], [(0, ([.ptr 9 0, .ints .u8 64 x.2.2.1, .int .i64 x.2.2.2.1, .int .u64 x.2.2.2.2.1], 145, .norm)), (1, ([.vw true 4 0 x.2.2.2.2.2.1 5, .vw true 6 0 x.2.2.2.2.2.2.1 7], 0, .ro)), (3, ([], 140, .dead)), (4, ([.ints .u8 x.2.2.2.2.2.2.2.1 x.2.2.2.2.2.2.2.2.1], 0, .ro)), (6, ([.ints .u8 x.2.2.2.2.2.2.2.2.2.1 x.2.2.2.2.2.2.2.2.2.2.1], 0, .ro)), (9, ([.ints .u32 8 x.2.2.2.2.2.2.2.2.2.2.2], 140, .norm))], 10⟩
def f142.s2b.inX : VS → Option (Nat × Nat × List Int × Int × Int × Nat × Nat × Nat × List Int × Nat × List Int × List Int)
  | ⟨[(0, .ptr 0 0), (5, .vw true 6 t5_0 t5_1 8), (8, .vw true 1 0 2 2), (9, .int .i64 2), (10, .int .i64 1)], [(0, ([.ptr 9 0, .ints .u8 64 b0_0, .int .i64 b0_1, .int .u64 b0_2], 145, .norm)), (1, ([.vw true 4 0 b1_0 5, .vw true 6 0 b1_1 7], 0, .ro)), (3, ([], 140, .dead)), (4, ([.ints .u8 b4_0 b4_1], 0, .ro)), (6, ([.ints .u8 b6_0 b6_1], 0, .ro)), (9, ([.ints .u32 8 b9], 140, .norm))], 10⟩ => some (t5_0, t5_1, b0_0, b0_1, b0_2, b1_0, b1_1, b4_0, b4_1, b6_0, b6_1, b9)
  | _ => none
def f142.s2b.o0 (y : List Int × Int × Int × Nat × Nat × Nat × List Int × Nat × List Int × List Int) : VS := ⟨[(0, .ptr 0 0), (8, .vw true 1 0 2 2), (9, .int .i64 2), (10, .int .i64 1)], [(0, ([.ptr 8 0, .ints .u8 64 y.1, .int .i64 y.2.1, .int .u64 y.2.2.1], 145, .norm)), (1, ([.vw true 4 0 y.2.2.2.1 5, .vw true 6 0 y.2.2.2.2.1 7], 0, .ro)), (3, ([], 140, .dead)), (4, ([.ints .u8 y.2.2.2.2.2.1 y.2.2.2.2.2.2.1], 0, .ro)), (6, ([.ints .u8 y.2.2.2.2.2.2.2.1 y.2.2.2.2.2.2.2.2.1], 0, .ro)), (8, ([.ints .u32 8 y.2.2.2.2.2.2.2.2.2], 140, .norm))], 9⟩
def f142.s2b.des : ∀ α : Type, (List Int × Int × Int × Nat × Nat × Nat × List Int × Nat × List Int × List Int) → (Ex → VS → Option α) → Option α := (des1 (.exit 2) f142.s2b.o0)
def f142.s2b.out : List Int × Int × Int × Nat × Nat × Nat × List Int × Nat × List Int × List Int → Ex × VS := (fun y => (.exit 2, f142.s2b.o0 y))
theorem f142.s2b.desOK : ∀ α y (k : Ex → VS → Option α), f142.s2b.des α y k = k (f142.s2b.out y).1 (f142.s2b.out y).2 := (fun _ _ _ => rfl)
def f142.s2b.inY : Ex → VS → Option (List Int × Int × Int × Nat × Nat × Nat × List Int × Nat × List Int × List Int)
  | .exit 2, ⟨[(0, .ptr 0 0), (8, .vw true 1 0 2 2), (9, .int .i64 2), (10, .int .i64 1)], [(0, ([.ptr 8 0, .ints .u8 64 b0_0, .int .i64 b0_1, .int .u64 b0_2], 145, .norm)), (1, ([.vw true 4 0 b1_0 5, .vw true 6 0 b1_1 7], 0, .ro)), (3, ([], 140, .dead)), (4, ([.ints .u8 b4_0 b4_1], 0, .ro)), (6, ([.ints .u8 b6_0 b6_1], 0, .ro)), (8, ([.ints .u32 8 b8], 140, .norm))], 9⟩ => some (b0_0, b0_1, b0_2, b1_0, b1_1, b4_0, b4_1, b6_0, b6_1, b8)
  | _, _ => none
def f142.lp (K : Nat) : Nat → Option (Hint × Summ) := tabLp [(2, f142.s2.h, summOr f142.s2.inX (summOf (iter (f142.s2 K) K) f142.s2.inX f142.s2.des) (summOf (iter (f142.s2b K) K) f142.s2b.inX f142.s2b.des))]
noncomputable def f142.tab (K : Nat) : List (Nat × Entry) := [(148, (f148.E K))]
theorem f142.tabOK (K : Nat) : SpecOK Try.prog (tabSp (f142.tab K)) := tab_ok ((tab_cons (f148.ok K) tab_nil))
theorem f142.s2.eq (K : Nat) (rec : Nat × Nat × List Int × Int × Int × Nat × Nat × Nat × List Int × Nat × List Int × List Int → Option (List Int × Int × Int × Nat × Nat × Nat × List Int × Nat × List Int × List Int)) (x : Nat × Nat × List Int × Int × Int × Nat × Nat × Nat × List Int × Nat × List Int × List Int) : f142.s2 K rec x = roundL (getA tys) (tabSp (f142.tab K)) 76 8 (f142.lp K) 400 f142.s2.b f142.s2.h f142.s2.ho f142.s2.shp f142.s2.inX f142.s2.inY rec x := by kernel_rfl
theorem f142.s2.lok (K : Nat) : LoopsOK Try.prog 76 8 (f142.lp K) f142.s2.b := loops_ok (by
  have h : loopsIn (f142.lp K) f142.s2.b = [] := by kernel_rfl
  rw [h]; simp)
theorem f142.s2.ok (K : Nat) : SummOK Try.prog 76 8 (summOf (iter (f142.s2 K) K) f142.s2.inX f142.s2.des) f142.s2.b :=
  loop_ok mix tys_ok (f142.tabOK K) (h := f142.s2.h) (ho := f142.s2.ho) (shp := f142.s2.shp) (inX := f142.s2.inX) (des := f142.s2.des) (out := f142.s2.out) (inY := f142.s2.inY) (fuel := 400)
    (by intro st x h; unfold f142.s2.inX at h; split at h <;> simp at h; subst h; rfl)
    (by intro e st y h; unfold f142.s2.inY at h; split at h <;> simp at h <;> subst h <;> rfl)
    f142.s2.desOK (f142.s2.lok K) (f142.s2 K) (f142.s2.eq K) K
theorem f142.s2b.eq (K : Nat) (rec : Nat × Nat × List Int × Int × Int × Nat × Nat × Nat × List Int × Nat × List Int × List Int → Option (List Int × Int × Int × Nat × Nat × Nat × List Int × Nat × List Int × List Int)) (x : Nat × Nat × List Int × Int × Int × Nat × Nat × Nat × List Int × Nat × List Int × List Int) : f142.s2b K rec x = roundL (getA tys) (tabSp (f142.tab K)) 76 8 (f142.lp K) 400 f142.s2b.b f142.s2b.h f142.s2b.ho f142.s2b.shp f142.s2b.inX f142.s2b.inY rec x := by kernel_rfl
theorem f142.s2b.lok (K : Nat) : LoopsOK Try.prog 76 8 (f142.lp K) f142.s2b.b := loops_ok (by
  have h : loopsIn (f142.lp K) f142.s2b.b = [] := by kernel_rfl
  rw [h]; simp)
theorem f142.s2b.ok (K : Nat) : SummOK Try.prog 76 8 (summOf (iter (f142.s2b K) K) f142.s2b.inX f142.s2b.des) f142.s2b.b :=
  loop_ok mix tys_ok (f142.tabOK K) (h := f142.s2b.h) (ho := f142.s2b.ho) (shp := f142.s2b.shp) (inX := f142.s2b.inX) (des := f142.s2b.des) (out := f142.s2b.out) (inY := f142.s2b.inY) (fuel := 400)
    (by intro st x h; unfold f142.s2b.inX at h; split at h <;> simp at h; subst h; rfl)
    (by intro e st y h; unfold f142.s2b.inY at h; split at h <;> simp at h <;> subst h <;> rfl)
    f142.s2b.desOK (f142.s2b.lok K) (f142.s2b K) (f142.s2b.eq K) K
theorem f142.loops (K : Nat) : LoopsOK Try.prog 76 8 (f142.lp K) f142.c := loops_ok (by
  have h : loopsIn (f142.lp K) f142.c = [(2, f142.s2.b)] := by kernel_rfl
  rw [h]
  intro p hp
  simp only [List.mem_cons, List.not_mem_nil, or_false] at hp
  rcases hp with rfl
  · exact ⟨_, rfl, (summOr_ok (f142.s2.ok K) (f142.s2b.ok K))⟩)
def f142.T (K : Nat) (m0_0 : List Int) (m0_1 : Int) (m0_2 : Int) (m1_0 : Nat) (m1_1 : Nat) (m3 : List Int) (m4_0 : Nat) (m4_1 : List Int) (m6_0 : Nat) (m6_1 : List Int) : Option (List Int × Int × Int × Nat × Nat × Nat × List Int × Nat × List Int × List Int) :=
  (iter (f142.s2 K) K (0, m1_0, m0_0, m0_1, (IntKind.wrap .u64 (m0_2 + (IntKind.wrap .u64 ((m1_0 : Nat) : Int)))), m1_0, m1_1, m4_0, m4_1, m6_0, m6_1, m3)).bind fun y15 =>
  let v16 := y15.2.2.2.2.1
  (iter (f142.s2b K) K (0, v16, y15.1, y15.2.1, (IntKind.wrap .u64 (y15.2.2.1 + (IntKind.wrap .u64 ((v16 : Nat) : Int)))), y15.2.2.2.1, y15.2.2.2.2.1, y15.2.2.2.2.2.1, y15.2.2.2.2.2.2.1, y15.2.2.2.2.2.2.2.1, y15.2.2.2.2.2.2.2.2.1, y15.2.2.2.2.2.2.2.2.2)).bind fun y31 =>
  some (y31.1, y31.2.1, y31.2.2.1, y31.2.2.2.1, y31.2.2.2.2.1, y31.2.2.2.2.2.1, y31.2.2.2.2.2.2.1, y31.2.2.2.2.2.2.2.1, y31.2.2.2.2.2.2.2.2.1, y31.2.2.2.2.2.2.2.2.2)
def f142.F (K : Nat) (x : List Int × Int × Int × Nat × Nat × List Int × Nat × List Int × Nat × List Int) : Option (List Int × Int × Int × Nat × Nat × Nat × List Int × Nat × List Int × List Int) := f142.T K x.1 x.2.1 x.2.2.1 x.2.2.2.1 x.2.2.2.2.1 x.2.2.2.2.2.1 x.2.2.2.2.2.2.1 x.2.2.2.2.2.2.2.1 x.2.2.2.2.2.2.2.2.1 x.2.2.2.2.2.2.2.2.2
def f142.av (_x : List Int × Int × Int × Nat × Nat × List Int × Nat × List Int × Nat × List Int) : List VV := [.ptr 0 0, .vw true 1 0 2 2]
def f142.bl (x : List Int × Int × Int × Nat × Nat × List Int × Nat × List Int × Nat × List Int) : List (Nat × Blk) := [(0, ([.ptr 3 0, .ints .u8 64 x.1, .int .i64 x.2.1, .int .u64 x.2.2.1], 145, .norm)), (1, ([.vw true 4 0 x.2.2.2.1 5, .vw true 6 0 x.2.2.2.2.1 7], 0, .ro)), (3, ([.ints .u32 8 x.2.2.2.2.2.1], 140, .norm)), (4, ([.ints .u8 x.2.2.2.2.2.2.1 x.2.2.2.2.2.2.2.1], 0, .ro)), (6, ([.ints .u8 x.2.2.2.2.2.2.2.2.1 x.2.2.2.2.2.2.2.2.2], 0, .ro))]
def f142.inA : VS → Option (List Int × Int × Int × Nat × Nat × List Int × Nat × List Int × Nat × List Int)
  | ⟨[(0, .ptr 0 0), (1, .vw true 1 0 2 2)], [(0, ([.ptr 3 0, .ints .u8 64 m0_0, .int .i64 m0_1, .int .u64 m0_2], 145, .norm)), (1, ([.vw true 4 0 m1_0 5, .vw true 6 0 m1_1 7], 0, .ro)), (3, ([.ints .u32 8 m3], 140, .norm)), (4, ([.ints .u8 m4_0 m4_1], 0, .ro)), (6, ([.ints .u8 m6_0 m6_1], 0, .ro))], 8⟩ => some (m0_0, m0_1, m0_2, m1_0, m1_1, m3, m4_0, m4_1, m6_0, m6_1)
  | _ => none
def f142.o0 (y : List Int × Int × Int × Nat × Nat × Nat × List Int × Nat × List Int × List Int) : VS := ⟨[(0, .tup [])], [(0, ([.ptr 8 0, .ints .u8 64 y.1, .int .i64 y.2.1, .int .u64 y.2.2.1], 145, .norm)), (1, ([.vw true 4 0 y.2.2.2.1 5, .vw true 6 0 y.2.2.2.2.1 7], 0, .ro)), (3, ([], 140, .dead)), (4, ([.ints .u8 y.2.2.2.2.2.1 y.2.2.2.2.2.2.1], 0, .ro)), (6, ([.ints .u8 y.2.2.2.2.2.2.2.1 y.2.2.2.2.2.2.2.2.1], 0, .ro)), (8, ([.ints .u32 8 y.2.2.2.2.2.2.2.2.2], 140, .norm))], 9⟩
def f142.des : ∀ α : Type, (List Int × Int × Int × Nat × Nat × Nat × List Int × Nat × List Int × List Int) → (VS → Option α) → Option α := (dv1 f142.o0)
def f142.out : List Int × Int × Int × Nat × Nat × Nat × List Int × Nat × List Int × List Int → VS := f142.o0
def f142.inR : VS → Option (List Int × Int × Int × Nat × Nat × Nat × List Int × Nat × List Int × List Int)
  | ⟨[(0, .tup [])], [(0, ([.ptr 8 0, .ints .u8 64 z0_0, .int .i64 z0_1, .int .u64 z0_2], 145, .norm)), (1, ([.vw true 4 0 z1_0 5, .vw true 6 0 z1_1 7], 0, .ro)), (3, ([], 140, .dead)), (4, ([.ints .u8 z4_0 z4_1], 0, .ro)), (6, ([.ints .u8 z6_0 z6_1], 0, .ro)), (8, ([.ints .u32 8 z8], 140, .norm))], 9⟩ => some (z0_0, z0_1, z0_2, z1_0, z1_1, z4_0, z4_1, z6_0, z6_1, z8)
  | _ => none
noncomputable def f142.E (K : Nat) : Entry := genE 8 f142.inA (f142.F K) f142.des
theorem f142.eq (K : Nat) (x : List Int × Int × Int × Nat × Nat × List Int × Nat × List Int × Nat × List Int) : f142.F K x = xrun (getA tys) (tabSp (f142.tab K)) Try.f142.ntmps 8 (f142.lp K) 400 f142.c ⟨initL 0 (f142.av x), f142.bl x, 8⟩ (contF (getA tys) 8 Try.f142.results.toList f142.inR) := by kernel_rfl
theorem f142.ok (K : Nat) : EntryOK Try.prog 142 (f142.E K) :=
  gen_ok mix tys_ok (f142.tabOK K) Try.func142 (by kernel_rfl : Try.f142.body = some f142.c) (by kernel_rfl) (f142.loops K) (av := f142.av) (bl := f142.bl) (out := f142.out) (fuel := 400)
    (by intro s x h; unfold f142.inA at h; split at h <;> simp at h; subst h; rfl) (fun _ => Nat.le_of_ble_eq_true rfl)
    (by intro s y h; unfold f142.inR at h; split at h <;> simp at h <;> subst h <;> rfl) (fun _ _ _ => rfl) (f142.eq K)
end Go.Proofs

namespace Go.Proofs
open Go.VM
noncomputable def f142v1.c : Code := bodyOf Try.f142
def f142v1.s2t (K : Nat) (rec : Nat × Nat × List Int × Int × Int × Nat × Nat × List Int × List Int → Option (List Int × Int × Int × Nat × Nat × List Int × List Int)) (t5_0 : Nat) (t5_1 : Nat) (b0_0 : List Int) (b0_1 : Int) (b0_2 : Int) (b1 : Nat) (b4_0 : Nat) (b4_1 : List Int) (b7 : List Int) : Option (List Int × Int × Int × Nat × Nat × List Int × List Int) :=
  bif (decide (((t5_1 : Nat) : Int) > 0)) then
    bif decide (0 ≤ b0_1 ∧ b0_1 ≤ 64) then
      let v6 := bif Nat.beq 64 (Int.toNat b0_1) then 0 else (Int.toNat b0_1)
      let v7 := 64 - (Int.toNat b0_1)
      bif (((Nat.ble (t5_0 + t5_1) b4_0 && true) && (Nat.ble (v6 + v7) 64)) && (Nat.beq t5_1 t5_1)) then
        let v9 := ((Nat.min t5_1 v7 : Nat) : Int)
        let v10 := spl b0_0 v6 (Nat.min t5_1 v7) (subI b4_1 t5_0 t5_1)
        bif decide (0 ≤ v9 ∧ v9 ≤ ((t5_1 : Nat) : Int)) then
          let v11 := t5_0 + (Int.toNat v9)
          let v12 := t5_1 - (Int.toNat v9)
          let v13 := IntKind.wrap .i64 (b0_1 + v9)
          bif (v13 == 64) then
            (f148.F K (b7, v10, v13, b0_2, b7)).bind fun y14 =>
            rec (v11, v12, y14.2.1, 0, y14.2.2.2.1, b1, b4_0, b4_1, y14.1)
          else
            rec (v11, v12, v10, v13, b0_2, b1, b4_0, b4_1, b7)
        else
          none
      else
        none
    else
      none
  else
    some (b0_0, b0_1, b0_2, b1, b4_0, b4_1, b7)
def f142v1.s2 (K : Nat) (rec : Nat × Nat × List Int × Int × Int × Nat × Nat × List Int × List Int → Option (List Int × Int × Int × Nat × Nat × List Int × List Int)) (x : Nat × Nat × List Int × Int × Int × Nat × Nat × List Int × List Int) : Option (List Int × Int × Int × Nat × Nat × List Int × List Int) := f142v1.s2t K rec x.1 x.2.1 x.2.2.1 x.2.2.2.1 x.2.2.2.2.1 x.2.2.2.2.2.1 x.2.2.2.2.2.2.1 x.2.2.2.2.2.2.2.1 x.2.2.2.2.2.2.2.2
noncomputable def f142v1.s2.b : Code := (findLoop 2 f142v1.c).getD .skip
def f142v1.s2.h : Hint := { lv := [0, 5, 8, 9, 10], co := [(5, 0, [])], mv := [3] }
def f142v1.s2.ho : Hint := { lv := [0, 8, 9, 10] }
def f142v1.s2.shp (x : Nat × Nat × List Int × Int × Int × Nat × Nat × List Int × List Int) : VS := ⟨[(0, .ptr 0 0), (5, .vw true 4 x.1 x.2.1 6), (8, .vw true 1 0 1 2), (9, .int .i64 1), (10, .int .i64 0)], [(0, ([.ptr 7 0, .ints .u8 64 x.2.2.1, .int .i64 x.2.2.2.1, .int .u64 x.2.2.2.2.1], 145, .norm)), (1, ([.vw true 4 0 x.2.2.2.2.2.1 5], 0, .ro)), (3, ([], 140, .dead)), (4, ([.ints .u8 x.2.2.2.2.2.2.1 x.2.2.2.2.2.2.2.1], 0, .ro)), (7, ([.ints .u32 8 x.2.2.2.2.2.2.2.2], 140, .norm))], 8⟩
def f142v1.s2.inX : VS → Option (Nat × Nat × List Int × Int × Int × Nat × Nat × List Int × List Int)
  | ⟨[(0, .ptr 0 0), (5, .vw true 4 t5_0 t5_1 6), (8, .vw true 1 0 1 2), (9, .int .i64 1), (10, .int .i64 0)], [(0, ([.ptr 7 0, .ints .u8 64 b0_0, .int .i64 b0_1, .int .u64 b0_2], 145, .norm)), (1, ([.vw true 4 0 b1 5], 0, .ro)), (3, ([], 140, .dead)), (4, ([.ints .u8 b4_0 b4_1], 0, .ro)), (7, ([.ints .u32 8 b7], 140, .norm))], 8⟩ => some (t5_0, t5_1, b0_0, b0_1, b0_2, b1, b4_0, b4_1, b7)
  | _ => none
def f142v1.s2.o0 (y : List Int × Int × Int × Nat × Nat × List Int × List Int) : VS := ⟨[(0, .ptr 0 0), (8, .vw true 1 0 1 2), (9, .int .i64 1), (10, .int .i64 0)], [(0, ([.ptr 6 0, .ints .u8 64 y.1, .int .i64 y.2.1, .int .u64 y.2.2.1], 145, .norm)), (1, ([.vw true 4 0 y.2.2.2.1 5], 0, .ro)), (3, ([], 140, .dead)), (4, ([.ints .u8 y.2.2.2.2.1 y.2.2.2.2.2.1], 0, .ro)), (6, ([.ints .u32 8 y.2.2.2.2.2.2], 140, .norm))], 7⟩
def f142v1.s2.des : ∀ α : Type, (List Int × Int × Int × Nat × Nat × List Int × List Int) → (Ex → VS → Option α) → Option α := (des1 (.exit 2) f142v1.s2.o0)
def f142v1.s2.out : List Int × Int × Int × Nat × Nat × List Int × List Int → Ex × VS := (fun y => (.exit 2, f142v1.s2.o0 y))
theorem f142v1.s2.desOK : ∀ α y (k : Ex → VS → Option α), f142v1.s2.des α y k = k (f142v1.s2.out y).1 (f142v1.s2.out y).2 := (fun _ _ _ => rfl)
def f142v1.s2.inY : Ex → VS → Option (List Int × Int × Int × Nat × Nat × List Int × List Int)
  | .exit 2, ⟨[(0, .ptr 0 0), (8, .vw true 1 0 1 2), (9, .int .i64 1), (10, .int .i64 0)], [(0, ([.ptr 6 0, .ints .u8 64 b0_0, .int .i64 b0_1, .int .u64 b0_2], 145, .norm)), (1, ([.vw true 4 0 b1 5], 0, .ro)), (3, ([], 140, .dead)), (4, ([.ints .u8 b4_0 b4_1], 0, .ro)), (6, ([.ints .u32 8 b6], 140, .norm))], 7⟩ => some (b0_0, b0_1, b0_2, b1, b4_0, b4_1, b6)
  | _, _ => none
def f142v1.lp (K : Nat) : Nat → Option (Hint × Summ) := tabLp [(2, f142v1.s2.h, summOf (iter (f142v1.s2 K) K) f142v1.s2.inX f142v1.s2.des)]
noncomputable def f142v1.tab (K : Nat) : List (Nat × Entry) := [(148, (f148.E K))]
theorem f142v1.tabOK (K : Nat) : SpecOK Try.prog (tabSp (f142v1.tab K)) := tab_ok ((tab_cons (f148.ok K) tab_nil))
theorem f142v1.s2.eq (K : Nat) (rec : Nat × Nat × List Int × Int × Int × Nat × Nat × List Int × List Int → Option (List Int × Int × Int × Nat × Nat × List Int × List Int)) (x : Nat × Nat × List Int × Int × Int × Nat × Nat × List Int × List Int) : f142v1.s2 K rec x = roundL (getA tys) (tabSp (f142v1.tab K)) 76 6 (f142v1.lp K) 400 f142v1.s2.b f142v1.s2.h f142v1.s2.ho f142v1.s2.shp f142v1.s2.inX f142v1.s2.inY rec x := by kernel_rfl
theorem f142v1.s2.lok (K : Nat) : LoopsOK Try.prog 76 6 (f142v1.lp K) f142v1.s2.b := loops_ok (by
  have h : loopsIn (f142v1.lp K) f142v1.s2.b = [] := by kernel_rfl
  rw [h]; simp)
theorem f142v1.s2.ok (K : Nat) : SummOK Try.prog 76 6 (summOf (iter (f142v1.s2 K) K) f142v1.s2.inX f142v1.s2.des) f142v1.s2.b :=
  loop_ok mix tys_ok (f142v1.tabOK K) (h := f142v1.s2.h) (ho := f142v1.s2.ho) (shp := f142v1.s2.shp) (inX := f142v1.s2.inX) (des := f142v1.s2.des) (out := f142v1.s2.out) (inY := f142v1.s2.inY) (fuel := 400)
    (by intro st x h; unfold f142v1.s2.inX at h; split at h <;> simp at h; subst h; rfl)
    (by intro e st y h; unfold f142v1.s2.inY at h; split at h <;> simp at h <;> subst h <;> rfl)
    f142v1.s2.desOK (f142v1.s2.lok K) (f142v1.s2 K) (f142v1.s2.eq K) K
theorem f142v1.loops (K : Nat) : LoopsOK Try.prog 76 6 (f142v1.lp K) f142v1.c := loops_ok (by
  have h : loopsIn (f142v1.lp K) f142v1.c = [(2, f142v1.s2.b)] := by kernel_rfl
  rw [h]
  intro p hp
  simp only [List.mem_cons, List.not_mem_nil, or_false] at hp
  rcases hp with rfl
  · exact ⟨_, rfl, (f142v1.s2.ok K)⟩)
def f142v1.T (K : Nat) (m0_0 : List Int) (m0_1 : Int) (m0_2 : Int) (m1 : Nat) (m3 : List Int) (m4_0 : Nat) (m4_1 : List Int) : Option (List Int × Int × Int × Nat × Nat × List Int × List Int) :=
  (iter (f142v1.s2 K) K (0, m1, m0_0, m0_1, (IntKind.wrap .u64 (m0_2 + (IntKind.wrap .u64 ((m1 : Nat) : Int)))), m1, m4_0, m4_1, m3)).bind fun y15 =>
  some (y15.1, y15.2.1, y15.2.2.1, y15.2.2.2.1, y15.2.2.2.2.1, y15.2.2.2.2.2.1, y15.2.2.2.2.2.2)
def f142v1.F (K : Nat) (x : List Int × Int × Int × Nat × List Int × Nat × List Int) : Option (List Int × Int × Int × Nat × Nat × List Int × List Int) := f142v1.T K x.1 x.2.1 x.2.2.1 x.2.2.2.1 x.2.2.2.2.1 x.2.2.2.2.2.1 x.2.2.2.2.2.2
def f142v1.av (_x : List Int × Int × Int × Nat × List Int × Nat × List Int) : List VV := [.ptr 0 0, .vw true 1 0 1 2]
def f142v1.bl (x : List Int × Int × Int × Nat × List Int × Nat × List Int) : List (Nat × Blk) := [(0, ([.ptr 3 0, .ints .u8 64 x.1, .int .i64 x.2.1, .int .u64 x.2.2.1], 145, .norm)), (1, ([.vw true 4 0 x.2.2.2.1 5], 0, .ro)), (3, ([.ints .u32 8 x.2.2.2.2.1], 140, .norm)), (4, ([.ints .u8 x.2.2.2.2.2.1 x.2.2.2.2.2.2], 0, .ro))]
def f142v1.inA : VS → Option (List Int × Int × Int × Nat × List Int × Nat × List Int)
  | ⟨[(0, .ptr 0 0), (1, .vw true 1 0 1 2)], [(0, ([.ptr 3 0, .ints .u8 64 m0_0, .int .i64 m0_1, .int .u64 m0_2], 145, .norm)), (1, ([.vw true 4 0 m1 5], 0, .ro)), (3, ([.ints .u32 8 m3], 140, .norm)), (4, ([.ints .u8 m4_0 m4_1], 0, .ro))], 6⟩ => some (m0_0, m0_1, m0_2, m1, m3, m4_0, m4_1)
  | _ => none
def f142v1.o0 (y : List Int × Int × Int × Nat × Nat × List Int × List Int) : VS := ⟨[(0, .tup [])], [(0, ([.ptr 6 0, .ints .u8 64 y.1, .int .i64 y.2.1, .int .u64 y.2.2.1], 145, .norm)), (1, ([.vw true 4 0 y.2.2.2.1 5], 0, .ro)), (3, ([], 140, .dead)), (4, ([.ints .u8 y.2.2.2.2.1 y.2.2.2.2.2.1], 0, .ro)), (6, ([.ints .u32 8 y.2.2.2.2.2.2], 140, .norm))], 7⟩
def f142v1.des : ∀ α : Type, (List Int × Int × Int × Nat × Nat × List Int × List Int) → (VS → Option α) → Option α := (dv1 f142v1.o0)
def f142v1.out : List Int × Int × Int × Nat × Nat × List Int × List Int → VS := f142v1.o0
def f142v1.inR : VS → Option (List Int × Int × Int × Nat × Nat × List Int × List Int)
  | ⟨[(0, .tup [])], [(0, ([.ptr 6 0, .ints .u8 64 z0_0, .int .i64 z0_1, .int .u64 z0_2], 145, .norm)), (1, ([.vw true 4 0 z1 5], 0, .ro)), (3, ([], 140, .dead)), (4, ([.ints .u8 z4_0 z4_1], 0, .ro)), (6, ([.ints .u32 8 z6], 140, .norm))], 7⟩ => some (z0_0, z0_1, z0_2, z1, z4_0, z4_1, z6)
  | _ => none
noncomputable def f142v1.E (K : Nat) : Entry := genE 6 f142v1.inA (f142v1.F K) f142v1.des
theorem f142v1.eq (K : Nat) (x : List Int × Int × Int × Nat × List Int × Nat × List Int) : f142v1.F K x = xrun (getA tys) (tabSp (f142v1.tab K)) Try.f142.ntmps 6 (f142v1.lp K) 400 f142v1.c ⟨initL 0 (f142v1.av x), f142v1.bl x, 6⟩ (contF (getA tys) 6 Try.f142.results.toList f142v1.inR) := by kernel_rfl
theorem f142v1.ok (K : Nat) : EntryOK Try.prog 142 (f142v1.E K) :=
  gen_ok mix tys_ok (f142v1.tabOK K) Try.func142 (by kernel_rfl : Try.f142.body = some f142v1.c) (by kernel_rfl) (f142v1.loops K) (av := f142v1.av) (bl := f142v1.bl) (out := f142v1.out) (fuel := 400)
    (by intro s x h; unfold f142v1.inA at h; split at h <;> simp at h; subst h; rfl) (fun _ => Nat.le_of_ble_eq_true rfl)
    (by intro s y h; unfold f142v1.inR at h; split at h <;> simp at h <;> subst h <;> rfl) (fun _ _ _ => rfl) (f142v1.eq K)
end Go.Proofs

namespace Go.Proofs
open Go.VM
noncomputable def f142v2.c : Code := bodyOf Try.f142
def f142v2.s2t (K : Nat) (rec : Nat × Nat × List Int × Int × Int × Nat × Nat × Nat × Nat × List Int × Nat × List Int × Nat × List Int × List Int → Option (List Int × Int × Int × Nat × Nat × Nat × Nat × List Int × Nat × List Int × Nat × List Int × List Int)) (t5_0 : Nat) (t5_1 : Nat) (b0_0 : List Int) (b0_1 : Int) (b0_2 : Int) (b1_0 : Nat) (b1_1 : Nat) (b1_2 : Nat) (b4_0 : Nat) (b4_1 : List Int) (b6_0 : Nat) (b6_1 : List Int) (b8_0 : Nat) (b8_1 : List Int) (b11 : List Int) : Option (List Int × Int × Int × Nat × Nat × Nat × Nat × List Int × Nat × List Int × Nat × List Int × List Int) :=
  bif (decide (((t5_1 : Nat) : Int) > 0)) then
    bif decide (0 ≤ b0_1 ∧ b0_1 ≤ 64) then
      let v6 := bif Nat.beq 64 (Int.toNat b0_1) then 0 else (Int.toNat b0_1)
      let v7 := 64 - (Int.toNat b0_1)
      bif (((Nat.ble (t5_0 + t5_1) b4_0 && true) && (Nat.ble (v6 + v7) 64)) && (Nat.beq t5_1 t5_1)) then
        let v9 := ((Nat.min t5_1 v7 : Nat) : Int)
        let v10 := spl b0_0 v6 (Nat.min t5_1 v7) (subI b4_1 t5_0 t5_1)
        bif decide (0 ≤ v9 ∧ v9 ≤ ((t5_1 : Nat) : Int)) then
          let v11 := t5_0 + (Int.toNat v9)
          let v12 := t5_1 - (Int.toNat v9)
          let v13 := IntKind.wrap .i64 (b0_1 + v9)
          bif (v13 == 64) then
            (f148.F K (b11, v10, v13, b0_2, b11)).bind fun y14 =>
            rec (v11, v12, y14.2.1, 0, y14.2.2.2.1, b1_0, b1_1, b1_2, b4_0, b4_1, b6_0, b6_1, b8_0, b8_1, y14.1)
          else
            rec (v11, v12, v10, v13, b0_2, b1_0, b1_1, b1_2, b4_0, b4_1, b6_0, b6_1, b8_0, b8_1, b11)
        else
          none
      else
        none
    else
      none
  else
    some (b0_0, b0_1, b0_2, b1_0, b1_1, b1_2, b4_0, b4_1, b6_0, b6_1, b8_0, b8_1, b11)
def f142v2.s2 (K : Nat) (rec : Nat × Nat × List Int × Int × Int × Nat × Nat × Nat × Nat × List Int × Nat × List Int × Nat × List Int × List Int → Option (List Int × Int × Int × Nat × Nat × Nat × Nat × List Int × Nat × List Int × Nat × List Int × List Int)) (x : Nat × Nat × List Int × Int × Int × Nat × Nat × Nat × Nat × List Int × Nat × List Int × Nat × List Int × List Int) : Option (List Int × Int × Int × Nat × Nat × Nat × Nat × List Int × Nat × List Int × Nat × List Int × List Int) := f142v2.s2t K rec x.1 x.2.1 x.2.2.1 x.2.2.2.1 x.2.2.2.2.1 x.2.2.2.2.2.1 x.2.2.2.2.2.2.1 x.2.2.2.2.2.2.2.1 x.2.2.2.2.2.2.2.2.1 x.2.2.2.2.2.2.2.2.2.1 x.2.2.2.2.2.2.2.2.2.2.1 x.2.2.2.2.2.2.2.2.2.2.2.1 x.2.2.2.2.2.2.2.2.2.2.2.2.1 x.2.2.2.2.2.2.2.2.2.2.2.2.2.1 x.2.2.2.2.2.2.2.2.2.2.2.2.2.2
noncomputable def f142v2.s2.b : Code := (findLoop 2 f142v2.c).getD .skip
def f142v2.s2.h : Hint := { lv := [0, 5, 8, 9, 10], co := [(5, 0, [])], mv := [3] }
def f142v2.s2.ho : Hint := { lv := [0, 8, 9, 10] }
def f142v2.s2.shp (x : Nat × Nat × List Int × Int × Int × Nat × Nat × Nat × Nat × List Int × Nat × List Int × Nat × List Int × List Int) : VS := ⟨[(0, .ptr 0 0), (5, .vw true 4 x.1 x.2.1 10), (8, .vw true 1 0 3 2), (9, .int .i64 3), (10, .int .i64 0)], [(0, ([.ptr 11 0, .ints .u8 64 x.2.2.1, .int .i64 x.2.2.2.1, .int .u64 x.2.2.2.2.1], 145, .norm)), (1, ([.vw true 4 0 x.2.2.2.2.2.1 5, .vw true 6 0 x.2.2.2.2.2.2.1 7, .vw true 8 0 x.2.2.2.2.2.2.2.1 9], 0, .ro)), (3, ([], 140, .dead)), (4, ([.ints .u8 x.2.2.2.2.2.2.2.2.1 x.2.2.2.2.2.2.2.2.2.1], 0, .ro)), (6, ([.ints .u8 x.2.2.2.2.2.2.2.2.2.2.1 x.2.2.2.2.2.2.2.2.2.2.2.1], 0, .ro)), (8, ([.ints .u8 x.2.2.2.2.2.2.2.2.2.2.2.2.1 x.2.2.2.2.2.2.2.2.2.2.2.2.2.1], 0, .ro)), (11, ([.ints .u32 8 x.2.2.2.2.2.2.2.2.2.2.2.2.2.2], 140, .norm))], 12⟩
def f142v2.s2.inX : VS → Option (Nat × Nat × List Int × Int × Int × Nat × Nat × Nat × Nat × List Int × Nat × List Int × Nat × List Int × List Int)
  | ⟨[(0, .ptr 0 0), (5, .vw true 4 t5_0 t5_1 10), (8, .vw true 1 0 3 2), (9, .int .i64 3), (10, .int .i64 0)], [(0, ([.ptr 11 0, .ints .u8 64 b0_0, .int .i64 b0_1, .int .u64 b0_2], 145, .norm)), (1, ([.vw true 4 0 b1_0 5, .vw true 6 0 b1_1 7, .vw true 8 0 b1_2 9], 0, .ro)), (3, ([], 140, .dead)), (4, ([.ints .u8 b4_0 b4_1], 0, .ro)), (6, ([.ints .u8 b6_0 b6_1], 0, .ro)), (8, ([.ints .u8 b8_0 b8_1], 0, .ro)), (11, ([.ints .u32 8 b11], 140, .norm))], 12⟩ => some (t5_0, t5_1, b0_0, b0_1, b0_2, b1_0, b1_1, b1_2, b4_0, b4_1, b6_0, b6_1, b8_0, b8_1, b11)
  | _ => none
def f142v2.s2.o0 (y : List Int × Int × Int × Nat × Nat × Nat × Nat × List Int × Nat × List Int × Nat × List Int × List Int) : VS := ⟨[(0, .ptr 0 0), (8, .vw true 1 0 3 2), (9, .int .i64 3), (10, .int .i64 0)], [(0, ([.ptr 10 0, .ints .u8 64 y.1, .int .i64 y.2.1, .int .u64 y.2.2.1], 145, .norm)), (1, ([.vw true 4 0 y.2.2.2.1 5, .vw true 6 0 y.2.2.2.2.1 7, .vw true 8 0 y.2.2.2.2.2.1 9], 0, .ro)), (3, ([], 140, .dead)), (4, ([.ints .u8 y.2.2.2.2.2.2.1 y.2.2.2.2.2.2.2.1], 0, .ro)), (6, ([.ints .u8 y.2.2.2.2.2.2.2.2.1 y.2.2.2.2.2.2.2.2.2.1], 0, .ro)), (8, ([.ints .u8 y.2.2.2.2.2.2.2.2.2.2.1 y.2.2.2.2.2.2.2.2.2.2.2.1], 0, .ro)), (10, ([.ints .u32 8 y.2.2.2.2.2.2.2.2.2.2.2.2], 140, .norm))], 11⟩
def f142v2.s2.des : ∀ α : Type, (List Int × Int × Int × Nat × Nat × Nat × Nat × List Int × Nat × List Int × Nat × List Int × List Int) → (Ex → VS → Option α) → Option α := (des1 (.exit 2) f142v2.s2.o0)
def f142v2.s2.out : List Int × Int × Int × Nat × Nat × Nat × Nat × List Int × Nat × List Int × Nat × List Int × List Int → Ex × VS := (fun y => (.exit 2, f142v2.s2.o0 y))
theorem f142v2.s2.desOK : ∀ α y (k : Ex → VS → Option α), f142v2.s2.des α y k = k (f142v2.s2.out y).1 (f142v2.s2.out y).2 := (fun _ _ _ => rfl)
def f142v2.s2.inY : Ex → VS → Option (List Int × Int × Int × Nat × Nat × Nat × Nat × List Int × Nat × List Int × Nat × List Int × List Int)
  | .exit 2, ⟨[(0, .ptr 0 0), (8, .vw true 1 0 3 2), (9, .int .i64 3), (10, .int .i64 0)], [(0, ([.ptr 10 0, .ints .u8 64 b0_0, .int .i64 b0_1, .int .u64 b0_2], 145, .norm)), (1, ([.vw true 4 0 b1_0 5, .vw true 6 0 b1_1 7, .vw true 8 0 b1_2 9], 0, .ro)), (3, ([], 140, .dead)), (4, ([.ints .u8 b4_0 b4_1], 0, .ro)), (6, ([.ints .u8 b6_0 b6_1], 0, .ro)), (8, ([.ints .u8 b8_0 b8_1], 0, .ro)), (10, ([.ints .u32 8 b10], 140, .norm))], 11⟩ => some (b0_0, b0_1, b0_2, b1_0, b1_1, b1_2, b4_0, b4_1, b6_0, b6_1, b8_0, b8_1, b10)
  | _, _ => none
def f142v2.s2bt (K : Nat) (rec : Nat × Nat × List Int × Int × Int × Nat × Nat × Nat × Nat × List Int × Nat × List Int × Nat × List Int × List Int → Option (List Int × Int × Int × Nat × Nat × Nat × Nat × List Int × Nat × List Int × Nat × List Int × List Int)) (t5_0 : Nat) (t5_1 : Nat) (b0_0 : List Int) (b0_1 : Int) (b0_2 : Int) (b1_0 : Nat) (b1_1 : Nat) (b1_2 : Nat) (b4_0 : Nat) (b4_1 : List Int) (b6_0 : Nat) (b6_1 : List Int) (b8_0 : Nat) (b8_1 : List Int) (b11 : List Int) : Option (List Int × Int × Int × Nat × Nat × Nat × Nat × List Int × Nat × List Int × Nat × List Int × List Int) :=
  bif (decide (((t5_1 : Nat) : Int) > 0)) then
    bif decide (0 ≤ b0_1 ∧ b0_1 ≤ 64) then
      let v22 := bif Nat.beq 64 (Int.toNat b0_1) then 0 else (Int.toNat b0_1)
      let v23 := 64 - (Int.toNat b0_1)
      bif (((Nat.ble (t5_0 + t5_1) b6_0 && true) && (Nat.ble (v22 + v23) 64)) && (Nat.beq t5_1 t5_1)) then
        let v25 := ((Nat.min t5_1 v23 : Nat) : Int)
        let v26 := spl b0_0 v22 (Nat.min t5_1 v23) (subI b6_1 t5_0 t5_1)
        bif decide (0 ≤ v25 ∧ v25 ≤ ((t5_1 : Nat) : Int)) then
          let v27 := t5_0 + (Int.toNat v25)
          let v28 := t5_1 - (Int.toNat v25)
          let v29 := IntKind.wrap .i64 (b0_1 + v25)
          bif (v29 == 64) then
            (f148.F K (b11, v26, v29, b0_2, b11)).bind fun y30 =>
            rec (v27, v28, y30.2.1, 0, y30.2.2.2.1, b1_0, b1_1, b1_2, b4_0, b4_1, b6_0, b6_1, b8_0, b8_1, y30.1)
          else
            rec (v27, v28, v26, v29, b0_2, b1_0, b1_1, b1_2, b4_0, b4_1, b6_0, b6_1, b8_0, b8_1, b11)
        else
          none
      else
        none
    else
      none
  else
    some (b0_0, b0_1, b0_2, b1_0, b1_1, b1_2, b4_0, b4_1, b6_0, b6_1, b8_0, b8_1, b11)
def f142v2.s2b (K : Nat) (rec : Nat × Nat × List Int × Int × Int × Nat × Nat × Nat × Nat × List Int × Nat × List Int × Nat × List Int × List Int → Option (List Int × Int × Int × Nat × Nat × Nat × Nat × List Int × Nat × List Int × Nat × List Int × List Int)) (x : Nat × Nat × List Int × Int × Int × Nat × Nat × Nat × Nat × List Int × Nat × List Int × Nat × List Int × List Int) : Option (List Int × Int × Int × Nat × Nat × Nat × Nat × List Int × Nat × List Int × Nat × List Int × List Int) := f142v2.s2bt K rec x.1 x.2.1 x.2.2.1 x.2.2.2.1 x.2.2.2.2.1 x.2.2.2.2.2.1 x.2.2.2.2.2.2.1 x.2.2.2.2.2.2.2.1 x.2.2.2.2.2.2.2.2.1 x.2.2.2.2.2.2.2.2.2.1 x.2.2.2.2.2.2.2.2.2.2.1 x.2.2.2.2.2.2.2.2.2.2.2.1 x.2.2.2.2.2.2.2.2.2.2.2.2.1 x.2.2.2.2.2.2.2.2.2.2.2.2.2.1 x.2.2.2.2.2.2.2.2.2.2.2.2.2.2
noncomputable def f142v2.s2b.b : Code := (findLoop 2 f142v2.c).getD .skip
def f142v2.s2b.h : Hint := { lv := [0, 5, 8, 9, 10], co := [(5, 0, [])], mv := [3] }
def f142v2.s2b.ho : Hint := { lv := [0, 8, 9, 10] }
def f142v2.s2b.shp (x : Nat × Nat × List Int × Int × Int × Nat × Nat × Nat × Nat × List Int × Nat × List Int × Nat × List Int × List Int) : VS := ⟨[(0, .ptr 0 0), (5, .vw true 6 x.1 x.2.1 10), (8, .vw true 1 0 3 2), (9, .int .i64 3), (10, .int .i64 1)], [(0, ([.ptr 11 0, .ints .u8 64 x.2.2.1, .int .i64 x.2.2.2.1, .int .u64 x.2.2.2.2.1], 145, .norm)), (1, ([.vw true 4 0 x.2.2.2.2.2.1 5, .vw true 6 0 x.2.2.2.2.2.2.1 7, .vw true 8 0 x.2.2.2.2.2.2.2.1 9], 0, .ro)), (3, ([], 140, .dead)), (4, ([.ints .u8 x.2.2.2.2.2.2.2.2.1 x.2.2.2.2.2.2.2.2.2.1], 0, .ro)), (6, ([.ints .u8 x.2.2.2.2.2.2.2.2.2.2.1 x.2.2.2.2.2.2.2.2.2.2.2.1], 0, .ro)), (8, ([.ints .u8 x.2.2.2.2.2.2.2.2.2.2.2.2.1 x.2.2.2.2.2.2.2.2.2.2.2.2.2.1], 0, .ro)), (11, ([.ints .u32 8 x.2.2.2.2.2.2.2.2.2.2.2.2.2.2], 140, .norm))], 12⟩
def f142v2.s2b.inX : VS → Option (Nat × Nat × List Int × Int × Int × Nat × Nat × Nat × Nat × List Int × Nat × List Int × Nat × List Int × List Int)
  | ⟨[(0, .ptr 0 0), (5, .vw true 6 t5_0 t5_1 10), (8, .vw true 1 0 3 2), (9, .int .i64 3), (10, .int .i64 1)], [(0, ([.ptr 11 0, .ints .u8 64 b0_0, .int .i64 b0_1, .int .u64 b0_2], 145, .norm)), (1, ([.vw true 4 0 b1_0 5, .vw true 6 0 b1_1 7, .vw true 8 0 b1_2 9], 0, .ro)), (3, ([], 140, .dead)), (4, ([.ints .u8 b4_0 b4_1], 0, .ro)), (6, ([.ints .u8 b6_0 b6_1], 0, .ro)), (8, ([.ints .u8 b8_0 b8_1], 0, .ro)), (11, ([.ints .u32 8 b11], 140, .norm))], 12⟩ => some (t5_0, t5_1, b0_0, b0_1, b0_2, b1_0, b1_1, b1_2, b4_0, b4_1, b6_0, b6_1, b8_0, b8_1, b11)
  | _ => none
def f142v2.s2b.o0 (y : List Int × Int × Int × Nat × Nat × Nat × Nat × List Int × Nat × List Int × Nat × List Int × List Int) : VS := ⟨[(0, .ptr 0 0), (8, .vw true 1 0 3 2), (9, .int .i64 3), (10, .int .i64 1)], [(0, ([.ptr 10 0, .ints .u8 64 y.1, .int .i64 y.2.1, .int .u64 y.2.2.1], 145, .norm)), (1, ([.vw true 4 0 y.2.2.2.1 5, .vw true 6 0 y.2.2.2.2.1 7, .vw true 8 0 y.2.2.2.2.2.1 9], 0, .ro)), (3, ([], 140, .dead)), (4, ([.ints .u8 y.2.2.2.2.2.2.1 y.2.2.2.2.2.2.2.1], 0, .ro)), (6, ([.ints .u8 y.2.2.2.2.2.2.2.2.1 y.2.2.2.2.2.2.2.2.2.1], 0, .ro)), (8, ([.ints .u8 y.2.2.2.2.2.2.2.2.2.2.1 y.2.2.2.2.2.2.2.2.2.2.2.1], 0, .ro)), (10, ([.ints .u32 8 y.2.2.2.2.2.2.2.2.2.2.2.2], 140, .norm))], 11⟩
def f142v2.s2b.des : ∀ α : Type, (List Int × Int × Int × Nat × Nat × Nat × Nat × List Int × Nat × List Int × Nat × List Int × List Int) → (Ex → VS → Option α) → Option α := (des1 (.exit 2) f142v2.s2b.o0)
def f142v2.s2b.out : List Int × Int × Int × Nat × Nat × Nat × Nat × List Int × Nat × List Int × Nat × List Int × List Int → Ex × VS := (fun y => (.exit 2, f142v2.s2b.o0 y))
theorem f142v2.s2b.desOK : ∀ α y (k : Ex → VS → Option α), f142v2.s2b.des α y k = k (f142v2.s2b.out y).1 (f142v2.s2b.out y).2 := (fun _ _ _ => rfl)
def f142v2.s2b.inY : Ex → VS → Option (List Int × Int × Int × Nat × Nat × Nat × Nat × List Int × Nat × List Int × Nat × List Int × List Int)
  | .exit 2, ⟨[(0, .ptr 0 0), (8, .vw true 1 0 3 2), (9, .int .i64 3), (10, .int .i64 1)], [(0, ([.ptr 10 0, .ints .u8 64 b0_0, .int .i64 b0_1, .int .u64 b0_2], 145, .norm)), (1, ([.vw true 4 0 b1_0 5, .vw true 6 0 b1_1 7, .vw true 8 0 b1_2 9], 0, .ro)), (3, ([], 140, .dead)), (4, ([.ints .u8 b4_0 b4_1], 0, .ro)), (6, ([.ints .u8 b6_0 b6_1], 0, .ro)), (8, ([.ints .u8 b8_0 b8_1], 0, .ro)), (10, ([.ints .u32 8 b10], 140, .norm))], 11⟩ => some (b0_0, b0_1, b0_2, b1_0, b1_1, b1_2, b4_0, b4_1, b6_0, b6_1, b8_0, b8_1, b10)
  | _, _ => none
def f142v2.s2ct (K : Nat) (rec : Nat × Nat × List Int × Int × Int × Nat × Nat × Nat × Nat × List Int × Nat × List Int × Nat × List Int × List Int → Option (List Int × Int × Int × Nat × Nat × Nat × Nat × List Int × Nat × List Int × Nat × List Int × List Int)) (t5_0 : Nat) (t5_1 : Nat) (b0_0 : List Int) (b0_1 : Int) (b0_2 : Int) (b1_0 : Nat) (b1_1 : Nat) (b1_2 : Nat) (b4_0 : Nat) (b4_1 : List Int) (b6_0 : Nat) (b6_1 : List Int) (b8_0 : Nat) (b8_1 : List Int) (b11 : List Int) : Option (List Int × Int × Int × Nat × Nat × Nat × Nat × List Int × Nat × List Int × Nat × List Int × List Int) :=
  bif (decide (((t5_1 : Nat) : Int) > 0)) then
    bif decide (0 ≤ b0_1 ∧ b0_1 ≤ 64) then
      let v38 := bif Nat.beq 64 (Int.toNat b0_1) then 0 else (Int.toNat b0_1)
      let v39 := 64 - (Int.toNat b0_1)
      bif (((Nat.ble (t5_0 + t5_1) b8_0 && true) && (Nat.ble (v38 + v39) 64)) && (Nat.beq t5_1 t5_1)) then
        let v41 := ((Nat.min t5_1 v39 : Nat) : Int)
        let v42 := spl b0_0 v38 (Nat.min t5_1 v39) (subI b8_1 t5_0 t5_1)
        bif decide (0 ≤ v41 ∧ v41 ≤ ((t5_1 : Nat) : Int)) then
          let v43 := t5_0 + (Int.toNat v41)
          let v44 := t5_1 - (Int.toNat v41)
          let v45 := IntKind.wrap .i64 (b0_1 + v41)
          bif (v45 == 64) then
            (f148.F K (b11, v42, v45, b0_2, b11)).bind fun y46 =>
            rec (v43, v44, y46.2.1, 0, y46.2.2.2.1, b1_0, b1_1, b1_2, b4_0, b4_1, b6_0, b6_1, b8_0, b8_1, y46.1)
          else
            rec (v43, v44, v42, v45, b0_2, b1_0, b1_1, b1_2, b4_0, b4_1, b6_0, b6_1, b8_0, b8_1, b11)
        else
          none
      else
        none
    else
      none
  else
    some (b0_0, b0_1, b0_2, b1_0, b1_1, b1_2, b4_0, b4_1, b6_0, b6_1, b8_0, b8_1, b11)
def f142v2.s2c (K : Nat) (rec : Nat × Nat × List Int × Int × Int × Nat × Nat × Nat × Nat × List Int × Nat × List Int × Nat × List Int × List Int → Option (List Int × Int × Int × Nat × Nat × Nat × Nat × List Int × Nat × List Int × Nat × List Int × List Int)) (x : Nat × Nat × List Int × Int × Int × Nat × Nat × Nat × Nat × List Int × Nat × List Int × Nat × List Int × List Int) : Option (List Int × Int × Int × Nat × Nat × Nat × Nat × List Int × Nat × List Int × Nat × List Int × List Int) := f142v2.s2ct K rec x.1 x.2.1 x.2.2.1 x.2.2.2.1 x.2.2.2.2.1 x.2.2.2.2.2.1 x.2.2.2.2.2.2.1 x.2.2.2.2.2.2.2.1 x.2.2.2.2.2.2.2.2.1 x.2.2.2.2.2.2.2.2.2.1 x.2.2.2.2.2.2.2.2.2.2.1 x.2.2.2.2.2.2.2.2.2.2.2.1 x.2.2.2.2.2.2.2.2.2.2.2.2.1 x.2.2.2.2.2.2.2.2.2.2.2.2.2.1 x.2.2.2.2.2.2.2.2.2.2.2.2.2.2
noncomputable def f142v2.s2c.b : Code := (findLoop 2 f142v2.c).getD .skip
def f142v2.s2c.h : Hint := { lv := [0, 5, 8, 9, 10], co := [(5, 0, [])], mv := [3] }
def f142v2.s2c.ho : Hint := { lv := [0, 8, 9, 10] }
def f142v2.s2c.shp (x : Nat × Nat × List Int × Int × Int × Nat × Nat × Nat × Nat × List Int × Nat × List Int × Nat × List Int × List Int) : VS := ⟨[(0, .ptr 0 0), (5, .vw true 8 x.1 x.2.1 10), (8, .vw true 1 0 3 2), (9, .int .i64 3), (10, .int .i64 2)], [(0, ([.ptr 11 0, .ints .u8 64 x.2.2.1, .int .i64 x.2.2.2.1, .int .u64 x.2.2.2.2.1], 145, .norm)), (1, ([.vw true 4 0 x.2.2.2.2.2.1 5, .vw true 6 0 x.2.2.2.2.2.2.1 7, .vw true 8 0 x.2.2.2.2.2.2.2.1 9], 0, .ro)), (3, ([], 140, .dead)), (4, ([.ints .u8 x.2.2.2.2.2.2.2.2.1 x.2.2.2.2.2.2.2.2.2.1], 0, .ro)), (6, ([.ints .u8 x.2.2.2.2.2.2.2.2.2.2.1 x.2.2.2.2.2.2.2.2.2.2.2.1], 0, .ro)), (8, ([.ints .u8 x.2.2.2.2.2.2.2.2.2.2.2.2.1 x.2.2.2.2.2.2.2.2.2.2.2.2.2.1], 0, .ro)), (11, ([.ints .u32 8 x.2.2.2.2.2.2.2.2.2.2.2.2.2.2], 140, .norm))], 12⟩
def f142v2.s2c.inX : VS → Option (Nat × Nat × List Int × Int × Int × Nat × Nat × Nat × Nat × List Int × Nat × List Int × Nat × List Int × List Int)
  | ⟨[(0, .ptr 0 0), (5, .vw true 8 t5_0 t5_1 10), (8, .vw true 1 0 3 2), (9, .int .i64 3), (10, .int .i64 2)], [(0, ([.ptr 11 0, .ints .u8 64 b0_0, .int .i64 b0_1, .int .u64 b0_2], 145, .norm)), (1, ([.vw true 4 0 b1_0 5, .vw true 6 0 b1_1 7, .vw true 8 0 b1_2 9], 0, .ro)), (3, ([], 140, .dead)), (4, ([.ints .u8 b4_0 b4_1], 0, .ro)), (6, ([.ints .u8 b6_0 b6_1], 0, .ro)), (8, ([.ints .u8 b8_0 b8_1], 0, .ro)), (11, ([.ints .u32 8 b11], 140, .norm))], 12⟩ => some (t5_0, t5_1, b0_0, b0_1, b0_2, b1_0, b1_1, b1_2, b4_0, b4_1, b6_0, b6_1, b8_0, b8_1, b11)
  | _ => none
def f142v2.s2c.o0 (y : List Int × Int × Int × Nat × Nat × Nat × Nat × List Int × Nat × List Int × Nat × List Int × List Int) : VS := ⟨[(0, .ptr 0 0), (8, .vw true 1 0 3 2), (9, .int .i64 3), (10, .int .i64 2)], [(0, ([.ptr 10 0, .ints .u8 64 y.1, .int .i64 y.2.1, .int .u64 y.2.2.1], 145, .norm)), (1, ([.vw true 4 0 y.2.2.2.1 5, .vw true 6 0 y.2.2.2.2.1 7, .vw true 8 0 y.2.2.2.2.2.1 9], 0, .ro)), (3, ([], 140, .dead)), (4, ([.ints .u8 y.2.2.2.2.2.2.1 y.2.2.2.2.2.2.2.1], 0, .ro)), (6, ([.ints .u8 y.2.2.2.2.2.2.2.2.1 y.2.2.2.2.2.2.2.2.2.1], 0, .ro)), (8, ([.ints .u8 y.2.2.2.2.2.2.2.2.2.2.1 y.2.2.2.2.2.2.2.2.2.2.2.1], 0, .ro)), (10, ([.ints .u32 8 y.2.2.2.2.2.2.2.2.2.2.2.2], 140, .norm))], 11⟩
def f142v2.s2c.des : ∀ α : Type, (List Int × Int × Int × Nat × Nat × Nat × Nat × List Int × Nat × List Int × Nat × List Int × List Int) → (Ex → VS → Option α) → Option α := (des1 (.exit 2) f142v2.s2c.o0)
def f142v2.s2c.out : List Int × Int × Int × Nat × Nat × Nat × Nat × List Int × Nat × List Int × Nat × List Int × List Int → Ex × VS := (fun y => (.exit 2, f142v2.s2c.o0 y))
theorem f142v2.s2c.desOK : ∀ α y (k : Ex → VS → Option α), f142v2.s2c.des α y k = k (f142v2.s2c.out y).1 (f142v2.s2c.out y).2 := (fun _ _ _ => rfl)
def f142v2.s2c.inY : Ex → VS → Option (List Int × Int × Int × Nat × Nat × Nat × Nat × List Int × Nat × List Int × Nat × List Int × List Int)
  | .exit 2, ⟨[(0, .ptr 0 0), (8, .vw true 1 0 3 2), (9, .int .i64 3), (10, .int .i64 2)], [(0, ([.ptr 10 0, .ints .u8 64 b0_0, .int .i64 b0_1, .int .u64 b0_2], 145, .norm)), (1, ([.vw true 4 0 b1_0 5, .vw true 6 0 b1_1 7, .vw true 8 0 b1_2 9], 0, .ro)), (3, ([], 140, .dead)), (4, ([.ints .u8 b4_0 b4_1], 0, .ro)), (6, ([.ints .u8 b6_0 b6_1], 0, .ro)), (8, ([.ints .u8 b8_0 b8_1], 0, .ro)), (10, ([.ints .u32 8 b10], 140, .norm))], 11⟩ => some (b0_0, b0_1, b0_2, b1_0, b1_1, b1_2, b4_0, b4_1, b6_0, b6_1, b8_0, b8_1, b10)
  | _, _ => none
def f142v2.lp (K : Nat) : Nat → Option (Hint × Summ) := tabLp [(2, f142v2.s2.h, summOr f142v2.s2.inX (summOf (iter (f142v2.s2 K) K) f142v2.s2.inX f142v2.s2.des) (summOr f142v2.s2b.inX (summOf (iter (f142v2.s2b K) K) f142v2.s2b.inX f142v2.s2b.des) (summOf (iter (f142v2.s2c K) K) f142v2.s2c.inX f142v2.s2c.des)))]
noncomputable def f142v2.tab (K : Nat) : List (Nat × Entry) := [(148, (f148.E K))]
theorem f142v2.tabOK (K : Nat) : SpecOK Try.prog (tabSp (f142v2.tab K)) := tab_ok ((tab_cons (f148.ok K) tab_nil))
theorem f142v2.s2.eq (K : Nat) (rec : Nat × Nat × List Int × Int × Int × Nat × Nat × Nat × Nat × List Int × Nat × List Int × Nat × List Int × List Int → Option (List Int × Int × Int × Nat × Nat × Nat × Nat × List Int × Nat × List Int × Nat × List Int × List Int)) (x : Nat × Nat × List Int × Int × Int × Nat × Nat × Nat × Nat × List Int × Nat × List Int × Nat × List Int × List Int) : f142v2.s2 K rec x = roundL (getA tys) (tabSp (f142v2.tab K)) 76 10 (f142v2.lp K) 400 f142v2.s2.b f142v2.s2.h f142v2.s2.ho f142v2.s2.shp f142v2.s2.inX f142v2.s2.inY rec x := by kernel_rfl
theorem f142v2.s2.lok (K : Nat) : LoopsOK Try.prog 76 10 (f142v2.lp K) f142v2.s2.b := loops_ok (by
  have h : loopsIn (f142v2.lp K) f142v2.s2.b = [] := by kernel_rfl
  rw [h]; simp)
theorem f142v2.s2.ok (K : Nat) : SummOK Try.prog 76 10 (summOf (iter (f142v2.s2 K) K) f142v2.s2.inX f142v2.s2.des) f142v2.s2.b :=
  loop_ok mix tys_ok (f142v2.tabOK K) (h := f142v2.s2.h) (ho := f142v2.s2.ho) (shp := f142v2.s2.shp) (inX := f142v2.s2.inX) (des := f142v2.s2.des) (out := f142v2.s2.out) (inY := f142v2.s2.inY) (fuel := 400)
    (by intro st x h; unfold f142v2.s2.inX at h; split at h <;> simp at h; subst h; rfl)
    (by intro e st y h; unfold f142v2.s2.inY at h; split at h <;> simp at h <;> subst h <;> rfl)
    f142v2.s2.desOK (f142v2.s2.lok K) (f142v2.s2 K) (f142v2.s2.eq K) K
theorem f142v2.s2b.eq (K : Nat) (rec : Nat × Nat × List Int × Int × Int × Nat × Nat × Nat × Nat × List Int × Nat × List Int × Nat × List Int × List Int → Option (List Int × Int × Int × Nat × Nat × Nat × Nat × List Int × Nat × List Int × Nat × List Int × List Int)) (x : Nat × Nat × List Int × Int × Int × Nat × Nat × Nat × Nat × List Int × Nat × List Int × Nat × List Int × List Int) : f142v2.s2b K rec x = roundL (getA tys) (tabSp (f142v2.tab K)) 76 10 (f142v2.lp K) 400 f142v2.s2b.b f142v2.s2b.h f142v2.s2b.ho f142v2.s2b.shp f142v2.s2b.inX f142v2.s2b.inY rec x := by kernel_rfl
theorem f142v2.s2b.lok (K : Nat) : LoopsOK Try.prog 76 10 (f142v2.lp K) f142v2.s2b.b := loops_ok (by
  have h : loopsIn (f142v2.lp K) f142v2.s2b.b = [] := by kernel_rfl
  rw [h]; simp)
theorem f142v2.s2b.ok (K : Nat) : SummOK Try.prog 76 10 (summOf (iter (f142v2.s2b K) K) f142v2.s2b.inX f142v2.s2b.des) f142v2.s2b.b :=
  loop_ok mix tys_ok (f142v2.tabOK K) (h := f142v2.s2b.h) (ho := f142v2.s2b.ho) (shp := f142v2.s2b.shp) (inX := f142v2.s2b.inX) (des := f142v2.s2b.des) (out := f142v2.s2b.out) (inY := f142v2.s2b.inY) (fuel := 400)
    (by intro st x h; unfold f142v2.s2b.inX at h; split at h <;> simp at h; subst h; rfl)
    (by intro e st y h; unfold f142v2.s2b.inY at h; split at h <;> simp at h <;> subst h <;> rfl)
    f142v2.s2b.desOK (f142v2.s2b.lok K) (f142v2.s2b K) (f142v2.s2b.eq K) K
theorem f142v2.s2c.eq (K : Nat) (rec : Nat × Nat × List Int × Int × Int × Nat × Nat × Nat × Nat × List Int × Nat × List Int × Nat × List Int × List Int → Option (List Int × Int × Int × Nat × Nat × Nat × Nat × List Int × Nat × List Int × Nat × List Int × List Int)) (x : Nat × Nat × List Int × Int × Int × Nat × Nat × Nat × Nat × List Int × Nat × List Int × Nat × List Int × List Int) : f142v2.s2c K rec x = roundL (getA tys) (tabSp (f142v2.tab K)) 76 10 (f142v2.lp K) 400 f142v2.s2c.b f142v2.s2c.h f142v2.s2c.ho f142v2.s2c.shp f142v2.s2c.inX f142v2.s2c.inY rec x := by kernel_rfl
theorem f142v2.s2c.lok (K : Nat) : LoopsOK Try.prog 76 10 (f142v2.lp K) f142v2.s2c.b := loops_ok (by
  have h : loopsIn (f142v2.lp K) f142v2.s2c.b = [] := by kernel_rfl
  rw [h]; simp)
theorem f142v2.s2c.ok (K : Nat) : SummOK Try.prog 76 10 (summOf (iter (f142v2.s2c K) K) f142v2.s2c.inX f142v2.s2c.des) f142v2.s2c.b :=
  loop_ok mix tys_ok (f142v2.tabOK K) (h := f142v2.s2c.h) (ho := f142v2.s2c.ho) (shp := f142v2.s2c.shp) (inX := f142v2.s2c.inX) (des := f142v2.s2c.des) (out := f142v2.s2c.out) (inY := f142v2.s2c.inY) (fuel := 400)
    (by intro st x h; unfold f142v2.s2c.inX at h; split at h <;> simp at h; subst h; rfl)
    (by intro e st y h; unfold f142v2.s2c.inY at h; split at h <;> simp at h <;> subst h <;> rfl)
    f142v2.s2c.desOK (f142v2.s2c.lok K) (f142v2.s2c K) (f142v2.s2c.eq K) K
theorem f142v2.loops (K : Nat) : LoopsOK Try.prog 76 10 (f142v2.lp K) f142v2.c := loops_ok (by
  have h : loopsIn (f142v2.lp K) f142v2.c = [(2, f142v2.s2.b)] := by kernel_rfl
  rw [h]
  intro p hp
  simp only [List.mem_cons, List.not_mem_nil, or_false] at hp
  rcases hp with rfl
  · exact ⟨_, rfl, (summOr_ok (f142v2.s2.ok K) (summOr_ok (f142v2.s2b.ok K) (f142v2.s2c.ok K)))⟩)
def f142v2.T (K : Nat) (m0_0 : List Int) (m0_1 : Int) (m0_2 : Int) (m1_0 : Nat) (m1_1 : Nat) (m1_2 : Nat) (m3 : List Int) (m4_0 : Nat) (m4_1 : List Int) (m6_0 : Nat) (m6_1 : List Int) (m8_0 : Nat) (m8_1 : List Int) : Option (List Int × Int × Int × Nat × Nat × Nat × Nat × List Int × Nat × List Int × Nat × List Int × List Int) :=
  (iter (f142v2.s2 K) K (0, m1_0, m0_0, m0_1, (IntKind.wrap .u64 (m0_2 + (IntKind.wrap .u64 ((m1_0 : Nat) : Int)))), m1_0, m1_1, m1_2, m4_0, m4_1, m6_0, m6_1, m8_0, m8_1, m3)).bind fun y15 =>
  let v16 := y15.2.2.2.2.1
  (iter (f142v2.s2b K) K (0, v16, y15.1, y15.2.1, (IntKind.wrap .u64 (y15.2.2.1 + (IntKind.wrap .u64 ((v16 : Nat) : Int)))), y15.2.2.2.1, y15.2.2.2.2.1, y15.2.2.2.2.2.1, y15.2.2.2.2.2.2.1, y15.2.2.2.2.2.2.2.1, y15.2.2.2.2.2.2.2.2.1, y15.2.2.2.2.2.2.2.2.2.1, y15.2.2.2.2.2.2.2.2.2.2.1, y15.2.2.2.2.2.2.2.2.2.2.2.1, y15.2.2.2.2.2.2.2.2.2.2.2.2)).bind fun y31 =>
  let v32 := y31.2.2.2.2.2.1
  (iter (f142v2.s2c K) K (0, v32, y31.1, y31.2.1, (IntKind.wrap .u64 (y31.2.2.1 + (IntKind.wrap .u64 ((v32 : Nat) : Int)))), y31.2.2.2.1, y31.2.2.2.2.1, y31.2.2.2.2.2.1, y31.2.2.2.2.2.2.1, y31.2.2.2.2.2.2.2.1, y31.2.2.2.2.2.2.2.2.1, y31.2.2.2.2.2.2.2.2.2.1, y31.2.2.2.2.2.2.2.2.2.2.1, y31.2.2.2.2.2.2.2.2.2.2.2.1, y31.2.2.2.2.2.2.2.2.2.2.2.2)).bind fun y47 =>
  some (y47.1, y47.2.1, y47.2.2.1, y47.2.2.2.1, y47.2.2.2.2.1, y47.2.2.2.2.2.1, y47.2.2.2.2.2.2.1, y47.2.2.2.2.2.2.2.1, y47.2.2.2.2.2.2.2.2.1, y47.2.2.2.2.2.2.2.2.2.1, y47.2.2.2.2.2.2.2.2.2.2.1, y47.2.2.2.2.2.2.2.2.2.2.2.1, y47.2.2.2.2.2.2.2.2.2.2.2.2)
def f142v2.F (K : Nat) (x : List Int × Int × Int × Nat × Nat × Nat × List Int × Nat × List Int × Nat × List Int × Nat × List Int) : Option (List Int × Int × Int × Nat × Nat × Nat × Nat × List Int × Nat × List Int × Nat × List Int × List Int) := f142v2.T K x.1 x.2.1 x.2.2.1 x.2.2.2.1 x.2.2.2.2.1 x.2.2.2.2.2.1 x.2.2.2.2.2.2.1 x.2.2.2.2.2.2.2.1 x.2.2.2.2.2.2.2.2.1 x.2.2.2.2.2.2.2.2.2.1 x.2.2.2.2.2.2.2.2.2.2.1 x.2.2.2.2.2.2.2.2.2.2.2.1 x.2.2.2.2.2.2.2.2.2.2.2.2
def f142v2.av (_x : List Int × Int × Int × Nat × Nat × Nat × List Int × Nat × List Int × Nat × List Int × Nat × List Int) : List VV := [.ptr 0 0, .vw true 1 0 3 2]
def f142v2.bl (x : List Int × Int × Int × Nat × Nat × Nat × List Int × Nat × List Int × Nat × List Int × Nat × List Int) : List (Nat × Blk) := [(0, ([.ptr 3 0, .ints .u8 64 x.1, .int .i64 x.2.1, .int .u64 x.2.2.1], 145, .norm)), (1, ([.vw true 4 0 x.2.2.2.1 5, .vw true 6 0 x.2.2.2.2.1 7, .vw true 8 0 x.2.2.2.2.2.1 9], 0, .ro)), (3, ([.ints .u32 8 x.2.2.2.2.2.2.1], 140, .norm)), (4, ([.ints .u8 x.2.2.2.2.2.2.2.1 x.2.2.2.2.2.2.2.2.1], 0, .ro)), (6, ([.ints .u8 x.2.2.2.2.2.2.2.2.2.1 x.2.2.2.2.2.2.2.2.2.2.1], 0, .ro)), (8, ([.ints .u8 x.2.2.2.2.2.2.2.2.2.2.2.1 x.2.2.2.2.2.2.2.2.2.2.2.2], 0, .ro))]
def f142v2.inA : VS → Option (List Int × Int × Int × Nat × Nat × Nat × List Int × Nat × List Int × Nat × List Int × Nat × List Int)
  | ⟨[(0, .ptr 0 0), (1, .vw true 1 0 3 2)], [(0, ([.ptr 3 0, .ints .u8 64 m0_0, .int .i64 m0_1, .int .u64 m0_2], 145, .norm)), (1, ([.vw true 4 0 m1_0 5, .vw true 6 0 m1_1 7, .vw true 8 0 m1_2 9], 0, .ro)), (3, ([.ints .u32 8 m3], 140, .norm)), (4, ([.ints .u8 m4_0 m4_1], 0, .ro)), (6, ([.ints .u8 m6_0 m6_1], 0, .ro)), (8, ([.ints .u8 m8_0 m8_1], 0, .ro))], 10⟩ => some (m0_0, m0_1, m0_2, m1_0, m1_1, m1_2, m3, m4_0, m4_1, m6_0, m6_1, m8_0, m8_1)
  | _ => none
def f142v2.o0 (y : List Int × Int × Int × Nat × Nat × Nat × Nat × List Int × Nat × List Int × Nat × List Int × List Int) : VS := ⟨[(0, .tup [])], [(0, ([.ptr 10 0, .ints .u8 64 y.1, .int .i64 y.2.1, .int .u64 y.2.2.1], 145, .norm)), (1, ([.vw true 4 0 y.2.2.2.1 5, .vw true 6 0 y.2.2.2.2.1 7, .vw true 8 0 y.2.2.2.2.2.1 9], 0, .ro)), (3, ([], 140, .dead)), (4, ([.ints .u8 y.2.2.2.2.2.2.1 y.2.2.2.2.2.2.2.1], 0, .ro)), (6, ([.ints .u8 y.2.2.2.2.2.2.2.2.1 y.2.2.2.2.2.2.2.2.2.1], 0, .ro)), (8, ([.ints .u8 y.2.2.2.2.2.2.2.2.2.2.1 y.2.2.2.2.2.2.2.2.2.2.2.1], 0, .ro)), (10, ([.ints .u32 8 y.2.2.2.2.2.2.2.2.2.2.2.2], 140, .norm))], 11⟩
def f142v2.des : ∀ α : Type, (List Int × Int × Int × Nat × Nat × Nat × Nat × List Int × Nat × List Int × Nat × List Int × List Int) → (VS → Option α) → Option α := (dv1 f142v2.o0)
def f142v2.out : List Int × Int × Int × Nat × Nat × Nat × Nat × List Int × Nat × List Int × Nat × List Int × List Int → VS := f142v2.o0
def f142v2.inR : VS → Option (List Int × Int × Int × Nat × Nat × Nat × Nat × List Int × Nat × List Int × Nat × List Int × List Int)
  | ⟨[(0, .tup [])], [(0, ([.ptr 10 0, .ints .u8 64 z0_0, .int .i64 z0_1, .int .u64 z0_2], 145, .norm)), (1, ([.vw true 4 0 z1_0 5, .vw true 6 0 z1_1 7, .vw true 8 0 z1_2 9], 0, .ro)), (3, ([], 140, .dead)), (4, ([.ints .u8 z4_0 z4_1], 0, .ro)), (6, ([.ints .u8 z6_0 z6_1], 0, .ro)), (8, ([.ints .u8 z8_0 z8_1], 0, .ro)), (10, ([.ints .u32 8 z10], 140, .norm))], 11⟩ => some (z0_0, z0_1, z0_2, z1_0, z1_1, z1_2, z4_0, z4_1, z6_0, z6_1, z8_0, z8_1, z10)
  | _ => none
noncomputable def f142v2.E (K : Nat) : Entry := genE 10 f142v2.inA (f142v2.F K) f142v2.des
theorem f142v2.eq (K : Nat) (x : List Int × Int × Int × Nat × Nat × Nat × List Int × Nat × List Int × Nat × List Int × Nat × List Int) : f142v2.F K x = xrun (getA tys) (tabSp (f142v2.tab K)) Try.f142.ntmps 10 (f142v2.lp K) 400 f142v2.c ⟨initL 0 (f142v2.av x), f142v2.bl x, 10⟩ (contF (getA tys) 10 Try.f142.results.toList f142v2.inR) := by kernel_rfl
theorem f142v2.ok (K : Nat) : EntryOK Try.prog 142 (f142v2.E K) :=
  gen_ok mix tys_ok (f142v2.tabOK K) Try.func142 (by kernel_rfl : Try.f142.body = some f142v2.c) (by kernel_rfl) (f142v2.loops K) (av := f142v2.av) (bl := f142v2.bl) (out := f142v2.out) (fuel := 400)
    (by intro s x h; unfold f142v2.inA at h; split at h <;> simp at h; subst h; rfl) (fun _ => Nat.le_of_ble_eq_true rfl)
    (by intro s y h; unfold f142v2.inR at h; split at h <;> simp at h <;> subst h <;> rfl) (fun _ _ _ => rfl) (f142v2.eq K)
end Go.Proofs

namespace Go.Proofs
open Go.VM
noncomputable def f145.c : Code := bodyOf Try.f145
def f145.lp (_ : Nat) : Nat → Option (Hint × Summ) := fun _ => none
noncomputable def f145.tab (K : Nat) : List (Nat × Entry) := [(144, (viewE [(0, .u8)] (f144.E K))), (142, (rowsE 1 .u8 (f142v2.E K)))]
theorem f145.tabOK (K : Nat) : SpecOK Try.prog (tabSp (f145.tab K)) := tab_ok ((tab_cons (view_ok (f144.ok K)) (tab_cons (rows_ok (f142v2.ok K)) tab_nil)))
theorem f145.loops (K : Nat) : LoopsOK Try.prog 56 2 (f145.lp K) f145.c := loops_ok (by
  have h : loopsIn (f145.lp K) f145.c = [] := by kernel_rfl
  rw [h]; simp)
def f145.T (K : Nat) (m0_0 : List Int) (m0_1 : Int) (m0_2 : Int) (m1 : List Int) : Option (List Int × List Int × Int × Int) :=
  let v2 := Int.tmod (IntKind.wrap .i64 (119 - m0_1)) 64
  bif lenOK v2 v2 1 then
    let v3 := Int.toNat v2
    (f144.F K (0, (IntKind.wrap .u64 (8 * m0_2)), 8, 0, [])).bind fun y7 =>
    bif ((Nat.ble (0 + v3) (Int.toNat v2) && (Nat.ble v3 (Int.toNat v2))) && ((Nat.ble (0 + y7.1) y7.2.2.2.2.1 && (Nat.ble y7.1 y7.2.1)) && true)) then
      (f142v2.F K (m0_0, m0_1, m0_2, 1, v3, y7.1, m1, 1, [128], v3, (subI [] 0 v3), y7.1, (subI y7.2.2.2.2.2 0 y7.1))).bind fun y8 =>
      (f144.F K (0, (IntKind.wrap .u64 (List.getD y8.2.2.2.2.2.2.2.2.2.2.2.2 0 0)), 4, 0, [])).bind fun y11 =>
      bif ((Nat.ble (0 + y11.1) y11.2.2.2.2.1 && (Nat.ble y11.1 y11.2.1)) && true) then
        (f144.F K (y11.1, (IntKind.wrap .u64 (List.getD y8.2.2.2.2.2.2.2.2.2.2.2.2 1 0)), 4, y11.1, (subI y11.2.2.2.2.2 0 y11.1))).bind fun y14 =>
        bif ((Nat.ble (0 + y14.1) y14.2.2.2.2.1 && (Nat.ble y14.1 y14.2.1)) && true) then
          (f144.F K (y14.1, (IntKind.wrap .u64 (List.getD y8.2.2.2.2.2.2.2.2.2.2.2.2 2 0)), 4, y14.1, (subI y14.2.2.2.2.2 0 y14.1))).bind fun y17 =>
          bif ((Nat.ble (0 + y17.1) y17.2.2.2.2.1 && (Nat.ble y17.1 y17.2.1)) && true) then
            (f144.F K (y17.1, (IntKind.wrap .u64 (List.getD y8.2.2.2.2.2.2.2.2.2.2.2.2 3 0)), 4, y17.1, (subI y17.2.2.2.2.2 0 y17.1))).bind fun y20 =>
            bif ((Nat.ble (0 + y20.1) y20.2.2.2.2.1 && (Nat.ble y20.1 y20.2.1)) && true) then
              (f144.F K (y20.1, (IntKind.wrap .u64 (List.getD y8.2.2.2.2.2.2.2.2.2.2.2.2 4 0)), 4, y20.1, (subI y20.2.2.2.2.2 0 y20.1))).bind fun y23 =>
              bif ((Nat.ble (0 + y23.1) y23.2.2.2.2.1 && (Nat.ble y23.1 y23.2.1)) && true) then
                (f144.F K (y23.1, (IntKind.wrap .u64 (List.getD y8.2.2.2.2.2.2.2.2.2.2.2.2 5 0)), 4, y23.1, (subI y23.2.2.2.2.2 0 y23.1))).bind fun y26 =>
                bif ((Nat.ble (0 + y26.1) y26.2.2.2.2.1 && (Nat.ble y26.1 y26.2.1)) && true) then
                  (f144.F K (y26.1, (IntKind.wrap .u64 (List.getD y8.2.2.2.2.2.2.2.2.2.2.2.2 6 0)), 4, y26.1, (subI y26.2.2.2.2.2 0 y26.1))).bind fun y29 =>
                  bif ((Nat.ble (0 + y29.1) y29.2.2.2.2.1 && (Nat.ble y29.1 y29.2.1)) && true) then
                    (f144.F K (y29.1, (IntKind.wrap .u64 (List.getD y8.2.2.2.2.2.2.2.2.2.2.2.2 7 0)), 4, y29.1, (subI y29.2.2.2.2.2 0 y29.1))).bind fun y32 =>
                    bif ((Nat.ble (0 + y32.1) y32.2.2.2.2.1 && true) && (Nat.beq y32.1 y32.1)) then
                      some ((spl [0, 0, 0, 0, 0, 0, 0, 0, 0, 0, 0, 0, 0, 0, 0, 0, 0, 0, 0, 0, 0, 0, 0, 0, 0, 0, 0, 0, 0, 0, 0, 0] 0 (Nat.min y32.1 32) (subI y32.2.2.2.2.2 0 y32.1)), m0_0, m0_1, m0_2)
                    else
                      none
                  else
                    none
                else
                  none
              else
                none
            else
              none
          else
            none
        else
          none
      else
        none
    else
      none
  else
    none
def f145.F (K : Nat) (x : List Int × Int × Int × List Int) : Option (List Int × List Int × Int × Int) := f145.T K x.1 x.2.1 x.2.2.1 x.2.2.2
def f145.av (_x : List Int × Int × Int × List Int) : List VV := [.ptr 0 0]
def f145.bl (x : List Int × Int × Int × List Int) : List (Nat × Blk) := [(0, ([.ptr 1 0, .ints .u8 64 x.1, .int .i64 x.2.1, .int .u64 x.2.2.1], 145, .norm)), (1, ([.ints .u32 8 x.2.2.2], 140, .norm))]
def f145.inA : VS → Option (List Int × Int × Int × List Int)
  | ⟨[(0, .ptr 0 0)], [(0, ([.ptr 1 0, .ints .u8 64 m0_0, .int .i64 m0_1, .int .u64 m0_2], 145, .norm)), (1, ([.ints .u32 8 m1], 140, .norm))], 2⟩ => some (m0_0, m0_1, m0_2, m1)
  | _ => none
def f145.o0 (y : List Int × List Int × Int × Int) : VS := ⟨[(0, .agg [.ints .u8 32 y.1])], [(0, ([.ptr 1 0, .ints .u8 64 y.2.1, .int .i64 y.2.2.1, .int .u64 y.2.2.2], 145, .norm)), (1, ([], 140, .dead))], 2⟩
def f145.des : ∀ α : Type, (List Int × List Int × Int × Int) → (VS → Option α) → Option α := (dv1 f145.o0)
def f145.out : List Int × List Int × Int × Int → VS := f145.o0
def f145.inR : VS → Option (List Int × List Int × Int × Int)
  | ⟨[(0, .agg [.ints .u8 32 y])], [(0, ([.ptr 1 0, .ints .u8 64 z0_0, .int .i64 z0_1, .int .u64 z0_2], 145, .norm)), (1, ([], 140, .dead))], 2⟩ => some (y, z0_0, z0_1, z0_2)
  | _ => none
noncomputable def f145.E (K : Nat) : Entry := genE 2 f145.inA (f145.F K) f145.des
theorem f145.eq (K : Nat) (x : List Int × Int × Int × List Int) : f145.F K x = xrun (getA tys) (tabSp (f145.tab K)) Try.f145.ntmps 2 (f145.lp K) 400 f145.c ⟨initL 0 (f145.av x), f145.bl x, 2⟩ (contF (getA tys) 2 Try.f145.results.toList f145.inR) := by kernel_rfl
theorem f145.ok (K : Nat) : EntryOK Try.prog 145 (f145.E K) :=
  gen_ok mix tys_ok (f145.tabOK K) Try.func145 (by kernel_rfl : Try.f145.body = some f145.c) (by kernel_rfl) (f145.loops K) (av := f145.av) (bl := f145.bl) (out := f145.out) (fuel := 400)
    (by intro s x h; unfold f145.inA at h; split at h <;> simp at h; subst h; rfl) (fun _ => Nat.le_of_ble_eq_true rfl)
    (by intro s y h; unfold f145.inR at h; split at h <;> simp at h <;> subst h <;> rfl) (fun _ _ _ => rfl) (f145.eq K)
end Go.Proofs
