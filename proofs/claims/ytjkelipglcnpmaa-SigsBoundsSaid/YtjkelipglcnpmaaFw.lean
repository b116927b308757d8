/- Go functions: for each a Lean function with the same answers, and the proof that the call comes to them, with no condition. -/
import Derived.Test.YtjkelipglcnpmaaVmx
import Derived.RangeFuncNested
import Derived.RangeFuncBound
import Derived.RangeFuncCalls
import Derived.RangeFuncLeaves
import Derived.Shelf.Abstract
import Derived.Shelf.RegionOpen
import Derived.WalkKit
import Derived.OwnWalkIn
import Derived.TacticsInMore
import Derived.LoopNIn
import Derived.LoopIn
import Derived.Test.YtjkelipglcnpmaaProg
import Derived.Laws.MakeOwn
namespace Go.Proofs
open Go.RowKit Go.Shelf
attribute [local go_sem] Oper.semAt_some
def Bk.upto {α : Type} (f : Nat → α) (k : Nat) : List α := (List.range k).map f
theorem Bk.upto_succ {α : Type} (f : Nat → α) (k : Nat) : Bk.upto f (k + 1) = Bk.upto f k ++ [f k] := by simp [Bk.upto, List.range_succ]
theorem Bk.upto_length {α : Type} (f : Nat → α) (k : Nat) : (Bk.upto f k).length = k := by simp [Bk.upto]
def Bk.at' (zs : List Int) (len : Nat) (k : Nat) : Nat × Int := (len - 1 - k, zs[len - 1 - k]?.getD 0)
def Bk.Kp (n₀ Bs : Nat) (A B : World) : Prop := Below n₀ A B ∧ B.heap[Bs]? = A.heap[Bs]?
theorem Bk.Kp.refl (n₀ Bs : Nat) (A : World) : Bk.Kp n₀ Bs A A := ⟨Below.refl _ _, rfl⟩
theorem Bk.Kp.trans {n₀ Bs : Nat} {A B C : World} (h : Bk.Kp n₀ Bs A B) (k : Bk.Kp n₀ Bs B C) : Bk.Kp n₀ Bs A C := ⟨h.1.trans k.1, k.2.trans h.2⟩
theorem Bk.Kp.cell {n₀ Bs : Nat} {A B : World} (h : Bk.Kp n₀ Bs A B) : B.cell? ⟨Bs, 0, none⟩ = A.cell? ⟨Bs, 0, none⟩ := by simp [World.cell?, h.2]
set_option maxRecDepth 100000 in
set_option maxHeartbeats 2000000 in
theorem Bk.back1_in (F : Fence) (n : Nat) (h8 : F.fn 147) (hro : F.round = none) (hn : 1 ≤ n) (l Bs n₀ b off len cap : Nat) (zs : List Int) (hreach : len * 8 ≤ 140737488351232) (hb : 0 < len → b < n₀) (J Jx : List (Nat × Int) → World → Prop)
    (hY : ∀ pre x W, J pre W → pre.length < len → YieldAt F (n - 1) Try.prog l #[.int .i64 (x.1 : Int), .int .u64 x.2] W fun e W' =>
      (e = .returned (.bool true) ∧ J (pre ++ [x]) W' ∧ Bk.Kp n₀ Bs W W') ∨ (e = .returned (.bool false) ∧ Jx (pre ++ [x]) W'))
    (W : World) (hBs : W.cell? ⟨Bs, 0, none⟩ = some (.slice (some ⟨b, off, none⟩) len cap)) (hc : ∀ j, j < len → W.cell? ⟨b, off + j, none⟩ = some (.int .u64 (zs[j]?.getD 0))) (h0 : J [] W) :
    CallsIn F n Try.prog 147 #[.func (.yield l) #[] #[], .pointer (some ⟨Bs, 0, none⟩)] W fun e W' => (∃ v, e = .returned v) ∧
      ((∃ ys, ys = Bk.upto (Bk.at' zs len) len ∧ J ys W') ∨ (∃ pre, (∃ k, k ≤ len ∧ pre = Bk.upto (Bk.at' zs len) k) ∧ Jx pre W')) := by
  refine callsIn_of_wp Try.func147 rfl h8 ?_ hro
  simp only [Try.ntmps147, List.size_toArray, List.length_cons, List.length_nil, Nat.reduceAdd, Nat.reduceSub, Array.replicate_succ, Array.replicate_zero, List.push_toArray, List.append_toArray, List.nil_append, List.cons_append]
  gi_wp2
  gi_loopw [3] (fun i wr => ∃ k : Nat, k ≤ len ∧ i = .int .i64 ((len : Int) - k - 1) ∧ J (Bk.upto (Bk.at' zs len) k) wr ∧ Bk.Kp n₀ Bs W wr)
    (fun i _ => (intOf i + 1).toNat)
  case atStart => exact ⟨0, Nat.zero_le _, by simp, h0, Bk.Kp.refl _ _ _⟩
  case round =>
    obtain ⟨k, hk, rfl, hJs, hnx⟩ := hrel
    by_cases hlt : k < len
    · obtain ⟨m, hm⟩ : ∃ m : Nat, (len : Int) - k - 1 = m := ⟨len - k - 1, by omega⟩
      have hml : m < len := by omega
      have hcx : wr.cell? ⟨b, off + m, none⟩ = some (.int .u64 (zs[m]?.getD 0)) := (hnx.1.cell (p := ⟨b, off + m, none⟩) (hb (by omega))).trans (hc m hml)
      have hBx : wr.cell? ⟨Bs, 0, none⟩ = some (.slice (some ⟨b, off, none⟩) len cap) := hnx.cell.trans hBs
      rw [hm]
      obtain ⟨fn, tmps, assign, body, hy, hR⟩ := hY _ (m, zs[m]?.getD 0) wr hJs (by rw [Bk.upto_length]; exact hlt)
      dsimp only at hy
      gi_wp2
      refine hR.mono ?_
      have hat : Bk.at' zs len k = (m, zs[m]?.getD 0) := by unfold Bk.at'; rw [show len - 1 - k = m by omega]
      rintro e W3 (⟨rfl, hJ3, hk3⟩ | ⟨rfl, hJx3⟩)
      · gi_wp2
        go_roundw
        case rel => exact ⟨k + 1, by omega, by simp [IntKind.wrap, IntKind.signed, IntKind.bits] <;> omega, by rw [Bk.upto_succ, hat]; exact hJ3, hnx.trans hk3⟩
        case measure => simp [intOf, IntKind.wrap, IntKind.signed, IntKind.bits] <;> omega
      · gi_wp2
        refine bodyPost_ret (results_none rfl _ _ _) rfl ?_
        exact ⟨⟨_, rfl⟩, .inr ⟨_, ⟨k + 1, by omega, by rw [Bk.upto_succ, hat]⟩, hJx3⟩⟩
    · obtain rfl : k = len := by omega
      rw [show (k : Int) - k - 1 = -1 by omega]
      gi_wp2
      go_end0
      exact ⟨⟨_, rfl⟩, .inl ⟨_, rfl, hJs⟩⟩
set_option maxRecDepth 100000 in
set_option maxHeartbeats 1000000 in
theorem Bk.back1_nil_in (F : Fence) (n : Nat) (h8 : F.fn 147) (hro : F.round = none) (l Bs : Nat) (J : List (Nat × Int) → World → Prop) (W : World) (hBs : W.cell? ⟨Bs, 0, none⟩ = some (.slice none 0 0)) (h0 : J [] W) :
    CallsIn F n Try.prog 147 #[.func (.yield l) #[] #[], .pointer (some ⟨Bs, 0, none⟩)] W fun e W' => (∃ v, e = .returned v) ∧ J [] W' := by
  refine callsIn_of_wp Try.func147 rfl h8 ?_ hro
  simp only [Try.ntmps147, List.size_toArray, List.length_cons, List.length_nil, Nat.reduceAdd, Nat.reduceSub, Array.replicate_succ, Array.replicate_zero, List.push_toArray, List.append_toArray, List.nil_append, List.cons_append]
  gi_wp2
  gi_loopw [3] (fun i wr => i = .int .i64 (-1) ∧ J [] wr) (fun _ _ => 0)
  case atStart => exact ⟨rfl, h0⟩
  case round =>
    obtain ⟨rfl, hJs⟩ := hrel
    gi_wp2
    go_end0
    exact ⟨⟨_, rfl⟩, hJs⟩
set_option maxHeartbeats 1000000 in
theorem Bk.back_in (F : Fence) (n : Nat) (h6 : F.fn 140) (hro : F.round = none) (a : Option Addr) (len cap : Nat) (w : World) :
    CallsIn F n Try.prog 140 #[.slice a len cap] w fun e w' => e = .returned (.func (.func 147) #[] #[.pointer (some ⟨w.heap.size, 0, none⟩)]) ∧ w' = w.alloc (.cells #[.slice a len cap] 128) := by
  refine callsIn_of_wp Try.func140 rfl h6 ?_ hro
  simp only [Try.ntmps140, List.size_toArray, List.length_cons, List.length_nil, Nat.reduceAdd, Nat.reduceSub, Array.replicate_succ, Array.replicate_zero, List.push_toArray, List.append_toArray, List.nil_append, List.cons_append]
  gi_wp2
  go_ret
  exact ⟨rfl, rfl⟩
def Bk.U64s (n₀ : Nat) (W : World) (sv : Value) (zs : List Int) : Prop :=
  (sv = .slice none 0 0 ∧ zs = []) ∨ ∃ b off cap, sv = .slice (some ⟨b, off, none⟩) zs.length cap ∧ (0 < zs.length → b < n₀) ∧ ∀ j, j < zs.length → W.cell? ⟨b, off + j, none⟩ = some (.int .u64 (zs[j]?.getD 0))
theorem Bk.U64s.below {n₀ : Nat} {A B : World} (h : Below n₀ A B) {sv : Value} {zs : List Int} : Bk.U64s n₀ A sv zs → Bk.U64s n₀ B sv zs
  | .inl e => .inl e
  | .inr ⟨b, off, cap, e, hb, hc⟩ => .inr ⟨b, off, cap, e, hb, fun j hj => (h.cell (p := ⟨b, off + j, none⟩) (hb (by omega))).trans (hc j hj)⟩
theorem Bk.back_stops (F : Fence) (n : Nat) (h8 : F.fn 147) (hro : F.round = none) (hn : 1 ≤ n) (Bs n₀ : Nat) (sv : Value) (zs : List Int) (hreach : zs.length * 8 ≤ 140737488351232) (w : World) (hBs : Bs < w.heap.size) (hn₀ : n₀ ≤ w.heap.size)
    (hc : w.cell? ⟨Bs, 0, none⟩ = some sv) (hI : Bk.U64s n₀ w sv zs) :
    SeqStopsK F n Try.prog 147 #[.pointer (some ⟨Bs, 0, none⟩)] (fun x : Nat × Int => #[Value.int .i64 (x.1 : Int), Value.int .u64 x.2]) (Bk.Kp n₀ Bs) (fun ys => ys = Bk.upto (Bk.at' zs zs.length) zs.length)
      (fun pre => ∃ k, k ≤ zs.length ∧ pre = Bk.upto (Bk.at' zs zs.length) k) zs.length w := fun l J Jx W hW _ _ hY h0 => by
  have hc' := (hW.cell (p := ⟨Bs, 0, none⟩) hBs).trans hc
  rcases hI.below (hW.mono hn₀) with ⟨rfl, rfl⟩ | ⟨b, off, cap, rfl, hb, hcs⟩
  · exact (Bk.back1_nil_in F n h8 hro l Bs J W hc' h0).mono fun e W' ⟨he, hj⟩ => ⟨he, .inl ⟨_, rfl, hj⟩⟩
  · exact Bk.back1_in F n h8 hro hn l Bs n₀ b off zs.length cap zs hreach hb J Jx hY W hc' hcs h0
end Go.Proofs

namespace Go.Proofs
open Go.RowKit Go.Shelf Go.VM
attribute [local go_sem] Oper.semAt_some
def Rw.nxt (x : Int) : Int := IntKind.u64.wrap (x.tdiv 256)
def Rw.byt (x : Int) : Int := x % 256
def Rw.low : Nat → Int → List Int
  | 0, _ => []
  | j + 1, x => Rw.low j (Rw.nxt x) ++ [Rw.byt x]
def Rw.nth : Nat → Int → Int
  | 0, x => x
  | j + 1, x => Rw.nxt (Rw.nth j x)
theorem Rw.nth_nxt (j : Nat) (x : Int) : Rw.nth j (Rw.nxt x) = Rw.nth (j + 1) x := by
  induction j with
  | zero => rfl
  | succ j ih => rw [Rw.nth, ih]; rfl
theorem Rw.low_cons (j : Nat) (x : Int) : Rw.low (j + 1) x = Rw.byt (Rw.nth j x) :: Rw.low j x := by
  induction j generalizing x with
  | zero => rfl
  | succ j ih => rw [Rw.low, ih, Rw.nth_nxt]; rfl
theorem Rw.low_length (j : Nat) (x : Int) : (Rw.low j x).length = j := by
  induction j generalizing x with
  | zero => rfl
  | succ j ih => simp [Rw.low, ih]
def Rw.tl (e : Nat) (pre : List (Nat × Int)) : List Int := pre.foldl (fun acc x => Rw.low e x.2 ++ acc) []
theorem Rw.tl_snoc (e : Nat) (pre : List (Nat × Int)) (x : Nat × Int) : Rw.tl e (pre ++ [x]) = Rw.low e x.2 ++ Rw.tl e pre := by simp [Rw.tl]
theorem Rw.tl_length (e : Nat) (pre : List (Nat × Int)) : (Rw.tl e pre).length = e * pre.length := by
  suffices h : ∀ acc : List Int, (pre.foldl (fun acc x => Rw.low e x.2 ++ acc) acc).length = e * pre.length + acc.length by simpa [Rw.tl] using h []
  induction pre with
  | nil => simp
  | cons x pre ih => intro acc; simp only [List.foldl_cons, ih, List.length_append, Rw.low_length, List.length_cons, Nat.mul_add, Nat.mul_one]; omega
def Rw.row (z : Nat) (R : List Int) : Obj := .cells ((List.replicate z 0 ++ R).map (Value.int .u8)).toArray 5 (0, 0)
theorem Rw.info5 : (Try.prog.info? 5).map (fun i => (i.zero, i.size, i.bytes)) = some (some (.int .u8 0), 1, 1) := by kernel_rfl
set_option maxRecDepth 100000 in
theorem Rw.run_make (w : World) (L : Nat) (hL : L ≤ 140737488355328) :
    (Instr.makeSlice 84 (.int .i64 (L : Int)) (.int .i64 (L : Int))).run Try.prog w = .ok (.slice (some ⟨w.heap.size, 0, none⟩) L L) (w.alloc (Rw.row L [])) := by
  obtain ⟨i, h1, h2, h3, h4⟩ := info_parts Rw.info5
  have := Go.run_make (P := Try.prog) w 84 5 i _ Try.underlying84 h1 h2 .i64 .i64 (L : Int) (L : Int) (by omega) (Int.le_refl _) (by rw [h4]; omega) (by omega)
  rw [this]
  simp only [Int.toNat_natCast, h3, Nat.mul_one, madeCells, Rw.row]
  congr 3
  apply Array.ext'
  simp [Value.cells]
  refine List.ext_getElem (by simp) fun i _ _ => ?_
  simp [Nat.mod_one]
theorem Rw.set_row {W : World} {B z : Nat} {R : List Int} (h : W.heap[B]? = some (Rw.row (z + 1) R)) (v : Int) : (W.setCell ⟨B, z, none⟩ (.int .u8 v)).heap[B]? = some (Rw.row z (v :: R)) := by
  have := setCell_eq_setRow W B z _ 5 (0, 0) (.int .u8 v) h
  rw [this, setRow_heap W B _ _ _ _ h]
  simp only [Rw.row]
  congr 2
  apply Array.ext'
  simp
  rw [List.replicate_succ']
  simp [List.set_append]
theorem Rw.row_cell {W : World} {B z : Nat} {R : List Int} (h : W.heap[B]? = some (Rw.row (z + 1) R)) : W.cell? ⟨B, z, none⟩ = some (.int .u8 0) ∧ W.frozen? ⟨B, z, none⟩ = false := by
  constructor
  · simp [World.cell?, h, Rw.row]
    rw [List.getElem?_append_left (by simp)]
    simp
  · simp [World.frozen?, h, Rw.row]
theorem Rw.alloc {W : World} {b : Nat} {o : Obj} (h : W.heap[b]? = some o) (o' : Obj) : (W.alloc o').heap[b]? = some o := by
  have hlt := (Array.getElem?_eq_some_iff.1 h).1
  rw [heap_alloc_old W o' b hlt]; exact h
theorem Rw.kept {A B : World} {row : Option Nat} {b : Nat} {o : Obj} (h : A.heap[b]? = some o) (ho : o.isCells = true) (hg : A.grownBy B row) (hr : ∀ r, row = some r → ∃ o : Obj, A.heap[r]? = some o ∧ o.isCells = false) : B.heap[b]? = some o := by
  refine (hg.block b (Array.getElem?_eq_some_iff.1 h).1 fun e => ?_).trans h
  obtain ⟨o', h1, h2⟩ := hr b e.symm
  rw [h] at h1
  simp only [Option.some.injEq] at h1
  subst h1
  rw [ho] at h2; cases h2
theorem Rw.set_box {W : World} {B : Nat} {t : TypeId} {u : Value} (h : Boxed W B t u) (v : Value) : Boxed (W.setCell ⟨B, 0, none⟩ v) B t v := by
  have := setCell_eq_setRow W B 0 _ t (0, 0) v h
  unfold Boxed
  rw [this, setRow_heap W B _ _ _ _ h]
  rfl
theorem Rw.set_other {W : World} {B off b : Nat} {o : Obj} (h : W.heap[b]? = some o) (hne : b ≠ B) (v : Value) : (W.setCell ⟨B, off, none⟩ v).heap[b]? = some o := (Below.heap_setCell _ _ _ _ hne).trans h
set_option maxRecDepth 100000 in
set_option maxHeartbeats 2000000 in
theorem Rw.row_in (n : Nat) (hn : 3 ≤ n) (ad ad2 : Option Addr) (N cap m cap2 e : Nat) (bs zs : List Int) (w : World) (hN : bs.length = N) (hm : zs.length = m)
    (hsrc : N ≠ 0 → ∃ g o pre tail t fz, ad = some ⟨g, o, none⟩ ∧ w.heap[g]? = some (.cells (pre ++ bs.map (Value.int .u8) ++ tail).toArray t fz) ∧ pre.length = o) (hZ : Bk.U64s w.heap.size w (.slice ad2 m cap2) zs) (he : e ≤ 8)
    (hfit : N + e * m ≤ 140737488355328) (hm8 : m * 8 ≤ 140737488351232) :
    CallsIn Fence.wide n Try.prog 136 #[.slice ad N cap, .int .i64 (e : Int), .slice ad2 m cap2] w fun en W' => en = .returned (.slice (some ⟨w.heap.size + 1, 0, none⟩) (N + e * m) (N + e * m)) ∧
      W'.heap[w.heap.size + 1]? = some (Rw.row 0 (bs ++ Rw.tl e (Bk.upto (Bk.at' zs zs.length) zs.length))) ∧ Below w.heap.size w W' := by
  have h1 : 1 ≤ n := by omega
  have hro : Fence.wide.round = none := rfl
  refine callsIn_of_wp_marks Try.func136 rfl trivial ?_ hro
  simp only [Try.ntmps136, List.size_toArray, List.length_cons, List.length_nil, Nat.reduceAdd, Nat.reduceSub, Array.replicate_succ, Array.replicate_zero, List.push_toArray, List.append_toArray, List.nil_append, List.cons_append]
  gi_wp2_with (gi_at_call 140; refine (Bk.back_in Fence.wide (n - 1) trivial hro _ _ _ _).mono ?_; rintro e w' ⟨rfl, rfl⟩)
  generalize hL : N + e * m = L at hfit
  have hX : (N : Int) + (e : Int) * (m : Int) = (L : Int) := by rw [← hL]; simp
  rw [hX, Rw.run_make _ L hfit]
  gi_wp2_with (refine ⟨trivial, ?_⟩; gi_at_call 140; refine (Bk.back_in Fence.wide (n - 1) trivial hro _ _ _ _).mono ?_; rintro e w' ⟨rfl, rfl⟩)
  have b4 := Boxed.new w 3 (.int .i64 e)
  have bo : ((w.alloc (.cells #[.int .i64 (e : Int)] 3)).alloc (Rw.row L [])).heap[w.heap.size + 1]? = some (Rw.row L []) := by
    have := World.alloc_heap_new (w.alloc (.cells #[.int .i64 (e : Int)] 3)) (Rw.row L []); rwa [World.size_alloc] at this
  have b7 := Boxed.new ((w.alloc (.cells #[.int .i64 (e : Int)] 3)).alloc (Rw.row L [])) 84 (.slice (some ⟨w.heap.size + 1, 0, none⟩) L L)
  have b8 := Boxed.new (((w.alloc (.cells #[.int .i64 (e : Int)] 3)).alloc (Rw.row L [])).alloc (.cells #[.slice (some ⟨w.heap.size + 1, 0, none⟩) L L] 84)) 3 (.int .i64 (L : Int))
  have bS := Boxed.new ((((w.alloc (.cells #[.int .i64 (e : Int)] 3)).alloc (Rw.row L [])).alloc (.cells #[.slice (some ⟨w.heap.size + 1, 0, none⟩) L L] 84)).alloc (.cells #[.int .i64 (L : Int)] 3)) 128 (.slice ad2 m cap2)
  simp only [World.size_alloc] at b7 b8 bS
  have b4 := (((b4.alloc (Rw.row L [])).alloc (.cells #[.slice (some ⟨w.heap.size + 1, 0, none⟩) L L] 84)).alloc (.cells #[.int .i64 (L : Int)] 3)).alloc (.cells #[.slice ad2 m cap2] 128)
  have bo := Rw.alloc (Rw.alloc (Rw.alloc bo (.cells #[.slice (some ⟨w.heap.size + 1, 0, none⟩) L L] 84)) (.cells #[.int .i64 (L : Int)] 3)) (.cells #[.slice ad2 m cap2] 128)
  have b7 := (b7.alloc (.cells #[.int .i64 (L : Int)] 3)).alloc (.cells #[.slice ad2 m cap2] 128)
  have b8 := b8.alloc (.cells #[.slice ad2 m cap2] 128)
  have hB0 : Below w.heap.size w (((((w.alloc (.cells #[.int .i64 (e : Int)] 3)).alloc (Rw.row L [])).alloc (.cells #[.slice (some ⟨w.heap.size + 1, 0, none⟩) L L] 84)).alloc (.cells #[.int .i64 (L : Int)] 3)).alloc (.cells #[.slice ad2 m cap2] 128)) :=
    (((((Below.refl _ w).alloc (Nat.le_refl _) _).alloc (by simp) _).alloc (by simp; omega) _).alloc (by simp; omega) _).alloc (by simp; omega) _
  have hsz : (((((w.alloc (.cells #[.int .i64 (e : Int)] 3)).alloc (Rw.row L [])).alloc (.cells #[.slice (some ⟨w.heap.size + 1, 0, none⟩) L L] 84)).alloc (.cells #[.int .i64 (L : Int)] 3)).alloc (.cells #[.slice ad2 m cap2] 128)).heap.size = w.heap.size + 5 := by simp
  generalize hW0 : ((((w.alloc (.cells #[.int .i64 (e : Int)] 3)).alloc (Rw.row L [])).alloc (.cells #[.slice (some ⟨w.heap.size + 1, 0, none⟩) L L] 84)).alloc (.cells #[.int .i64 (L : Int)] 3)).alloc (.cells #[.slice ad2 m cap2] 128) = W0 at *
  refine wpIn_rangeFunc_ownF hro h1 (gf := 147) (lb := #[.pointer (some ⟨w.heap.size + 1 + 1 + 1 + 1, 0, none⟩)]) rfl trivial (enters_of Try.func147 (by kernel_rfl) rfl)
    (Bk.back_stops Fence.wide (n - 1) trivial hro (by omega) (w.heap.size + 1 + 1 + 1 + 1) w.heap.size _ zs (by omega) W0 (by omega) (by omega) bS.cell (by rw [← hm] at hZ ⊢; exact hZ.below hB0)) (fun h k => Bk.Kp.trans h k)
    (fun W l o o' hl h h2 h3 => ⟨belowK_b (w := W0) (by omega) W l o o' hl h h2 h3, World.putObj_heap_other (by omega)⟩) (Below.refl _ _) (fun _ => rfl)
    (fun pre W => (Boxed W w.heap.size 3 (.int .i64 (e : Int)) ∧ W.heap[w.heap.size + 1]? = some (Rw.row (L - e * pre.length) (Rw.tl e pre)) ∧ Boxed W (w.heap.size + 1 + 1) 84 (.slice (some ⟨w.heap.size + 1, 0, none⟩) L L) ∧
      Boxed W (w.heap.size + 1 + 1 + 1) 3 (.int .i64 ((L - e * pre.length : Nat) : Int))) ∧ Below w.heap.size w W)
    (fun _ _ _ => False)
    (OwnFrom.and (Own.from (fun s A B row hs hg hr => ⟨Rw.kept hs.1 rfl hg hr, Rw.kept hs.2.1 rfl hg hr, Rw.kept hs.2.2.1 rfl hg hr, Rw.kept hs.2.2.2 rfl hg hr⟩) _) (ownFrom_below (Nat.le_refl _) (by omega)))
    (fun _ _ _ _ _ hs _ _ => hs)
    ⟨⟨b4, bo, b7, b8⟩, hB0⟩
    (fun x => { tmps := #[.slice ad N cap, .int .i64 (e : Int), .slice ad2 m cap2, undef, .pointer (some ⟨w.heap.size, 0, none⟩), undef, .slice none 0 0, .pointer (some ⟨w.heap.size + 1 + 1, 0, none⟩), .pointer (some ⟨w.heap.size + 1 + 1 + 1, 0, none⟩), undef, .int .u64 x.2,
      .slice ad N cap, .int .i64 (N : Int), .int .i64 (e : Int), .slice ad2 m cap2, .int .i64 (m : Int), .int .i64 ((e : Int) * (m : Int)), .int .i64 (L : Int), .slice (some ⟨w.heap.size + 1, 0, none⟩) L L, .slice (some ⟨w.heap.size + 1, 0, none⟩) L L, .int .i64 (L : Int), .slice ad2 m cap2,
      .func (.func 147) #[] #[.pointer (some ⟨w.heap.size + 1 + 1 + 1 + 1, 0, none⟩)], .int .i64 (x.1 : Int), .int .u64 x.2, undef, undef, undef, undef, undef, undef, undef, undef, undef, undef, undef, undef, undef, undef, undef, undef, undef, undef, undef], defers := [] }) ?assign ?body ?done ?stop
  case assign =>
    intro l x W K hK
    gi_wp2
    exact hK
  case body =>
    rintro l pre x W ⟨⟨i4, io, i7, i8⟩, hB⟩ hlt
    have c4 := i4.cell
    have hlt' : pre.length < m := by omega
    have hem : e * pre.length + e ≤ L := by have := Nat.mul_le_mul_left e hlt'; rw [Nat.mul_succ] at this; omega
    gi_wp2
    gi_loopw [26, 10] (fun iv xv wr => ∃ j : Nat, j ≤ e ∧ iv = .int .i64 (j : Int) ∧ xv = .int .u64 (Rw.nth j x.2) ∧ Boxed wr w.heap.size 3 (.int .i64 (e : Int)) ∧ wr.heap[w.heap.size + 1]? = some (Rw.row (L - e * pre.length - j) (Rw.low j x.2 ++ Rw.tl e pre)) ∧
      Boxed wr (w.heap.size + 1 + 1) 84 (.slice (some ⟨w.heap.size + 1, 0, none⟩) L L) ∧ Boxed wr (w.heap.size + 1 + 1 + 1) 3 (.int .i64 ((L - e * pre.length - j : Nat) : Int)) ∧ KeepsOthers W wr ∧ Bk.Kp w.heap.size (w.heap.size + 1 + 1 + 1 + 1) W wr)
      (fun iv _ _ => e - (intOf iv).toNat)
    case atStart => exact ⟨0, Nat.zero_le _, by simp, rfl, i4, io, i7, i8, KeepsOthers.refl _, Bk.Kp.refl _ _ _⟩
    case round =>
      obtain ⟨j, hj, rfl, rfl, j4, jo, j7, j8, hko, hkp⟩ := hrel
      have c7 := j7.cell
      have c8 := j8.cell
      have f8 := j8.frozen
      by_cases hje : j < e
      · obtain ⟨z, hz⟩ : ∃ z, L - e * pre.length - j = z + 1 := ⟨L - e * pre.length - j - 1, by omega⟩
        rw [hz] at jo j8 c8
        have hzL : z < L := by omega
        obtain ⟨cz, fz⟩ := Rw.row_cell jo
        gi_wp2
        go_roundw
        case rel =>
          refine ⟨j + 1, by omega, by simp, rfl, Rw.set_other (Rw.set_other j4 (by omega) _) (by omega) _, ?_, Rw.set_other (Rw.set_other j7 (by omega) _) (by omega) _, ?_, (hko.trans (KeepsOthers.setCell _ _ _)).trans (KeepsOthers.setCell _ _ _), ?_⟩
          · rw [show L - e * pre.length - (j + 1) = z by omega, Rw.low_cons]
            exact Rw.set_row (Rw.set_other jo (by omega) _) _
          · rw [show L - e * pre.length - (j + 1) = z by omega]
            exact Rw.set_other (Rw.set_box j8 _) (by omega) _
          · exact hkp.trans ⟨((Below.refl _ _).setCell (p := ⟨w.heap.size + 1 + 1 + 1, 0, none⟩) (by simp <;> omega) _).setCell (p := ⟨w.heap.size + 1, z, none⟩) (by simp) _, (Below.heap_setCell _ _ _ _ (by simp <;> omega)).trans (Below.heap_setCell _ _ _ _ (by simp <;> omega))⟩
        case measure => simp [intOf]; omega
      · have hje' : j = e := by omega
        subst hje'
        gi_wp2
        refine ⟨hko, hkp, ⟨j4, ?_, j7, ?_⟩, hB.trans hkp.1⟩
        · rw [Rw.tl_snoc, show L - j * (pre ++ [x]).length = L - j * pre.length - j by simp [Nat.mul_add]; omega]
          exact jo
        · rw [show L - j * (pre ++ [x]).length = L - j * pre.length - j by simp [Nat.mul_add]; omega]
          exact j8
  case done =>
    rintro D ys W hD rfl ⟨⟨i4, io, i7, i8⟩, hB⟩ hK
    have hlen : (Bk.upto (Bk.at' zs zs.length) zs.length).length = m := by rw [Bk.upto_length, hm]
    rw [hlen, show L - e * m = N by omega] at i8 io
    have c7 := i7.cell
    have c8 := i8.cell
    have hNL : N ≤ L := by omega
    gi_wp2
    obtain ⟨it, t1, t2, t3, t4⟩ := info_parts Rw.info5
    have hsh : Shows Try.prog W (.slice ad N cap) (bs.map (Value.int .u8)) := by
      by_cases h0 : N = 0
      · have : bs = [] := List.length_eq_zero_iff.1 (by omega)
        subst this
        rw [h0]
        exact shows_none _ _
      · obtain ⟨g, o, pre, tail, t, fz, rfl, g2, g3⟩ := hsrc h0
        have hgl := (Array.getElem?_eq_some_iff.1 g2).1
        have g4 := (hB.block g hgl).trans g2
        have := shows_row (P := Try.prog) (w := W) (pre := pre) (cs := bs.map (Value.int .u8)) (tail := tail) cap g4 (m := N) (i := 0) (off := o) (by simp; omega) (by omega)
        rwa [List.drop_zero, List.take_of_length_le (by simp; omega)] at this
    have io : W.heap[w.heap.size + 1]? = some (.cells ((List.replicate N 0 ++ Rw.tl e (Bk.upto (Bk.at' zs zs.length) zs.length)).map (Value.int .u8)).toArray 5 (0, 0)) := io
    have hst := run_storeCells (P := Try.prog) (w.heap.size + 1) 5 (0, 0) (bs.map (Value.int .u8)) 0 0 ((List.replicate N 0 ++ Rw.tl e (Bk.upto (Bk.at' zs zs.length) zs.length)).map (Value.int .u8)) W io (by simp; omega) (fun j _ => by simp) (by simp [Value.oneCell'])
    have hsp : splL ((List.replicate N 0 ++ Rw.tl e (Bk.upto (Bk.at' zs zs.length) zs.length)).map (Value.int .u8)) (0 + 0) (bs.map (Value.int .u8)) = (bs ++ Rw.tl e (Bk.upto (Bk.at' zs zs.length) zs.length)).map (Value.int .u8) := by
      simp only [splL, Nat.add_zero, List.take_zero, List.nil_append, Nat.zero_add, List.length_map, List.map_append, hN]
      rw [List.drop_left' (by simp)]
    rw [hsp] at hst
    have hcp := VM.run_copy (P := Try.prog) (w := W) (ty := 3) (t2 := 84) Try.underlying84 t1 t3 hsh (ad := some ⟨w.heap.size + 1, 0, none⟩) (dlen := N) (cap := L) (w' := W.setRow (w.heap.size + 1) ((bs ++ Rw.tl e (Bk.upto (Bk.at' zs zs.length) zs.length)).map (Value.int .u8)).toArray)
      (fun x hx => by
        simp only [Option.some.injEq] at hx
        subst hx
        rw [List.take_of_length_le (by simp [hN])]
        exact hst) (fun h => by cases h)
    have r1 := setRow_heap W (w.heap.size + 1) _ ((bs ++ Rw.tl e (Bk.upto (Bk.at' zs zs.length) zs.length)).map (Value.int .u8)).toArray 5 (0, 0) io
    have r7 : Boxed (W.setRow (w.heap.size + 1) ((bs ++ Rw.tl e (Bk.upto (Bk.at' zs zs.length) zs.length)).map (Value.int .u8)).toArray) (w.heap.size + 1 + 1) 84 (.slice (some ⟨w.heap.size + 1, 0, none⟩) L L) := (setRow_other W _ _ _ (by omega)).trans i7
    have rK : (W.setRow (w.heap.size + 1) ((bs ++ Rw.tl e (Bk.upto (Bk.at' zs zs.length) zs.length)).map (Value.int .u8)).toArray).heap[D]? = some (.deferred (some [])) := (setRow_other W _ _ _ (by omega)).trans hK
    have rB : Below w.heap.size w (W.setRow (w.heap.size + 1) ((bs ++ Rw.tl e (Bk.upto (Bk.at' zs zs.length) zs.length)).map (Value.int .u8)).toArray) :=
      hB.trans ⟨rfl, rfl, rfl, by simp [World.setRow], fun k hk => setRow_other W _ _ _ (by omega)⟩
    generalize W.setRow (w.heap.size + 1) ((bs ++ Rw.tl e (Bk.upto (Bk.at' zs zs.length) zs.length)).map (Value.int .u8)).toArray = W2 at hcp r1 r7 rK rB
    rw [hcp]
    simp only [Result.andThen_ok, Oper.uponIn_value]
    have c7 := r7.cell
    gi_wp2
    refine ⟨by simp, .inl ⟨_, _, rfl, run_takeDeferred rK, ?_⟩⟩
    refine ⟨_, results_tmp rfl _ _ _, by rw [hL]; rfl, ?_, rB.trans (belowK_b (w := w) (Nat.le_refl _) W2 D _ _ (by omega) rK rfl rfl)⟩
    refine (World.putObj_heap_other (by omega)).trans ?_
    rw [r1]
    simp [Rw.row]
  case stop =>
    rintro D c pre W _ _ h _
    exact h.elim
end Go.Proofs

namespace Go.Proofs
open Go.VM
theorem Rw.tl_upto (e : Nat) (zs : List Int) : Rw.tl e (Bk.upto (Bk.at' zs zs.length) zs.length) = zs.flatMap (Rw.low e) := by
  have key : ∀ k, k ≤ zs.length → Rw.tl e (Bk.upto (Bk.at' zs zs.length) k) = (zs.drop (zs.length - k)).flatMap (Rw.low e) := by
    intro k
    induction k with
    | zero => intro _; simp [Bk.upto, Rw.tl]
    | succ k ih =>
      intro hk
      rw [Bk.upto_succ, Rw.tl_snoc, ih (by omega)]
      have hlt : zs.length - (k + 1) < zs.length := by omega
      rw [List.drop_eq_getElem_cons hlt, List.flatMap_cons, show zs.length - (k + 1) + 1 = zs.length - k by omega]
      congr 1
      simp only [Bk.at']
      rw [show zs.length - 1 - k = zs.length - (k + 1) by omega, List.getElem?_eq_getElem hlt]
      rfl
  have := key zs.length (Nat.le_refl _)
  rw [this]; simp
def f136.F (_K : Nat) (x : Nat × Int × Nat × Nat × List Int × Nat × List Int) : Option (Nat × Nat × Nat × List Int × Nat × List Int × Nat × List Int) :=
  bif Nat.beq x.1 x.2.2.2.1 && Nat.beq x.2.2.1 x.2.2.2.2.2.1 && decide (0 ≤ x.2.1 ∧ x.2.1 ≤ 8) && Nat.ble (x.1 + x.2.1.toNat * x.2.2.1) 140737488355328 && Nat.ble (x.2.2.1 * 8) 140737488351232 then
    some (x.1 + x.2.1.toNat * x.2.2.1, x.1 + x.2.1.toNat * x.2.2.1, x.2.2.2.1, x.2.2.2.2.1, x.2.2.2.2.2.1, x.2.2.2.2.2.2, x.1 + x.2.1.toNat * x.2.2.1, padT x.2.2.2.2.1 x.1 ++ (padT x.2.2.2.2.2.2 x.2.2.1).flatMap (Rw.low x.2.1.toNat))
  else none
def f136.av (x : Nat × Int × Nat × Nat × List Int × Nat × List Int) : List VV := [.vw true 0 0 x.1 1, .int .i64 x.2.1, .vw true 2 0 x.2.2.1 3]
def f136.bl (x : Nat × Int × Nat × Nat × List Int × Nat × List Int) : List (Nat × Blk) := [(0, ([.ints .u8 x.2.2.2.1 x.2.2.2.2.1], 0, .ro)), (2, ([.ints .u64 x.2.2.2.2.2.1 x.2.2.2.2.2.2], 0, .ro))]
def f136.inA : VS → Option (Nat × Int × Nat × Nat × List Int × Nat × List Int)
  | ⟨[(0, .vw true 0 0 a0 1), (1, .int .i64 a1), (2, .vw true 2 0 a2 3)], [(0, ([.ints .u8 m0_0 m0_1], 0, .ro)), (2, ([.ints .u64 m2_0 m2_1], 0, .ro))], 4⟩ => some (a0, a1, a2, m0_0, m0_1, m2_0, m2_1)
  | _ => none
def f136.o0 (y : Nat × Nat × Nat × List Int × Nat × List Int × Nat × List Int) : VS :=
  ⟨[(0, .sl 4 0 y.1 y.2.1)], [(0, ([.ints .u8 y.2.2.1 y.2.2.2.1], 0, .ro)), (2, ([.ints .u64 y.2.2.2.2.1 y.2.2.2.2.2.1], 0, .ro)), (4, ([.ints .u8 y.2.2.2.2.2.2.1 y.2.2.2.2.2.2.2], 5, .norm))], 5⟩
def f136.des : ∀ α : Type, (Nat × Nat × Nat × List Int × Nat × List Int × Nat × List Int) → (VS → Option α) → Option α := (dv1 f136.o0)
noncomputable def f136.E (K : Nat) : Entry := genE 4 f136.inA (f136.F K) f136.des
theorem cells_pad (ρ : Nat → Nat) (k : IntKind) (n : Nat) (l : List Int) : VV.cellss ρ [.ints k n l] = (padT l n).map (Value.int k) := by
  simp [VV.cellss, VV.cells, padT]
theorem f136.does (K : Nat) (x : Nat × Int × Nat × Nat × List Int × Nat × List Int) (y : Nat × Nat × Nat × List Int × Nat × List Int × Nat × List Int) (h : f136.F K x = some y) : Does Try.prog 136 4 (f136.av x) (f136.bl x) (f136.o0 y) := by
  obtain ⟨a0, a1, a2, n0, l0, n2, l2⟩ := x
  unfold f136.F at h
  simp only at h
  cases hc : (Nat.beq a0 n0 && Nat.beq a2 n2 && decide (0 ≤ a1 ∧ a1 ≤ 8) && Nat.ble (a0 + a1.toNat * a2) 140737488355328 && Nat.ble (a2 * 8) 140737488351232) with
  | false => rw [hc] at h; cases h
  | true =>
  rw [hc] at h
  simp only [cond_true, Option.some.injEq] at h
  subst h
  simp only [Bool.and_eq_true, Nat.beq_eq, decide_eq_true_eq, Nat.ble_eq] at hc
  obtain ⟨⟨⟨⟨rfl, rfl⟩, he⟩, hfit⟩, hm8⟩ := hc
  have getM : ∀ b z, getA (f136.o0 (a0 + a1.toNat * a2, a0 + a1.toNat * a2, a0, l0, a2, l2, a0 + a1.toNat * a2, padT l0 a0 ++ (padT l2 a2).flatMap (Rw.low a1.toNat))).M b = some z →
      (b = 0 ∧ z = ([.ints .u8 a0 l0], 0, .ro)) ∨ (b = 2 ∧ z = ([.ints .u64 a2 l2], 0, .ro)) ∨ (b = 4 ∧ z = ([.ints .u8 (a0 + a1.toNat * a2) (padT l0 a0 ++ (padT l2 a2).flatMap (Rw.low a1.toNat))], 5, .norm)) := by
    intro b z hz
    simp only [f136.o0, getA] at hz
    cases h0 : Nat.beq 0 b with
    | true => simp [h0] at hz; exact .inl ⟨(by simpa using h0 : 0 = b).symm, hz.symm⟩
    | false =>
      cases h2 : Nat.beq 2 b with
      | true => simp [h0, h2] at hz; exact .inr (.inl ⟨(by simpa using h2 : 2 = b).symm, hz.symm⟩)
      | false =>
        cases h4 : Nat.beq 4 b with
        | true => simp [h0, h2, h4] at hz; exact .inr (.inr ⟨(by simpa using h4 : 4 = b).symm, hz.symm⟩)
        | false => simp [h0, h2, h4] at hz
  refine ⟨by simp [f136.o0], fun b z hz => ?_, fun v hv => ?_⟩
  · rcases getM b z hz with ⟨rfl, rfl⟩ | ⟨rfl, rfl⟩ | ⟨rfl, rfl⟩ <;> simp [f136.o0, bids, VV.idss, VV.ids]
  · have hv : v = .sl 4 0 (a0 + a1.toNat * a2) (a0 + a1.toNat * a2) := by simpa [f136.o0, getA] using hv.symm
    subst hv
    refine ⟨rfl, by simp [VV.ids, f136.o0], fun ρ w _ hM hP => ?_⟩
    obtain ⟨h0, _⟩ := hM 0 _ (show getA (f136.bl (a0, a1, a2, a0, l0, a2, l2)) 0 = some ([.ints .u8 a0 l0], 0, .ro) from rfl)
    obtain ⟨h2, _⟩ := hM 2 _ (show getA (f136.bl (a0, a1, a2, a0, l0, a2, l2)) 2 = some ([.ints .u64 a2 l2], 0, .ro) from rfl)
    have g0 := h0
    have g2 := h2
    simp only [Holds, cells_pad] at h0 h2
    have hcall := Rw.row_in 5 (by omega) (if a0 = 0 ∧ ρ 1 = 0 then none else some ⟨(dec (ρ 0)).1, if a0 + (roomOf (ρ 1)).1 = 0 then (roomOf (ρ 1)).2 else (dec (ρ 0)).2 + 0, none⟩)
      (if a2 = 0 ∧ ρ 3 = 0 then none else some ⟨(dec (ρ 2)).1, if a2 + (roomOf (ρ 3)).1 = 0 then (roomOf (ρ 3)).2 else (dec (ρ 2)).2 + 0, none⟩)
      a0 (a0 + (roomOf (ρ 1)).1) a2 (a2 + (roomOf (ρ 3)).1) a1.toNat (padT l0 a0) (padT l2 a2) w (length_padT _ _) (length_padT _ _)
      (fun hn => by
        obtain ⟨pre, tail, t, fz, e1, e2⟩ := h0 (by simpa [VV.ws, VV.w] using hn)
        exact ⟨_, _, pre, tail, t, fz, by rw [if_neg (by omega), if_neg (by omega)], e1, by omega⟩)
      (by
        by_cases hz : a2 = 0 ∧ ρ 3 = 0
        · refine .inl ⟨?_, List.length_eq_zero_iff.1 (by rw [length_padT]; exact hz.1)⟩
          rw [if_pos hz, hz.1, hz.2]; simp [roomOf]
        · refine .inr ⟨(dec (ρ 2)).1, if a2 + (roomOf (ρ 3)).1 = 0 then (roomOf (ρ 3)).2 else (dec (ρ 2)).2 + 0, a2 + (roomOf (ρ 3)).1, ?_, fun hl => ?_, fun j hj => ?_⟩
          · rw [if_neg hz, length_padT]
          · rw [length_padT] at hl
            obtain ⟨pre, tail, t, fz, e1, e2⟩ := h2 (by simp [VV.ws, VV.w]; omega)
            exact (Array.getElem?_eq_some_iff.1 e1).1
          · rw [length_padT] at hj
            obtain ⟨pre, tail, t, fz, e1, e2⟩ := h2 (by simp [VV.ws, VV.w]; omega)
            rw [if_neg (by omega)]
            have := cell_row (w := w) (b := (dec (ρ 2)).1) (cs := pre ++ (padT l2 a2).map (Value.int .u64) ++ tail) (t := t) (fz := fz) e1 ((dec (ρ 2)).2 + 0 + j)
            rw [this, List.append_assoc, List.getElem?_append_right (by omega), List.getElem?_append_left (by simp [length_padT]; omega), List.getElem?_map, show (dec (ρ 2)).2 + 0 + j - pre.length = j by omega]
            rw [List.getElem?_eq_getElem (by rw [length_padT]; exact hj)]
            rfl)
      (by omega) hfit hm8
    have hargs : ((f136.av (a0, a1, a2, a0, l0, a2, l2)).map (VV.den ρ)).toArray = #[.slice (if a0 = 0 ∧ ρ 1 = 0 then none else some ⟨(dec (ρ 0)).1, if a0 + (roomOf (ρ 1)).1 = 0 then (roomOf (ρ 1)).2 else (dec (ρ 0)).2 + 0, none⟩) a0 (a0 + (roomOf (ρ 1)).1),
        .int .i64 ((a1.toNat : Nat) : Int), .slice (if a2 = 0 ∧ ρ 3 = 0 then none else some ⟨(dec (ρ 2)).1, if a2 + (roomOf (ρ 3)).1 = 0 then (roomOf (ρ 3)).2 else (dec (ρ 2)).2 + 0, none⟩) a2 (a2 + (roomOf (ρ 3)).1)] := by
      simp only [f136.av, List.map_cons, List.map_nil, VV.den, VV.den0, VV.cells, List.headD_cons, vwV, baseOf, cond_true]
      rw [show ((a1.toNat : Nat) : Int) = a1 by omega]
    rw [hargs]
    refine (callsIn_wide.1 hcall).mono ?_
    rintro en w' ⟨rfl, hrow, hB⟩
    rw [Rw.tl_upto] at hrow
    let ρ' : Nat → Nat := fun i => if i = 4 then w.heap.size + 1 else ρ i
    have hag : ∀ i, i < 4 → ρ' i = ρ i := fun i hi => if_neg (by omega)
    have r4 : ρ' 4 = w.heap.size + 1 := if_pos rfl
    have keep : ∀ b z, b < 4 → bids z = [] → Holds ρ w b z → Holds ρ' w' b z := fun b z hb hz hh => hh.congr (hag b hb) (fun i hi => by rw [hz] at hi; cases hi) fun k hk => hB.block k (occ_lt hh hk)
    have occs : ∀ b z, b < 4 → bids z = [] → Holds ρ w b z → ∀ k, occ ρ' b z k → k < w.heap.size := fun b z hb hz hh k hk => occ_lt hh ((occ_congr (hag b hb) fun i hi => by rw [hz] at hi; cases hi).1 hk)
    refine ⟨ρ', ?_, ⟨hag, fun b z hz => ?_, fun b d hbd z z' hz hz' k hk ho => ?_, fun b z hz k hk => ?_, hB.os, hB.tape, hB.output, hB.size, fun ad had => Go.VM.frozen_kept (hB.block _ had), fun j hj _ => hB.block j hj⟩⟩
    · simp [VV.den, VV.den0, VV.cells, r4]
    · rcases getM b z hz with ⟨rfl, rfl⟩ | ⟨rfl, rfl⟩ | ⟨rfl, rfl⟩
      · exact keep 0 _ (by omega) (by simp [bids, VV.idss, VV.ids]) g0
      · exact keep 2 _ (by omega) (by simp [bids, VV.idss, VV.ids]) g2
      · simp only [Holds, r4, cells_pad]
        rw [hrow]
        simp only [Rw.row, List.replicate_zero, List.nil_append]
        have hlen : (padT l0 a0 ++ (padT l2 a2).flatMap (Rw.low a1.toNat)).length = a0 + a1.toNat * a2 := by
          have h1 := Rw.tl_length a1.toNat (Bk.upto (Bk.at' (padT l2 a2) (padT l2 a2).length) (padT l2 a2).length)
          rw [Rw.tl_upto, Bk.upto_length, length_padT] at h1
          rw [List.length_append, length_padT, h1]
        have : padT (padT l0 a0 ++ (padT l2 a2).flatMap (Rw.low a1.toNat)) (a0 + a1.toNat * a2) = padT l0 a0 ++ (padT l2 a2).flatMap (Rw.low a1.toNat) := by
          rw [← hlen]
          exact range_getD _
        rw [this]
    · have hb4 : b = 4 ∧ k = w.heap.size + 1 := by
        rcases getM b z hz with ⟨rfl, rfl⟩ | ⟨rfl, rfl⟩ | ⟨rfl, rfl⟩
        · simp [own] at hk
        · simp [own] at hk
        · simp only [own, r4] at hk; exact ⟨rfl, hk⟩
      obtain ⟨rfl, rfl⟩ := hb4
      rcases getM d z' hz' with ⟨rfl, rfl⟩ | ⟨rfl, rfl⟩ | ⟨rfl, rfl⟩
      · have := occs 0 _ (by omega) (by simp [bids, VV.idss, VV.ids]) g0 _ ho; omega
      · have := occs 2 _ (by omega) (by simp [bids, VV.idss, VV.ids]) g2 _ ho; omega
      · exact hbd rfl
    · left
      rcases getM b z hz with ⟨rfl, rfl⟩ | ⟨rfl, rfl⟩ | ⟨rfl, rfl⟩
      · simp [own] at hk
      · simp [own] at hk
      · simp only [own, r4] at hk; omega
theorem f136.ok (K : Nat) : EntryOK Try.prog 136 (f136.E K) :=
  hand_ok (X := Nat × Int × Nat × Nat × List Int × Nat × List Int) (Y := Nat × Nat × Nat × List Int × Nat × List Int × Nat × List Int) Try.func136 (by kernel_rfl : Try.f136.body = some (Try.f136.body.getD .skip)) (by kernel_rfl) (av := f136.av) (bl := f136.bl) (out := f136.o0)
    (by intro s x h; unfold f136.inA at h; split at h <;> simp at h; subst h; rfl) (fun _ _ _ => rfl) (fun x y h => f136.does K x y h)
end Go.Proofs
