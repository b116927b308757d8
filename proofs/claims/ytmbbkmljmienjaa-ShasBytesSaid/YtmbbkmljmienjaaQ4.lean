/- Plain laws: lemmas that hold with no condition but those that each states. -/
import Derived.RangeFuncNested
import Derived.RangeFuncBound
import Derived.RangeFuncCalls
import Derived.RangeFuncLeaves
import Derived.Shelf.Abstract
import Derived.Shelf.RegionOpen
import Derived.WalkKit
import Derived.OwnWalkIn
import Derived.TacticsInMore
import Derived.LoopNIn
import Derived.LoopIn
import Derived.Test.YtmbbkmljmienjaaProg
namespace Go.Proofs
open Go.RowKit Go.Shelf
attribute [local go_sem] Oper.semAt_some
def Bk.upto {α : Type} (f : Nat → α) (k : Nat) : List α := (List.range k).map f
theorem Bk.upto_succ {α : Type} (f : Nat → α) (k : Nat) : Bk.upto f (k + 1) = Bk.upto f k ++ [f k] := by simp [Bk.upto, List.range_succ]
theorem Bk.upto_length {α : Type} (f : Nat → α) (k : Nat) : (Bk.upto f k).length = k := by simp [Bk.upto]
def Bk.at' (zs : List Int) (len : Nat) (k : Nat) : Nat × Int := (len - 1 - k, zs[len - 1 - k]?.getD 0)
def Bk.Kp (n₀ Bs : Nat) (A B : World) : Prop := Below n₀ A B ∧ B.heap[Bs]? = A.heap[Bs]?
theorem Bk.Kp.refl (n₀ Bs : Nat) (A : World) : Bk.Kp n₀ Bs A A := ⟨Below.refl _ _, rfl⟩
theorem Bk.Kp.trans {n₀ Bs : Nat} {A B C : World} (h : Bk.Kp n₀ Bs A B) (k : Bk.Kp n₀ Bs B C) : Bk.Kp n₀ Bs A C := ⟨h.1.trans k.1, k.2.trans h.2⟩
theorem Bk.Kp.cell {n₀ Bs : Nat} {A B : World} (h : Bk.Kp n₀ Bs A B) : B.cell? ⟨Bs, 0, none⟩ = A.cell? ⟨Bs, 0, none⟩ := by simp [World.cell?, h.2]
set_option maxRecDepth 100000 in
set_option maxHeartbeats 2000000 in
theorem Bk.back1_in (F : Fence) (n : Nat) (h8 : F.fn 107) (hro : F.round = none) (hn : 1 ≤ n) (l Bs n₀ b off len cap : Nat) (zs : List Int) (hreach : len * 8 ≤ 140737488351232) (hb : 0 < len → b < n₀) (J Jx : List (Nat × Int) → World → Prop)
    (hY : ∀ pre x W, J pre W → pre.length < len → YieldAt F (n - 1) Try.prog l #[.int .i64 (x.1 : Int), .int .u64 x.2] W fun e W' =>
      (e = .returned (.bool true) ∧ J (pre ++ [x]) W' ∧ Bk.Kp n₀ Bs W W') ∨ (e = .returned (.bool false) ∧ Jx (pre ++ [x]) W'))
    (W : World) (hBs : W.cell? ⟨Bs, 0, none⟩ = some (.slice (some ⟨b, off, none⟩) len cap)) (hc : ∀ j, j < len → W.cell? ⟨b, off + j, none⟩ = some (.int .u64 (zs[j]?.getD 0))) (h0 : J [] W) :
    CallsIn F n Try.prog 107 #[.func (.yield l) #[] #[], .pointer (some ⟨Bs, 0, none⟩)] W fun e W' => (∃ v, e = .returned v) ∧
      ((∃ ys, ys = Bk.upto (Bk.at' zs len) len ∧ J ys W') ∨ (∃ pre, (∃ k, k ≤ len ∧ pre = Bk.upto (Bk.at' zs len) k) ∧ Jx pre W')) := by
  refine callsIn_of_wp Try.func107 rfl h8 ?_ hro
  simp only [Try.ntmps107, List.size_toArray, List.length_cons, List.length_nil, Nat.reduceAdd, Nat.reduceSub, Array.replicate_succ, Array.replicate_zero, List.push_toArray, List.append_toArray, List.nil_append, List.cons_append]
  gi_wp2
  gi_loopw [3] (fun i wr => ∃ k : Nat, k ≤ len ∧ i = .int .i64 ((len : Int) - k - 1) ∧ J (Bk.upto (Bk.at' zs len) k) wr ∧ Bk.Kp n₀ Bs W wr)
    (fun i _ => (intOf i + 1).toNat)
  case atStart => exact ⟨0, Nat.zero_le _, by simp, h0, Bk.Kp.refl _ _ _⟩
  case round =>
    obtain ⟨k, hk, rfl, hJs, hnx⟩ := hrel
    by_cases hlt : k < len
    · obtain ⟨m, hm⟩ : ∃ m : Nat, (len : Int) - k - 1 = m := ⟨len - k - 1, by omega⟩
      have hml : m < len := by omega
      have hcx : wr.cell? ⟨b, off + m, none⟩ = some (.int .u64 (zs[m]?.getD 0)) := (hnx.1.cell (p := ⟨b, off + m, none⟩) (hb (by omega))).trans (hc m hml)
      have hBx : wr.cell? ⟨Bs, 0, none⟩ = some (.slice (some ⟨b, off, none⟩) len cap) := hnx.cell.trans hBs
      rw [hm]
      obtain ⟨fn, tmps, assign, body, hy, hR⟩ := hY _ (m, zs[m]?.getD 0) wr hJs (by rw [Bk.upto_length]; exact hlt)
      dsimp only at hy
      gi_wp2
      refine hR.mono ?_
      have hat : Bk.at' zs len k = (m, zs[m]?.getD 0) := by unfold Bk.at'; rw [show len - 1 - k = m by omega]
      rintro e W3 (⟨rfl, hJ3, hk3⟩ | ⟨rfl, hJx3⟩)
      · gi_wp2
        go_roundw
        case rel => exact ⟨k + 1, by omega, by simp [IntKind.wrap, IntKind.signed, IntKind.bits] <;> omega, by rw [Bk.upto_succ, hat]; exact hJ3, hnx.trans hk3⟩
        case measure => simp [intOf, IntKind.wrap, IntKind.signed, IntKind.bits] <;> omega
      · gi_wp2
        refine bodyPost_ret (results_none rfl _ _ _) rfl ?_
        exact ⟨⟨_, rfl⟩, .inr ⟨_, ⟨k + 1, by omega, by rw [Bk.upto_succ, hat]⟩, hJx3⟩⟩
    · obtain rfl : k = len := by omega
      rw [show (k : Int) - k - 1 = -1 by omega]
      gi_wp2
      go_end0
      exact ⟨⟨_, rfl⟩, .inl ⟨_, rfl, hJs⟩⟩
set_option maxRecDepth 100000 in
set_option maxHeartbeats 1000000 in
theorem Bk.back1_nil_in (F : Fence) (n : Nat) (h8 : F.fn 107) (hro : F.round = none) (l Bs : Nat) (J : List (Nat × Int) → World → Prop) (W : World) (ad : Option Addr) (cap : Nat) (hBs : W.cell? ⟨Bs, 0, none⟩ = some (.slice ad 0 cap)) (h0 : J [] W) :
    CallsIn F n Try.prog 107 #[.func (.yield l) #[] #[], .pointer (some ⟨Bs, 0, none⟩)] W fun e W' => (∃ v, e = .returned v) ∧ J [] W' := by
  refine callsIn_of_wp Try.func107 rfl h8 ?_ hro
  simp only [Try.ntmps107, List.size_toArray, List.length_cons, List.length_nil, Nat.reduceAdd, Nat.reduceSub, Array.replicate_succ, Array.replicate_zero, List.push_toArray, List.append_toArray, List.nil_append, List.cons_append]
  gi_wp2
  gi_loopw [3] (fun i wr => i = .int .i64 (-1) ∧ J [] wr) (fun _ _ => 0)
  case atStart => exact ⟨rfl, h0⟩
  case round =>
    obtain ⟨rfl, hJs⟩ := hrel
    gi_wp2
    go_end0
    exact ⟨⟨_, rfl⟩, hJs⟩
set_option maxHeartbeats 1000000 in
theorem Bk.back_in (F : Fence) (n : Nat) (h6 : F.fn 103) (hro : F.round = none) (a : Option Addr) (len cap : Nat) (w : World) :
    CallsIn F n Try.prog 103 #[.slice a len cap] w fun e w' => e = .returned (.func (.func 107) #[] #[.pointer (some ⟨w.heap.size, 0, none⟩)]) ∧ w' = w.alloc (.cells #[.slice a len cap] 148) := by
  refine callsIn_of_wp Try.func103 rfl h6 ?_ hro
  simp only [Try.ntmps103, List.size_toArray, List.length_cons, List.length_nil, Nat.reduceAdd, Nat.reduceSub, Array.replicate_succ, Array.replicate_zero, List.push_toArray, List.append_toArray, List.nil_append, List.cons_append]
  gi_wp2
  go_ret
  exact ⟨rfl, rfl⟩
def Bk.U64s (n₀ : Nat) (W : World) (sv : Value) (zs : List Int) : Prop :=
  ((∃ ad cap, sv = .slice ad 0 cap) ∧ zs = []) ∨ ∃ b off cap, sv = .slice (some ⟨b, off, none⟩) zs.length cap ∧ (0 < zs.length → b < n₀) ∧ ∀ j, j < zs.length → W.cell? ⟨b, off + j, none⟩ = some (.int .u64 (zs[j]?.getD 0))
theorem Bk.U64s.below {n₀ : Nat} {A B : World} (h : Below n₀ A B) {sv : Value} {zs : List Int} : Bk.U64s n₀ A sv zs → Bk.U64s n₀ B sv zs
  | .inl e => .inl e
  | .inr ⟨b, off, cap, e, hb, hc⟩ => .inr ⟨b, off, cap, e, hb, fun j hj => (h.cell (p := ⟨b, off + j, none⟩) (hb (by omega))).trans (hc j hj)⟩
theorem Bk.back_stops (F : Fence) (n : Nat) (h8 : F.fn 107) (hro : F.round = none) (hn : 1 ≤ n) (Bs n₀ : Nat) (sv : Value) (zs : List Int) (hreach : zs.length * 8 ≤ 140737488351232) (w : World) (hBs : Bs < w.heap.size) (hn₀ : n₀ ≤ w.heap.size)
    (hc : w.cell? ⟨Bs, 0, none⟩ = some sv) (hI : Bk.U64s n₀ w sv zs) :
    SeqStopsK F n Try.prog 107 #[.pointer (some ⟨Bs, 0, none⟩)] (fun x : Nat × Int => #[Value.int .i64 (x.1 : Int), Value.int .u64 x.2]) (Bk.Kp n₀ Bs) (fun ys => ys = Bk.upto (Bk.at' zs zs.length) zs.length)
      (fun pre => ∃ k, k ≤ zs.length ∧ pre = Bk.upto (Bk.at' zs zs.length) k) zs.length w := fun l J Jx W hW _ _ hY h0 => by
  have hc' := (hW.cell (p := ⟨Bs, 0, none⟩) hBs).trans hc
  rcases hI.below (hW.mono hn₀) with ⟨⟨ad, cap, rfl⟩, rfl⟩ | ⟨b, off, cap, rfl, hb, hcs⟩
  · exact (Bk.back1_nil_in F n h8 hro l Bs J W ad cap hc' h0).mono fun e W' ⟨he, hj⟩ => ⟨he, .inl ⟨_, rfl, hj⟩⟩
  · exact Bk.back1_in F n h8 hro hn l Bs n₀ b off zs.length cap zs hreach hb J Jx hY W hc' hcs h0
end Go.Proofs
