/- Plain laws: lemmas that hold with no condition but those that each states. -/
import Derived.Test.YtlncodfolaoilaaQ7
import Derived.RangeFuncNested
import Derived.RangeFuncBound
import Derived.RangeFuncCalls
import Derived.RangeFuncLeaves
import Derived.Shelf.Abstract
import Derived.Shelf.RegionOpen
import Derived.OwnWalkIn
import Derived.TacticsInMore
import Derived.LoopNIn
import Derived.LoopIn
namespace Go.Proofs
open Go.RowKit Go.Shelf Go.VM
attribute [local go_sem] Oper.semAt_some
theorem So.ld {F : Fence} {n : Nat} {P : Program} {ops : Array Oper} {Q : Exit → Act → World → Prop} {rest : List Oper} {a : Act} {w : World} {dst : Option Tmp} {ty type : TypeId} {x : Operand} {pos : String} {after : Array Edge} {g : Nat} {v : Value}
    (hx : a.eval x = .pointer (some ⟨g, 0, none⟩)) (hrun : (loadVar ty ⟨g, 0, none⟩).run P w = .ok v w) (h : wpListIn F n P ops Q rest (a.put dst v) w) :
    wpListIn F n P ops Q ({ dst := dst, op := .load ty x, type := type, pos := pos, after := after, guard := none } :: rest) a w := by
  refine wpListIn_plain rfl fun K hK => ⟨fun f hf => ?_, ?_⟩
  · simp [Oper.about] at hf
  · have hs : ({ dst := dst, op := .load ty x, type := type, pos := pos, after := after, guard := none } : Oper).semAt F.round a.eval = execOp a.eval { dst := dst, op := .load ty x, type := type, pos := pos, after := after, guard := none } := by
      cases F.round <;> simp [Oper.semAt]
    rw [hs]
    simp only [execOp, hx, Instr.loadAt, Instr.sureAddr, Sem.run_bind, Sem.run_pure, Result.andThen_ok, hrun, Oper.uponIn_value]
    exact hK _ _ h
def So.cand (k : Nat) : List Int := List.replicate 24 0 ++ be 8 k
def So.enc (k : Nat) : Value := .agg ((So.cand k).map (Value.int .u8)).toArray
def So.upto (k : Nat) : List Nat := List.range k
theorem So.info5 : (Try.prog.info? 5).map (fun i => (i.zero, i.size, i.bytes)) = some (some (.int .u8 0), 1, 1) := by kernel_rfl
theorem So.copy {w : World} {N B k : Nat} (hne : N ≠ B) (hN : w.heap[N]? = some (.cells (List.replicate 32 (Value.int .u8 0)).toArray 35 (0, 0))) (hB : w.heap[B]? = some (.cells ((be 8 k).map (Value.int .u8)).toArray 5 (0, 0))) :
    ∃ W2, (Builtin.copy_ #[22, 22] 3 #[.slice (some ⟨N, 24, none⟩) 8 8, .slice (some ⟨B, 0, none⟩) 8 8]).run Try.prog w = .ok (.int .i64 8) W2 ∧
      (loadVar 35 ⟨N, 0, none⟩).run Try.prog W2 = .ok (So.enc k) W2 ∧ W2.heap.size = w.heap.size ∧ (∀ j, j ≠ N → W2.heap[j]? = w.heap[j]?) ∧ W2.os = w.os ∧ W2.tape = w.tape ∧ W2.output = w.output := by
  obtain ⟨it, t1, t2, t3, t4⟩ := info_parts So.info5
  have hsh : Shows Try.prog w (.slice (some ⟨B, 0, none⟩) 8 8) ((be 8 k).map (Value.int .u8)) := by
    have := shows_row (P := Try.prog) (w := w) (pre := []) (cs := (be 8 k).map (Value.int .u8)) (tail := []) 8 (by simpa using hB) (m := 8) (i := 0) (off := 0) (by simp [be_length]) (by simp)
    rwa [List.drop_zero, List.take_of_length_le (by simp [be_length])] at this
  have hst := run_storeCells (P := Try.prog) N 35 (0, 0) ((be 8 k).map (Value.int .u8)) 24 0 (List.replicate 32 (Value.int .u8 0)) w hN (by simp [be_length]) (fun j _ => by simp) (by intro v hv; obtain ⟨x, _, rfl⟩ := List.mem_map.1 hv; rfl)
  have hsp : splL (List.replicate 32 (Value.int .u8 0)) (24 + 0) ((be 8 k).map (Value.int .u8)) = (So.cand k).map (Value.int .u8) := by
    rw [splL, List.length_map, be_length, So.cand, List.map_append, List.map_replicate]
    rfl
  rw [hsp] at hst
  have hcp := VM.run_copy (P := Try.prog) (w := w) (t2 := 22) (ty := 3) Try.underlying22 t1 t3 hsh (ad := some ⟨N, 24, none⟩) (dlen := 8) (cap := 8) (w' := w.setRow N ((So.cand k).map (Value.int .u8)).toArray)
    (fun x hx => by
      simp only [Option.some.injEq] at hx
      subst hx
      rw [List.take_of_length_le (by simp [be_length])]
      exact hst) (fun h => by cases h)
  rw [show ((be 8 k).map (Value.int .u8)).length = 8 by simp [be_length]] at hcp
  have r1 := setRow_heap w N _ ((So.cand k).map (Value.int .u8)).toArray 35 (0, 0) hN
  refine ⟨_, hcp, run_loadVar_row _ N 35 35 _ (0, 0) _ r1 Try.underlying35 rfl ?_, by simp [World.setRow], fun j hj => setRow_other w _ _ _ hj, rfl, rfl, rfl⟩
  have : ((So.cand k).map (Value.int .u8)).toArray.size = 32 := by simp [So.cand, be_length]
  rw [this]
  show _ = _
  kernel_rfl
set_option maxRecDepth 1000000 in
set_option maxHeartbeats 2000000 in
theorem So.walk (N : Nat) (hN : (N : Int) = 65536) (n : Nat) (hn : 3 ≤ n) (l : Nat) (J Jx : List Nat → World → Prop) (W : World) (hJ : AbidesFrom W.heap.size J)
    (hY : ∀ pre x W1, J pre W1 → pre.length < N → YieldAt Fence.wide (n - 1) Try.prog l #[So.enc x] W1 fun e W' =>
      (e = .returned (.bool true) ∧ J (pre ++ [x]) W') ∨ (e = .returned (.bool false) ∧ Jx (pre ++ [x]) W'))
    (h0 : J [] W) :
    CallsIn Fence.wide n Try.prog 71 #[.func (.yield l) #[] #[]] W fun e W' => (∃ v, e = .returned v) ∧
      ((∃ xs, xs = So.upto N ∧ J xs W') ∨ (∃ pre, (∃ k, k < N ∧ pre = So.upto (k + 1)) ∧ Jx pre W')) := by
  have hro : Fence.wide.round = none := rfl
  refine callsIn_of_wp Try.func71 rfl trivial ?_ hro
  simp only [Try.ntmps71, List.size_toArray, List.length_cons, List.length_nil, Nat.reduceAdd, Nat.reduceSub, Array.replicate_succ, Array.replicate_zero, List.push_toArray, List.append_toArray, List.nil_append, List.cons_append]
  gi_wp2
  gi_loopw [4] (fun i wr => ∃ k : Nat, k ≤ N ∧ i = .int .u64 (k : Int) ∧ J (So.upto k) wr)
    (fun i _ => (N - (intOf i).toNat))
  case atStart => exact ⟨0, by omega, by simp, h0⟩
  case round =>
    obtain ⟨k, hk, rfl, hJk⟩ := hrel
    by_cases hlt : (k : Int) < 65536
    · have hmix := mix
      gi_wp2
      gi_region_with_o (refine ⟨trivial, fun _ => by omega, ?_⟩; refine (callsIn_wide.2 (put8 k (by omega) _)).mono ?_; rintro e w' ⟨B, rfl, hB1, hB2, hB3⟩; obtain ⟨W2, hcp, hld, hs2, ho2, c1, c2, c3⟩ := So.copy (w := w') (N := wr.heap.size) (B := B) (k := k) (by simp at hB1; omega) ((hB3.block wr.heap.size (by simp)).trans (World.alloc_heap_new wr _)) hB2)
      have hg : wr.grownBy W2 none := ⟨c1.trans hB3.os, c2.trans hB3.tape, c3.trans hB3.output, by have := hB3.size; simp at this; omega, fun j hj _ =>
        (ho2 j (by omega)).trans ((hB3.block j (by simp; omega)).trans (by first | exact heap_alloc_old wr _ j hj | exact heap_alloc_old wr _ hj))⟩
      have hJ2 : J (So.upto k) W2 := hJ _ _ _ none hJk hg (fun r e => by cases e)
      obtain ⟨fn, tmps, assign, body, hy, hR⟩ := hY _ k W2 hJ2 (by simp [So.upto]; omega)
      gi_wp2_with (refine So.ld rfl hld ?_)
      refine ⟨fun _ => by omega, hR.mono ?_⟩
      rintro e W3 (⟨rfl, hJ3⟩ | ⟨rfl, hJx3⟩)
      · gi_wp2
        go_roundw
        case rel =>
          have e1 : So.upto k ++ [k] = So.upto (k + 1) := by simp [So.upto, List.range_succ]
          rw [e1] at hJ3
          refine ⟨k + 1, by omega, by simp [IntKind.wrap, IntKind.signed, IntKind.bits] <;> omega, hJ3⟩
        case measure => simp [intOf, IntKind.wrap, IntKind.signed, IntKind.bits] <;> omega
      · gi_wp2
        refine bodyPost_ret (results_none rfl _ _ _) rfl ?_
        exact ⟨⟨_, rfl⟩, .inr ⟨_, ⟨k, by omega, by simp [So.upto, List.range_succ]⟩, hJx3⟩⟩
    · obtain rfl : k = N := by omega
      gi_wp2
      go_end0
      first | exact ⟨⟨_, rfl⟩, .inl ⟨_, rfl, hJk⟩⟩ | exact ⟨⟨_, rfl⟩, .inl hJk⟩
end Go.Proofs
