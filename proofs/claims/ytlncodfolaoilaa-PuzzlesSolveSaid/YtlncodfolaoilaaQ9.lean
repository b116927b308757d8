/- Plain laws: lemmas that hold with no condition but those that each states. -/
import Derived.Test.YtlncodfolaoilaaQ8
import Derived.Test.YtlncodfolaoilaaQ4
namespace Go.Proofs
open Go.RowKit Go.Shelf Go.VM
attribute [local go_sem] Oper.semAt_some
theorem So.st {F : Fence} {n : Nat} {P : Program} {ops : Array Oper} {Q : Exit → Act → World → Prop} {rest : List Oper} {a : Act} {w w' : World} {dst : Option Tmp} {ty type : TypeId} {x y : Operand} {pos : String} {after : Array Edge} {g : Nat} {v : Value}
    (hx : a.eval x = .pointer (some ⟨g, 0, none⟩)) (hy : a.eval y = v) (hrun : (storeVar ty ⟨g, 0, none⟩ v).run P w = .ok () w') (h : wpListIn F n P ops Q rest (a.put dst undef) w') :
    wpListIn F n P ops Q ({ dst := dst, op := .store ty x y, type := type, pos := pos, after := after, guard := none } :: rest) a w := by
  refine wpListIn_plain rfl fun K hK => ⟨fun f hf => ?_, ?_⟩
  · simp [Oper.about] at hf
  · have hs : ({ dst := dst, op := .store ty x y, type := type, pos := pos, after := after, guard := none } : Oper).semAt F.round a.eval = execOp a.eval { dst := dst, op := .store ty x y, type := type, pos := pos, after := after, guard := none } := by
      cases F.round <;> simp [Oper.semAt]
    rw [hs]
    simp only [execOp, hx, hy, Instr.storeAt, Instr.sureAddr, Sem.run_bind, Sem.run_pure, Result.andThen_ok, hrun, Oper.uponIn_skip]
    exact hK _ _ h
theorem So.setrow {W : World} {B : Nat} {old new : List Value} (h : W.heap[B]? = some (.cells old.toArray 35 (0, 0))) (hl : old.length = 32) (hn : new.length = 32) (h1 : ∀ v ∈ new, v.oneCell' = true) :
    ∃ W', (storeVar 35 ⟨B, 0, none⟩ (.agg new.toArray)).run Try.prog W = .ok () W' ∧ W'.heap[B]? = some (.cells new.toArray 35 (0, 0)) ∧ (∀ j, j ≠ B → W'.heap[j]? = W.heap[j]?) ∧ W'.heap.size = W.heap.size ∧ W'.os = W.os ∧ W'.tape = W.tape ∧ W'.output = W.output := by
  refine ⟨_, run_storeVar_row W B 35 35 old.toArray new.toArray h ?_ (by simp [hl, hn]) (by simpa using h1), ?_, fun j hj => setRow_other W _ _ _ hj, by simp [World.setRow], rfl, rfl, rfl⟩
  · rw [show new.toArray.size = 32 by simp [hn]]; show _ = _; kernel_rfl
  · have := setRow_heap W B _ new.toArray 35 (0, 0) h
    rw [this]
theorem So.stops (N : Nat) (hN : (N : Int) = 65536) (n : Nat) (hn : 3 ≤ n) (w : World) :
    SeqStopsK Fence.wide n Try.prog 71 #[] (fun k : Nat => #[So.enc k]) (fun _ _ => True) (fun xs => xs = So.upto N) (fun pre => ∃ k, k < N ∧ pre = So.upto (k + 1)) N w := fun l J Jx W hW hJ hJx hY h0 => by
  have := So.walk N hN n hn l J Jx W hJ (fun pre x W1 hj hl => by
    obtain ⟨fn, t, as', bd, hy, hR⟩ := hY pre x W1 hj hl
    exact ⟨fn, t, as', bd, hy, hR.mono fun e W' h => h.imp (fun h => ⟨h.1, h.2.1⟩) id⟩) h0
  exact this
set_option maxHeartbeats 1000000 in
theorem So.sols_in (n : Nat) (w : World) : CallsIn Fence.wide n Try.prog 52 #[] w fun e w' => e = .returned (.func (.func 71) #[] #[]) ∧ w' = w := by
  refine callsIn_of_wp Try.func52 rfl trivial ?_ rfl
  simp only [Try.ntmps52, List.size_toArray, List.length_cons, List.length_nil, Nat.reduceAdd, Nat.reduceSub, Array.replicate_succ, Array.replicate_zero, List.push_toArray, List.append_toArray, List.nil_append, List.cons_append]
  gi_wp2
  go_ret
  exact ⟨rfl, rfl⟩
theorem So.load_arr {W : World} {B ty k e : Nat} {t : TypeId} {cs : Array Value} {m : Nat} (h : W.heap[B]? = some (.cells cs t (0, 0))) (hu : Try.prog.underlying ty = some (.array k e)) (hi : (Try.prog.info? ty).map (·.size) = some m) (hm : cs.size = m) : (loadVar ty ⟨B, 0, none⟩).run Try.prog W = .ok (.agg cs) W :=
  run_loadVar_row W B t ty cs (0, 0) (.array k e) h hu rfl (by rw [hm]; exact hi)
theorem So.load_str {W : World} {B ty : Nat} {t : TypeId} {fs : Array Field} {cs : Array Value} {m : Nat} (h : W.heap[B]? = some (.cells cs t (0, 0))) (hu : Try.prog.underlying ty = some (.struct fs)) (hi : (Try.prog.info? ty).map (·.size) = some m) (hm : cs.size = m) : (loadVar ty ⟨B, 0, none⟩).run Try.prog W = .ok (.agg cs) W :=
  run_loadVar_row W B t ty cs (0, 0) (.struct fs) h hu rfl (by rw [hm]; exact hi)
theorem So.den_eq (k : Nat) : (VV.agg [.ints .u8 32 (So.cand k)]).den id = So.enc k := by
  show Value.agg (VV.cellss id [.ints .u8 32 (So.cand k)]).toArray = _
  rw [So.enc]
  congr 2
theorem So.results2 {W : World} {tmps : Array Value} {s : Nat} {cs : List Value} {e : Int} (h6 : tmps.getD 6 undef = .pointer (some ⟨s, 0, none⟩)) (h7 : tmps.getD 7 undef = .pointer (some ⟨s + 1, 0, none⟩))
    (c6 : W.heap[s]? = some (.cells cs.toArray 35 (0, 0))) (hl : cs.length = 32) (c7 : W.heap[s + 1]? = some (.cells #[.int .i64 e] 32 (0, 0))) : (results Try.f31 tmps).run Try.prog W = .ok (.tuple #[.agg cs.toArray, .int .i64 e]) W := by
  have l6 := So.load_arr c6 Try.underlying35 (m := 32) (by kernel_rfl) (by simp [hl])
  have l7 : (loadVar 32 ⟨s + 1, 0, none⟩).run Try.prog W = .ok (.int .i64 e) W := by
    have hc : W.cell? ⟨s + 1, 0, none⟩ = some (.int .i64 e) := by simp [World.cell?, c7]
    have hag : (isAgg 32).run Try.prog W = .ok false W := by
      unfold isAgg
      rw [Sem.run_bind, run_underlying Try.underlying32 W]
      rfl
    simp [loadVar, Sem.run_bind, hag, hc]
  have h6' : tmps[6]?.getD undef = .pointer (some ⟨s, 0, none⟩) := by simpa using h6
  have h7' : tmps[7]?.getD undef = .pointer (some ⟨s + 1, 0, none⟩) := by simpa using h7
  simp [results, Try.f31, h6', h7', asAddr, l6, l7]
def So.St (s : Nat) (PC FC TC : Array Value) (cs : List Value) (e : Int) (W : World) : Prop :=
  W.heap[s]? = some (.cells PC 53 (0, 0)) ∧ W.heap[s + 1]? = some (.cells FC 47 (0, 0)) ∧ W.heap[s + 1 + 1]? = some (.cells TC 47 (0, 0)) ∧ W.heap[s + 1 + 1 + 1]? = some (.cells cs.toArray 35 (0, 0)) ∧ W.heap[s + 1 + 1 + 1 + 1]? = some (.cells #[.int .i64 e] 32 (0, 0))
theorem So.St.own {s : Nat} {PC FC TC : Array Value} {cs : List Value} {e : Int} {A B : World} {row : Option Nat} (h : So.St s PC FC TC cs e A) (hg : A.grownBy B row) (hr : ∀ r, row = some r → ∃ o : Obj, A.heap[r]? = some o ∧ o.isCells = false) : So.St s PC FC TC cs e B :=
  ⟨Rw.kept h.1 rfl hg hr, Rw.kept h.2.1 rfl hg hr, Rw.kept h.2.2.1 rfl hg hr, Rw.kept h.2.2.2.1 rfl hg hr, Rw.kept h.2.2.2.2 rfl hg hr⟩
theorem So.St.below {s : Nat} {PC FC TC : Array Value} {cs : List Value} {e : Int} {A B : World} {k : Nat} (h : So.St s PC FC TC cs e A) (hB : Below k A B) (hk : s + 5 ≤ k) : So.St s PC FC TC cs e B :=
  ⟨(hB.block _ (by omega)).trans h.1, (hB.block _ (by omega)).trans h.2.1, (hB.block _ (by omega)).trans h.2.2.1, (hB.block _ (by omega)).trans h.2.2.2.1, (hB.block _ (by omega)).trans h.2.2.2.2⟩
set_option maxRecDepth 1000000 in
set_option maxHeartbeats 2000000 in
theorem So.solve (N : Nat) (hN : (N : Int) = 65536) (n : Nat) (hn : 5 ≤ n) (K : Nat) (b g : Int) (hb : ¬ b > 12) (I from' to' : List Int) (p : Nat → Bool) (hp : ∀ k, f29.F K (b, g, I, from', to', So.cand k) = some (p k)) (w : World) :
    CallsIn Fence.wide n Try.prog 31 #[(VV.agg [.int .u8 b, .int .u64 g, .ints .u8 32 I]).den id, (VV.agg [.ints .u8 16 from']).den id, (VV.agg [.ints .u8 16 to']).den id] w fun e W' =>
      Below w.heap.size w W' ∧ ((e = .returned (.tuple #[.agg (List.replicate 32 (Value.int .u8 0)).toArray, .int .i64 12]) ∧ ∀ k, k < N → p k = false) ∨
        (∃ k, k < N ∧ e = .returned (.tuple #[So.enc k, .int .i64 0]) ∧ p k = true ∧ ∀ j, j < k → p j = false)) := by
  have hro : Fence.wide.round = none := rfl
  have h1 : 1 ≤ n := by omega
  obtain ⟨PC, hPC⟩ : ∃ PC : Array Value, (VV.agg [.int .u8 b, .int .u64 g, .ints .u8 32 I]).den id = .agg PC := ⟨_, rfl⟩
  obtain ⟨FC, hFC⟩ : ∃ FC : Array Value, (VV.agg [.ints .u8 16 from']).den id = .agg FC := ⟨_, rfl⟩
  obtain ⟨TC, hTC⟩ : ∃ TC : Array Value, (VV.agg [.ints .u8 16 to']).den id = .agg TC := ⟨_, rfl⟩
  have hP0 : PC[0]? = some (.int .u8 b) := by
    have := hPC; simp [VV.den, VV.den0, VV.cells, VV.cellss] at this; rw [← this]; rfl
  have hcheck := fun (k : Nat) (W : World) => check_calls K b g I from' to' (So.cand k) (hp k) W
  simp only [So.den_eq] at hcheck
  rw [hPC, hFC, hTC] at hcheck ⊢
  refine callsIn_of_wp_marks Try.func31 rfl trivial ?_ hro
  simp only [Try.ntmps31, List.size_toArray, List.length_cons, List.length_nil, Nat.reduceAdd, Nat.reduceSub, Array.replicate_succ, Array.replicate_zero, List.push_toArray, List.append_toArray, List.nil_append, List.cons_append]
  gi_wp2_with (refine ⟨trivial, ?_⟩; gi_at_call 52; refine (So.sols_in _ _).mono ?_; rintro e w' ⟨rfl, rfl⟩)
  have sP : PC.size = 34 := by
    have := hPC; simp [VV.den, VV.den0, VV.cells, VV.cellss] at this; rw [← this]; simp
  have sF : FC.size = 16 := by
    have := hFC; simp [VV.den, VV.den0, VV.cells, VV.cellss] at this; rw [← this]; simp
  have sT : TC.size = 16 := by
    have := hTC; simp [VV.den, VV.den0, VV.cells, VV.cellss] at this; rw [← this]; simp
  generalize hs : w.heap.size = s
  have f0 : So.St s PC FC TC (List.replicate 32 (Value.int .u8 0)) 0 (((((w.alloc (.cells PC 53)).alloc (.cells FC 47)).alloc (.cells TC 47)).alloc (.cells #[.int .u8 0, .int .u8 0, .int .u8 0, .int .u8 0, .int .u8 0, .int .u8 0, .int .u8 0, .int .u8 0, .int .u8 0, .int .u8 0, .int .u8 0, .int .u8 0, .int .u8 0, .int .u8 0, .int .u8 0, .int .u8 0, .int .u8 0, .int .u8 0, .int .u8 0, .int .u8 0, .int .u8 0, .int .u8 0, .int .u8 0, .int .u8 0, .int .u8 0, .int .u8 0, .int .u8 0, .int .u8 0, .int .u8 0, .int .u8 0, .int .u8 0, .int .u8 0] 35)).alloc (.cells #[.int .i64 0] 32)) := by
    have g0 := World.alloc_heap_new w (.cells PC 53)
    have g1 := World.alloc_heap_new (w.alloc (.cells PC 53)) (.cells FC 47)
    have g2 := World.alloc_heap_new ((w.alloc (.cells PC 53)).alloc (.cells FC 47)) (.cells TC 47)
    have g3 := World.alloc_heap_new (((w.alloc (.cells PC 53)).alloc (.cells FC 47)).alloc (.cells TC 47)) (.cells #[.int .u8 0, .int .u8 0, .int .u8 0, .int .u8 0, .int .u8 0, .int .u8 0, .int .u8 0, .int .u8 0, .int .u8 0, .int .u8 0, .int .u8 0, .int .u8 0, .int .u8 0, .int .u8 0, .int .u8 0, .int .u8 0, .int .u8 0, .int .u8 0, .int .u8 0, .int .u8 0, .int .u8 0, .int .u8 0, .int .u8 0, .int .u8 0, .int .u8 0, .int .u8 0, .int .u8 0, .int .u8 0, .int .u8 0, .int .u8 0, .int .u8 0, .int .u8 0] 35)
    have g4 := World.alloc_heap_new ((((w.alloc (.cells PC 53)).alloc (.cells FC 47)).alloc (.cells TC 47)).alloc (.cells #[.int .u8 0, .int .u8 0, .int .u8 0, .int .u8 0, .int .u8 0, .int .u8 0, .int .u8 0, .int .u8 0, .int .u8 0, .int .u8 0, .int .u8 0, .int .u8 0, .int .u8 0, .int .u8 0, .int .u8 0, .int .u8 0, .int .u8 0, .int .u8 0, .int .u8 0, .int .u8 0, .int .u8 0, .int .u8 0, .int .u8 0, .int .u8 0, .int .u8 0, .int .u8 0, .int .u8 0, .int .u8 0, .int .u8 0, .int .u8 0, .int .u8 0, .int .u8 0] 35)) (.cells #[.int .i64 0] 32)
    simp only [World.size_alloc, hs] at g0 g1 g2 g3 g4
    exact ⟨Rw.alloc (Rw.alloc (Rw.alloc (Rw.alloc g0 _) _) _) _, Rw.alloc (Rw.alloc (Rw.alloc g1 _) _) _, Rw.alloc (Rw.alloc g2 _) _, Rw.alloc g3 _, g4⟩
  have hB0 : Below s w (((((w.alloc (.cells PC 53)).alloc (.cells FC 47)).alloc (.cells TC 47)).alloc (.cells #[.int .u8 0, .int .u8 0, .int .u8 0, .int .u8 0, .int .u8 0, .int .u8 0, .int .u8 0, .int .u8 0, .int .u8 0, .int .u8 0, .int .u8 0, .int .u8 0, .int .u8 0, .int .u8 0, .int .u8 0, .int .u8 0, .int .u8 0, .int .u8 0, .int .u8 0, .int .u8 0, .int .u8 0, .int .u8 0, .int .u8 0, .int .u8 0, .int .u8 0, .int .u8 0, .int .u8 0, .int .u8 0, .int .u8 0, .int .u8 0, .int .u8 0, .int .u8 0] 35)).alloc (.cells #[.int .i64 0] 32)) :=
    (((((Below.refl _ w).alloc (by omega) _).alloc (by simp; omega) _).alloc (by simp; omega) _).alloc (by simp; omega) _).alloc (by simp; omega) _
  have hsz : (((((w.alloc (.cells PC 53)).alloc (.cells FC 47)).alloc (.cells TC 47)).alloc (.cells #[.int .u8 0, .int .u8 0, .int .u8 0, .int .u8 0, .int .u8 0, .int .u8 0, .int .u8 0, .int .u8 0, .int .u8 0, .int .u8 0, .int .u8 0, .int .u8 0, .int .u8 0, .int .u8 0, .int .u8 0, .int .u8 0, .int .u8 0, .int .u8 0, .int .u8 0, .int .u8 0, .int .u8 0, .int .u8 0, .int .u8 0, .int .u8 0, .int .u8 0, .int .u8 0, .int .u8 0, .int .u8 0, .int .u8 0, .int .u8 0, .int .u8 0, .int .u8 0] 35)).alloc (.cells #[.int .i64 0] 32)).heap.size = s + 5 := by simp [hs]
  generalize hW0 : ((((w.alloc (.cells PC 53)).alloc (.cells FC 47)).alloc (.cells TC 47)).alloc (.cells #[.int .u8 0, .int .u8 0, .int .u8 0, .int .u8 0, .int .u8 0, .int .u8 0, .int .u8 0, .int .u8 0, .int .u8 0, .int .u8 0, .int .u8 0, .int .u8 0, .int .u8 0, .int .u8 0, .int .u8 0, .int .u8 0, .int .u8 0, .int .u8 0, .int .u8 0, .int .u8 0, .int .u8 0, .int .u8 0, .int .u8 0, .int .u8 0, .int .u8 0, .int .u8 0, .int .u8 0, .int .u8 0, .int .u8 0, .int .u8 0, .int .u8 0, .int .u8 0] 35)).alloc (.cells #[.int .i64 0] 32) = W0 at f0 hB0 hsz ⊢
  refine wpIn_rangeFunc_ownH hro h1 (gf := 71) (lb := #[]) rfl trivial (enters_of Try.func71 (by kernel_rfl) rfl) (So.stops N hN (n - 1) (by omega) W0) (fun _ _ => trivial) (fun _ _ _ _ _ _ _ _ => trivial) (Below.refl _ _) (fun _ => rfl)
    (fun pre W => So.St s PC FC TC (List.replicate 32 (Value.int .u8 0)) 0 W ∧ Below s w W ∧ ∀ x ∈ pre, p x = false)
    (fun c xs W => c = .ret ∧ ∃ pre x, xs = pre ++ [x] ∧ p x = true ∧ (∀ y ∈ pre, p y = false) ∧ So.St s PC FC TC ((So.cand x).map (Value.int .u8)) 0 W ∧ Below s w W)
    (fun _ A B row hi hg hr => ⟨hi.1.own hg fun r e => (hr r e).2, hi.2.1.grown hg (by have := hi.2.1.size; omega) (fun r e => by have := (hr r e).1; omega), hi.2.2⟩)
    (fun c _ A B row hi hg hr => by
      obtain ⟨e, pre, x, h1, h2, h3, h4, h5⟩ := hi
      exact ⟨e, pre, x, h1, h2, h3, h4.own hg fun r e => (hr r e).2, h5.grown hg (by have := h5.size; omega) (fun r e => by have := (hr r e).1; omega)⟩)
    ⟨f0, hB0, by simp⟩
    (fun x a' W => ∃ jb, s + 5 ≤ jb ∧ a' = { tmps := #[.agg PC, .agg FC, .agg TC, .pointer (some ⟨s, 0, none⟩), .pointer (some ⟨s + 1, 0, none⟩), .pointer (some ⟨s + 1 + 1, 0, none⟩), .pointer (some ⟨s + 1 + 1 + 1, 0, none⟩), .pointer (some ⟨s + 1 + 1 + 1 + 1, 0, none⟩), .pointer (some ⟨jb, 0, none⟩),
      .pointer (some ⟨s, 0, none⟩), .int .u8 b, .bool false, undef, .func (.func 71) #[] #[], So.enc x, undef, undef, undef, undef, undef, undef, undef], defers := [] } ∧ W.heap[jb]? = some (.cells ((So.cand x).map (Value.int .u8)).toArray 35 (0, 0)))
    (fun x a' _ A B row hi hg hr => by
      obtain ⟨jb, h1, h2, h3⟩ := hi
      exact ⟨jb, h1, h2, Rw.kept h3 rfl hg fun r e => (hr r e).2⟩)
    ?assign ?body ?done ?stop
  case assign =>
    rintro l pre x W K ⟨hSt, hBW, hpre⟩ hK
    have hn := World.alloc_heap_new W (.cells #[.int .u8 0, .int .u8 0, .int .u8 0, .int .u8 0, .int .u8 0, .int .u8 0, .int .u8 0, .int .u8 0, .int .u8 0, .int .u8 0, .int .u8 0, .int .u8 0, .int .u8 0, .int .u8 0, .int .u8 0, .int .u8 0, .int .u8 0, .int .u8 0, .int .u8 0, .int .u8 0, .int .u8 0, .int .u8 0, .int .u8 0, .int .u8 0, .int .u8 0, .int .u8 0, .int .u8 0, .int .u8 0, .int .u8 0, .int .u8 0, .int .u8 0, .int .u8 0] 35)
    have hge : s + 5 ≤ W.heap.size := by have := (Array.getElem?_eq_some_iff.1 hSt.2.2.2.2).1; omega
    obtain ⟨W', hst, q1, q2, q3, q4, q5, q6⟩ := So.setrow (W := W.alloc (.cells #[.int .u8 0, .int .u8 0, .int .u8 0, .int .u8 0, .int .u8 0, .int .u8 0, .int .u8 0, .int .u8 0, .int .u8 0, .int .u8 0, .int .u8 0, .int .u8 0, .int .u8 0, .int .u8 0, .int .u8 0, .int .u8 0, .int .u8 0, .int .u8 0, .int .u8 0, .int .u8 0, .int .u8 0, .int .u8 0, .int .u8 0, .int .u8 0, .int .u8 0, .int .u8 0, .int .u8 0, .int .u8 0, .int .u8 0, .int .u8 0, .int .u8 0, .int .u8 0] 35)) (B := W.heap.size) (old := List.replicate 32 (Value.int .u8 0)) (new := (So.cand x).map (Value.int .u8)) hn (by simp) (by simp [So.cand, be_length]) (by intro v hv; obtain ⟨y, _, rfl⟩ := List.mem_map.1 hv; rfl)
    have hst : (storeVar 35 ⟨W.heap.size, 0, none⟩ (So.enc x)).run Try.prog (W.alloc (.cells #[.int .u8 0, .int .u8 0, .int .u8 0, .int .u8 0, .int .u8 0, .int .u8 0, .int .u8 0, .int .u8 0, .int .u8 0, .int .u8 0, .int .u8 0, .int .u8 0, .int .u8 0, .int .u8 0, .int .u8 0, .int .u8 0, .int .u8 0, .int .u8 0, .int .u8 0, .int .u8 0, .int .u8 0, .int .u8 0, .int .u8 0, .int .u8 0, .int .u8 0, .int .u8 0, .int .u8 0, .int .u8 0, .int .u8 0, .int .u8 0, .int .u8 0, .int .u8 0] 35)) = .ok () W' := hst
    have hBe : Below W.heap.size W W' := ⟨q4, q5, q6, by rw [q3]; simp, fun j hj => (q2 j (by omega)).trans (by first | exact heap_alloc_old W _ j hj | exact heap_alloc_old W _ hj)⟩
    gi_wp2_with (refine So.st rfl rfl hst ?_)
    refine hK _ _ ⟨hBe.size, fun k o _ hk _ => (hBe.block k (Array.getElem?_eq_some_iff.1 hk).1).trans hk⟩ trivial ⟨hSt.below hBe hge, hBW.trans (hBe.mono (by omega)), hpre⟩ ⟨W.heap.size, hge, rfl, q1⟩
  case body =>
    rintro l pre x a' W hl hr ⟨hSt, hBW, hpre⟩ ⟨jb, hjb, rfl, hjc⟩ hlen
    have hge : s + 5 ≤ W.heap.size := by have := (Array.getElem?_eq_some_iff.1 hSt.2.2.2.2).1; omega
    have hjl : jb < W.heap.size := (Array.getElem?_eq_some_iff.1 hjc).1
    have h53 := So.load_str hSt.1 Try.underlying53 (m := 34) (by kernel_rfl) sP
    have h4 := So.load_arr hSt.2.1 Try.underlying47 (m := 16) (by kernel_rfl) sF
    have h5 := So.load_arr hSt.2.2.1 Try.underlying47 (m := 16) (by kernel_rfl) sT
    have hj : (loadVar 35 ⟨jb, 0, none⟩).run Try.prog W = .ok (So.enc x) W := So.load_arr hjc Try.underlying35 (m := 32) (by kernel_rfl) (by simp [So.cand, be_length])
    have hch := hcheck x W
    clear hcheck sP sF sT
    cases hpx : p x with
    | false =>
      rw [hpx] at hch
      gi_wp2_with (first | refine So.ld rfl h53 ?_ | refine So.ld rfl h4 ?_ | refine So.ld rfl h5 ?_ | refine So.ld rfl hj ?_ | (refine ⟨trivial, fun _ => by omega, ?_⟩; gi_at_call 29; refine (CallsIn.inRound l (callsIn_wide.2 hch)).mono ?_; rintro e w' ⟨rfl, hB⟩))
      refine ⟨⟨hB.size, fun k o _ hk _ => (hB.block k (Array.getElem?_eq_some_iff.1 hk).1).trans hk⟩, trivial, hSt.below hB hge, hBW.trans (hB.mono (by omega)), fun y hy => ?_⟩
      rcases List.mem_append.1 hy with hy | hy
      · exact hpre y hy
      · simp only [List.mem_singleton] at hy; subst hy; exact hpx
    | true =>
      rw [hpx] at hch
      gi_wp2_with (first | refine So.ld rfl h53 ?_ | refine So.ld rfl h4 ?_ | refine So.ld rfl h5 ?_ | refine So.ld rfl hj ?_ | (refine ⟨trivial, fun _ => by omega, ?_⟩; gi_at_call 29; refine (CallsIn.inRound l (callsIn_wide.2 hch)).mono ?_; rintro e w' ⟨rfl, hB⟩; have S2 := hSt.below hB hge; have hj2 : (loadVar 35 ⟨jb, 0, none⟩).run Try.prog w' = .ok (So.enc x) w' := So.load_arr ((hB.block jb hjl).trans hjc) Try.underlying35 (m := 32) (by kernel_rfl) (by simp [So.cand, be_length]); obtain ⟨W3, hst, q1, q2, q3, q4, q5, q6⟩ := So.setrow (W := w') (B := s + 1 + 1 + 1) (old := List.replicate 32 (Value.int .u8 0)) (new := (So.cand x).map (Value.int .u8)) S2.2.2.2.1 (by simp) (by simp [So.cand, be_length]) (by intro v hv; obtain ⟨y, _, rfl⟩ := List.mem_map.1 hv; rfl); have hst : (storeVar 35 ⟨s + 1 + 1 + 1, 0, none⟩ (So.enc x)).run Try.prog w' = .ok () W3 := hst; have b4 : Boxed W3 (s + 1 + 1 + 1 + 1) 32 (.int .i64 0) := (q2 _ (by omega)).trans S2.2.2.2.2; have c4 := b4.cell; have d4 := b4.frozen) | refine So.ld rfl hj2 ?_ | refine So.st rfl rfl hst ?_)
      have b5 := Rw.set_box b4 (.int .i64 0)
      have keep : ∀ j o, j ≠ s + 1 + 1 + 1 → j ≠ s + 1 + 1 + 1 + 1 → w'.heap[j]? = some o → (W3.setCell ⟨s + 1 + 1 + 1 + 1, 0, none⟩ (.int .i64 0)).heap[j]? = some o := fun j o h1 h2 h => Rw.set_other ((q2 j h1).trans h) h2 _
      refine ⟨⟨?_, fun k o hk ho _ => keep k o (by omega) (by omega) ((hB.block k (Array.getElem?_eq_some_iff.1 ho).1).trans ho)⟩, rfl, pre, x, rfl, hpx, hpre,
        ⟨keep _ _ (by omega) (by omega) S2.1, keep _ _ (by omega) (by omega) S2.2.1, keep _ _ (by omega) (by omega) S2.2.2.1, Rw.set_other q1 (by omega) _, b5⟩, ⟨?_, ?_, ?_, ?_, fun j hj => ?_⟩⟩
      · rw [World.size_setCell, q3]; exact hB.size
      · exact q4.trans (hB.os.trans hBW.os)
      · exact q5.trans (hB.tape.trans hBW.tape)
      · exact q6.trans (hB.output.trans hBW.output)
      · rw [World.size_setCell, q3]; exact Nat.le_trans hBW.size hB.size
      · exact (Below.heap_setCell _ _ _ _ (by simp; omega)).trans ((q2 j (by omega)).trans ((hB.block j (by omega)).trans (hBW.block j hj)))
  case done =>
    rintro D xs W hD rfl ⟨hSt, hBW, hall⟩ hK
    clear hcheck sP sF sT
    obtain ⟨W3, hst, q1, q2, q3, q4, q5, q6⟩ := So.setrow (W := W) (B := s + 1 + 1 + 1) (old := List.replicate 32 (Value.int .u8 0)) (new := List.replicate 32 (Value.int .u8 0)) hSt.2.2.2.1 (by simp) (by simp) (by intro v hv; rw [List.eq_of_mem_replicate hv]; rfl)
    have b4 : Boxed W3 (s + 1 + 1 + 1 + 1) 32 (.int .i64 0) := (q2 _ (by omega)).trans hSt.2.2.2.2
    have c4 := b4.cell
    have d4 := b4.frozen
    gi_wp2_with (refine So.st rfl rfl hst ?_)
    have b5 := Rw.set_box b4 (.int .i64 12)
    have rK : (W3.setCell ⟨s + 1 + 1 + 1 + 1, 0, none⟩ (.int .i64 12)).heap[D]? = some (.deferred (some [])) := Rw.set_other ((q2 D (by omega)).trans hK) (by omega) _
    have hBe : Below s w (W3.setCell ⟨s + 1 + 1 + 1 + 1, 0, none⟩ (.int .i64 12)) :=
      ⟨q4.trans hBW.os, q5.trans hBW.tape, q6.trans hBW.output, by rw [World.size_setCell, q3]; exact hBW.size, fun j hj => (Below.heap_setCell _ _ _ _ (by simp; omega)).trans ((q2 j (by omega)).trans (hBW.block j hj))⟩
    refine ⟨by simp, .inl ⟨_, _, rfl, run_takeDeferred rK, ?_⟩⟩
    refine ⟨_, So.results2 (s := s + 1 + 1 + 1) rfl rfl ((World.putObj_heap_other (by omega)).trans (Rw.set_other q1 (by omega) _)) (by simp) ((World.putObj_heap_other (by omega)).trans b5), ?_⟩
    rw [hs]
    refine ⟨hBe.trans (belowK_b (w := w) (by omega) _ D _ _ (by have := hBW.size; omega) rK rfl rfl), .inl ⟨rfl, fun k hk => hall k (by simp [So.upto]; exact hk)⟩⟩
  case stop =>
    rintro D c pre W hD ⟨k, hk, hpk⟩ ⟨rfl, pre', x, hxs, h2, h3, hSt, hB⟩ hK
    clear hcheck sP sF sT
    have hpx : pre' = So.upto k ∧ x = k := by
      have e : pre' ++ [x] = So.upto k ++ [k] := by rw [← hxs, hpk]; simp [So.upto, List.range_succ]
      have := List.append_inj' e rfl
      simpa using this
    obtain ⟨rfl, rfl⟩ := hpx
    gi_wp2
    refine ⟨by simp, .inl ⟨_, _, rfl, run_takeDeferred hK, ?_⟩⟩
    refine ⟨_, So.results2 (s := s + 1 + 1 + 1) rfl rfl ((World.putObj_heap_other (by omega)).trans hSt.2.2.2.1) (by simp [So.cand, be_length]) ((World.putObj_heap_other (by omega)).trans hSt.2.2.2.2), ?_⟩
    rw [hs]
    refine ⟨hB.trans (belowK_b (w := w) (by omega) _ D _ _ (by have := hB.size; omega) hK rfl rfl), .inr ⟨_, hk, rfl, h2, fun j hj => h3 j (by simp [So.upto]; exact hj)⟩⟩
end Go.Proofs
