/- Plain laws: lemmas that hold with no condition but those that each states. -/
import Derived.Test.YtmbbkmljmienjaaQ4
import Derived.Test.YtmbbkmljmienjaaQ2
import Derived.Laws.MakeOwn
namespace Go.Proofs
open Go.RowKit Go.Shelf Go.VM
attribute [local go_sem] Oper.semAt_some
def Rw.nxt (x : Int) : Int := IntKind.u64.wrap (x.tdiv 256)
def Rw.byt (x : Int) : Int := x % 256
def Rw.low : Nat → Int → List Int
  | 0, _ => []
  | j + 1, x => Rw.low j (Rw.nxt x) ++ [Rw.byt x]
def Rw.nth : Nat → Int → Int
  | 0, x => x
  | j + 1, x => Rw.nxt (Rw.nth j x)
theorem Rw.nth_nxt (j : Nat) (x : Int) : Rw.nth j (Rw.nxt x) = Rw.nth (j + 1) x := by
  induction j with
  | zero => rfl
  | succ j ih => rw [Rw.nth, ih]; rfl
theorem Rw.low_cons (j : Nat) (x : Int) : Rw.low (j + 1) x = Rw.byt (Rw.nth j x) :: Rw.low j x := by
  induction j generalizing x with
  | zero => rfl
  | succ j ih => rw [Rw.low, ih, Rw.nth_nxt]; rfl
theorem Rw.low_length (j : Nat) (x : Int) : (Rw.low j x).length = j := by
  induction j generalizing x with
  | zero => rfl
  | succ j ih => simp [Rw.low, ih]
def Rw.tl (e : Nat) (pre : List (Nat × Int)) : List Int := pre.foldl (fun acc x => Rw.low e x.2 ++ acc) []
theorem Rw.tl_snoc (e : Nat) (pre : List (Nat × Int)) (x : Nat × Int) : Rw.tl e (pre ++ [x]) = Rw.low e x.2 ++ Rw.tl e pre := by simp [Rw.tl]
theorem Rw.tl_length (e : Nat) (pre : List (Nat × Int)) : (Rw.tl e pre).length = e * pre.length := by
  suffices h : ∀ acc : List Int, (pre.foldl (fun acc x => Rw.low e x.2 ++ acc) acc).length = e * pre.length + acc.length by simpa [Rw.tl] using h []
  induction pre with
  | nil => simp
  | cons x pre ih => intro acc; simp only [List.foldl_cons, ih, List.length_append, Rw.low_length, List.length_cons, Nat.mul_add, Nat.mul_one]; omega
def Rw.row (z : Nat) (R : List Int) : Obj := .cells ((List.replicate z 0 ++ R).map (Value.int .u8)).toArray 5 (0, 0)
theorem Rw.info5 : (Try.prog.info? 5).map (fun i => (i.zero, i.size, i.bytes)) = some (some (.int .u8 0), 1, 1) := by kernel_rfl
set_option maxRecDepth 100000 in
theorem Rw.run_make (w : World) (L : Nat) (hL : L ≤ 140737488355328) :
    (Instr.makeSlice 22 (.int .i64 (L : Int)) (.int .i64 (L : Int))).run Try.prog w = .ok (.slice (some ⟨w.heap.size, 0, none⟩) L L) (w.alloc (Rw.row L [])) := by
  obtain ⟨i, h1, h2, h3, h4⟩ := info_parts Rw.info5
  have := Go.run_make (P := Try.prog) w 22 5 i _ Try.underlying22 h1 h2 .i64 .i64 (L : Int) (L : Int) (by omega) (Int.le_refl _) (by rw [h4]; omega) (by omega)
  rw [this]
  simp only [Int.toNat_natCast, h3, Nat.mul_one, madeCells, Rw.row]
  congr 3
  apply Array.ext'
  simp [Value.cells]
  refine List.ext_getElem (by simp) fun i _ _ => ?_
  simp [Nat.mod_one]
theorem Rw.set_row {W : World} {B z : Nat} {R : List Int} (h : W.heap[B]? = some (Rw.row (z + 1) R)) (v : Int) : (W.setCell ⟨B, z, none⟩ (.int .u8 v)).heap[B]? = some (Rw.row z (v :: R)) := by
  have := setCell_eq_setRow W B z _ 5 (0, 0) (.int .u8 v) h
  rw [this, setRow_heap W B _ _ _ _ h]
  simp only [Rw.row]
  congr 2
  apply Array.ext'
  simp
  rw [List.replicate_succ']
  simp [List.set_append]
theorem Rw.row_cell {W : World} {B z : Nat} {R : List Int} (h : W.heap[B]? = some (Rw.row (z + 1) R)) : W.cell? ⟨B, z, none⟩ = some (.int .u8 0) ∧ W.frozen? ⟨B, z, none⟩ = false := by
  constructor
  · simp [World.cell?, h, Rw.row]
    rw [List.getElem?_append_left (by simp)]
    simp
  · simp [World.frozen?, h, Rw.row]
theorem Rw.alloc {W : World} {b : Nat} {o : Obj} (h : W.heap[b]? = some o) (o' : Obj) : (W.alloc o').heap[b]? = some o := by
  have hlt := (Array.getElem?_eq_some_iff.1 h).1
  rw [heap_alloc_old W o' b hlt]; exact h
theorem Rw.kept {A B : World} {row : Option Nat} {b : Nat} {o : Obj} (h : A.heap[b]? = some o) (ho : o.isCells = true) (hg : A.grownBy B row) (hr : ∀ r, row = some r → ∃ o : Obj, A.heap[r]? = some o ∧ o.isCells = false) : B.heap[b]? = some o := by
  refine (hg.block b (Array.getElem?_eq_some_iff.1 h).1 fun e => ?_).trans h
  obtain ⟨o', h1, h2⟩ := hr b e.symm
  rw [h] at h1
  simp only [Option.some.injEq] at h1
  subst h1
  rw [ho] at h2; cases h2
theorem Rw.set_box {W : World} {B : Nat} {t : TypeId} {u : Value} (h : Boxed W B t u) (v : Value) : Boxed (W.setCell ⟨B, 0, none⟩ v) B t v := by
  have := setCell_eq_setRow W B 0 _ t (0, 0) v h
  unfold Boxed
  rw [this, setRow_heap W B _ _ _ _ h]
  rfl
theorem Rw.set_other {W : World} {B off b : Nat} {o : Obj} (h : W.heap[b]? = some o) (hne : b ≠ B) (v : Value) : (W.setCell ⟨B, off, none⟩ v).heap[b]? = some o := (Below.heap_setCell _ _ _ _ hne).trans h
set_option maxRecDepth 100000 in
set_option maxHeartbeats 2000000 in
theorem Rw.row_in (n : Nat) (hn : 3 ≤ n) (ad ad2 : Option Addr) (N cap m cap2 e : Nat) (bs zs : List Int) (w : World) (hN : bs.length = N) (hm : zs.length = m)
    (hsrc : N ≠ 0 → ∃ g o pre tail t fz, ad = some ⟨g, o, none⟩ ∧ w.heap[g]? = some (.cells (pre ++ bs.map (Value.int .u8) ++ tail).toArray t fz) ∧ pre.length = o) (hZ : Bk.U64s w.heap.size w (.slice ad2 m cap2) zs) (he : e ≤ 8)
    (hfit : N + e * m ≤ 140737488355328) (hm8 : m * 8 ≤ 140737488351232) :
    CallsIn Fence.wide n Try.prog 92 #[.slice ad N cap, .int .i64 (e : Int), .slice ad2 m cap2] w fun en W' => en = .returned (.slice (some ⟨w.heap.size + 1, 0, none⟩) (N + e * m) (N + e * m)) ∧
      W'.heap[w.heap.size + 1]? = some (Rw.row 0 (bs ++ Rw.tl e (Bk.upto (Bk.at' zs zs.length) zs.length))) ∧ Below w.heap.size w W' := by
  have h1 : 1 ≤ n := by omega
  have hro : Fence.wide.round = none := rfl
  refine callsIn_of_wp_marks Try.func92 rfl trivial ?_ hro
  simp only [Try.ntmps92, List.size_toArray, List.length_cons, List.length_nil, Nat.reduceAdd, Nat.reduceSub, Array.replicate_succ, Array.replicate_zero, List.push_toArray, List.append_toArray, List.nil_append, List.cons_append]
  gi_wp2_with (gi_at_call 103; refine (Bk.back_in Fence.wide (n - 1) trivial hro _ _ _ _).mono ?_; rintro e w' ⟨rfl, rfl⟩)
  generalize hL : N + e * m = L at hfit
  have hX : (N : Int) + (e : Int) * (m : Int) = (L : Int) := by rw [← hL]; simp
  rw [hX, Rw.run_make _ L hfit]
  gi_wp2_with (refine ⟨trivial, ?_⟩; gi_at_call 103; refine (Bk.back_in Fence.wide (n - 1) trivial hro _ _ _ _).mono ?_; rintro e w' ⟨rfl, rfl⟩)
  have b4 := Boxed.new w 3 (.int .i64 e)
  have bo : ((w.alloc (.cells #[.int .i64 (e : Int)] 3)).alloc (Rw.row L [])).heap[w.heap.size + 1]? = some (Rw.row L []) := by
    have := World.alloc_heap_new (w.alloc (.cells #[.int .i64 (e : Int)] 3)) (Rw.row L []); rwa [World.size_alloc] at this
  have b7 := Boxed.new ((w.alloc (.cells #[.int .i64 (e : Int)] 3)).alloc (Rw.row L [])) 22 (.slice (some ⟨w.heap.size + 1, 0, none⟩) L L)
  have b8 := Boxed.new (((w.alloc (.cells #[.int .i64 (e : Int)] 3)).alloc (Rw.row L [])).alloc (.cells #[.slice (some ⟨w.heap.size + 1, 0, none⟩) L L] 22)) 3 (.int .i64 (L : Int))
  have bS := Boxed.new ((((w.alloc (.cells #[.int .i64 (e : Int)] 3)).alloc (Rw.row L [])).alloc (.cells #[.slice (some ⟨w.heap.size + 1, 0, none⟩) L L] 22)).alloc (.cells #[.int .i64 (L : Int)] 3)) 148 (.slice ad2 m cap2)
  simp only [World.size_alloc] at b7 b8 bS
  have b4 := (((b4.alloc (Rw.row L [])).alloc (.cells #[.slice (some ⟨w.heap.size + 1, 0, none⟩) L L] 22)).alloc (.cells #[.int .i64 (L : Int)] 3)).alloc (.cells #[.slice ad2 m cap2] 148)
  have bo := Rw.alloc (Rw.alloc (Rw.alloc bo (.cells #[.slice (some ⟨w.heap.size + 1, 0, none⟩) L L] 22)) (.cells #[.int .i64 (L : Int)] 3)) (.cells #[.slice ad2 m cap2] 148)
  have b7 := (b7.alloc (.cells #[.int .i64 (L : Int)] 3)).alloc (.cells #[.slice ad2 m cap2] 148)
  have b8 := b8.alloc (.cells #[.slice ad2 m cap2] 148)
  have hB0 : Below w.heap.size w (((((w.alloc (.cells #[.int .i64 (e : Int)] 3)).alloc (Rw.row L [])).alloc (.cells #[.slice (some ⟨w.heap.size + 1, 0, none⟩) L L] 22)).alloc (.cells #[.int .i64 (L : Int)] 3)).alloc (.cells #[.slice ad2 m cap2] 148)) :=
    (((((Below.refl _ w).alloc (Nat.le_refl _) _).alloc (by simp) _).alloc (by simp; omega) _).alloc (by simp; omega) _).alloc (by simp; omega) _
  have hsz : (((((w.alloc (.cells #[.int .i64 (e : Int)] 3)).alloc (Rw.row L [])).alloc (.cells #[.slice (some ⟨w.heap.size + 1, 0, none⟩) L L] 22)).alloc (.cells #[.int .i64 (L : Int)] 3)).alloc (.cells #[.slice ad2 m cap2] 148)).heap.size = w.heap.size + 5 := by simp
  generalize hW0 : ((((w.alloc (.cells #[.int .i64 (e : Int)] 3)).alloc (Rw.row L [])).alloc (.cells #[.slice (some ⟨w.heap.size + 1, 0, none⟩) L L] 22)).alloc (.cells #[.int .i64 (L : Int)] 3)).alloc (.cells #[.slice ad2 m cap2] 148) = W0 at *
  refine wpIn_rangeFunc_ownF hro h1 (gf := 107) (lb := #[.pointer (some ⟨w.heap.size + 1 + 1 + 1 + 1, 0, none⟩)]) rfl trivial (enters_of Try.func107 (by kernel_rfl) rfl)
    (Bk.back_stops Fence.wide (n - 1) trivial hro (by omega) (w.heap.size + 1 + 1 + 1 + 1) w.heap.size _ zs (by omega) W0 (by omega) (by omega) bS.cell (by rw [← hm] at hZ ⊢; exact hZ.below hB0)) (fun h k => Bk.Kp.trans h k)
    (fun W l o o' hl h h2 h3 => ⟨belowK_b (w := W0) (by omega) W l o o' hl h h2 h3, World.putObj_heap_other (by omega)⟩) (Below.refl _ _) (fun _ => rfl)
    (fun pre W => (Boxed W w.heap.size 3 (.int .i64 (e : Int)) ∧ W.heap[w.heap.size + 1]? = some (Rw.row (L - e * pre.length) (Rw.tl e pre)) ∧ Boxed W (w.heap.size + 1 + 1) 22 (.slice (some ⟨w.heap.size + 1, 0, none⟩) L L) ∧
      Boxed W (w.heap.size + 1 + 1 + 1) 3 (.int .i64 ((L - e * pre.length : Nat) : Int))) ∧ Below w.heap.size w W)
    (fun _ _ _ => False)
    (OwnFrom.and (Own.from (fun s A B row hs hg hr => ⟨Rw.kept hs.1 rfl hg hr, Rw.kept hs.2.1 rfl hg hr, Rw.kept hs.2.2.1 rfl hg hr, Rw.kept hs.2.2.2 rfl hg hr⟩) _) (ownFrom_below (Nat.le_refl _) (by omega)))
    (fun _ _ _ _ _ hs _ _ => hs)
    ⟨⟨b4, bo, b7, b8⟩, hB0⟩
    (fun x => { tmps := #[.slice ad N cap, .int .i64 (e : Int), .slice ad2 m cap2, undef, .pointer (some ⟨w.heap.size, 0, none⟩), undef, .slice none 0 0, .pointer (some ⟨w.heap.size + 1 + 1, 0, none⟩), .pointer (some ⟨w.heap.size + 1 + 1 + 1, 0, none⟩), undef, .int .u64 x.2,
      .slice ad N cap, .int .i64 (N : Int), .int .i64 (e : Int), .slice ad2 m cap2, .int .i64 (m : Int), .int .i64 ((e : Int) * (m : Int)), .int .i64 (L : Int), .slice (some ⟨w.heap.size + 1, 0, none⟩) L L, .slice (some ⟨w.heap.size + 1, 0, none⟩) L L, .int .i64 (L : Int), .slice ad2 m cap2,
      .func (.func 107) #[] #[.pointer (some ⟨w.heap.size + 1 + 1 + 1 + 1, 0, none⟩)], .int .i64 (x.1 : Int), .int .u64 x.2, undef, undef, undef, undef, undef, undef, undef, undef, undef, undef, undef, undef, undef, undef, undef, undef, undef, undef, undef], defers := [] }) ?assign ?body ?done ?stop
  case assign =>
    intro l x W K hK
    gi_wp2
    exact hK
  case body =>
    rintro l pre x W ⟨⟨i4, io, i7, i8⟩, hB⟩ hlt
    have c4 := i4.cell
    have hlt' : pre.length < m := by omega
    have hem : e * pre.length + e ≤ L := by have := Nat.mul_le_mul_left e hlt'; rw [Nat.mul_succ] at this; omega
    gi_wp2
    gi_loopw [26, 10] (fun iv xv wr => ∃ j : Nat, j ≤ e ∧ iv = .int .i64 (j : Int) ∧ xv = .int .u64 (Rw.nth j x.2) ∧ Boxed wr w.heap.size 3 (.int .i64 (e : Int)) ∧ wr.heap[w.heap.size + 1]? = some (Rw.row (L - e * pre.length - j) (Rw.low j x.2 ++ Rw.tl e pre)) ∧
      Boxed wr (w.heap.size + 1 + 1) 22 (.slice (some ⟨w.heap.size + 1, 0, none⟩) L L) ∧ Boxed wr (w.heap.size + 1 + 1 + 1) 3 (.int .i64 ((L - e * pre.length - j : Nat) : Int)) ∧ KeepsOthers W wr ∧ Bk.Kp w.heap.size (w.heap.size + 1 + 1 + 1 + 1) W wr)
      (fun iv _ _ => e - (intOf iv).toNat)
    case atStart => exact ⟨0, Nat.zero_le _, by simp, rfl, i4, io, i7, i8, KeepsOthers.refl _, Bk.Kp.refl _ _ _⟩
    case round =>
      obtain ⟨j, hj, rfl, rfl, j4, jo, j7, j8, hko, hkp⟩ := hrel
      have c7 := j7.cell
      have c8 := j8.cell
      have f8 := j8.frozen
      by_cases hje : j < e
      · obtain ⟨z, hz⟩ : ∃ z, L - e * pre.length - j = z + 1 := ⟨L - e * pre.length - j - 1, by omega⟩
        rw [hz] at jo j8 c8
        have hzL : z < L := by omega
        obtain ⟨cz, fz⟩ := Rw.row_cell jo
        gi_wp2
        go_roundw
        case rel =>
          refine ⟨j + 1, by omega, by simp, rfl, Rw.set_other (Rw.set_other j4 (by omega) _) (by omega) _, ?_, Rw.set_other (Rw.set_other j7 (by omega) _) (by omega) _, ?_, (hko.trans (KeepsOthers.setCell _ _ _)).trans (KeepsOthers.setCell _ _ _), ?_⟩
          · rw [show L - e * pre.length - (j + 1) = z by omega, Rw.low_cons]
            exact Rw.set_row (Rw.set_other jo (by omega) _) _
          · rw [show L - e * pre.length - (j + 1) = z by omega]
            exact Rw.set_other (Rw.set_box j8 _) (by omega) _
          · exact hkp.trans ⟨((Below.refl _ _).setCell (p := ⟨w.heap.size + 1 + 1 + 1, 0, none⟩) (by simp <;> omega) _).setCell (p := ⟨w.heap.size + 1, z, none⟩) (by simp) _, (Below.heap_setCell _ _ _ _ (by simp <;> omega)).trans (Below.heap_setCell _ _ _ _ (by simp <;> omega))⟩
        case measure => simp [intOf]; omega
      · have hje' : j = e := by omega
        subst hje'
        gi_wp2
        refine ⟨hko, hkp, ⟨j4, ?_, j7, ?_⟩, hB.trans hkp.1⟩
        · rw [Rw.tl_snoc, show L - j * (pre ++ [x]).length = L - j * pre.length - j by simp [Nat.mul_add]; omega]
          exact jo
        · rw [show L - j * (pre ++ [x]).length = L - j * pre.length - j by simp [Nat.mul_add]; omega]
          exact j8
  case done =>
    rintro D ys W hD rfl ⟨⟨i4, io, i7, i8⟩, hB⟩ hK
    have hlen : (Bk.upto (Bk.at' zs zs.length) zs.length).length = m := by rw [Bk.upto_length, hm]
    rw [hlen, show L - e * m = N by omega] at i8 io
    have c7 := i7.cell
    have c8 := i8.cell
    have hNL : N ≤ L := by omega
    gi_wp2
    obtain ⟨it, t1, t2, t3, t4⟩ := info_parts Rw.info5
    have hsh : Shows Try.prog W (.slice ad N cap) (bs.map (Value.int .u8)) := by
      by_cases h0 : N = 0
      · have : bs = [] := List.length_eq_zero_iff.1 (by omega)
        subst this
        rw [h0]
        exact shows_none _ _
      · obtain ⟨g, o, pre, tail, t, fz, rfl, g2, g3⟩ := hsrc h0
        have hgl := (Array.getElem?_eq_some_iff.1 g2).1
        have g4 := (hB.block g hgl).trans g2
        have := shows_row (P := Try.prog) (w := W) (pre := pre) (cs := bs.map (Value.int .u8)) (tail := tail) cap g4 (m := N) (i := 0) (off := o) (by simp; omega) (by omega)
        rwa [List.drop_zero, List.take_of_length_le (by simp; omega)] at this
    have io : W.heap[w.heap.size + 1]? = some (.cells ((List.replicate N 0 ++ Rw.tl e (Bk.upto (Bk.at' zs zs.length) zs.length)).map (Value.int .u8)).toArray 5 (0, 0)) := io
    have hst := run_storeCells (P := Try.prog) (w.heap.size + 1) 5 (0, 0) (bs.map (Value.int .u8)) 0 0 ((List.replicate N 0 ++ Rw.tl e (Bk.upto (Bk.at' zs zs.length) zs.length)).map (Value.int .u8)) W io (by simp; omega) (fun j _ => by simp) (by simp [Value.oneCell'])
    have hsp : splL ((List.replicate N 0 ++ Rw.tl e (Bk.upto (Bk.at' zs zs.length) zs.length)).map (Value.int .u8)) (0 + 0) (bs.map (Value.int .u8)) = (bs ++ Rw.tl e (Bk.upto (Bk.at' zs zs.length) zs.length)).map (Value.int .u8) := by
      simp only [splL, Nat.add_zero, List.take_zero, List.nil_append, Nat.zero_add, List.length_map, List.map_append, hN]
      rw [List.drop_left' (by simp)]
    rw [hsp] at hst
    have hcp := VM.run_copy (P := Try.prog) (w := W) (ty := 3) (t2 := 22) Try.underlying22 t1 t3 hsh (ad := some ⟨w.heap.size + 1, 0, none⟩) (dlen := N) (cap := L) (w' := W.setRow (w.heap.size + 1) ((bs ++ Rw.tl e (Bk.upto (Bk.at' zs zs.length) zs.length)).map (Value.int .u8)).toArray)
      (fun x hx => by
        simp only [Option.some.injEq] at hx
        subst hx
        rw [List.take_of_length_le (by simp [hN])]
        exact hst) (fun h => by cases h)
    have r1 := setRow_heap W (w.heap.size + 1) _ ((bs ++ Rw.tl e (Bk.upto (Bk.at' zs zs.length) zs.length)).map (Value.int .u8)).toArray 5 (0, 0) io
    have r7 : Boxed (W.setRow (w.heap.size + 1) ((bs ++ Rw.tl e (Bk.upto (Bk.at' zs zs.length) zs.length)).map (Value.int .u8)).toArray) (w.heap.size + 1 + 1) 22 (.slice (some ⟨w.heap.size + 1, 0, none⟩) L L) := (setRow_other W _ _ _ (by omega)).trans i7
    have rK : (W.setRow (w.heap.size + 1) ((bs ++ Rw.tl e (Bk.upto (Bk.at' zs zs.length) zs.length)).map (Value.int .u8)).toArray).heap[D]? = some (.deferred (some [])) := (setRow_other W _ _ _ (by omega)).trans hK
    have rB : Below w.heap.size w (W.setRow (w.heap.size + 1) ((bs ++ Rw.tl e (Bk.upto (Bk.at' zs zs.length) zs.length)).map (Value.int .u8)).toArray) :=
      hB.trans ⟨rfl, rfl, rfl, by simp [World.setRow], fun k hk => setRow_other W _ _ _ (by omega)⟩
    generalize W.setRow (w.heap.size + 1) ((bs ++ Rw.tl e (Bk.upto (Bk.at' zs zs.length) zs.length)).map (Value.int .u8)).toArray = W2 at hcp r1 r7 rK rB
    rw [hcp]
    simp only [Result.andThen_ok, Oper.uponIn_value]
    have c7 := r7.cell
    gi_wp2
    refine ⟨by simp, .inl ⟨_, _, rfl, run_takeDeferred rK, ?_⟩⟩
    refine ⟨_, results_tmp rfl _ _ _, by rw [hL]; rfl, ?_, rB.trans (belowK_b (w := w) (Nat.le_refl _) W2 D _ _ (by omega) rK rfl rfl)⟩
    refine (World.putObj_heap_other (by omega)).trans ?_
    rw [r1]
    simp [Rw.row]
  case stop =>
    rintro D c pre W _ _ h _
    exact h.elim
end Go.Proofs
