/- Plain laws: lemmas that hold with no condition but those that each states. -/
import Derived.Test.YtmbbkmljmienjaaQ5
import Derived.Test.YtmbbkmljmienjaaQ3
namespace Go.Proofs
open Go.VM
theorem Rw.tl_upto (e : Nat) (zs : List Int) : Rw.tl e (Bk.upto (Bk.at' zs zs.length) zs.length) = zs.flatMap (Rw.low e) := by
  have key : ∀ k, k ≤ zs.length → Rw.tl e (Bk.upto (Bk.at' zs zs.length) k) = (zs.drop (zs.length - k)).flatMap (Rw.low e) := by
    intro k
    induction k with
    | zero => intro _; simp [Bk.upto, Rw.tl]
    | succ k ih =>
      intro hk
      rw [Bk.upto_succ, Rw.tl_snoc, ih (by omega)]
      have hlt : zs.length - (k + 1) < zs.length := by omega
      rw [List.drop_eq_getElem_cons hlt, List.flatMap_cons, show zs.length - (k + 1) + 1 = zs.length - k by omega]
      congr 1
      simp only [Bk.at']
      rw [show zs.length - 1 - k = zs.length - (k + 1) by omega, List.getElem?_eq_getElem hlt]
      rfl
  have := key zs.length (Nat.le_refl _)
  rw [this]; simp
def f92.F (_K : Nat) (x : Nat × Int × Nat × Nat × List Int × Nat × List Int) : Option (Nat × Nat × Nat × List Int × Nat × List Int × Nat × List Int) :=
  bif Nat.beq x.1 x.2.2.2.1 && Nat.beq x.2.2.1 x.2.2.2.2.2.1 && decide (0 ≤ x.2.1 ∧ x.2.1 ≤ 8) && Nat.ble (x.1 + x.2.1.toNat * x.2.2.1) 140737488355328 && Nat.ble (x.2.2.1 * 8) 140737488351232 then
    some (x.1 + x.2.1.toNat * x.2.2.1, x.1 + x.2.1.toNat * x.2.2.1, x.2.2.2.1, x.2.2.2.2.1, x.2.2.2.2.2.1, x.2.2.2.2.2.2, x.1 + x.2.1.toNat * x.2.2.1, padT x.2.2.2.2.1 x.1 ++ (padT x.2.2.2.2.2.2 x.2.2.1).flatMap (Rw.low x.2.1.toNat))
  else none
def f92.av (x : Nat × Int × Nat × Nat × List Int × Nat × List Int) : List VV := [.vw true 0 0 x.1 1, .int .i64 x.2.1, .vw true 2 0 x.2.2.1 3]
def f92.bl (x : Nat × Int × Nat × Nat × List Int × Nat × List Int) : List (Nat × Blk) := [(0, ([.ints .u8 x.2.2.2.1 x.2.2.2.2.1], 0, .ro)), (2, ([.ints .u64 x.2.2.2.2.2.1 x.2.2.2.2.2.2], 0, .ro))]
def f92.inA : VS → Option (Nat × Int × Nat × Nat × List Int × Nat × List Int)
  | ⟨[(0, .vw true 0 0 a0 1), (1, .int .i64 a1), (2, .vw true 2 0 a2 3)], [(0, ([.ints .u8 m0_0 m0_1], 0, .ro)), (2, ([.ints .u64 m2_0 m2_1], 0, .ro))], 4⟩ => some (a0, a1, a2, m0_0, m0_1, m2_0, m2_1)
  | _ => none
def f92.o0 (y : Nat × Nat × Nat × List Int × Nat × List Int × Nat × List Int) : VS :=
  ⟨[(0, .sl 4 0 y.1 y.2.1)], [(0, ([.ints .u8 y.2.2.1 y.2.2.2.1], 0, .ro)), (2, ([.ints .u64 y.2.2.2.2.1 y.2.2.2.2.2.1], 0, .ro)), (4, ([.ints .u8 y.2.2.2.2.2.2.1 y.2.2.2.2.2.2.2], 5, .norm))], 5⟩
def f92.des : ∀ α : Type, (Nat × Nat × Nat × List Int × Nat × List Int × Nat × List Int) → (VS → Option α) → Option α := (dv1 f92.o0)
noncomputable def f92.E (K : Nat) : Entry := genE 4 f92.inA (f92.F K) f92.des
theorem cells_pad (ρ : Nat → Nat) (k : IntKind) (n : Nat) (l : List Int) : VV.cellss ρ [.ints k n l] = (padT l n).map (Value.int k) := by
  simp [VV.cellss, VV.cells, padT]
theorem f92.does (K : Nat) (x : Nat × Int × Nat × Nat × List Int × Nat × List Int) (y : Nat × Nat × Nat × List Int × Nat × List Int × Nat × List Int) (h : f92.F K x = some y) : Does Try.prog 92 4 (f92.av x) (f92.bl x) (f92.o0 y) := by
  obtain ⟨a0, a1, a2, n0, l0, n2, l2⟩ := x
  unfold f92.F at h
  simp only at h
  cases hc : (Nat.beq a0 n0 && Nat.beq a2 n2 && decide (0 ≤ a1 ∧ a1 ≤ 8) && Nat.ble (a0 + a1.toNat * a2) 140737488355328 && Nat.ble (a2 * 8) 140737488351232) with
  | false => rw [hc] at h; cases h
  | true =>
  rw [hc] at h
  simp only [cond_true, Option.some.injEq] at h
  subst h
  simp only [Bool.and_eq_true, Nat.beq_eq, decide_eq_true_eq, Nat.ble_eq] at hc
  obtain ⟨⟨⟨⟨rfl, rfl⟩, he⟩, hfit⟩, hm8⟩ := hc
  have getM : ∀ b z, getA (f92.o0 (a0 + a1.toNat * a2, a0 + a1.toNat * a2, a0, l0, a2, l2, a0 + a1.toNat * a2, padT l0 a0 ++ (padT l2 a2).flatMap (Rw.low a1.toNat))).M b = some z →
      (b = 0 ∧ z = ([.ints .u8 a0 l0], 0, .ro)) ∨ (b = 2 ∧ z = ([.ints .u64 a2 l2], 0, .ro)) ∨ (b = 4 ∧ z = ([.ints .u8 (a0 + a1.toNat * a2) (padT l0 a0 ++ (padT l2 a2).flatMap (Rw.low a1.toNat))], 5, .norm)) := by
    intro b z hz
    simp only [f92.o0, getA] at hz
    cases h0 : Nat.beq 0 b with
    | true => simp [h0] at hz; exact .inl ⟨(by simpa using h0 : 0 = b).symm, hz.symm⟩
    | false =>
      cases h2 : Nat.beq 2 b with
      | true => simp [h0, h2] at hz; exact .inr (.inl ⟨(by simpa using h2 : 2 = b).symm, hz.symm⟩)
      | false =>
        cases h4 : Nat.beq 4 b with
        | true => simp [h0, h2, h4] at hz; exact .inr (.inr ⟨(by simpa using h4 : 4 = b).symm, hz.symm⟩)
        | false => simp [h0, h2, h4] at hz
  refine ⟨by simp [f92.o0], fun b z hz => ?_, fun v hv => ?_⟩
  · rcases getM b z hz with ⟨rfl, rfl⟩ | ⟨rfl, rfl⟩ | ⟨rfl, rfl⟩ <;> simp [f92.o0, bids, VV.idss, VV.ids]
  · have hv : v = .sl 4 0 (a0 + a1.toNat * a2) (a0 + a1.toNat * a2) := by simpa [f92.o0, getA] using hv.symm
    subst hv
    refine ⟨rfl, by simp [VV.ids, f92.o0], fun ρ w _ hM hP _ => ?_⟩
    obtain ⟨h0, _⟩ := hM 0 _ (show getA (f92.bl (a0, a1, a2, a0, l0, a2, l2)) 0 = some ([.ints .u8 a0 l0], 0, .ro) from rfl)
    obtain ⟨h2, _⟩ := hM 2 _ (show getA (f92.bl (a0, a1, a2, a0, l0, a2, l2)) 2 = some ([.ints .u64 a2 l2], 0, .ro) from rfl)
    have g0 := h0
    have g2 := h2
    simp only [Holds, cells_pad] at h0 h2
    have hcall := Rw.row_in 5 (by omega) (if a0 = 0 ∧ ρ 1 = 0 then none else some (if a0 + (roomOf (ρ 1)).1 = 0 then ⟨(dec (ρ 0)).1, (dec (roomOf (ρ 1)).2).1, spotOf (dec (roomOf (ρ 1)).2).2⟩ else ⟨(dec (ρ 0)).1, (dec (ρ 0)).2 + 0, none⟩))
      (if a2 = 0 ∧ ρ 3 = 0 then none else some (if a2 + (roomOf (ρ 3)).1 = 0 then ⟨(dec (ρ 2)).1, (dec (roomOf (ρ 3)).2).1, spotOf (dec (roomOf (ρ 3)).2).2⟩ else ⟨(dec (ρ 2)).1, (dec (ρ 2)).2 + 0, none⟩))
      a0 (a0 + (roomOf (ρ 1)).1) a2 (a2 + (roomOf (ρ 3)).1) a1.toNat (padT l0 a0) (padT l2 a2) w (length_padT _ _) (length_padT _ _)
      (fun hn => by
        obtain ⟨pre, tail, t, fz, e1, e2⟩ := h0 (by simpa [VV.ws, VV.w] using hn)
        exact ⟨_, _, pre, tail, t, fz, by rw [if_neg (by omega), if_neg (by omega)], e1, by omega⟩)
      (by
        by_cases hz : a2 = 0
        · refine .inl ⟨?_, List.length_eq_zero_iff.1 (by rw [length_padT]; exact hz)⟩
          subst hz
          exact ⟨_, _, rfl⟩
        · refine .inr ⟨(dec (ρ 2)).1, (dec (ρ 2)).2 + 0, a2 + (roomOf (ρ 3)).1, ?_, fun hl => ?_, fun j hj => ?_⟩
          · rw [if_neg (by omega), if_neg (by omega), length_padT]
          · obtain ⟨pre, tail, t, fz, e1, e2⟩ := h2 (by simp [VV.ws, VV.w]; omega)
            exact (Array.getElem?_eq_some_iff.1 e1).1
          · rw [length_padT] at hj
            obtain ⟨pre, tail, t, fz, e1, e2⟩ := h2 (by simp [VV.ws, VV.w]; omega)
            have := cell_row (w := w) (b := (dec (ρ 2)).1) (cs := pre ++ (padT l2 a2).map (Value.int .u64) ++ tail) (t := t) (fz := fz) e1 ((dec (ρ 2)).2 + 0 + j)
            rw [this, List.append_assoc, List.getElem?_append_right (by omega), List.getElem?_append_left (by simp [length_padT]; omega), List.getElem?_map, show (dec (ρ 2)).2 + 0 + j - pre.length = j by omega]
            rw [List.getElem?_eq_getElem (by rw [length_padT]; exact hj)]
            rfl)
      (by omega) hfit hm8
    have hargs : ((f92.av (a0, a1, a2, a0, l0, a2, l2)).map (VV.den ρ)).toArray = #[.slice (if a0 = 0 ∧ ρ 1 = 0 then none else some (if a0 + (roomOf (ρ 1)).1 = 0 then ⟨(dec (ρ 0)).1, (dec (roomOf (ρ 1)).2).1, spotOf (dec (roomOf (ρ 1)).2).2⟩ else ⟨(dec (ρ 0)).1, (dec (ρ 0)).2 + 0, none⟩)) a0 (a0 + (roomOf (ρ 1)).1),
        .int .i64 ((a1.toNat : Nat) : Int), .slice (if a2 = 0 ∧ ρ 3 = 0 then none else some (if a2 + (roomOf (ρ 3)).1 = 0 then ⟨(dec (ρ 2)).1, (dec (roomOf (ρ 3)).2).1, spotOf (dec (roomOf (ρ 3)).2).2⟩ else ⟨(dec (ρ 2)).1, (dec (ρ 2)).2 + 0, none⟩)) a2 (a2 + (roomOf (ρ 3)).1)] := by
      simp only [f92.av, List.map_cons, List.map_nil, VV.den, VV.den0, VV.cells, List.headD_cons, vwV, baseOf, cond_true]
      rw [show ((a1.toNat : Nat) : Int) = a1 by omega]
    rw [hargs]
    refine (callsIn_wide.1 hcall).mono ?_
    rintro en w' ⟨rfl, hrow, hB⟩
    rw [Rw.tl_upto] at hrow
    let ρ' : Nat → Nat := fun i => if i = 4 then w.heap.size + 1 else ρ i
    have hag : ∀ i, i < 4 → ρ' i = ρ i := fun i hi => if_neg (by omega)
    have r4 : ρ' 4 = w.heap.size + 1 := if_pos rfl
    have keep : ∀ b z, b < 4 → bids z = [] → Holds ρ w b z → Holds ρ' w' b z := fun b z hb hz hh => hh.congr (hag b hb) (fun i hi => by rw [hz] at hi; cases hi) fun k hk => hB.block k (occ_lt hh hk)
    have occs : ∀ b z, b < 4 → bids z = [] → Holds ρ w b z → ∀ k, occ ρ' b z k → k < w.heap.size := fun b z hb hz hh k hk => occ_lt hh ((occ_congr (hag b hb) fun i hi => by rw [hz] at hi; cases hi).1 hk)
    refine ⟨ρ', ?_, ⟨hag, fun b z hz => ?_, fun b d hbd z z' hz hz' k hk ho => ?_, fun b z hz k hk => ?_, fun b z hz k hk => ?_, hB.os, hB.tape, hB.output, hB.size, fun j hj _ => hB.block j hj⟩⟩
    · simp [VV.den, VV.den0, VV.cells, r4]
    · rcases getM b z hz with ⟨rfl, rfl⟩ | ⟨rfl, rfl⟩ | ⟨rfl, rfl⟩
      · exact keep 0 _ (by omega) (by simp [bids, VV.idss, VV.ids]) g0
      · exact keep 2 _ (by omega) (by simp [bids, VV.idss, VV.ids]) g2
      · simp only [Holds, r4, cells_pad]
        rw [hrow]
        simp only [Rw.row, List.replicate_zero, List.nil_append]
        have hlen : (padT l0 a0 ++ (padT l2 a2).flatMap (Rw.low a1.toNat)).length = a0 + a1.toNat * a2 := by
          have h1 := Rw.tl_length a1.toNat (Bk.upto (Bk.at' (padT l2 a2) (padT l2 a2).length) (padT l2 a2).length)
          rw [Rw.tl_upto, Bk.upto_length, length_padT] at h1
          rw [List.length_append, length_padT, h1]
        have : padT (padT l0 a0 ++ (padT l2 a2).flatMap (Rw.low a1.toNat)) (a0 + a1.toNat * a2) = padT l0 a0 ++ (padT l2 a2).flatMap (Rw.low a1.toNat) := by
          rw [← hlen]
          exact range_getD _
        rw [this]
    · have hb4 : b = 4 ∧ k = w.heap.size + 1 := by
        rcases getM b z hz with ⟨rfl, rfl⟩ | ⟨rfl, rfl⟩ | ⟨rfl, rfl⟩
        · simp [own] at hk
        · simp [own] at hk
        · simp only [own, r4] at hk; exact ⟨rfl, hk⟩
      obtain ⟨rfl, rfl⟩ := hb4
      rcases getM d z' hz' with ⟨rfl, rfl⟩ | ⟨rfl, rfl⟩ | ⟨rfl, rfl⟩
      · have := occs 0 _ (by omega) (by simp [bids, VV.idss, VV.ids]) g0 _ ho; omega
      · have := occs 2 _ (by omega) (by simp [bids, VV.idss, VV.ids]) g2 _ ho; omega
      · exact hbd rfl
    · left
      rcases getM b z hz with ⟨rfl, rfl⟩ | ⟨rfl, rfl⟩ | ⟨rfl, rfl⟩
      · simp [own] at hk
      · simp [own] at hk
      · simp only [own, r4] at hk; omega
    · rcases getM b z hz with ⟨rfl, rfl⟩ | ⟨rfl, rfl⟩ | ⟨rfl, rfl⟩
      · exact .inr ⟨0, _, rfl, (occ_congr (hag 0 (by omega)) fun i hi => by simp [bids, VV.idss, VV.ids] at hi).1 hk⟩
      · exact .inr ⟨2, _, rfl, (occ_congr (hag 2 (by omega)) fun i hi => by simp [bids, VV.idss, VV.ids] at hi).1 hk⟩
      · simp only [occ, own, r4] at hk; left; omega
theorem f92.ok (K : Nat) : EntryOK Try.prog 92 (f92.E K) :=
  hand_ok (X := Nat × Int × Nat × Nat × List Int × Nat × List Int) (Y := Nat × Nat × Nat × List Int × Nat × List Int × Nat × List Int) Try.func92 (by kernel_rfl : Try.f92.body = some (Try.f92.body.getD .skip)) (by kernel_rfl) (av := f92.av) (bl := f92.bl) (out := f92.o0)
    (by intro s x h; unfold f92.inA at h; split at h <;> simp at h; subst h; rfl) (fun _ _ _ => rfl) (fun x y h => f92.does K x y h)
end Go.Proofs
