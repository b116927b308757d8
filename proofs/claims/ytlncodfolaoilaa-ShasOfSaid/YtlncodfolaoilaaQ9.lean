/- Plain laws: lemmas that hold with no condition but those that each states. -/
import Derived.Test.YtlncodfolaoilaaQ8
namespace Go.Proofs
open Go.VM
theorem octets_drop {l : List Int} (h : octets l) (a b : Nat) : octets ((l.drop a).take b) := fun x hx => h x (List.mem_of_mem_drop (List.mem_of_mem_take hx))
theorem f19.blocks (K n0 : Nat) (l0 z : List Int) (m : List Int) (n : Nat) (hm : m.length = 64 * n) (ho : octets m) (hs : m.length ≤ 140737488355328) (hK : 64 + n < K) :
    iter (f19.s4 K) K (m.length, 0, n0, l0, z, m.length, m, Sh.init, Sh.consts) = some (n0, l0, z, Sh.chain m n) := by
  have := iter_for (stp := f19.s4 K) (N := n) (fun i => (m.length, ((64 * i : Nat) : Int), n0, l0, z, m.length, m, Sh.chain m i, Sh.consts)) (y := some (n0, l0, z, Sh.chain m n)) ?_ ?_ (show n < K by omega)
  · exact this
  · intro i hi rec
    simp only [f19.s4, f19.s4t]
    have e21 : IntKind.wrap .i64 (((64 * i : Nat) : Int) + 64) = ((64 * (i + 1) : Nat) : Int) := by rw [wrap_i _ (by omega) (by omega)]; omega
    rw [decide_eq_true (show ((64 * i : Nat) : Int) < ((m.length : Nat) : Int) by omega), cond_t]
    simp only [e21, Int.toNat_natCast]
    rw [decide_eq_true (show (0 : Int) ≤ ((64 * (i + 1) : Nat) : Int) ∧ ((64 * (i + 1) : Nat) : Int) ≤ ((m.length : Nat) : Int) by omega), decide_eq_true (show (0 : Int) ≤ ((64 * i : Nat) : Int) ∧ ((64 * i : Nat) : Int) ≤ ((64 * (i + 1) : Nat) : Int) by omega), Nat.zero_add, ble_true (Nat.le_refl _), Bool.and_self, Bool.and_self, cond_t,
      Nat.zero_add, show 64 * (i + 1) - 64 * i = 64 by omega, ble_true (show 64 * i + 64 ≤ m.length by omega), Bool.and_self, Bool.and_self, cond_t, subI_self Sh.consts (show _ = 64 from rfl), subI_cut m (64 * i) 64 (by omega)]
    rw [f44.spec K _ _ (chain_len m i) (by rw [List.length_take, List.length_drop]; omega) (octets_drop ho _ _) (by omega), bind_s]
    dsimp only
    rw [← show Sh.chain m (i + 1) = Sh.comp (Sh.chain m i) ((m.drop (64 * i)).take 64) from rfl]
  · intro rec
    simp only [f19.s4, f19.s4t]
    rw [decide_eq_false (show ¬ ((64 * n : Nat) : Int) < ((m.length : Nat) : Int) by omega), cond_f]
theorem added_range (v : List Int) (s : List Int) (hs : s.length = 8) : ∀ i, i ≤ 8 → ∀ k, k < i → 0 ≤ (Sh.added v s i).getD k 0 ∧ (Sh.added v s i).getD k 0 < 4294967296
  | 0, _, k, hk => absurd hk (Nat.not_lt_zero k)
  | i + 1, h, k, hk => by
    have hl := added_len v s hs i (by omega)
    rw [Sh.added, setD_at _ _ _ _ (by omega)]
    by_cases hki : k = i
    · rw [if_pos hki, wrap32_mod]; omega
    · rw [if_neg hki]; exact added_range v s hs i (by omega) k (by omega)
theorem chain_range (m : List Int) (n k : Nat) (hk : k < 8) : 0 ≤ (Sh.chain m n).getD k 0 ∧ (Sh.chain m n).getD k 0 < 4294967296 := by
  cases n with
  | zero =>
    have : ∀ k : Fin 8, 0 ≤ Sh.init.getD k.val 0 ∧ Sh.init.getD k.val 0 < 4294967296 := by decide
    exact this ⟨k, hk⟩
  | succ n =>
    rw [Sh.chain, comp_same _ _ (chain_len m n)]
    exact added_range _ _ (rounds_len _ _ (chain_len m n) 64) 8 (by omega) k hk
def Rf.dig (s : List Int) (i : Nat) : Int := (((s.getD (i / 4) 0).toNat / 256 ^ (3 - i % 4) % 256 : Nat) : Int)
def Rf.digs (s : List Int) (i : Nat) : List Int := (List.range 32).map fun k => if k < i then Rf.dig s k else 0
theorem Rf.digs_set (s : List Int) (i : Nat) (hi : i < 32) : setD (Rf.digs s i) i (Rf.dig s i) = Rf.digs s (i + 1) := by
  have hl : ∀ j, (Rf.digs s j).length = 32 := fun j => by simp [Rf.digs]
  refine ext_getD (by rw [length_setD (by rw [hl]; exact hi), hl, hl]) fun k hk => ?_
  rw [length_setD (by rw [hl]; exact hi), hl] at hk
  rw [setD_at _ _ _ _ (by rw [hl]; exact hi)]
  have g : ∀ j, (Rf.digs s j).getD k 0 = if k < j then Rf.dig s k else 0 := fun j => by simp [Rf.digs, List.getD_eq_getElem?_getD, hk]
  rw [g, g]
  by_cases h : k = i
  · subst h; rw [if_pos rfl, if_pos (by omega)]
  · rw [if_neg h]
    by_cases h2 : k < i
    · rw [if_pos h2, if_pos (by omega)]
    · rw [if_neg h2, if_neg (by omega)]
theorem Rf.digs_all (s : List Int) (h : ∀ k, k < 8 → 0 ≤ s.getD k 0 ∧ s.getD k 0 < 4294967296) : Rf.digs s 32 = Sh.digest s := by
  have w : ∀ k, k < 8 → (IntKind.wrap .u64 (s.getD k 0)).toNat = (s.getD k 0).toNat := fun k hk => by
    obtain ⟨h1, h2⟩ := h k hk
    rw [wrap_u _ h1 (by omega)]
  have b4 : ∀ x : Nat, be 4 x = [((x / 256 ^ 3 % 256 : Nat) : Int), ((x / 256 ^ 2 % 256 : Nat) : Int), ((x / 256 ^ 1 % 256 : Nat) : Int), ((x / 256 ^ 0 % 256 : Nat) : Int)] := fun x => by
    simp only [be, List.nil_append, List.cons_append, Nat.div_div_eq_div_mul]
    simp
  simp only [Sh.digest, List.range, List.range.loop, List.flatMap_cons, List.flatMap_nil, w 0 (by omega), w 1 (by omega), w 2 (by omega), w 3 (by omega), w 4 (by omega), w 5 (by omega), w 6 (by omega), w 7 (by omega), b4, List.cons_append, List.nil_append, List.append_nil]
  rfl
theorem f19.digest (K n0 : Nat) (l0 z s : List Int) (h : ∀ k, k < 8 → 0 ≤ s.getD k 0 ∧ s.getD k 0 < 4294967296) (hK : 32 < K) :
    iter (f19.s6 K) K (0, n0, l0, z, s, Rf.digs s 0) = some (n0, l0, z, Rf.digs s 32) := by
  have := iter_for (stp := f19.s6 K) (N := 32) (fun i => ((i : Int), n0, l0, z, s, Rf.digs s i)) (y := some (n0, l0, z, Rf.digs s 32)) ?_ ?_ hK
  · exact this
  · intro i hi rec
    simp only [f19.s6, f19.s6t]
    have e28 : IntKind.wrap .i64 (Int.tdiv (i : Int) 4) = ((i / 4 : Nat) : Int) := by rw [show Int.tdiv (i : Int) 4 = ((i / 4 : Nat) : Int) from tdiv_nat i 4, wrap_i _ (by omega) (by omega)]
    have e33 : IntKind.wrap .i64 (24 - (IntKind.wrap .i64 (8 * (Int.tmod (i : Int) 4)))) = ((24 - 8 * (i % 4) : Nat) : Int) := by
      rw [show Int.tmod (i : Int) 4 = ((i % 4 : Nat) : Int) from tmod_nat i 4, wrap_i (8 * ((i % 4 : Nat) : Int)) (by omega) (by omega), wrap_i _ (by omega) (by omega)]; omega
    obtain ⟨r1, r2⟩ := h (i / 4) (by omega)
    have sh : IntKind.wrap .u8 (shiftI .shr .u32 (List.getD s (i / 4) 0) ((24 - 8 * (i % 4) : Nat) : Int)) = Rf.dig s i := by
      unfold shiftI Rf.dig
      dsimp only
      obtain ⟨x, hx⟩ : ∃ x : Nat, List.getD s (i / 4) 0 = (x : Int) := ⟨(List.getD s (i / 4) 0).toNat, by omega⟩
      rw [hx, Int.toNat_natCast, Int.toNat_natCast, show min (24 - 8 * (i % 4)) IntKind.u32.bits = 24 - 8 * (i % 4) from Nat.min_eq_left (by show _ ≤ 32; omega), fdiv_nat, show (2 : Nat) ^ (24 - 8 * (i % 4)) = 256 ^ (3 - i % 4) by rw [show (256 : Nat) = 2 ^ 8 from rfl, ← Nat.pow_mul]; congr 1; omega]
      simp [IntKind.wrap, IntKind.signed, IntKind.bits]
    rw [decide_eq_true (show (i : Int) < 32 by omega), cond_t]
    simp only [e28, e33, Int.toNat_natCast]
    rw [decide_eq_true (show (0 : Int) ≤ ((i / 4 : Nat) : Int) ∧ ((i / 4 : Nat) : Int) < 8 by omega), cond_t, decide_eq_true (show (0 : Int) ≤ ((24 - 8 * (i % 4) : Nat) : Int) by omega), cond_t, decide_eq_true (show (0 : Int) ≤ (i : Int) ∧ (i : Int) < 32 by omega), cond_t, sh, Rf.digs_set s i hi, wrap_i _ (by omega) (by omega)]
    rfl
  · intro rec
    simp only [f19.s6, f19.s6t]
    rfl
theorem f19.spec (K n : Nat) (m : List Int) (hm : m.length = n) (ho : octets m) (hn : n ≤ 100000000000) (hK : 200 + n / 64 < K) : f19.F K (n, n, m) = some (Sh.sum m, n, m) := by
  simp only [f19.F, f19.T]
  rw [Nat.zero_add, ble_true (Nat.le_refl n), fitB_true (by omega), Bool.and_self, cond_t, fitB_true (by omega), Bool.and_self, cond_t, subI_self m hm, padT_self m hm]
  have l1 : (m ++ [128]).length = n + 1 := by simp [hm]
  have z := f19.zeros K n m [0, 0, 0, 0, 0, 0, 0, 0, 0, 0, 0, 0, 0, 0, 0, 0, 0, 0, 0, 0, 0, 0, 0, 0, 0, 0, 0, 0, 0, 0, 0, 0] (m ++ [128]) n (by omega) (by omega)
  rw [l1, show (119 - (n + 1 + 63) % 64) % 64 = (119 - m.length % 64) % 64 by omega] at z
  generalize hN : (119 - m.length % 64) % 64 = N at z
  rw [z, bind_s]
  dsimp only
  have w8 : IntKind.wrap .u64 (8 * (IntKind.wrap .u64 ((n : Nat) : Int))) = ((8 * n : Nat) : Int) := by rw [wrap_u (n : Int) (by omega) (by omega), wrap_u _ (by omega) (by omega)]; omega
  have l2 : (m ++ [128] ++ List.replicate N 0).length = n + 1 + N := by rw [List.length_append, l1, List.length_replicate]
  have e := f19.eight K n m [0, 0, 0, 0, 0, 0, 0, 0, 0, 0, 0, 0, 0, 0, 0, 0, 0, 0, 0, 0, 0, 0, 0, 0, 0, 0, 0, 0, 0, 0, 0, 0] (m ++ [128] ++ List.replicate N 0) (8 * n) (by omega) (by omega) (by omega)
  rw [l2] at e
  rw [w8, e, bind_s, show f43.F K () = some Sh.consts from rfl, bind_s]
  dsimp only
  have hp : m ++ [128] ++ List.replicate N 0 ++ be 8 (8 * n) = Sh.padded m := by rw [Sh.padded, hN, hm]
  have lp : (Sh.padded m).length = n + 1 + N + 8 := by rw [← hp, List.length_append, l2, be_length]
  have op : octets (Sh.padded m) := by
    rw [← hp]
    exact octets_append (octets_append (octets_append ho (by intro x hx; simp only [List.mem_singleton] at hx; omega)) (octets_zeros N)) (be_octets _ _)
  have b := f19.blocks K n m [0, 0, 0, 0, 0, 0, 0, 0, 0, 0, 0, 0, 0, 0, 0, 0, 0, 0, 0, 0, 0, 0, 0, 0, 0, 0, 0, 0, 0, 0, 0, 0] (Sh.padded m) ((Sh.padded m).length / 64) (by omega) op (by omega) (by omega)
  rw [hp, ← lp]
  rw [show [1779033703, 3144134277, 1013904242, 2773480762, 1359893119, 2600822924, 528734635, 1541459225] = Sh.init from rfl, b, bind_s]
  dsimp only
  have d := f19.digest K n m [0, 0, 0, 0, 0, 0, 0, 0, 0, 0, 0, 0, 0, 0, 0, 0, 0, 0, 0, 0, 0, 0, 0, 0, 0, 0, 0, 0, 0, 0, 0, 0] (Sh.chain (Sh.padded m) ((Sh.padded m).length / 64)) (fun k hk => chain_range _ _ k hk) (by omega)
  rw [show Rf.digs (Sh.chain (Sh.padded m) ((Sh.padded m).length / 64)) 0 = [0, 0, 0, 0, 0, 0, 0, 0, 0, 0, 0, 0, 0, 0, 0, 0, 0, 0, 0, 0, 0, 0, 0, 0, 0, 0, 0, 0, 0, 0, 0, 0] from rfl] at d
  rw [d, bind_s]
  dsimp only
  rw [Rf.digs_all _ (fun k hk => chain_range _ _ k hk), ← Sh.sum]
end Go.Proofs

namespace Go.Proofs
open Go.VM
abbrev f4.Ty0 := Bool × Nat × List Int
abbrev f4.Ty1 := Nat × Nat × List Int
def f4.T (K : Nat) (a0 : Nat) (m0_0 : Nat) (m0_1 : List Int) : Option (f4.Ty0) :=
  bif (decide (((a0 : Nat) : Int) > 50000)) then
    some (true, m0_0, m0_1)
  else
    bif ((Nat.ble (0 + a0) m0_0 && true) && true) then
      (f17.F K (a0, a0, (subI m0_1 0 a0))).bind fun y3 =>
      bif ((Nat.ble (0 + y3.1) y3.2.2.2.2.1 && (Nat.ble y3.1 y3.2.1)) && true) then
        (f18.F K (y3.1, y3.1, (subI y3.2.2.2.2.2 0 y3.1))).bind fun y4 =>
        bif ((Nat.ble (0 + a0) m0_0 && true) && true) then
          (f19.F K (a0, a0, (subI m0_1 0 a0))).bind fun y5 =>
          bif (eqL 32 y4.1 y5.1 && true) then
            (f20.F K (y3.1, y3.2.1, a0, y3.2.2.2.2.1, y3.2.2.2.2.2, m0_0, m0_1)).bind fun y7 =>
            some (y7.1, m0_0, m0_1)
          else
            some (false, m0_0, m0_1)
        else
          none
      else
        none
    else
      none
def f4.F (K : Nat) (x : f4.Ty1) : Option (f4.Ty0) := f4.T K x.1 x.2.1 x.2.2
def f4.av (x : f4.Ty1) : List VV := [.vw true 0 0 x.1 1]
def f4.bl (x : f4.Ty1) : List (Nat × Blk) := [(0, ([.ints .u8 x.2.1 x.2.2], 0, .ro))]
def f4.inA : VS → Option (f4.Ty1)
  | ⟨[(0, .vw true 0 0 a0 1)], [(0, ([.ints .u8 m0_0 m0_1], 0, .ro))], 2⟩ => some (a0, m0_0, m0_1)
  | _ => none
def f4.o0 (y : f4.Ty0) : VS := ⟨[(0, .bool y.1)], [(0, ([.ints .u8 y.2.1 y.2.2], 0, .ro))], 2⟩
def f4.inR : VS → Option (f4.Ty0)
  | ⟨[(0, .bool y)], [(0, ([.ints .u8 z0_0 z0_1], 0, .ro))], 2⟩ => some (y, z0_0, z0_1)
  | _ => none
noncomputable def f4.E (K : Nat) : Entry := genE 2 f4.inA (f4.F K) (dv1 f4.o0)
theorem f4.ok (K : Nat) : EntryOK Try.prog 4 (f4.E K) := gen_ok mix tys_ok (sp := tabSp [(17, (viewE [(0, .u8)] (f17.E K))), (18, (viewE [(0, .u8)] (f18.E K))), (19, (viewE [(0, .u8)] (f19.E K))), (20, (f20.E K))]) (tab_ok ((tab_cons (view_ok (f17.ok K)) (tab_cons (view_ok (f18.ok K)) (tab_cons (view_ok (f19.ok K)) (tab_cons (f20.ok K) tab_nil)))))) Try.func4 (c := bodyOf Try.f4) (by kernel_rfl) (by kernel_rfl) (loops_none (lp := lpNone) (by kernel_rfl)) (av := f4.av) (bl := f4.bl) (inR := f4.inR) (out := f4.o0) (fuel := 400)
  (by intro s x h; unfold f4.inA at h; split at h <;> simp at h; subst h; rfl) (fun _ => Nat.le_of_ble_eq_true rfl)
  (by intro s y h; unfold f4.inR at h; split at h <;> simp at h <;> subst h <;> rfl) (fun _ _ _ => rfl) (fun _ => by kernel_rfl)
end Go.Proofs

namespace Go.Proofs
open Go.VM
end Go.Proofs

namespace Go.Proofs
open Go.VM
end Go.Proofs

namespace Go.Proofs
open Go.VM
end Go.Proofs

namespace Go.Proofs
open Go.VM
end Go.Proofs

namespace Go.Proofs
open Go.VM
theorem eqL_refl (n : Nat) (l : List Int) : eqL n l l = true := by simp [eqL]
theorem subI_front (l m : List Int) {n : Nat} (h : l.length = n) : subI (l ++ m) 0 n = l := by
  refine list_getD (by simp [subI, h]) fun i hi => ?_
  have hi' : i < n := by simpa [subI] using hi
  simp only [subI, List.getD_eq_getElem?_getD, Nat.zero_add]
  rw [List.getElem?_map, List.getElem?_range hi']
  simp [List.getD_eq_getElem?_getD, List.getElem?_append_left (show i < l.length by omega)]
theorem f4.holds (l : List Int) (ho : octets l) : f4.F 100000 (l.length, l.length, l) = some (true, l.length, l) := by
  generalize hl : l.length = n
  simp only [f4.F, f4.T]
  by_cases h : 50000 < n
  · rw [decide_eq_true (show ((n : Nat) : Int) > 50000 by omega), cond_t]
  · rw [decide_eq_false (show ¬ ((n : Nat) : Int) > 50000 by omega), cond_f, Nat.zero_add, ble_true (Nat.le_refl n), Bool.and_self, Bool.and_self, cond_t, subI_self _ hl, f17.spec 100000 n l hl (by omega) (by omega), bind_s]
    simp only []
    rw [Nat.zero_add, ble_true (show n ≤ n + 1 by omega), Bool.and_self, Bool.and_self, cond_t, subI_front l [77] hl, f18.spec 100000 n l hl ho (by omega) (by omega), bind_s]
    simp only []
    rw [cond_t, f19.spec 100000 n l hl ho (by omega) (by omega), bind_s]
    simp only []
    rw [eqL_refl, Bool.and_self, cond_t, f20.spec 100000 n l hl (by omega) (by omega), bind_s]
end Go.Proofs
