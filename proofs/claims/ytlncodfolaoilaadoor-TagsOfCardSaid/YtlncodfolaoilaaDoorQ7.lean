/- Plain laws: lemmas that hold with no condition but those that each states. -/
import Derived.Test.YtlncodfolaoilaaDoorQ6
import Derived.Test.YtlncodfolaoilaaDoorQ2
import Derived.Laws.Strings
namespace Go.Proofs
open Go.VM
theorem f35.third (K : Nat) (b k4 z : List Int) (s : List Int) (hK : 64 < K) :
    iter (f35.s4 K) K (64, 0, 64, b, 64, Sh.consts, k4, z, Rf.tab b 64, s) = some (64, b, 64, Sh.consts, k4, z, Rf.rounds s b 64) := by
  have := iter_for (stp := f35.s4 K) (N := 64) (fun i => (64, (i : Int), 64, b, 64, Sh.consts, k4, z, Rf.tab b 64, Rf.rounds s b i)) (y := some (64, b, 64, Sh.consts, k4, z, Rf.rounds s b 64)) ?_ ?_ hK
  · exact this
  · intro i hi rec
    simp only [f35.s4, f35.s4t]
    rw [decide_eq_true (show (i : Int) < 64 by omega), cond_t]
    have r : ∀ (x : Int) (n : Nat), 1 ≤ n → n ≤ 31 → f42.F K (x, (n : Int)) = some (Rf.round x n) := fun x n h1 h2 => f42.spec K x n h1 h2
    rw [show ((6 : Int)) = ((6 : Nat) : Int) from rfl, show ((11 : Int)) = ((11 : Nat) : Int) from rfl, show ((25 : Int)) = ((25 : Nat) : Int) from rfl, r _ 6 (by omega) (by omega), bind_s, r _ 11 (by omega) (by omega), bind_s, r _ 25 (by omega) (by omega), bind_s,
      decide_eq_true (show (0 : Int) ≤ (i : Int) ∧ (i : Int) < ((64 : Nat) : Int) by omega), cond_t]
    simp only [Int.toNat_natCast, Nat.zero_add]
    rw [show Nat.blt i 64 = true from by simp [Nat.blt_eq]; omega, cond_t, decide_eq_true (show (0 : Int) ≤ (i : Int) ∧ (i : Int) < 64 by omega), cond_t,
      show ((2 : Int)) = ((2 : Nat) : Int) from rfl, show ((13 : Int)) = ((13 : Nat) : Int) from rfl, show ((22 : Int)) = ((22 : Nat) : Int) from rfl, r _ 2 (by omega) (by omega), bind_s, r _ 13 (by omega) (by omega), bind_s, r _ 22 (by omega) (by omega), bind_s, Rf.tab_at b 64 i (by omega) (by omega), wrap_i _ (by omega) (by omega)]
    rfl
  · intro rec
    simp only [f35.s4, f35.s4t]
    rfl
theorem f35.fourth (K : Nat) (b s v z : List Int) (k2 : Nat) (k2l : List Int) (hK : 8 < K) :
    iter (f35.s6 K) K (0, 64, b, k2, k2l, s, z, v) = some (64, b, k2, k2l, z, Sh.added s v 8) := by
  have := iter_for (stp := f35.s6 K) (N := 8) (fun i => ((i : Int), 64, b, k2, k2l, s, z, Sh.added s v i)) (y := some (64, b, k2, k2l, z, Sh.added s v 8)) ?_ ?_ hK
  · exact this
  · intro i hi rec
    simp only [f35.s6, f35.s6t]
    rw [decide_eq_true (show (i : Int) < 8 by omega), cond_t, decide_eq_true (show (0 : Int) ≤ (i : Int) ∧ (i : Int) < 8 by omega), cond_t, cond_t, cond_t, Int.toNat_natCast, wrap_i _ (by omega) (by omega)]
    rfl
  · intro rec
    simp only [f35.s6, f35.s6t]
    rfl
theorem f35.spec (K : Nat) (s b : List Int) (hs : s.length = 8) (hb : b.length = 64) (ho : octets b) (hK : 64 < K) :
    f35.F K (s, 64, 64, 64, b, 64, Sh.consts) = some (Sh.comp s b, 64, b, 64, Sh.consts) := by
  simp only [f35.F, f35.T]
  have h1 := f35.first K 64 b s [0, 0, 0, 0, 0, 0, 0, 0] ho hb (by omega) 64 Sh.consts
  rw [show iter (f35.s0 K) K (64, 64, 0, 64, b, 64, Sh.consts, s, [0, 0, 0, 0, 0, 0, 0, 0], [0, 0, 0, 0, 0, 0, 0, 0, 0, 0, 0, 0, 0, 0, 0, 0, 0, 0, 0, 0, 0, 0, 0, 0, 0, 0, 0, 0, 0, 0, 0, 0, 0, 0, 0, 0, 0, 0, 0, 0, 0, 0, 0, 0, 0, 0, 0, 0, 0, 0, 0, 0, 0, 0, 0, 0, 0, 0, 0, 0, 0, 0, 0, 0]) = _ from h1, bind_s]
  dsimp only
  rw [f35.second K 64 b s _ hK, bind_s]
  dsimp only
  rw [f35.third K b s _ s hK, bind_s]
  dsimp only
  rw [f35.fourth K b s _ _ 64 Sh.consts (by omega), bind_s]
  dsimp only
  rw [comp_same s b hs]
theorem added_len (v s : List Int) (hs : s.length = 8) : ∀ i, i ≤ 8 → (Sh.added v s i).length = 8
  | 0, _ => hs
  | i + 1, h => by
    have := added_len v s hs i (by omega)
    rw [Sh.added, length_setD (by omega)]; exact this
theorem rounds_len (s b : List Int) (hs : s.length = 8) (t : Nat) : (Rf.rounds s b t).length = 8 := (rounds_same s b hs t).2
theorem comp_len (s b : List Int) (hs : s.length = 8) : (Sh.comp s b).length = 8 := by
  rw [comp_same s b hs]; exact added_len _ _ (rounds_len s b hs 64) 8 (by omega)
theorem chain_len (m : List Int) : ∀ n, (Sh.chain m n).length = 8
  | 0 => rfl
  | n + 1 => comp_len _ _ (chain_len m n)
theorem f26.zeros (K n0 : Nat) (l0 z : List Int) (m : List Int) (a : Nat) (hm : m.length + 100 ≤ 140737488355328) (hK : 64 < K) :
    iter (f26.s0 K) K (a, m.length, n0, l0, z, m.length, m) = some (a, m.length + (119 - (m.length + 63) % 64) % 64, n0, l0, z, m.length + (119 - (m.length + 63) % 64) % 64, m ++ List.replicate ((119 - (m.length + 63) % 64) % 64) 0) := by
  generalize hN : (119 - (m.length + 63) % 64) % 64 = N
  have := iter_for (stp := f26.s0 K) (N := N) (fun i => (a, m.length + i, n0, l0, z, m.length + i, m ++ List.replicate i 0)) (y := some (a, m.length + N, n0, l0, z, m.length + N, m ++ List.replicate N 0)) ?_ ?_ (show N < K by omega)
  · simp only [Nat.add_zero, List.replicate_zero, List.append_nil] at this
    exact this
  · intro i hi rec
    simp only [f26.s0, f26.s0t]
    have e : Int.tmod ((m.length + i : Nat) : Int) 64 = (((m.length + i) % 64 : Nat) : Int) := tmod_nat _ 64
    rw [e, show ((((m.length + i) % 64 : Nat) : Int) != 56) = true from bne_iff_ne.2 (by omega), cond_t, ble_true (Nat.le_refl _), fitB_true (by omega), Bool.and_self, cond_t, padT_self _ (by simp), List.append_assoc, ← List.replicate_succ']
    rfl
  · intro rec
    simp only [f26.s0, f26.s0t]
    have e : Int.tmod ((m.length + N : Nat) : Int) 64 = (((m.length + N) % 64 : Nat) : Int) := tmod_nat _ 64
    rw [e, show ((((m.length + N) % 64 : Nat) : Int) != 56) = false from by rw [bne_eq_false_iff_eq]; omega, cond_f]
theorem f26.eight (K n0 : Nat) (l0 z : List Int) (m : List Int) (x : Nat) (hx : x < 18446744073709551616) (hm : m.length + 100 ≤ 140737488355328) (hK : 64 < K) :
    iter (f26.s2 K) K (m.length, (x : Int), 0, n0, l0, z, m.length, m) = some (m.length + 8, n0, l0, z, m.length + 8, m ++ be 8 x) := by
  have top : ∀ i, i < 8 → be (i + 1) (x / 256 ^ (7 - i)) = be i (x / 256 ^ (8 - i)) ++ [((x / 256 ^ (7 - i) % 256 : Nat) : Int)] := fun i hi => by
    rw [be, Nat.div_div_eq_div_mul, ← Nat.pow_succ, show (7 - i).succ = 8 - i by omega]
  have := iter_for (stp := f26.s2 K) (N := 8) (fun i => (m.length + i, (x : Int), (i : Int), n0, l0, z, m.length + i, m ++ be i (x / 256 ^ (8 - i)))) (y := some (m.length + 8, n0, l0, z, m.length + 8, m ++ be 8 x)) ?_ ?_ (show 8 < K by omega)
  · simp only [Nat.add_zero, be, List.append_nil] at this
    exact this
  · intro i hi rec
    simp only [f26.s2, f26.s2t]
    have e12 : IntKind.wrap .i64 (56 - (IntKind.wrap .i64 (8 * (i : Int)))) = ((56 - 8 * i : Nat) : Int) := by rw [wrap_i (8 * (i : Int)) (by omega) (by omega), wrap_i _ (by omega) (by omega)]; omega
    have sh : IntKind.wrap .u8 (shiftI .shr .u64 (x : Int) ((56 - 8 * i : Nat) : Int)) = ((x / 256 ^ (7 - i) % 256 : Nat) : Int) := by
      unfold shiftI
      dsimp only
      rw [Int.toNat_natCast, show min (56 - 8 * i) IntKind.u64.bits = 56 - 8 * i from Nat.min_eq_left (by show _ ≤ 64; omega), fdiv_nat, show (2 : Nat) ^ (56 - 8 * i) = 256 ^ (7 - i) by rw [show (256 : Nat) = 2 ^ 8 from rfl, ← Nat.pow_mul]; congr 1; omega]
      simp [IntKind.wrap, IntKind.signed, IntKind.bits]
    rw [decide_eq_true (show (i : Int) < 8 by omega), cond_t]
    simp only [e12]
    rw [decide_eq_true (show (0 : Int) ≤ ((56 - 8 * i : Nat) : Int) by omega), cond_t, ble_true (Nat.le_refl _), fitB_true (by omega), Bool.and_self, cond_t, padT_self _ (by simp [be_length]), sh, wrap_i _ (by omega) (by omega), List.append_assoc, show 8 - (i + 1) = 7 - i by omega, top i hi]
    rfl
  · intro rec
    simp only [f26.s2, f26.s2t]
    rw [show 8 - 8 = 0 from rfl, Nat.pow_zero, Nat.div_one]
    rfl
end Go.Proofs

namespace Go.Proofs
open Go.VM
theorem octets_drop {l : List Int} (h : octets l) (a b : Nat) : octets ((l.drop a).take b) := fun x hx => h x (List.mem_of_mem_drop (List.mem_of_mem_take hx))
theorem f26.blocks (K n0 : Nat) (l0 z : List Int) (m : List Int) (n : Nat) (hm : m.length = 64 * n) (ho : octets m) (hs : m.length ≤ 140737488355328) (hK : 64 + n < K) :
    iter (f26.s4 K) K (m.length, 0, n0, l0, z, m.length, m, Sh.init, Sh.consts) = some (n0, l0, z, Sh.chain m n) := by
  have := iter_for (stp := f26.s4 K) (N := n) (fun i => (m.length, ((64 * i : Nat) : Int), n0, l0, z, m.length, m, Sh.chain m i, Sh.consts)) (y := some (n0, l0, z, Sh.chain m n)) ?_ ?_ (show n < K by omega)
  · exact this
  · intro i hi rec
    simp only [f26.s4, f26.s4t]
    have e21 : IntKind.wrap .i64 (((64 * i : Nat) : Int) + 64) = ((64 * (i + 1) : Nat) : Int) := by rw [wrap_i _ (by omega) (by omega)]; omega
    rw [decide_eq_true (show ((64 * i : Nat) : Int) < ((m.length : Nat) : Int) by omega), cond_t]
    simp only [e21, Int.toNat_natCast]
    rw [decide_eq_true (show (0 : Int) ≤ ((64 * (i + 1) : Nat) : Int) ∧ ((64 * (i + 1) : Nat) : Int) ≤ ((m.length : Nat) : Int) by omega), decide_eq_true (show (0 : Int) ≤ ((64 * i : Nat) : Int) ∧ ((64 * i : Nat) : Int) ≤ ((64 * (i + 1) : Nat) : Int) by omega), Nat.zero_add, ble_true (Nat.le_refl _), Bool.and_self, Bool.and_self, cond_t,
      Nat.zero_add, show 64 * (i + 1) - 64 * i = 64 by omega, ble_true (show 64 * i + 64 ≤ m.length by omega), Bool.and_self, Bool.and_self, cond_t, subI_self Sh.consts (show _ = 64 from rfl), subI_cut m (64 * i) 64 (by omega)]
    rw [f35.spec K _ _ (chain_len m i) (by rw [List.length_take, List.length_drop]; omega) (octets_drop ho _ _) (by omega), bind_s]
    dsimp only
    rw [← show Sh.chain m (i + 1) = Sh.comp (Sh.chain m i) ((m.drop (64 * i)).take 64) from rfl]
  · intro rec
    simp only [f26.s4, f26.s4t]
    rw [decide_eq_false (show ¬ ((64 * n : Nat) : Int) < ((m.length : Nat) : Int) by omega), cond_f]
theorem added_range (v : List Int) (s : List Int) (hs : s.length = 8) : ∀ i, i ≤ 8 → ∀ k, k < i → 0 ≤ (Sh.added v s i).getD k 0 ∧ (Sh.added v s i).getD k 0 < 4294967296
  | 0, _, k, hk => absurd hk (Nat.not_lt_zero k)
  | i + 1, h, k, hk => by
    have hl := added_len v s hs i (by omega)
    rw [Sh.added, setD_at _ _ _ _ (by omega)]
    by_cases hki : k = i
    · rw [if_pos hki, wrap32_mod]; omega
    · rw [if_neg hki]; exact added_range v s hs i (by omega) k (by omega)
theorem chain_range (m : List Int) (n k : Nat) (hk : k < 8) : 0 ≤ (Sh.chain m n).getD k 0 ∧ (Sh.chain m n).getD k 0 < 4294967296 := by
  cases n with
  | zero =>
    have : ∀ k : Fin 8, 0 ≤ Sh.init.getD k.val 0 ∧ Sh.init.getD k.val 0 < 4294967296 := by decide
    exact this ⟨k, hk⟩
  | succ n =>
    rw [Sh.chain, comp_same _ _ (chain_len m n)]
    exact added_range _ _ (rounds_len _ _ (chain_len m n) 64) 8 (by omega) k hk
def Rf.dig (s : List Int) (i : Nat) : Int := (((s.getD (i / 4) 0).toNat / 256 ^ (3 - i % 4) % 256 : Nat) : Int)
def Rf.digs (s : List Int) (i : Nat) : List Int := (List.range 32).map fun k => if k < i then Rf.dig s k else 0
theorem Rf.digs_set (s : List Int) (i : Nat) (hi : i < 32) : setD (Rf.digs s i) i (Rf.dig s i) = Rf.digs s (i + 1) := by
  have hl : ∀ j, (Rf.digs s j).length = 32 := fun j => by simp [Rf.digs]
  refine ext_getD (by rw [length_setD (by rw [hl]; exact hi), hl, hl]) fun k hk => ?_
  rw [length_setD (by rw [hl]; exact hi), hl] at hk
  rw [setD_at _ _ _ _ (by rw [hl]; exact hi)]
  have g : ∀ j, (Rf.digs s j).getD k 0 = if k < j then Rf.dig s k else 0 := fun j => by simp [Rf.digs, List.getD_eq_getElem?_getD, hk]
  rw [g, g]
  by_cases h : k = i
  · subst h; rw [if_pos rfl, if_pos (by omega)]
  · rw [if_neg h]
    by_cases h2 : k < i
    · rw [if_pos h2, if_pos (by omega)]
    · rw [if_neg h2, if_neg (by omega)]
theorem Rf.digs_all (s : List Int) (h : ∀ k, k < 8 → 0 ≤ s.getD k 0 ∧ s.getD k 0 < 4294967296) : Rf.digs s 32 = Sh.digest s := by
  have w : ∀ k, k < 8 → (IntKind.wrap .u64 (s.getD k 0)).toNat = (s.getD k 0).toNat := fun k hk => by
    obtain ⟨h1, h2⟩ := h k hk
    rw [wrap_u _ h1 (by omega)]
  have b4 : ∀ x : Nat, be 4 x = [((x / 256 ^ 3 % 256 : Nat) : Int), ((x / 256 ^ 2 % 256 : Nat) : Int), ((x / 256 ^ 1 % 256 : Nat) : Int), ((x / 256 ^ 0 % 256 : Nat) : Int)] := fun x => by
    simp only [be, List.nil_append, List.cons_append, Nat.div_div_eq_div_mul]
    simp
  simp only [Sh.digest, List.range, List.range.loop, List.flatMap_cons, List.flatMap_nil, w 0 (by omega), w 1 (by omega), w 2 (by omega), w 3 (by omega), w 4 (by omega), w 5 (by omega), w 6 (by omega), w 7 (by omega), b4, List.cons_append, List.nil_append, List.append_nil]
  rfl
theorem f26.digest (K n0 : Nat) (l0 z s : List Int) (h : ∀ k, k < 8 → 0 ≤ s.getD k 0 ∧ s.getD k 0 < 4294967296) (hK : 32 < K) :
    iter (f26.s6 K) K (0, n0, l0, z, s, Rf.digs s 0) = some (n0, l0, z, Rf.digs s 32) := by
  have := iter_for (stp := f26.s6 K) (N := 32) (fun i => ((i : Int), n0, l0, z, s, Rf.digs s i)) (y := some (n0, l0, z, Rf.digs s 32)) ?_ ?_ hK
  · exact this
  · intro i hi rec
    simp only [f26.s6, f26.s6t]
    have e28 : IntKind.wrap .i64 (Int.tdiv (i : Int) 4) = ((i / 4 : Nat) : Int) := by rw [show Int.tdiv (i : Int) 4 = ((i / 4 : Nat) : Int) from tdiv_nat i 4, wrap_i _ (by omega) (by omega)]
    have e33 : IntKind.wrap .i64 (24 - (IntKind.wrap .i64 (8 * (Int.tmod (i : Int) 4)))) = ((24 - 8 * (i % 4) : Nat) : Int) := by
      rw [show Int.tmod (i : Int) 4 = ((i % 4 : Nat) : Int) from tmod_nat i 4, wrap_i (8 * ((i % 4 : Nat) : Int)) (by omega) (by omega), wrap_i _ (by omega) (by omega)]; omega
    obtain ⟨r1, r2⟩ := h (i / 4) (by omega)
    have sh : IntKind.wrap .u8 (shiftI .shr .u32 (List.getD s (i / 4) 0) ((24 - 8 * (i % 4) : Nat) : Int)) = Rf.dig s i := by
      unfold shiftI Rf.dig
      dsimp only
      obtain ⟨x, hx⟩ : ∃ x : Nat, List.getD s (i / 4) 0 = (x : Int) := ⟨(List.getD s (i / 4) 0).toNat, by omega⟩
      rw [hx, Int.toNat_natCast, Int.toNat_natCast, show min (24 - 8 * (i % 4)) IntKind.u32.bits = 24 - 8 * (i % 4) from Nat.min_eq_left (by show _ ≤ 32; omega), fdiv_nat, show (2 : Nat) ^ (24 - 8 * (i % 4)) = 256 ^ (3 - i % 4) by rw [show (256 : Nat) = 2 ^ 8 from rfl, ← Nat.pow_mul]; congr 1; omega]
      simp [IntKind.wrap, IntKind.signed, IntKind.bits]
    rw [decide_eq_true (show (i : Int) < 32 by omega), cond_t]
    simp only [e28, e33, Int.toNat_natCast]
    rw [decide_eq_true (show (0 : Int) ≤ ((i / 4 : Nat) : Int) ∧ ((i / 4 : Nat) : Int) < 8 by omega), cond_t, decide_eq_true (show (0 : Int) ≤ ((24 - 8 * (i % 4) : Nat) : Int) by omega), cond_t, decide_eq_true (show (0 : Int) ≤ (i : Int) ∧ (i : Int) < 32 by omega), cond_t, sh, Rf.digs_set s i hi, wrap_i _ (by omega) (by omega)]
    rfl
  · intro rec
    simp only [f26.s6, f26.s6t]
    rfl
theorem f26.spec (K n : Nat) (m : List Int) (hm : m.length = n) (ho : octets m) (hn : n ≤ 100000000000) (hK : 200 + n / 64 < K) : f26.F K (n, n, m) = some (Sh.sum m, n, m) := by
  simp only [f26.F, f26.T]
  rw [Nat.zero_add, ble_true (Nat.le_refl n), fitB_true (by omega), Bool.and_self, cond_t, fitB_true (by omega), Bool.and_self, cond_t, subI_self m hm, padT_self m hm]
  have l1 : (m ++ [128]).length = n + 1 := by simp [hm]
  have z := f26.zeros K n m [0, 0, 0, 0, 0, 0, 0, 0, 0, 0, 0, 0, 0, 0, 0, 0, 0, 0, 0, 0, 0, 0, 0, 0, 0, 0, 0, 0, 0, 0, 0, 0] (m ++ [128]) n (by omega) (by omega)
  rw [l1, show (119 - (n + 1 + 63) % 64) % 64 = (119 - m.length % 64) % 64 by omega] at z
  generalize hN : (119 - m.length % 64) % 64 = N at z
  rw [z, bind_s]
  dsimp only
  have w8 : IntKind.wrap .u64 (8 * (IntKind.wrap .u64 ((n : Nat) : Int))) = ((8 * n : Nat) : Int) := by rw [wrap_u (n : Int) (by omega) (by omega), wrap_u _ (by omega) (by omega)]; omega
  have l2 : (m ++ [128] ++ List.replicate N 0).length = n + 1 + N := by rw [List.length_append, l1, List.length_replicate]
  have e := f26.eight K n m [0, 0, 0, 0, 0, 0, 0, 0, 0, 0, 0, 0, 0, 0, 0, 0, 0, 0, 0, 0, 0, 0, 0, 0, 0, 0, 0, 0, 0, 0, 0, 0] (m ++ [128] ++ List.replicate N 0) (8 * n) (by omega) (by omega) (by omega)
  rw [l2] at e
  rw [w8, e, bind_s, show f34.F K () = some Sh.consts from rfl, bind_s]
  dsimp only
  have hp : m ++ [128] ++ List.replicate N 0 ++ be 8 (8 * n) = Sh.padded m := by rw [Sh.padded, hN, hm]
  have lp : (Sh.padded m).length = n + 1 + N + 8 := by rw [← hp, List.length_append, l2, be_length]
  have op : octets (Sh.padded m) := by
    rw [← hp]
    exact octets_append (octets_append (octets_append ho (by intro x hx; simp only [List.mem_singleton] at hx; omega)) (octets_zeros N)) (be_octets _ _)
  have b := f26.blocks K n m [0, 0, 0, 0, 0, 0, 0, 0, 0, 0, 0, 0, 0, 0, 0, 0, 0, 0, 0, 0, 0, 0, 0, 0, 0, 0, 0, 0, 0, 0, 0, 0] (Sh.padded m) ((Sh.padded m).length / 64) (by omega) op (by omega) (by omega)
  rw [hp, ← lp]
  rw [show [1779033703, 3144134277, 1013904242, 2773480762, 1359893119, 2600822924, 528734635, 1541459225] = Sh.init from rfl, b, bind_s]
  dsimp only
  have d := f26.digest K n m [0, 0, 0, 0, 0, 0, 0, 0, 0, 0, 0, 0, 0, 0, 0, 0, 0, 0, 0, 0, 0, 0, 0, 0, 0, 0, 0, 0, 0, 0, 0, 0] (Sh.chain (Sh.padded m) ((Sh.padded m).length / 64)) (fun k hk => chain_range _ _ k hk) (by omega)
  rw [show Rf.digs (Sh.chain (Sh.padded m) ((Sh.padded m).length / 64)) 0 = [0, 0, 0, 0, 0, 0, 0, 0, 0, 0, 0, 0, 0, 0, 0, 0, 0, 0, 0, 0, 0, 0, 0, 0, 0, 0, 0, 0, 0, 0, 0, 0] from rfl] at d
  rw [d, bind_s]
  dsimp only
  rw [Rf.digs_all _ (fun k hk => chain_range _ _ k hk), ← Sh.sum]
end Go.Proofs

namespace Go.Proofs
open Go.VM
end Go.Proofs

namespace Go.Proofs
open Go.VM
end Go.Proofs

namespace Go.Proofs
open Go.VM
abbrev f19.Ty0 := Nat × Nat × Int × Nat × List Int × List Int × Nat × List Int
abbrev f19.Ty1 := Nat × Nat × Nat × List Int × Nat × List Int
abbrev f19.Ty2 := Nat × Nat × List Int × Nat × List Int
abbrev f19.Ty3 := Nat × List Int × Nat × List Int
noncomputable def f19.c : Code := bodyOf Tryd.f19
def f19.s0t (K : Nat) (rec : f19.Ty0 → Option (f19.Ty1)) (t0 : Nat) (t5 : Nat) (t6 : Int) (b0_0 : Nat) (b0_1 : List Int) (b2 : List Int) (b3_0 : Nat) (b3_1 : List Int) : Option (f19.Ty1) :=
  bif (decide (t6 < 4)) then
    bif decide (0 ≤ t6 ∧ t6 < 4) then
      (f29.F K ((List.getD b2 (Int.toNat t6) 0), 8)).bind fun y4 =>
      alt (fun y5 =>
        bif ((Nat.ble (0 + t5) b3_0 && true) && true) then
          (f28.F K (0, t5, 0, [], t5, (subI b3_1 0 t5))).bind fun y7 =>
          rec (t0, y7.1, (IntKind.wrap .i64 (t6 + 1)), b0_0, b0_1, b2, y7.2.2.2.2.2.1, y7.2.2.2.2.2.2)
        else
          none) (fun y6 =>
        bif ((Nat.ble (0 + y6.1) y6.2.1 && true) && ((Nat.ble (0 + t5) b3_0 && true) && true)) then
          (f28.F K (y6.1, t5, y6.1, (subI y6.2.2 0 y6.1), t5, (subI b3_1 0 t5))).bind fun y9 =>
          rec (t0, y9.1, (IntKind.wrap .i64 (t6 + 1)), b0_0, b0_1, b2, y9.2.2.2.2.2.1, y9.2.2.2.2.2.2)
        else
          none) y4
    else
      none
  else
    some (t0, t5, b0_0, b0_1, b3_0, b3_1)
def f19.s0 (K : Nat) (rec : f19.Ty0 → Option (f19.Ty1)) (x : f19.Ty0) : Option (f19.Ty1) := f19.s0t K rec x.1 x.2.1 x.2.2.1 x.2.2.2.1 x.2.2.2.2.1 x.2.2.2.2.2.1 x.2.2.2.2.2.2.1 x.2.2.2.2.2.2.2
noncomputable def f19.s0.b : Code := (findLoop 0 f19.c).getD .skip
def f19.s0.h : Hint := { lv := [0, 3, 5, 6], co := [(5, 5, [.ints .u8 0 []])] }
def f19.s0.ho : Hint := { lv := [0, 5] }
def f19.s0.shp (x : f19.Ty0) : VS := ⟨[(0, .vw true 0 0 x.1 1), (3, .ptr 2 0), (5, .vec 3 0 x.2.1 4), (6, .int .i64 x.2.2.1)], [(0, ([.ints .u8 x.2.2.2.1 x.2.2.2.2.1], 0, .ro)), (2, ([.ints .u64 4 x.2.2.2.2.2.1], 24, .norm)), (3, ([.ints .u8 x.2.2.2.2.2.2.1 x.2.2.2.2.2.2.2], 5, .vec 4))], 5⟩
def f19.s0.inX : VS → Option (f19.Ty0)
  | ⟨[(0, .vw true 0 0 t0 1), (3, .ptr 2 0), (5, .vec 3 0 t5 4), (6, .int .i64 t6)], [(0, ([.ints .u8 b0_0 b0_1], 0, .ro)), (2, ([.ints .u64 4 b2], 24, .norm)), (3, ([.ints .u8 b3_0 b3_1], 5, .vec 4))], 5⟩ => some (t0, t5, t6, b0_0, b0_1, b2, b3_0, b3_1)
  | _ => none
def f19.s0.o0 (y : f19.Ty1) : VS := ⟨[(0, .vw true 0 0 y.1 1), (5, .vec 2 0 y.2.1 3)], [(0, ([.ints .u8 y.2.2.1 y.2.2.2.1], 0, .ro)), (2, ([.ints .u8 y.2.2.2.2.1 y.2.2.2.2.2], 5, .vec 3))], 4⟩
def f19.s0.des : ∀ α : Type, (f19.Ty1) → (Ex → VS → Option α) → Option α := (des1 (.exit 0) f19.s0.o0)
def f19.s0.out : f19.Ty1 → Ex × VS := (fun y => (.exit 0, f19.s0.o0 y))
theorem f19.s0.desOK : ∀ α y (k : Ex → VS → Option α), f19.s0.des α y k = k (f19.s0.out y).1 (f19.s0.out y).2 := (fun _ _ _ => rfl)
def f19.s0.inY : Ex → VS → Option (f19.Ty1)
  | .exit 0, ⟨[(0, .vw true 0 0 t0 1), (5, .vec 2 0 t5 3)], [(0, ([.ints .u8 b0_0 b0_1], 0, .ro)), (2, ([.ints .u8 b2_0 b2_1], 5, .vec 3))], 4⟩ => some (t0, t5, b0_0, b0_1, b2_0, b2_1)
  | _, _ => none
def f19.lp (K : Nat) : Nat → Option (Hint × Summ) := tabLp [(0, f19.s0.h, summOf (iter (f19.s0 K) K) f19.s0.inX f19.s0.des)]
noncomputable def f19.tab (K : Nat) : List (Nat × Entry) := [(29, (f29.E K)), (28, (viewE [(0, .u8), (1, .u8)] (f28.E K)))]
theorem f19.tabOK (K : Nat) : SpecOK Tryd.prog (tabSp (f19.tab K)) := tab_ok ((tab_cons (f29.ok K) (tab_cons (view_ok (f28.ok K)) tab_nil)))
theorem f19.s0.eq (K : Nat) (rec : f19.Ty0 → Option (f19.Ty1)) (x : f19.Ty0) : f19.s0 K rec x = roundL (getA tys) (tabSp (f19.tab K)) 20 2 (f19.lp K) 400 f19.s0.b f19.s0.h f19.s0.ho f19.s0.shp f19.s0.inX f19.s0.inY rec x := by kernel_rfl
theorem f19.s0.lok (K : Nat) : LoopsOK Tryd.prog 20 2 (f19.lp K) f19.s0.b := loops_ok (by
  have h : loopsIn (f19.lp K) f19.s0.b = [] := by kernel_rfl
  rw [h]; simp)
theorem f19.s0.ok (K : Nat) : SummOK Tryd.prog 20 2 (summOf (iter (f19.s0 K) K) f19.s0.inX f19.s0.des) f19.s0.b :=
  loop_ok mix tys_ok (f19.tabOK K) (h := f19.s0.h) (ho := f19.s0.ho) (shp := f19.s0.shp) (inX := f19.s0.inX) (des := f19.s0.des) (out := f19.s0.out) (inY := f19.s0.inY) (fuel := 400)
    (by intro st x h; unfold f19.s0.inX at h; split at h <;> simp at h; subst h; rfl)
    (by intro e st y h; unfold f19.s0.inY at h; split at h <;> simp at h <;> subst h <;> rfl)
    f19.s0.desOK (f19.s0.lok K) (f19.s0 K) (f19.s0.eq K) K
theorem f19.loops (K : Nat) : LoopsOK Tryd.prog 20 2 (f19.lp K) f19.c := loops_ok (by
  have h : loopsIn (f19.lp K) f19.c = [(0, f19.s0.b)] := by kernel_rfl
  rw [h]
  intro p hp
  simp only [List.mem_cons, List.not_mem_nil, or_false] at hp
  rcases hp with rfl
  · exact ⟨_, rfl, (f19.s0.ok K)⟩)
def f19.T (K : Nat) (a0 : Nat) (a1 : List Int) (m0_0 : Nat) (m0_1 : List Int) : Option (f19.Ty2) :=
  (iter (f19.s0 K) K (a0, 0, 0, m0_0, m0_1, a1, 0, [])).bind fun y11 =>
  bif ((Nat.ble (0 + y11.1) y11.2.2.1 && true) && ((Nat.ble (0 + y11.2.1) y11.2.2.2.2.1 && true) && true)) then
    (f28.F K (y11.1, y11.2.1, y11.1, (subI y11.2.2.2.1 0 y11.1), y11.2.1, (subI y11.2.2.2.2.2 0 y11.2.1))).bind fun y12 =>
    some (y12.1, y11.2.2.1, y11.2.2.2.1, y12.2.2.2.2.2.1, y12.2.2.2.2.2.2)
  else
    none
def f19.F (K : Nat) (x : f19.Ty3) : Option (f19.Ty2) := f19.T K x.1 x.2.1 x.2.2.1 x.2.2.2
def f19.av (x : f19.Ty3) : List VV := [.vw true 0 0 x.1 1, .agg [.ints .u64 4 x.2.1]]
def f19.bl (x : f19.Ty3) : List (Nat × Blk) := [(0, ([.ints .u8 x.2.2.1 x.2.2.2], 0, .ro))]
def f19.inA : VS → Option (f19.Ty3)
  | ⟨[(0, .vw true 0 0 a0 1), (1, .agg [.ints .u64 4 a1])], [(0, ([.ints .u8 m0_0 m0_1], 0, .ro))], 2⟩ => some (a0, a1, m0_0, m0_1)
  | _ => none
def f19.o0 (y : f19.Ty2) : VS := ⟨[(0, .vec 2 0 y.1 3)], [(0, ([.ints .u8 y.2.1 y.2.2.1], 0, .ro)), (2, ([.ints .u8 y.2.2.2.1 y.2.2.2.2], 5, .vec 3))], 4⟩
def f19.des : ∀ α : Type, (f19.Ty2) → (VS → Option α) → Option α := (dv1 f19.o0)
def f19.out : f19.Ty2 → VS := f19.o0
def f19.inR : VS → Option (f19.Ty2)
  | ⟨[(0, .vec 2 0 y 3)], [(0, ([.ints .u8 z0_0 z0_1], 0, .ro)), (2, ([.ints .u8 z2_0 z2_1], 5, .vec 3))], 4⟩ => some (y, z0_0, z0_1, z2_0, z2_1)
  | _ => none
noncomputable def f19.E (K : Nat) : Entry := genE 2 f19.inA (f19.F K) f19.des
theorem f19.eq (K : Nat) (x : f19.Ty3) : f19.F K x = xrun (getA tys) (tabSp (f19.tab K)) Tryd.f19.ntmps 2 (f19.lp K) 400 f19.c ⟨initL 0 (f19.av x), f19.bl x, 2⟩ (contF (getA tys) 2 Tryd.f19.results.toList f19.inR) := by kernel_rfl
theorem f19.ok (K : Nat) : EntryOK Tryd.prog 19 (f19.E K) :=
  gen_ok mix tys_ok (f19.tabOK K) Tryd.func19 (by kernel_rfl : Tryd.f19.body = some f19.c) (by kernel_rfl) (f19.loops K) (av := f19.av) (bl := f19.bl) (out := f19.out) (fuel := 400)
    (by intro s x h; unfold f19.inA at h; split at h <;> simp at h; subst h; rfl) (fun _ => Nat.le_of_ble_eq_true rfl)
    (by intro s y h; unfold f19.inR at h; split at h <;> simp at h <;> subst h <;> rfl) (fun _ _ _ => rfl) (f19.eq K)
end Go.Proofs

namespace Go.Proofs
open Go.VM
theorem pow_bytes (n : Nat) : (256 : Nat) ^ n = 2 ^ (8 * n) := by
  rw [show (256 : Nat) = 2 ^ 8 from rfl, ← Nat.pow_mul]
theorem f29.eight (K w : Nat) (h : w < 18446744073709551616) (hK : 8 < K) : f29.F K ((w : Int), 8) = some (.inr (8, 8, be 8 w)) := by
  have := f29.spec 8 K w h hK (by decide)
  exact this
theorem f19.loop (a A : Nat) (L : List Int) : iter (f19.s0 100000) 100000 (a, 0, 0, a, L, num A, 0, []) = some (a, 32, a, L, 32, be 32 A) := by
  have key := iter_for (stp := f19.s0 100000) (N := 4) (fun i => (a, 8 * i, (i : Int), a, L, num A, 8 * i, be (8 * i) A)) (y := some (a, 32, a, L, 32, be 32 A)) (fun i hi rec => by
      simp only [f19.s0, f19.s0t]
      have e1 : List.getD (num A) i 0 = ((A / 2 ^ (64 * i) % 18446744073709551616 : Nat) : Int) := getD_words hi
      have w2 : IntKind.wrap .i64 ((i : Int) + 1) = ((i + 1 : Nat) : Int) := by rw [wrap_i _ (by omega) (by omega)]; rfl
      have hl : (be (8 * i) A).length = 8 * i := be_length _ _
      have e2 : be 8 (A / 2 ^ (64 * i) % 18446744073709551616) ++ be (8 * i) A = be (8 * (i + 1)) A := by
        rw [show (18446744073709551616 : Nat) = 256 ^ 8 from rfl, be_mod 8, show 64 * i = 8 * (8 * i) by omega, ← pow_bytes, ← be_add, show 8 + 8 * i = 8 * (i + 1) by omega]
      rw [decide_eq_true (show (i : Int) < 4 by omega), cond_t, decide_eq_true (show 0 ≤ (i : Int) ∧ (i : Int) < 4 by omega), cond_t, Int.toNat_natCast, e1, f29.eight _ _ (Nat.mod_lt _ (by decide)) (by decide), bind_s, altr]
      simp only [Nat.zero_add]
      rw [ble_true (Nat.le_refl 8), ble_true (Nat.le_refl (8 * i))]
      simp only [Bool.true_and]
      rw [cond_t, subI_self _ (be_length 8 _), subI_self _ hl,
        f28.spec _ 8 (8 * i) _ _ (be_length 8 _) hl (by omega), bind_s, e2, w2, show 8 + 8 * i = 8 * (i + 1) by omega])
    (fun rec => by
      simp only [f19.s0, f19.s0t]
      rw [decide_eq_false (show ¬ ((4 : Nat) : Int) < 4 by decide), cond_f]) (show 4 < 100000 by decide)
  exact key
theorem f19.spec (a A : Nat) (L : List Int) (hL : L.length = a) (ha : a < 1000000000) : f19.F 100000 (a, num A, a, L) = some (a + 32, a, L, a + 32, L ++ be 32 A) := by
  simp only [f19.F, f19.T, f19.loop a A L, bind_s, Nat.zero_add]
  rw [ble_true (Nat.le_refl a), ble_true (Nat.le_refl 32)]
  simp only [Bool.true_and]
  rw [cond_t, subI_self L hL, subI_self _ (be_length 32 A), f28.spec _ a 32 _ _ hL (be_length 32 A) (by omega), bind_s]
end Go.Proofs

namespace Go.Proofs
open Go.VM
end Go.Proofs

namespace Go.Proofs
open Go.VM
end Go.Proofs

namespace Go.Proofs
open Go.VM
end Go.Proofs

namespace Go.Proofs
open Go.VM
abbrev f36.Ty0 := Nat × Nat × List Int × Nat × List Int × Nat × List Int
abbrev f36.Ty1 := Nat × Nat × Nat × List Int × Nat × List Int
def f36.T (K : Nat) (a0 : Nat) (a1 : Nat) (m0_0 : Nat) (m0_1 : List Int) (m2_0 : Nat) (m2_1 : List Int) : Option (f36.Ty0) :=
  (f29.F K ((IntKind.wrap .u64 ((a1 : Nat) : Int)), 4)).bind fun y3 =>
  alt (fun y4 =>
    bif ((Nat.ble (0 + a1) m2_0 && true) && true) then
      (f28.F K (0, a1, 0, [], a1, (subI m2_1 0 a1))).bind fun y6 =>
      bif ((Nat.ble (0 + a0) m0_0 && true) && ((Nat.ble (0 + y6.1) y6.2.2.2.2.2.1 && true) && true)) then
        (f28.F K (a0, y6.1, a0, (subI m0_1 0 a0), y6.1, (subI y6.2.2.2.2.2.2 0 y6.1))).bind fun y7 =>
        some (y7.1, m0_0, m0_1, m2_0, m2_1, y7.2.2.2.2.2.1, y7.2.2.2.2.2.2)
      else
        none
    else
      none) (fun y5 =>
    bif ((Nat.ble (0 + y5.1) y5.2.1 && true) && ((Nat.ble (0 + a1) m2_0 && true) && true)) then
      (f28.F K (y5.1, a1, y5.1, (subI y5.2.2 0 y5.1), a1, (subI m2_1 0 a1))).bind fun y8 =>
      bif ((Nat.ble (0 + a0) m0_0 && true) && ((Nat.ble (0 + y8.1) y8.2.2.2.2.2.1 && true) && true)) then
        (f28.F K (a0, y8.1, a0, (subI m0_1 0 a0), y8.1, (subI y8.2.2.2.2.2.2 0 y8.1))).bind fun y9 =>
        some (y9.1, m0_0, m0_1, m2_0, m2_1, y9.2.2.2.2.2.1, y9.2.2.2.2.2.2)
      else
        none
    else
      none) y3
def f36.F (K : Nat) (x : f36.Ty1) : Option (f36.Ty0) := f36.T K x.1 x.2.1 x.2.2.1 x.2.2.2.1 x.2.2.2.2.1 x.2.2.2.2.2
def f36.av (x : f36.Ty1) : List VV := [.vw true 0 0 x.1 1, .vw true 2 0 x.2.1 3]
def f36.bl (x : f36.Ty1) : List (Nat × Blk) := [(0, ([.ints .u8 x.2.2.1 x.2.2.2.1], 0, .ro)), (2, ([.ints .u8 x.2.2.2.2.1 x.2.2.2.2.2], 0, .ro))]
def f36.inA : VS → Option (f36.Ty1)
  | ⟨[(0, .vw true 0 0 a0 1), (1, .vw true 2 0 a1 3)], [(0, ([.ints .u8 m0_0 m0_1], 0, .ro)), (2, ([.ints .u8 m2_0 m2_1], 0, .ro))], 4⟩ => some (a0, a1, m0_0, m0_1, m2_0, m2_1)
  | _ => none
def f36.o0 (y : f36.Ty0) : VS := ⟨[(0, .vec 4 0 y.1 5)], [(0, ([.ints .u8 y.2.1 y.2.2.1], 0, .ro)), (2, ([.ints .u8 y.2.2.2.1 y.2.2.2.2.1], 0, .ro)), (4, ([.ints .u8 y.2.2.2.2.2.1 y.2.2.2.2.2.2], 5, .vec 5))], 6⟩
def f36.inR : VS → Option (f36.Ty0)
  | ⟨[(0, .vec 4 0 y 5)], [(0, ([.ints .u8 z0_0 z0_1], 0, .ro)), (2, ([.ints .u8 z2_0 z2_1], 0, .ro)), (4, ([.ints .u8 z4_0 z4_1], 5, .vec 5))], 6⟩ => some (y, z0_0, z0_1, z2_0, z2_1, z4_0, z4_1)
  | _ => none
noncomputable def f36.E (K : Nat) : Entry := genE 4 f36.inA (f36.F K) (dv1 f36.o0)
theorem f36.ok (K : Nat) : EntryOK Tryd.prog 36 (f36.E K) := gen_ok mix tys_ok (sp := tabSp [(29, (f29.E K)), (28, (viewE [(0, .u8), (1, .u8)] (f28.E K)))]) (tab_ok ((tab_cons (f29.ok K) (tab_cons (view_ok (f28.ok K)) tab_nil)))) Tryd.func36 (c := bodyOf Tryd.f36) (by kernel_rfl) (by kernel_rfl) (loops_none (lp := lpNone) (by kernel_rfl)) (av := f36.av) (bl := f36.bl) (inR := f36.inR) (out := f36.o0) (fuel := 400)
  (by intro s x h; unfold f36.inA at h; split at h <;> simp at h; subst h; rfl) (fun _ => Nat.le_of_ble_eq_true rfl)
  (by intro s y h; unfold f36.inR at h; split at h <;> simp at h <;> subst h <;> rfl) (fun _ _ _ => rfl) (fun _ => by kernel_rfl)
end Go.Proofs

namespace Go.Proofs
open Go.VM
abbrev f37.Ty0 := Nat × Nat × List Int × Nat × List Int
abbrev f37.Ty1 := Nat × Int × Int × Nat × List Int
def f37.T (K : Nat) (a0 : Nat) (a1 : Int) (a2 : Int) (m0_0 : Nat) (m0_1 : List Int) : Option (f37.Ty0) :=
  (f29.F K (a1, (minE a2 8))).bind fun y1 =>
  alt (fun y2 =>
    bif ((Nat.ble (0 + a0) m0_0 && true) && true) then
      (f28.F K (a0, 0, a0, (subI m0_1 0 a0), 0, [])).bind fun y4 =>
      some (y4.1, m0_0, m0_1, y4.2.2.2.2.2.1, y4.2.2.2.2.2.2)
    else
      none) (fun y3 =>
    bif ((Nat.ble (0 + a0) m0_0 && true) && ((Nat.ble (0 + y3.1) y3.2.1 && true) && true)) then
      (f28.F K (a0, y3.1, a0, (subI m0_1 0 a0), y3.1, (subI y3.2.2 0 y3.1))).bind fun y5 =>
      some (y5.1, m0_0, m0_1, y5.2.2.2.2.2.1, y5.2.2.2.2.2.2)
    else
      none) y1
def f37.F (K : Nat) (x : f37.Ty1) : Option (f37.Ty0) := f37.T K x.1 x.2.1 x.2.2.1 x.2.2.2.1 x.2.2.2.2
def f37.av (x : f37.Ty1) : List VV := [.vw true 0 0 x.1 1, .int .u64 x.2.1, .int .i64 x.2.2.1]
def f37.bl (x : f37.Ty1) : List (Nat × Blk) := [(0, ([.ints .u8 x.2.2.2.1 x.2.2.2.2], 0, .ro))]
def f37.inA : VS → Option (f37.Ty1)
  | ⟨[(0, .vw true 0 0 a0 1), (1, .int .u64 a1), (2, .int .i64 a2)], [(0, ([.ints .u8 m0_0 m0_1], 0, .ro))], 2⟩ => some (a0, a1, a2, m0_0, m0_1)
  | _ => none
def f37.o0 (y : f37.Ty0) : VS := ⟨[(0, .vec 2 0 y.1 3)], [(0, ([.ints .u8 y.2.1 y.2.2.1], 0, .ro)), (2, ([.ints .u8 y.2.2.2.1 y.2.2.2.2], 5, .vec 3))], 4⟩
def f37.inR : VS → Option (f37.Ty0)
  | ⟨[(0, .vec 2 0 y 3)], [(0, ([.ints .u8 z0_0 z0_1], 0, .ro)), (2, ([.ints .u8 z2_0 z2_1], 5, .vec 3))], 4⟩ => some (y, z0_0, z0_1, z2_0, z2_1)
  | _ => none
noncomputable def f37.E (K : Nat) : Entry := genE 2 f37.inA (f37.F K) (dv1 f37.o0)
theorem f37.ok (K : Nat) : EntryOK Tryd.prog 37 (f37.E K) := gen_ok mix tys_ok (sp := tabSp [(29, (f29.E K)), (28, (viewE [(0, .u8), (1, .u8)] (f28.E K)))]) (tab_ok ((tab_cons (f29.ok K) (tab_cons (view_ok (f28.ok K)) tab_nil)))) Tryd.func37 (c := bodyOf Tryd.f37) (by kernel_rfl) (by kernel_rfl) (loops_none (lp := lpNone) (by kernel_rfl)) (av := f37.av) (bl := f37.bl) (inR := f37.inR) (out := f37.o0) (fuel := 400)
  (by intro s x h; unfold f37.inA at h; split at h <;> simp at h; subst h; rfl) (fun _ => Nat.le_of_ble_eq_true rfl)
  (by intro s y h; unfold f37.inR at h; split at h <;> simp at h <;> subst h <;> rfl) (fun _ _ _ => rfl) (fun _ => by kernel_rfl)
end Go.Proofs

namespace Go.Proofs
open Go.VM
theorem f36.spec (K a n : Nat) (l p : List Int) (hl : l.length = a) (hp : p.length = n) (ha : a ≤ 10000000000) (hn : n ≤ 1000000000) (hK : 10 < K) :
    f36.F K (a, n, a, l, n, p) = some (a + (4 + n), a, l, n, p, a + (4 + n), l ++ Sh.frame p) := by
  simp only [f36.F, f36.T]
  have e := f29.spec 4 K n (by omega) (by omega) (by omega)
  rw [if_neg (by omega)] at e
  have lb : (be 4 n ++ p).length = 4 + n := by rw [List.length_append, be_length, hp]
  rw [wrap_u (n : Int) (by omega) (by omega), show ((4 : Int)) = ((4 : Nat) : Int) from rfl, e, bind_s, altr]
  dsimp only
  rw [Nat.zero_add, Nat.zero_add, Nat.zero_add, ble_true (Nat.le_refl 4), ble_true (Nat.le_refl n), Bool.and_self, Bool.and_self, Bool.and_self, cond_t, subI_self _ (be_length 4 n), subI_self _ hp, f28.spec K 4 n (be 4 n) p (be_length _ _) hp (by omega), bind_s]
  dsimp only
  rw [Nat.zero_add, ble_true (Nat.le_refl a), ble_true (Nat.le_refl (4 + n)), Bool.and_self, Bool.and_self, Bool.and_self, cond_t, subI_self _ hl, subI_self _ lb, f28.spec K a (4 + n) l _ hl lb (by omega), bind_s]
  rw [Sh.frame, hp]
theorem f37.spec (K a x : Nat) (l : List Int) (hl : l.length = a) (hx : x < 18446744073709551616) (ha : a ≤ 10000000000) (hK : 10 < K) :
    f37.F K (a, (x : Int), 4, a, l) = some (a + 4, a, l, a + 4, l ++ be 4 x) := by
  simp only [f37.F, f37.T]
  have e := f29.spec 4 K x hx (by omega) (by omega)
  rw [if_neg (by omega)] at e
  rw [show minE 4 8 = ((4 : Nat) : Int) from rfl, e, bind_s, altr]
  dsimp only
  rw [Nat.zero_add, Nat.zero_add, ble_true (Nat.le_refl a), ble_true (Nat.le_refl 4), Bool.and_self, Bool.and_self, Bool.and_self, cond_t, subI_self _ (be_length 4 x), subI_self _ hl, f28.spec K a 4 l _ hl (be_length _ _) (by omega), bind_s]
end Go.Proofs

namespace Go.Proofs
open Go.VM
def f12.k0 : ByteArray := ByteArray.mk #[48, 49, 50, 51, 52, 53, 54, 55, 56, 57, 97, 98, 99, 100, 101, 102]
def f12.T (_K : Nat) (a0 : List Int) : Option (ByteArray) :=
  let v6 := bits .or .i64 (IntKind.wrap .i64 ((IntKind.wrap .i64 (List.getD a0 0 0)) * 2 ^ 8)) (IntKind.wrap .i64 (List.getD a0 1 0))
  let v8 := bits .and .i64 (Int.fdiv v6 (2 ^ 12)) 15
  bif decide (0 ≤ v8 ∧ v8 < ((ByteArray.size f12.k0 : Nat) : Int)) then
    let v11 := bits .and .i64 (Int.fdiv v6 (2 ^ 8)) 15
    bif decide (0 ≤ v11 ∧ v11 < ((ByteArray.size f12.k0 : Nat) : Int)) then
      let v14 := bits .and .i64 (Int.fdiv v6 (2 ^ 4)) 15
      bif decide (0 ≤ v14 ∧ v14 < ((ByteArray.size f12.k0 : Nat) : Int)) then
        let v17 := bits .and .i64 (Int.fdiv v6 (2 ^ 0)) 15
        bif decide (0 ≤ v17 ∧ v17 < ((ByteArray.size f12.k0 : Nat) : Int)) then
          let v24 := bits .or .i64 (IntKind.wrap .i64 ((IntKind.wrap .i64 (List.getD a0 2 0)) * 2 ^ 8)) (IntKind.wrap .i64 (List.getD a0 3 0))
          let v26 := bits .and .i64 (Int.fdiv v24 (2 ^ 12)) 15
          bif decide (0 ≤ v26 ∧ v26 < ((ByteArray.size f12.k0 : Nat) : Int)) then
            let v29 := bits .and .i64 (Int.fdiv v24 (2 ^ 8)) 15
            bif decide (0 ≤ v29 ∧ v29 < ((ByteArray.size f12.k0 : Nat) : Int)) then
              let v32 := bits .and .i64 (Int.fdiv v24 (2 ^ 4)) 15
              bif decide (0 ≤ v32 ∧ v32 < ((ByteArray.size f12.k0 : Nat) : Int)) then
                let v35 := bits .and .i64 (Int.fdiv v24 (2 ^ 0)) 15
                bif decide (0 ≤ v35 ∧ v35 < ((ByteArray.size f12.k0 : Nat) : Int)) then
                  let v42 := bits .or .i64 (IntKind.wrap .i64 ((IntKind.wrap .i64 (List.getD a0 4 0)) * 2 ^ 8)) (IntKind.wrap .i64 (List.getD a0 5 0))
                  let v44 := bits .and .i64 (Int.fdiv v42 (2 ^ 12)) 15
                  bif decide (0 ≤ v44 ∧ v44 < ((ByteArray.size f12.k0 : Nat) : Int)) then
                    let v47 := bits .and .i64 (Int.fdiv v42 (2 ^ 8)) 15
                    bif decide (0 ≤ v47 ∧ v47 < ((ByteArray.size f12.k0 : Nat) : Int)) then
                      let v50 := bits .and .i64 (Int.fdiv v42 (2 ^ 4)) 15
                      bif decide (0 ≤ v50 ∧ v50 < ((ByteArray.size f12.k0 : Nat) : Int)) then
                        let v53 := bits .and .i64 (Int.fdiv v42 (2 ^ 0)) 15
                        bif decide (0 ≤ v53 ∧ v53 < ((ByteArray.size f12.k0 : Nat) : Int)) then
                          let v60 := bits .or .i64 (IntKind.wrap .i64 ((IntKind.wrap .i64 (List.getD a0 6 0)) * 2 ^ 8)) (IntKind.wrap .i64 (List.getD a0 7 0))
                          let v62 := bits .and .i64 (Int.fdiv v60 (2 ^ 12)) 15
                          bif decide (0 ≤ v62 ∧ v62 < ((ByteArray.size f12.k0 : Nat) : Int)) then
                            let v65 := bits .and .i64 (Int.fdiv v60 (2 ^ 8)) 15
                            bif decide (0 ≤ v65 ∧ v65 < ((ByteArray.size f12.k0 : Nat) : Int)) then
                              let v68 := bits .and .i64 (Int.fdiv v60 (2 ^ 4)) 15
                              bif decide (0 ≤ v68 ∧ v68 < ((ByteArray.size f12.k0 : Nat) : Int)) then
                                let v71 := bits .and .i64 (Int.fdiv v60 (2 ^ 0)) 15
                                bif decide (0 ≤ v71 ∧ v71 < ((ByteArray.size f12.k0 : Nat) : Int)) then
                                  let v78 := bits .or .i64 (IntKind.wrap .i64 ((IntKind.wrap .i64 (List.getD a0 8 0)) * 2 ^ 8)) (IntKind.wrap .i64 (List.getD a0 9 0))
                                  let v80 := bits .and .i64 (Int.fdiv v78 (2 ^ 12)) 15
                                  bif decide (0 ≤ v80 ∧ v80 < ((ByteArray.size f12.k0 : Nat) : Int)) then
                                    let v83 := bits .and .i64 (Int.fdiv v78 (2 ^ 8)) 15
                                    bif decide (0 ≤ v83 ∧ v83 < ((ByteArray.size f12.k0 : Nat) : Int)) then
                                      let v86 := bits .and .i64 (Int.fdiv v78 (2 ^ 4)) 15
                                      bif decide (0 ≤ v86 ∧ v86 < ((ByteArray.size f12.k0 : Nat) : Int)) then
                                        let v89 := bits .and .i64 (Int.fdiv v78 (2 ^ 0)) 15
                                        bif decide (0 ≤ v89 ∧ v89 < ((ByteArray.size f12.k0 : Nat) : Int)) then
                                          let v96 := bits .or .i64 (IntKind.wrap .i64 ((IntKind.wrap .i64 (List.getD a0 10 0)) * 2 ^ 8)) (IntKind.wrap .i64 (List.getD a0 11 0))
                                          let v98 := bits .and .i64 (Int.fdiv v96 (2 ^ 12)) 15
                                          bif decide (0 ≤ v98 ∧ v98 < ((ByteArray.size f12.k0 : Nat) : Int)) then
                                            let v101 := bits .and .i64 (Int.fdiv v96 (2 ^ 8)) 15
                                            bif decide (0 ≤ v101 ∧ v101 < ((ByteArray.size f12.k0 : Nat) : Int)) then
                                              let v104 := bits .and .i64 (Int.fdiv v96 (2 ^ 4)) 15
                                              bif decide (0 ≤ v104 ∧ v104 < ((ByteArray.size f12.k0 : Nat) : Int)) then
                                                let v107 := bits .and .i64 (Int.fdiv v96 (2 ^ 0)) 15
                                                bif decide (0 ≤ v107 ∧ v107 < ((ByteArray.size f12.k0 : Nat) : Int)) then
                                                  let v114 := bits .or .i64 (IntKind.wrap .i64 ((IntKind.wrap .i64 (List.getD a0 12 0)) * 2 ^ 8)) (IntKind.wrap .i64 (List.getD a0 13 0))
                                                  let v116 := bits .and .i64 (Int.fdiv v114 (2 ^ 12)) 15
                                                  bif decide (0 ≤ v116 ∧ v116 < ((ByteArray.size f12.k0 : Nat) : Int)) then
                                                    let v119 := bits .and .i64 (Int.fdiv v114 (2 ^ 8)) 15
                                                    bif decide (0 ≤ v119 ∧ v119 < ((ByteArray.size f12.k0 : Nat) : Int)) then
                                                      let v122 := bits .and .i64 (Int.fdiv v114 (2 ^ 4)) 15
                                                      bif decide (0 ≤ v122 ∧ v122 < ((ByteArray.size f12.k0 : Nat) : Int)) then
                                                        let v125 := bits .and .i64 (Int.fdiv v114 (2 ^ 0)) 15
                                                        bif decide (0 ≤ v125 ∧ v125 < ((ByteArray.size f12.k0 : Nat) : Int)) then
                                                          let v132 := bits .or .i64 (IntKind.wrap .i64 ((IntKind.wrap .i64 (List.getD a0 14 0)) * 2 ^ 8)) (IntKind.wrap .i64 (List.getD a0 15 0))
                                                          let v134 := bits .and .i64 (Int.fdiv v132 (2 ^ 12)) 15
                                                          bif decide (0 ≤ v134 ∧ v134 < ((ByteArray.size f12.k0 : Nat) : Int)) then
                                                            let v137 := bits .and .i64 (Int.fdiv v132 (2 ^ 8)) 15
                                                            bif decide (0 ≤ v137 ∧ v137 < ((ByteArray.size f12.k0 : Nat) : Int)) then
                                                              let v140 := bits .and .i64 (Int.fdiv v132 (2 ^ 4)) 15
                                                              bif decide (0 ≤ v140 ∧ v140 < ((ByteArray.size f12.k0 : Nat) : Int)) then
                                                                let v143 := bits .and .i64 (Int.fdiv v132 (2 ^ 0)) 15
                                                                bif decide (0 ≤ v143 ∧ v143 < ((ByteArray.size f12.k0 : Nat) : Int)) then
                                                                  some (mkStr ([(strAt f12.k0 (Int.toNat v8)), (strAt f12.k0 (Int.toNat v11)), (strAt f12.k0 (Int.toNat v14)), (strAt f12.k0 (Int.toNat v17)), 58, (strAt f12.k0 (Int.toNat v26)), (strAt f12.k0 (Int.toNat v29)), (strAt f12.k0 (Int.toNat v32)), (strAt f12.k0 (Int.toNat v35)), 58, (strAt f12.k0 (Int.toNat v44)), (strAt f12.k0 (Int.toNat v47)), (strAt f12.k0 (Int.toNat v50)), (strAt f12.k0 (Int.toNat v53)), 58, (strAt f12.k0 (Int.toNat v62)), (strAt f12.k0 (Int.toNat v65)), (strAt f12.k0 (Int.toNat v68)), (strAt f12.k0 (Int.toNat v71)), 58, (strAt f12.k0 (Int.toNat v80)), (strAt f12.k0 (Int.toNat v83)), (strAt f12.k0 (Int.toNat v86)), (strAt f12.k0 (Int.toNat v89)), 58, (strAt f12.k0 (Int.toNat v98)), (strAt f12.k0 (Int.toNat v101)), (strAt f12.k0 (Int.toNat v104)), (strAt f12.k0 (Int.toNat v107)), 58, (strAt f12.k0 (Int.toNat v116)), (strAt f12.k0 (Int.toNat v119)), (strAt f12.k0 (Int.toNat v122)), (strAt f12.k0 (Int.toNat v125)), 58, (strAt f12.k0 (Int.toNat v134)), (strAt f12.k0 (Int.toNat v137)), (strAt f12.k0 (Int.toNat v140)), (strAt f12.k0 (Int.toNat v143))]))
                                                                else
                                                                  none
                                                              else
                                                                none
                                                            else
                                                              none
                                                          else
                                                            none
                                                        else
                                                          none
                                                      else
                                                        none
                                                    else
                                                      none
                                                  else
                                                    none
                                                else
                                                  none
                                              else
                                                none
                                            else
                                              none
                                          else
                                            none
                                        else
                                          none
                                      else
                                        none
                                    else
                                      none
                                  else
                                    none
                                else
                                  none
                              else
                                none
                            else
                              none
                          else
                            none
                        else
                          none
                      else
                        none
                    else
                      none
                  else
                    none
                else
                  none
              else
                none
            else
              none
          else
            none
        else
          none
      else
        none
    else
      none
  else
    none
def f12.F (K : Nat) (x : List Int) : Option (ByteArray) := f12.T K x
def f12.av (x : List Int) : List VV := [.agg [.ints .u8 16 x]]
def f12.bl (_x : List Int) : List (Nat × Blk) := []
def f12.inA : VS → Option (List Int)
  | ⟨[(0, .agg [.ints .u8 16 a0])], [], 0⟩ => some a0
  | _ => none
def f12.o0 (y : ByteArray) : VS := ⟨[(0, .str y)], [], 0⟩
def f12.inR : VS → Option (ByteArray)
  | ⟨[(0, .str y)], [], 0⟩ => some y
  | _ => none
noncomputable def f12.E (K : Nat) : Entry := genE 0 f12.inA (f12.F K) (dv1 f12.o0)
theorem f12.ok (K : Nat) : EntryOK Tryd.prog 12 (f12.E K) := gen_ok mix tys_ok (tab_ok ( tab_nil)) Tryd.func12 (c := bodyOf Tryd.f12) (by kernel_rfl) (by kernel_rfl) (loops_none (lp := lpNone) (by kernel_rfl)) (av := f12.av) (bl := f12.bl) (inR := f12.inR) (out := f12.o0) (fuel := 400)
  (by intro s x h; unfold f12.inA at h; split at h <;> simp at h; subst h; rfl) (fun _ => Nat.le_of_ble_eq_true rfl)
  (by intro s y h; unfold f12.inR at h; split at h <;> simp at h <;> subst h <;> rfl) (fun _ _ _ => rfl) (fun _ => by kernel_rfl)
end Go.Proofs

namespace Go.Proofs
open Go.VM
def f16.T (_K : Nat) (a0 : Int) : Option (Int) :=
  bif (decide (a0 ≥ 48)) then
    bif (decide (a0 ≤ 57)) then
      some (IntKind.wrap .i64 (IntKind.wrap .i32 (a0 - 48)))
    else
      bif (decide (a0 ≥ 97)) then
        bif (decide (a0 ≤ 102)) then
          some (IntKind.wrap .i64 ((IntKind.wrap .i64 (IntKind.wrap .i32 (a0 - 97))) + 10))
        else
          some (-1)
      else
        some (-1)
  else
    bif (decide (a0 ≥ 97)) then
      bif (decide (a0 ≤ 102)) then
        some (IntKind.wrap .i64 ((IntKind.wrap .i64 (IntKind.wrap .i32 (a0 - 97))) + 10))
      else
        some (-1)
    else
      some (-1)
def f16.F (K : Nat) (x : Int) : Option (Int) := f16.T K x
def f16.av (x : Int) : List VV := [.int .i32 x]
def f16.bl (_x : Int) : List (Nat × Blk) := []
def f16.inA : VS → Option (Int)
  | ⟨[(0, .int .i32 a0)], [], 0⟩ => some a0
  | _ => none
def f16.o0 (y : Int) : VS := ⟨[(0, .int .i64 y)], [], 0⟩
def f16.inR : VS → Option (Int)
  | ⟨[(0, .int .i64 y)], [], 0⟩ => some y
  | _ => none
noncomputable def f16.E (K : Nat) : Entry := genE 0 f16.inA (f16.F K) (dv1 f16.o0)
theorem f16.ok (K : Nat) : EntryOK Tryd.prog 16 (f16.E K) := gen_ok mix tys_ok (tab_ok ( tab_nil)) Tryd.func16 (c := bodyOf Tryd.f16) (by kernel_rfl) (by kernel_rfl) (loops_none (lp := lpNone) (by kernel_rfl)) (av := f16.av) (bl := f16.bl) (inR := f16.inR) (out := f16.o0) (fuel := 400)
  (by intro s x h; unfold f16.inA at h; split at h <;> simp at h; subst h; rfl) (fun _ => Nat.le_of_ble_eq_true rfl)
  (by intro s y h; unfold f16.inR at h; split at h <;> simp at h <;> subst h <;> rfl) (fun _ _ _ => rfl) (fun _ => by kernel_rfl)
end Go.Proofs

namespace Go.Proofs
open Go.VM
abbrev f6.Ty0 := List Int × ByteArray × Nat
abbrev f6.Ty1 := Int × List Int
abbrev f6.Ty2 := List Int × Int
noncomputable def f6.c : Code := bodyOf Tryd.f6
def f6.s0t (K : Nat) (rec : f6.Ty0 → Option ((f6.Ty1) ⊕ (List Int))) (b0 : List Int) (b1_0 : ByteArray) (b1_1 : Nat) : Option ((f6.Ty1) ⊕ (List Int)) :=
  bif Nat.blt b1_1 (ByteArray.size b1_0) then
    let v3 := (((Utf8.decode b1_0 b1_1).1 : Nat) : Int)
    let v2 := b1_1 + ((Utf8.decode b1_0 b1_1).2)
    let v4 := ((b1_1 : Nat) : Int)
    let v5 := Int.tmod v4 5
    (f16.F K v3).bind fun y6 =>
    bif (!((v5 == 4) == (v3 == 58))) then
      some (.inl (4, [0, 0, 0, 0, 0, 0, 0, 0, 0, 0, 0, 0, 0, 0, 0, 0]))
    else
      bif (v5 != 4) then
        bif (decide (y6 < 0)) then
          some (.inl (4, [0, 0, 0, 0, 0, 0, 0, 0, 0, 0, 0, 0, 0, 0, 0, 0]))
        else
          bif (v5 != 4) then
            let v12 := IntKind.wrap .i64 ((IntKind.wrap .i64 (2 * (IntKind.wrap .i64 (Int.tdiv v4 5)))) + (IntKind.wrap .i64 (Int.tdiv v5 2)))
            bif decide (0 ≤ v12 ∧ v12 < 16) then
              bif decide (0 ≤ v5 ∧ v5 < 4) then
                bif Nat.blt (0 + (Int.toNat v5)) 4 then
                  let v16 := Int.tmod (List.getD [12, 8, 4, 0] (0 + (Int.toNat v5)) 0) 8
                  bif decide (0 ≤ v16) then
                    bif decide (0 ≤ v12 ∧ v12 < 16) then
                      rec ((setD b0 (Int.toNat v12) (bits .or .u8 (List.getD b0 (Int.toNat v12) 0) (IntKind.wrap .u8 (shiftI .shl .i64 y6 v16)))), b1_0, v2)
                    else
                      none
                  else
                    none
                else
                  none
              else
                none
            else
              none
          else
            rec (b0, b1_0, v2)
      else
        bif (v5 != 4) then
          let v25 := IntKind.wrap .i64 ((IntKind.wrap .i64 (2 * (IntKind.wrap .i64 (Int.tdiv v4 5)))) + (IntKind.wrap .i64 (Int.tdiv v5 2)))
          bif decide (0 ≤ v25 ∧ v25 < 16) then
            bif decide (0 ≤ v5 ∧ v5 < 4) then
              bif Nat.blt (0 + (Int.toNat v5)) 4 then
                let v29 := Int.tmod (List.getD [12, 8, 4, 0] (0 + (Int.toNat v5)) 0) 8
                bif decide (0 ≤ v29) then
                  bif decide (0 ≤ v25 ∧ v25 < 16) then
                    rec ((setD b0 (Int.toNat v25) (bits .or .u8 (List.getD b0 (Int.toNat v25) 0) (IntKind.wrap .u8 (shiftI .shl .i64 y6 v29)))), b1_0, v2)
                  else
                    none
                else
                  none
              else
                none
            else
              none
          else
            none
        else
          rec (b0, b1_0, v2)
  else
    some (.inr b0)
def f6.s0 (K : Nat) (rec : f6.Ty0 → Option ((f6.Ty1) ⊕ (List Int))) (x : f6.Ty0) : Option ((f6.Ty1) ⊕ (List Int)) := f6.s0t K rec x.1 x.2.1 x.2.2
noncomputable def f6.s0.b : Code := (findLoop 0 f6.c).getD .skip
def f6.s0.h : Hint := { lv := [2, 13] }
def f6.s0.ho : Hint := { lv := [2, 3] }
def f6.s0.shp (x : f6.Ty0) : VS := ⟨[(2, .ptr 0 0), (13, .ptr 1 0)], [(0, ([.ints .u8 16 x.1], 26, .norm)), (1, ([], 0, .it x.2.1 x.2.2))], 2⟩
def f6.s0.inX : VS → Option (f6.Ty0)
  | ⟨[(2, .ptr 0 0), (13, .ptr 1 0)], [(0, ([.ints .u8 16 b0], 26, .norm)), (1, ([], 0, .it b1_0 b1_1))], 2⟩ => some (b0, b1_0, b1_1)
  | _ => none
def f6.s0.o0 (y : f6.Ty1) : VS := ⟨[(2, .ptr 0 0), (3, .int .i64 y.1)], [(0, ([.ints .u8 16 y.2], 26, .norm))], 1⟩
def f6.s0.o1 (y : List Int) : VS := ⟨[(2, .ptr 0 0)], [(0, ([.ints .u8 16 y], 26, .norm))], 1⟩
def f6.s0.des : ∀ α : Type, ((f6.Ty1) ⊕ (List Int)) → (Ex → VS → Option α) → Option α := (desA (des1 (.ret) f6.s0.o0) (des1 (.exit 0) f6.s0.o1))
def f6.s0.out : (f6.Ty1) ⊕ (List Int) → Ex × VS := (alt (fun y => (.ret, f6.s0.o0 y)) (fun y => (.exit 0, f6.s0.o1 y)))
theorem f6.s0.desOK : ∀ α y (k : Ex → VS → Option α), f6.s0.des α y k = k (f6.s0.out y).1 (f6.s0.out y).2 := (desA_ok (fun _ _ _ => rfl) (fun _ _ _ => rfl))
def f6.s0.inY : Ex → VS → Option ((f6.Ty1) ⊕ (List Int))
  | .ret, ⟨[(2, .ptr 0 0), (3, .int .i64 t3)], [(0, ([.ints .u8 16 b0], 26, .norm))], 1⟩ => some (.inl (t3, b0))
  | .exit 0, ⟨[(2, .ptr 0 0)], [(0, ([.ints .u8 16 b0], 26, .norm))], 1⟩ => some (.inr b0)
  | _, _ => none
def f6.lp (K : Nat) : Nat → Option (Hint × Summ) := tabLp [(0, f6.s0.h, summOf (iter (f6.s0 K) K) f6.s0.inX f6.s0.des)]
noncomputable def f6.tab (K : Nat) : List (Nat × Entry) := [(16, (f16.E K))]
theorem f6.tabOK (K : Nat) : SpecOK Tryd.prog (tabSp (f6.tab K)) := tab_ok ((tab_cons (f16.ok K) tab_nil))
theorem f6.s0.eq (K : Nat) (rec : f6.Ty0 → Option ((f6.Ty1) ⊕ (List Int))) (x : f6.Ty0) : f6.s0 K rec x = roundL (getA tys) (tabSp (f6.tab K)) 56 0 (f6.lp K) 400 f6.s0.b f6.s0.h f6.s0.ho f6.s0.shp f6.s0.inX f6.s0.inY rec x := by kernel_rfl
theorem f6.s0.lok (K : Nat) : LoopsOK Tryd.prog 56 0 (f6.lp K) f6.s0.b := loops_ok (by
  have h : loopsIn (f6.lp K) f6.s0.b = [] := by kernel_rfl
  rw [h]; simp)
theorem f6.s0.ok (K : Nat) : SummOK Tryd.prog 56 0 (summOf (iter (f6.s0 K) K) f6.s0.inX f6.s0.des) f6.s0.b :=
  loop_ok mix tys_ok (f6.tabOK K) (h := f6.s0.h) (ho := f6.s0.ho) (shp := f6.s0.shp) (inX := f6.s0.inX) (des := f6.s0.des) (out := f6.s0.out) (inY := f6.s0.inY) (fuel := 400)
    (by intro st x h; unfold f6.s0.inX at h; split at h <;> simp at h; subst h; rfl)
    (by intro e st y h; unfold f6.s0.inY at h; split at h <;> simp at h <;> subst h <;> rfl)
    f6.s0.desOK (f6.s0.lok K) (f6.s0 K) (f6.s0.eq K) K
theorem f6.loops (K : Nat) : LoopsOK Tryd.prog 56 0 (f6.lp K) f6.c := loops_ok (by
  have h : loopsIn (f6.lp K) f6.c = [(0, f6.s0.b)] := by kernel_rfl
  rw [h]
  intro p hp
  simp only [List.mem_cons, List.not_mem_nil, or_false] at hp
  rcases hp with rfl
  · exact ⟨_, rfl, (f6.s0.ok K)⟩)
def f6.T (K : Nat) (a0 : ByteArray) : Option (f6.Ty2) :=
  bif (((ByteArray.size a0 : Nat) : Int) != 39) then
    some ([0, 0, 0, 0, 0, 0, 0, 0, 0, 0, 0, 0, 0, 0, 0, 0], 4)
  else
    (iter (f6.s0 K) K ([0, 0, 0, 0, 0, 0, 0, 0, 0, 0, 0, 0, 0, 0, 0, 0], a0, 0)).bind fun y35 =>
    alt (fun y36 =>
      some (y36.2, y36.1)) (fun y37 =>
      some (y37, 0)) y35
def f6.F (K : Nat) (x : ByteArray) : Option (f6.Ty2) := f6.T K x
def f6.av (x : ByteArray) : List VV := [.str x]
def f6.bl (_x : ByteArray) : List (Nat × Blk) := []
def f6.inA : VS → Option (ByteArray)
  | ⟨[(0, .str a0)], [], 0⟩ => some a0
  | _ => none
def f6.o0 (y : f6.Ty2) : VS := ⟨[(0, .tup [.agg [.ints .u8 16 y.1], .int .i64 y.2])], [], 0⟩
def f6.des : ∀ α : Type, (f6.Ty2) → (VS → Option α) → Option α := (dv1 f6.o0)
def f6.out : f6.Ty2 → VS := f6.o0
def f6.inR : VS → Option (f6.Ty2)
  | ⟨[(0, .tup [.agg [.ints .u8 16 y_0], .int .i64 y_1])], [], 0⟩ => some (y_0, y_1)
  | _ => none
noncomputable def f6.E (K : Nat) : Entry := genE 0 f6.inA (f6.F K) f6.des
theorem f6.eq (K : Nat) (x : ByteArray) : f6.F K x = xrun (getA tys) (tabSp (f6.tab K)) Tryd.f6.ntmps 0 (f6.lp K) 400 f6.c ⟨initL 0 (f6.av x), f6.bl x, 0⟩ (contF (getA tys) 0 Tryd.f6.results.toList f6.inR) := by kernel_rfl
theorem f6.ok (K : Nat) : EntryOK Tryd.prog 6 (f6.E K) :=
  gen_ok mix tys_ok (f6.tabOK K) Tryd.func6 (by kernel_rfl : Tryd.f6.body = some f6.c) (by kernel_rfl) (f6.loops K) (av := f6.av) (bl := f6.bl) (out := f6.out) (fuel := 400)
    (by intro s x h; unfold f6.inA at h; split at h <;> simp at h; subst h; rfl) (fun _ => Nat.le_of_ble_eq_true rfl)
    (by intro s y h; unfold f6.inR at h; split at h <;> simp at h <;> subst h <;> rfl) (fun _ _ _ => rfl) (f6.eq K)
end Go.Proofs

namespace Go.Proofs
open Go.VM
abbrev f10.Ty0 := List Int × Int × List Int
abbrev f10.Ty1 := List Int × List Int
noncomputable def f10.c : Code := bodyOf Tryd.f10
def f10.s0t (_K : Nat) (rec : f10.Ty0 → Option (Int ⊕ Unit)) (t7 : List Int) (t8 : Int) (b0 : List Int) : Option (Int ⊕ Unit) :=
  bif (decide (t8 < 16)) then
    bif decide (0 ≤ t8 ∧ t8 < 16) then
      let v2 := List.getD t7 (Int.toNat t8) 0
      bif decide (0 ≤ t8 ∧ t8 < 16) then
        bif (decide (v2 < (List.getD b0 (Int.toNat t8) 0))) then
          some (.inl (-1))
        else
          bif decide (0 ≤ t8 ∧ t8 < 16) then
            bif (decide (v2 > (List.getD b0 (Int.toNat t8) 0))) then
              some (.inl (1))
            else
              rec (t7, (IntKind.wrap .i64 (t8 + 1)), b0)
          else
            none
      else
        none
    else
      none
  else
    some (.inr ())
def f10.s0 (K : Nat) (rec : f10.Ty0 → Option (Int ⊕ Unit)) (x : f10.Ty0) : Option (Int ⊕ Unit) := f10.s0t K rec x.1 x.2.1 x.2.2
noncomputable def f10.s0.b : Code := (findLoop 0 f10.c).getD .skip
def f10.s0.h : Hint := { lv := [3, 7, 8] }
def f10.s0.ho : Hint := { lv := [4] }
def f10.s0.shp (x : f10.Ty0) : VS := ⟨[(3, .ptr 0 0), (7, .agg [.ints .u8 16 x.1]), (8, .int .i64 x.2.1)], [(0, ([.ints .u8 16 x.2.2], 26, .norm))], 1⟩
def f10.s0.inX : VS → Option (f10.Ty0)
  | ⟨[(3, .ptr 0 0), (7, .agg [.ints .u8 16 t7]), (8, .int .i64 t8)], [(0, ([.ints .u8 16 b0], 26, .norm))], 1⟩ => some (t7, t8, b0)
  | _ => none
def f10.s0.o0 (y : Int) : VS := ⟨[(4, .int .i64 y)], [], 0⟩
def f10.s0.o1 (_y : Unit) : VS := ⟨[], [], 0⟩
def f10.s0.des : ∀ α : Type, (Int ⊕ Unit) → (Ex → VS → Option α) → Option α := (desA (des1 (.ret) f10.s0.o0) (des1 (.exit 0) f10.s0.o1))
def f10.s0.out : Int ⊕ Unit → Ex × VS := (alt (fun y => (.ret, f10.s0.o0 y)) (fun y => (.exit 0, f10.s0.o1 y)))
theorem f10.s0.desOK : ∀ α y (k : Ex → VS → Option α), f10.s0.des α y k = k (f10.s0.out y).1 (f10.s0.out y).2 := (desA_ok (fun _ _ _ => rfl) (fun _ _ _ => rfl))
def f10.s0.inY : Ex → VS → Option (Int ⊕ Unit)
  | .ret, ⟨[(4, .int .i64 t4)], [], 0⟩ => some (.inl t4)
  | .exit 0, ⟨[], [], 0⟩ => some (.inr ())
  | _, _ => none
def f10.lp (K : Nat) : Nat → Option (Hint × Summ) := tabLp [(0, f10.s0.h, summOf (iter (f10.s0 K) K) f10.s0.inX f10.s0.des)]
noncomputable def f10.tab (_K : Nat) : List (Nat × Entry) := []
theorem f10.tabOK (K : Nat) : SpecOK Tryd.prog (tabSp (f10.tab K)) := tab_ok ( tab_nil)
theorem f10.s0.eq (K : Nat) (rec : f10.Ty0 → Option (Int ⊕ Unit)) (x : f10.Ty0) : f10.s0 K rec x = roundL (getA tys) (tabSp (f10.tab K)) 25 0 (f10.lp K) 400 f10.s0.b f10.s0.h f10.s0.ho f10.s0.shp f10.s0.inX f10.s0.inY rec x := by kernel_rfl
theorem f10.s0.lok (K : Nat) : LoopsOK Tryd.prog 25 0 (f10.lp K) f10.s0.b := loops_ok (by
  have h : loopsIn (f10.lp K) f10.s0.b = [] := by kernel_rfl
  rw [h]; simp)
theorem f10.s0.ok (K : Nat) : SummOK Tryd.prog 25 0 (summOf (iter (f10.s0 K) K) f10.s0.inX f10.s0.des) f10.s0.b :=
  loop_ok mix tys_ok (f10.tabOK K) (h := f10.s0.h) (ho := f10.s0.ho) (shp := f10.s0.shp) (inX := f10.s0.inX) (des := f10.s0.des) (out := f10.s0.out) (inY := f10.s0.inY) (fuel := 400)
    (by intro st x h; unfold f10.s0.inX at h; split at h <;> simp at h; subst h; rfl)
    (by intro e st y h; unfold f10.s0.inY at h; split at h <;> simp at h <;> subst h <;> rfl)
    f10.s0.desOK (f10.s0.lok K) (f10.s0 K) (f10.s0.eq K) K
theorem f10.loops (K : Nat) : LoopsOK Tryd.prog 25 0 (f10.lp K) f10.c := loops_ok (by
  have h : loopsIn (f10.lp K) f10.c = [(0, f10.s0.b)] := by kernel_rfl
  rw [h]
  intro p hp
  simp only [List.mem_cons, List.not_mem_nil, or_false] at hp
  rcases hp with rfl
  · exact ⟨_, rfl, (f10.s0.ok K)⟩)
def f10.T (K : Nat) (a0 : List Int) (a1 : List Int) : Option (Int) :=
  (iter (f10.s0 K) K (a0, 0, a1)).bind fun y10 =>
  alt (fun y11 =>
    some y11) (fun y12 =>
    some (0)) y10
def f10.F (K : Nat) (x : f10.Ty1) : Option (Int) := f10.T K x.1 x.2
def f10.av (x : f10.Ty1) : List VV := [.agg [.ints .u8 16 x.1], .agg [.ints .u8 16 x.2]]
def f10.bl (_x : f10.Ty1) : List (Nat × Blk) := []
def f10.inA : VS → Option (f10.Ty1)
  | ⟨[(0, .agg [.ints .u8 16 a0]), (1, .agg [.ints .u8 16 a1])], [], 0⟩ => some (a0, a1)
  | _ => none
def f10.o0 (y : Int) : VS := ⟨[(0, .int .i64 y)], [], 0⟩
def f10.des : ∀ α : Type, Int → (VS → Option α) → Option α := (dv1 f10.o0)
def f10.out : Int → VS := f10.o0
def f10.inR : VS → Option (Int)
  | ⟨[(0, .int .i64 y)], [], 0⟩ => some y
  | _ => none
noncomputable def f10.E (K : Nat) : Entry := genE 0 f10.inA (f10.F K) f10.des
theorem f10.eq (K : Nat) (x : f10.Ty1) : f10.F K x = xrun (getA tys) (tabSp (f10.tab K)) Tryd.f10.ntmps 0 (f10.lp K) 400 f10.c ⟨initL 0 (f10.av x), f10.bl x, 0⟩ (contF (getA tys) 0 Tryd.f10.results.toList f10.inR) := by kernel_rfl
theorem f10.ok (K : Nat) : EntryOK Tryd.prog 10 (f10.E K) :=
  gen_ok mix tys_ok (f10.tabOK K) Tryd.func10 (by kernel_rfl : Tryd.f10.body = some f10.c) (by kernel_rfl) (f10.loops K) (av := f10.av) (bl := f10.bl) (out := f10.out) (fuel := 400)
    (by intro s x h; unfold f10.inA at h; split at h <;> simp at h; subst h; rfl) (fun _ => Nat.le_of_ble_eq_true rfl)
    (by intro s y h; unfold f10.inR at h; split at h <;> simp at h <;> subst h <;> rfl) (fun _ _ _ => rfl) (f10.eq K)
end Go.Proofs

namespace Go.Proofs
open Go.VM
def f5.k0 : ByteArray := ByteArray.mk #[48]
def f5.k1 : ByteArray := ByteArray.mk #[50, 48, 48, 49, 58, 48, 48, 50, 49, 58, 48, 48, 48, 48, 58, 48, 48, 48, 48, 58, 48, 48, 48, 48, 58, 48, 48, 48, 48, 58, 48, 48, 48, 48, 58, 48, 48, 48, 48]
def f5.T (K : Nat)  : Option (Bool) :=
  (f12.F K [32, 1, 0, 33, 0, 0, 0, 0, 0, 0, 0, 0, 0, 0, 0, 0]).bind fun y1 =>
  (f6.F K y1).bind fun y2 =>
  (f6.F K f5.k0).bind fun y3 =>
  bif (strEq y1 f5.k1) then
    bif (eqL 16 y2.1 [32, 1, 0, 33, 0, 0, 0, 0, 0, 0, 0, 0, 0, 0, 0, 0] && true) then
      bif (y2.2 == 0) then
        bif (y3.2 == 4) then
          (f10.F K ([32, 1, 0, 33, 0, 0, 0, 0, 0, 0, 0, 0, 0, 0, 0, 0], y2.1)).bind fun y6 =>
          some (y6 == 0)
        else
          some false
      else
        some false
    else
      some false
  else
    some false
def f5.F (K : Nat) (_x : Unit) : Option (Bool) := f5.T K
def f5.av (_x : Unit) : List VV := []
def f5.bl (_x : Unit) : List (Nat × Blk) := []
def f5.inA : VS → Option (Unit)
  | ⟨[], [], 0⟩ => some ()
  | _ => none
def f5.o0 (y : Bool) : VS := ⟨[(0, .bool y)], [], 0⟩
def f5.inR : VS → Option (Bool)
  | ⟨[(0, .bool y)], [], 0⟩ => some y
  | _ => none
noncomputable def f5.E (K : Nat) : Entry := genE 0 f5.inA (f5.F K) (dv1 f5.o0)
theorem f5.ok (K : Nat) : EntryOK Tryd.prog 5 (f5.E K) := gen_ok mix tys_ok (tab_ok ((tab_cons (f12.ok K) (tab_cons (f6.ok K) (tab_cons (f10.ok K) tab_nil))))) Tryd.func5 (c := bodyOf Tryd.f5) (by kernel_rfl) (by kernel_rfl) (loops_none (lp := lpNone) (by kernel_rfl)) (av := f5.av) (bl := f5.bl) (inR := f5.inR) (out := f5.o0) (fuel := 400)
  (by intro s x h; unfold f5.inA at h; split at h <;> simp at h; rfl) (fun _ => Nat.le_of_ble_eq_true rfl)
  (by intro s y h; unfold f5.inR at h; split at h <;> simp at h <;> subst h <;> rfl) (fun _ _ _ => rfl) (fun _ => by kernel_rfl)
end Go.Proofs

namespace Go.Proofs
open Go.VM
theorem or_i64 (a b : Nat) (ha : a < 9223372036854775808) (hb : b < 9223372036854775808) : bits .or .i64 (a : Int) (b : Int) = ((a ||| b : Nat) : Int) := by
  have hx : a ||| b < 2 ^ 63 := Nat.or_lt_two_pow (by omega) (by omega)
  have h1 : (BitVec.ofInt 64 (a : Int)).toNat = a := by
    rw [BitVec.ofInt_natCast, BitVec.toNat_ofNat]; exact Nat.mod_eq_of_lt (by omega)
  have h2 : (BitVec.ofInt 64 (b : Int)).toNat = b := by
    rw [BitVec.ofInt_natCast, BitVec.toNat_ofNat]; exact Nat.mod_eq_of_lt (by omega)
  show IntKind.i64.wrap ((BitVec.ofInt 64 (a : Int) ||| BitVec.ofInt 64 (b : Int)).toNat : Int) = _
  rw [BitVec.toNat_or, h1, h2, wrap_i _ (by omega) (by omega)]
theorem and_i64 (a b : Nat) (ha : a < 9223372036854775808) (hb : b < 9223372036854775808) : bits .and .i64 (a : Int) (b : Int) = ((a &&& b : Nat) : Int) := by
  have hx : a &&& b < 2 ^ 63 := Nat.and_lt_two_pow _ (by omega)
  have h1 : (BitVec.ofInt 64 (a : Int)).toNat = a := by
    rw [BitVec.ofInt_natCast, BitVec.toNat_ofNat]; exact Nat.mod_eq_of_lt (by omega)
  have h2 : (BitVec.ofInt 64 (b : Int)).toNat = b := by
    rw [BitVec.ofInt_natCast, BitVec.toNat_ofNat]; exact Nat.mod_eq_of_lt (by omega)
  show IntKind.i64.wrap ((BitVec.ofInt 64 (a : Int) &&& BitVec.ofInt 64 (b : Int)).toNat : Int) = _
  rw [BitVec.toNat_and, h1, h2, wrap_i _ (by omega) (by omega)]
theorem wrap_8 (z : Int) (h0 : 0 ≤ z) (h : z < 256) : IntKind.wrap .u8 z = z := by
  simp [IntKind.wrap, IntKind.signed, IntKind.bits]; omega
theorem or_u8 (a b : Nat) (ha : a < 256) (hb : b < 256) : bits .or .u8 (a : Int) (b : Int) = ((a ||| b : Nat) : Int) := by
  have hx : a ||| b < 2 ^ 8 := Nat.or_lt_two_pow (by omega) (by omega)
  have h1 : (BitVec.ofInt 8 (a : Int)).toNat = a := by
    rw [BitVec.ofInt_natCast, BitVec.toNat_ofNat]; exact Nat.mod_eq_of_lt (by omega)
  have h2 : (BitVec.ofInt 8 (b : Int)).toNat = b := by
    rw [BitVec.ofInt_natCast, BitVec.toNat_ofNat]; exact Nat.mod_eq_of_lt (by omega)
  show IntKind.u8.wrap ((BitVec.ofInt 8 (a : Int) ||| BitVec.ofInt 8 (b : Int)).toNat : Int) = _
  rw [BitVec.toNat_or, h1, h2, wrap_8 _ (by omega) (by omega)]
theorem or_add (x y k : Nat) (h : y < 2 ^ k) : x * 2 ^ k ||| y = x * 2 ^ k + y := by
  have := Nat.shiftLeft_add_eq_or_of_lt h x
  rw [Nat.shiftLeft_eq] at this
  exact this.symm
def Tg.hex (n : Nat) : Nat := if n < 10 then 48 + n else 87 + n
theorem Tg.hex_lt {n : Nat} (h : n < 16) : Tg.hex n < 128 := by unfold Tg.hex; split <;> omega
theorem Tg.digit (n : Nat) (h : n < 16) : strAt f12.k0 n = (Tg.hex n : Int) := by
  have : ∀ n : Fin 16, strAt f12.k0 n.val = (Tg.hex n.val : Int) := by decide +kernel
  exact this ⟨n, h⟩
def Tg.chr (A : Nat → Nat) (i : Nat) : Nat :=
  if i % 5 = 4 then 58 else if i % 5 % 2 = 0 then Tg.hex (A (2 * (i / 5) + i % 5 / 2) / 16) else Tg.hex (A (2 * (i / 5) + i % 5 / 2) % 16)
def Tg.text (A : Nat → Nat) : List Int := (List.range 39).map fun i => (Tg.chr A i : Int)
theorem four (x y : Nat) (hx : x < 256) (hy : y < 256) :
    bits .and .i64 (Int.fdiv (bits .or .i64 (IntKind.wrap .i64 ((IntKind.wrap .i64 (x : Int)) * 2 ^ 8)) (IntKind.wrap .i64 (y : Int))) (2 ^ 12)) 15 = ((x / 16 : Nat) : Int) ∧
    bits .and .i64 (Int.fdiv (bits .or .i64 (IntKind.wrap .i64 ((IntKind.wrap .i64 (x : Int)) * 2 ^ 8)) (IntKind.wrap .i64 (y : Int))) (2 ^ 8)) 15 = ((x % 16 : Nat) : Int) ∧
    bits .and .i64 (Int.fdiv (bits .or .i64 (IntKind.wrap .i64 ((IntKind.wrap .i64 (x : Int)) * 2 ^ 8)) (IntKind.wrap .i64 (y : Int))) (2 ^ 4)) 15 = ((y / 16 : Nat) : Int) ∧
    bits .and .i64 (Int.fdiv (bits .or .i64 (IntKind.wrap .i64 ((IntKind.wrap .i64 (x : Int)) * 2 ^ 8)) (IntKind.wrap .i64 (y : Int))) (2 ^ 0)) 15 = ((y % 16 : Nat) : Int) := by
  have e : bits .or .i64 (IntKind.wrap .i64 ((IntKind.wrap .i64 (x : Int)) * 2 ^ 8)) (IntKind.wrap .i64 (y : Int)) = ((x * 2 ^ 8 + y : Nat) : Int) := by
    rw [wrap_i (x : Int) (by omega) (by omega), wrap_i (y : Int) (by omega) (by omega), show (x : Int) * 2 ^ 8 = ((x * 2 ^ 8 : Nat) : Int) by omega, wrap_i _ (by omega) (by omega), or_i64 _ _ (by omega) (by omega), or_add x y 8 (by omega)]
  have k : ∀ z : Nat, z < 65536 → bits .and .i64 (z : Int) 15 = ((z % 16 : Nat) : Int) := fun z hz => by
    rw [show (15 : Int) = ((15 : Nat) : Int) from rfl, and_i64 _ _ (by omega) (by omega), show (15 : Nat) = 2 ^ 4 - 1 from rfl, Nat.and_two_pow_sub_one_eq_mod]
  rw [e, fdiv_nat, fdiv_nat, fdiv_nat, fdiv_nat, k _ (by omega), k _ (by omega), k _ (by omega), k _ (by omega)]
  refine ⟨?_, ?_, ?_, ?_⟩ <;> congr 1 <;> omega
theorem f12.spec (K : Nat) (A : Nat → Nat) (hA : ∀ i, A i < 256) : f12.F K (vec 16 A) = some (mkStr (Tg.text A)) := by
  have g : ∀ i, i < 16 → List.getD (vec 16 A) i 0 = (A i : Int) := fun i h => getD_vec h
  simp only [f12.F, f12.T]
  rw [g 0 (by decide), g 1 (by decide), g 2 (by decide), g 3 (by decide), g 4 (by decide), g 5 (by decide), g 6 (by decide), g 7 (by decide), g 8 (by decide), g 9 (by decide), g 10 (by decide), g 11 (by decide), g 12 (by decide), g 13 (by decide), g 14 (by decide), g 15 (by decide)]
  have f := fun i j => four (A i) (A j) (hA i) (hA j)
  have sz : ((ByteArray.size f12.k0 : Nat) : Int) = 16 := rfl
  have c : ∀ n : Nat, n < 16 → decide ((0 : Int) ≤ (n : Int) ∧ (n : Int) < 16) = true := fun n h => decide_eq_true (by omega)
  have hd : ∀ n, A n / 16 < 16 := fun n => by have := hA n; omega
  have hm : ∀ n, A n % 16 < 16 := fun n => Nat.mod_lt _ (by decide)
  simp only [(f 0 1).1, (f 0 1).2.1, (f 0 1).2.2.1, (f 0 1).2.2.2, (f 2 3).1, (f 2 3).2.1, (f 2 3).2.2.1, (f 2 3).2.2.2, (f 4 5).1, (f 4 5).2.1, (f 4 5).2.2.1, (f 4 5).2.2.2, (f 6 7).1, (f 6 7).2.1, (f 6 7).2.2.1, (f 6 7).2.2.2,
    (f 8 9).1, (f 8 9).2.1, (f 8 9).2.2.1, (f 8 9).2.2.2, (f 10 11).1, (f 10 11).2.1, (f 10 11).2.2.1, (f 10 11).2.2.2, (f 12 13).1, (f 12 13).2.1, (f 12 13).2.2.1, (f 12 13).2.2.2, (f 14 15).1, (f 14 15).2.1, (f 14 15).2.2.1, (f 14 15).2.2.2,
    sz, c _ (hd _), c _ (hm _), cond_t, Int.toNat_natCast, Tg.digit _ (hd _), Tg.digit _ (hm _)]
  rfl
end Go.Proofs

namespace Go.Proofs
open Go.VM
def Tg.byte (s : ByteArray) (i : Nat) : Nat := (s.get! i).toNat
theorem Tg.byte_lt (s : ByteArray) (i : Nat) : Tg.byte s i < 256 := (s.get! i).toNat_lt
theorem decode_low {s : ByteArray} {i : Nat} (h : Tg.byte s i < 128) : Utf8.decode s i = (Tg.byte s i, 1) := by
  unfold Utf8.decode
  simp only [Nat.add_zero]
  rw [if_pos (show (s.get! i).toNat < 128 from h)]
  rfl
theorem decode_high {s : ByteArray} {i : Nat} (h : ¬ Tg.byte s i < 128) : 128 ≤ (Utf8.decode s i).1 ∧ (Utf8.decode s i).1 < 2147483648 := by
  have hb := Tg.byte_lt s i
  have b1 := Tg.byte_lt s (i + 1)
  have b2 := Tg.byte_lt s (i + 2)
  have b3 := Tg.byte_lt s (i + 3)
  unfold Tg.byte at h hb b1 b2 b3
  unfold Utf8.decode Utf8.runeError
  simp only [Nat.add_zero]
  rw [if_neg h]
  split
  · split <;> dsimp only <;> omega
  · split
    · split
      · rename_i h2; simp only [ge_iff_le, Bool.and_eq_true, decide_eq_true_eq] at h2; dsimp only; omega
      · dsimp only; omega
    · split
      · split
        · rename_i h2; simp only [ge_iff_le, Bool.and_eq_true, decide_eq_true_eq] at h2; dsimp only; omega
        · dsimp only; omega
      · dsimp only; omega
def Tg.val (c : Nat) : Option Nat := if 48 ≤ c ∧ c ≤ 57 then some (c - 48) else if 97 ≤ c ∧ c ≤ 102 then some (c - 87) else none
theorem Tg.val_lt {c n : Nat} (h : Tg.val c = some n) : n < 16 ∧ c < 128 ∧ c ≠ 58 := by
  unfold Tg.val at h
  split at h
  · simp only [Option.some.injEq] at h; omega
  · split at h
    · simp only [Option.some.injEq] at h; omega
    · cases h
theorem Tg.val_hex {n : Nat} (h : n < 16) : Tg.val (Tg.hex n) = some n := by
  unfold Tg.val Tg.hex
  split
  · rw [if_pos (by omega)]; congr 1; omega
  · rw [if_neg (by omega), if_pos (by omega)]; congr 1; omega
theorem Tg.hex_val {c n : Nat} (h : Tg.val c = some n) : Tg.hex n = c := by
  unfold Tg.val at h
  unfold Tg.hex
  split at h
  · simp only [Option.some.injEq] at h; split <;> omega
  · split at h
    · simp only [Option.some.injEq] at h; split <;> omega
    · cases h
theorem wrap_32 (z : Int) (h1 : -2147483648 ≤ z) (h2 : z < 2147483648) : IntKind.wrap .i32 z = z := by
  simp only [IntKind.wrap, IntKind.bits, IntKind.signed, Bool.true_and]
  split <;> rename_i h <;> simp at h <;> omega
theorem f16.spec (K c : Nat) (hc : c < 2147483648) : f16.F K (c : Int) = some (match Tg.val c with | some n => (n : Int) | none => -1) := by
  simp only [f16.F, f16.T]
  unfold Tg.val
  by_cases h1 : 48 ≤ c ∧ c ≤ 57
  · rw [if_pos h1, decide_eq_true (show (c : Int) ≥ 48 by omega), cond_t, decide_eq_true (show (c : Int) ≤ 57 by omega), cond_t, wrap_32 _ (by omega) (by omega), wrap_i _ (by omega) (by omega)]
    simp only []
    congr 1; omega
  · rw [if_neg h1]
    by_cases h2 : 97 ≤ c ∧ c ≤ 102
    · rw [if_pos h2, decide_eq_true (show (c : Int) ≥ 48 by omega), cond_t, decide_eq_false (show ¬ (c : Int) ≤ 57 by omega), cond_f, decide_eq_true (show (c : Int) ≥ 97 by omega), cond_t, decide_eq_true (show (c : Int) ≤ 102 by omega), cond_t, wrap_32 _ (by omega) (by omega), wrap_i ((c : Int) - 97) (by omega) (by omega), wrap_i _ (by omega) (by omega)]
      simp only []
      congr 1; omega
    · rw [if_neg h2]
      simp only []
      by_cases h3 : 48 ≤ c
      · rw [decide_eq_true (show (c : Int) ≥ 48 by omega), cond_t, decide_eq_false (show ¬ (c : Int) ≤ 57 by omega), cond_f]
        by_cases h4 : 97 ≤ c
        · rw [decide_eq_true (show (c : Int) ≥ 97 by omega), cond_t, decide_eq_false (show ¬ (c : Int) ≤ 102 by omega), cond_f]
        · rw [decide_eq_false (show ¬ (c : Int) ≥ 97 by omega), cond_f]
      · rw [decide_eq_false (show ¬ (c : Int) ≥ 48 by omega), cond_f, decide_eq_false (show ¬ (c : Int) ≥ 97 by omega), cond_f]
def Tg.good (s : ByteArray) (i : Nat) : Prop := if i % 5 = 4 then Tg.byte s i = 58 else (Tg.val (Tg.byte s i)).isSome = true
instance (s : ByteArray) (i : Nat) : Decidable (Tg.good s i) := by unfold Tg.good; infer_instance
def Tg.at' (k : Nat) : Nat := 5 * (k / 2) + 2 * (k % 2)
def Tg.dig (s : ByteArray) (i : Nat) : Nat := (Tg.val (Tg.byte s i)).getD 0
def Tg.part (s : ByteArray) (i k : Nat) : Nat := (if Tg.at' k < i then 16 * Tg.dig s (Tg.at' k) else 0) + (if Tg.at' k + 1 < i then Tg.dig s (Tg.at' k + 1) else 0)
def Tg.oct (s : ByteArray) (k : Nat) : Nat := 16 * Tg.dig s (Tg.at' k) + Tg.dig s (Tg.at' k + 1)
theorem Tg.dig_lt (s : ByteArray) (i : Nat) : Tg.dig s i < 16 := by
  unfold Tg.dig
  cases h : Tg.val (Tg.byte s i) with
  | none => simp
  | some n => exact (Tg.val_lt h).1
theorem Tg.part_same (s : ByteArray) (i k : Nat) (h1 : Tg.at' k ≠ i) (h2 : Tg.at' k + 1 ≠ i) : Tg.part s i k = Tg.part s (i + 1) k := by
  unfold Tg.part
  congr 1
  · by_cases h : Tg.at' k < i
    · rw [if_pos h, if_pos (by omega)]
    · rw [if_neg h, if_neg (by omega)]
  · by_cases h : Tg.at' k + 1 < i
    · rw [if_pos h, if_pos (by omega)]
    · rw [if_neg h, if_neg (by omega)]
theorem f6.bad (K : Nat) (s : ByteArray) (b : List Int) (i : Nat) (hs : i < s.size) (h : ¬ Tg.good s i) (rec : List Int × ByteArray × Nat → Option ((Int × List Int) ⊕ (List Int))) :
    f6.s0 K rec (b, s, i) = some (.inl (4, [0, 0, 0, 0, 0, 0, 0, 0, 0, 0, 0, 0, 0, 0, 0, 0])) := by
  simp only [f6.s0, f6.s0t]
  rw [show Nat.blt i (ByteArray.size s) = true from by simp [Nat.blt_eq, hs], cond_t]
  have t5 : Int.tmod ((i : Nat) : Int) 5 = ((i % 5 : Nat) : Int) := tmod_nat i 5
  rw [t5]
  obtain ⟨c, hc, h31, hg⟩ : ∃ c, (Utf8.decode s i).1 = c ∧ c < 2147483648 ∧ ((i % 5 = 4 ∧ c ≠ 58) ∨ (i % 5 ≠ 4 ∧ Tg.val c = none)) := by
    by_cases hl : Tg.byte s i < 128
    · refine ⟨Tg.byte s i, by rw [decode_low hl], by omega, ?_⟩
      unfold Tg.good at h
      by_cases h5 : i % 5 = 4
      · rw [if_pos h5] at h; exact .inl ⟨h5, h⟩
      · rw [if_neg h5] at h; exact .inr ⟨h5, by simpa using h⟩
    · obtain ⟨h1, h2⟩ := decode_high hl
      refine ⟨_, rfl, h2, ?_⟩
      by_cases h5 : i % 5 = 4
      · exact .inl ⟨h5, by omega⟩
      · refine .inr ⟨h5, ?_⟩
        unfold Tg.val
        rw [if_neg (by omega), if_neg (by omega)]
  rw [hc, f16.spec K c h31, bind_s]
  rcases hg with ⟨h5, h58⟩ | ⟨h5, hv⟩
  · rw [show (((i % 5 : Nat) : Int) == 4) = true from beq_iff_eq.2 (by omega), show ((c : Int) == 58) = false from beq_eq_false_iff_ne.2 (by omega)]
    rfl
  · rw [hv]
    simp only []
    rw [show (((i % 5 : Nat) : Int) == 4) = false from beq_eq_false_iff_ne.2 (by omega)]
    by_cases h58 : c = 58
    · rw [show ((c : Int) == 58) = true from beq_iff_eq.2 (by omega)]; rfl
    · rw [show ((c : Int) == 58) = false from beq_eq_false_iff_ne.2 (by omega), show (!(false == false)) = false from rfl, cond_f, show (((i % 5 : Nat) : Int) != 4) = true from bne_iff_ne.2 (by omega), cond_t]
      rfl
theorem shift_by (r : Nat) (h : r < 4) : Int.tmod (List.getD [12, 8, 4, 0] (0 + r) 0) 8 = if r % 2 = 0 then (4 : Int) else 0 := by
  match r, h with
  | 0, _ | 1, _ | 2, _ | 3, _ => rfl
theorem f6.good (K : Nat) (s : ByteArray) (i : Nat) (hs : s.size = 39) (hi : i < 39) (h : Tg.good s i) (rec : List Int × ByteArray × Nat → Option ((Int × List Int) ⊕ (List Int))) :
    f6.s0 K rec (vec 16 (Tg.part s i), s, i) = rec (vec 16 (Tg.part s (i + 1)), s, i + 1) := by
  simp only [f6.s0, f6.s0t]
  rw [show Nat.blt i (ByteArray.size s) = true from by simp [Nat.blt_eq, hs, hi], cond_t]
  have t5 : Int.tmod ((i : Nat) : Int) 5 = ((i % 5 : Nat) : Int) := tmod_nat i 5
  unfold Tg.good at h
  by_cases h5 : i % 5 = 4
  · rw [if_pos h5] at h
    rw [t5, decode_low (by omega), h, f16.spec K 58 (by decide), bind_s]
    simp only []
    rw [show (((i % 5 : Nat) : Int) == 4) = true from beq_iff_eq.2 (by omega), show (((58 : Nat) : Int) == 58) = true from rfl, show (!(true == true)) = false from rfl, cond_f, show (((i % 5 : Nat) : Int) != 4) = false from by rw [bne_eq_false_iff_eq]; omega, cond_f, cond_f]
    congr 2
    refine vec_congr fun k _ => ?_
    exact Tg.part_same s i k (by unfold Tg.at'; omega) (by unfold Tg.at'; omega)
  · rw [if_neg h5] at h
    obtain ⟨n, hn⟩ := Option.isSome_iff_exists.1 h
    obtain ⟨n16, c128, c58⟩ := Tg.val_lt hn
    have hd : Tg.dig s i = n := by unfold Tg.dig; rw [hn]; rfl
    have v12 : IntKind.wrap .i64 ((IntKind.wrap .i64 (2 * (IntKind.wrap .i64 (Int.tdiv ((i : Nat) : Int) 5)))) + (IntKind.wrap .i64 (Int.tdiv ((i % 5 : Nat) : Int) 2))) = ((2 * (i / 5) + i % 5 / 2 : Nat) : Int) := by
      rw [show Int.tdiv ((i : Nat) : Int) 5 = ((i / 5 : Nat) : Int) from tdiv_nat i 5, show Int.tdiv ((i % 5 : Nat) : Int) 2 = ((i % 5 / 2 : Nat) : Int) from tdiv_nat _ 2,
        wrap_i ((i / 5 : Nat) : Int) (by omega) (by omega), wrap_i (2 * ((i / 5 : Nat) : Int)) (by omega) (by omega), wrap_i ((i % 5 / 2 : Nat) : Int) (by omega) (by omega), wrap_i _ (by omega) (by omega)]
      omega
    rw [t5, decode_low (by omega), f16.spec K _ (by omega), bind_s, hn]
    simp only []
    rw [show (((i % 5 : Nat) : Int) == 4) = false from beq_eq_false_iff_ne.2 (by omega), show (((Tg.byte s i : Nat) : Int) == 58) = false from beq_eq_false_iff_ne.2 (by omega), show (!(false == false)) = false from rfl, cond_f,
      show (((i % 5 : Nat) : Int) != 4) = true from bne_iff_ne.2 (by omega), cond_t, decide_eq_false (show ¬ ((n : Int) < 0) by omega), cond_f, cond_t, v12]
    have k16 : 2 * (i / 5) + i % 5 / 2 < 16 := by omega
    rw [decide_eq_true (show (0 : Int) ≤ ((2 * (i / 5) + i % 5 / 2 : Nat) : Int) ∧ ((2 * (i / 5) + i % 5 / 2 : Nat) : Int) < 16 by omega), cond_t, decide_eq_true (show (0 : Int) ≤ ((i % 5 : Nat) : Int) ∧ ((i % 5 : Nat) : Int) < 4 by omega), cond_t]
    simp only [Int.toNat_natCast]
    rw [show Nat.blt (0 + i % 5) 4 = true from by simp [Nat.blt_eq]; omega, cond_t]
    simp only [shift_by _ (show i % 5 < 4 by omega)]
    have hk : Tg.at' (2 * (i / 5) + i % 5 / 2) = if i % 5 % 2 = 0 then i else i - 1 := by unfold Tg.at'; split <;> omega
    have fin : ∀ sh : Nat, (sh = if i % 5 % 2 = 0 then 4 else 0) → setD (vec 16 (Tg.part s i)) (2 * (i / 5) + i % 5 / 2) (bits .or .u8 (List.getD (vec 16 (Tg.part s i)) (2 * (i / 5) + i % 5 / 2) 0) (IntKind.wrap .u8 (shiftI .shl .i64 (n : Int) (sh : Int)))) = vec 16 (Tg.part s (i + 1)) := by
      intro sh hsh
      have e1 : shiftI .shl .i64 (n : Int) (sh : Int) = ((n * 2 ^ sh : Nat) : Int) := by
        unfold shiftI
        simp only [Int.toNat_natCast]
        by_cases he : i % 5 % 2 = 0
        · rw [if_pos he] at hsh; subst hsh
          rw [show min 4 IntKind.i64.bits = 4 from rfl, wrap_i _ (by omega) (by omega)]; omega
        · rw [if_neg he] at hsh; subst hsh
          rw [show min 0 IntKind.i64.bits = 0 from rfl, wrap_i _ (by omega) (by omega)]; omega
      have dl := Tg.dig_lt s
      rw [e1, getD_vec k16]
      by_cases he : i % 5 % 2 = 0
      · rw [if_pos he] at hsh hk; subst hsh
        have p0 : Tg.part s i (2 * (i / 5) + i % 5 / 2) = 0 := by unfold Tg.part; rw [hk, if_neg (by omega), if_neg (by omega)]
        rw [p0, wrap_8 _ (by omega) (by omega), or_u8 _ _ (by omega) (by omega), Nat.zero_or, setD_vec k16]
        refine vec_congr fun j _ => ?_
        by_cases hj : j = 2 * (i / 5) + i % 5 / 2
        · subst hj
          rw [if_pos rfl]; unfold Tg.part; rw [hk, if_pos (by omega), if_neg (by omega), hd]; omega
        · rw [if_neg hj]
          exact Tg.part_same s i j (by unfold Tg.at'; omega) (by unfold Tg.at'; omega)
      · rw [if_neg he] at hsh hk; subst hsh
        have p0 : Tg.part s i (2 * (i / 5) + i % 5 / 2) = Tg.dig s (i - 1) * 2 ^ 4 := by unfold Tg.part; rw [hk, if_pos (by omega), if_neg (by omega)]; omega
        have d16 := dl (i - 1)
        rw [p0, Nat.pow_zero, Nat.mul_one, wrap_8 _ (by omega) (by omega), or_u8 _ _ (by omega) (by omega), or_add _ _ 4 (by omega), setD_vec k16]
        refine vec_congr fun j _ => ?_
        by_cases hj : j = 2 * (i / 5) + i % 5 / 2
        · subst hj
          rw [if_pos rfl]; unfold Tg.part; rw [hk, if_pos (by omega), if_pos (by omega), show i - 1 + 1 = i by omega, hd]; omega
        · rw [if_neg hj]
          exact Tg.part_same s i j (by unfold Tg.at'; omega) (by unfold Tg.at'; omega)
    by_cases he : i % 5 % 2 = 0
    · rw [if_pos he, show decide ((0 : Int) ≤ 4) = true from rfl, cond_t, cond_t]
      have := fin 4 (by rw [if_pos he])
      rw [show ((4 : Nat) : Int) = 4 from rfl] at this
      rw [this]
    · rw [if_neg he, show decide ((0 : Int) ≤ 0) = true from rfl, cond_t, cond_t]
      have := fin 0 (by rw [if_neg he])
      rw [show ((0 : Nat) : Int) = 0 from rfl] at this
      rw [this]
end Go.Proofs

namespace Go.Proofs
open Go.VM
theorem Tg.alt_l {A B C : Type} (f : A → C) (g : B → C) (a : A) : alt f g (.inl a) = f a := Eq.trans (show alt f g (.inl a) = f a from by unfold alt; rfl) (Eq.symm (Eq.symm rfl))
theorem Tg.alt_r {A B C : Type} (f : A → C) (g : B → C) (b : B) : alt f g (.inr b) = g b := Eq.trans (show alt f g (.inr b) = g b from by unfold alt; rfl) (Eq.symm (Eq.symm rfl))
theorem f6.other (K : Nat) (s : ByteArray) (h : s.size ≠ 39) : f6.F K s = some ([0, 0, 0, 0, 0, 0, 0, 0, 0, 0, 0, 0, 0, 0, 0, 0], 4) := by
  simp only [f6.F, f6.T]
  rw [show (((ByteArray.size s : Nat) : Int) != 39) = true from bne_iff_ne.2 (by omega), cond_t]
theorem zeros16 : ([0, 0, 0, 0, 0, 0, 0, 0, 0, 0, 0, 0, 0, 0, 0, 0] : List Int) = vec 16 fun _ => 0 := rfl
theorem Tg.part_zero (s : ByteArray) : vec 16 (Tg.part s 0) = [0, 0, 0, 0, 0, 0, 0, 0, 0, 0, 0, 0, 0, 0, 0, 0] := by
  rw [zeros16]
  exact vec_congr fun k _ => by unfold Tg.part; rw [if_neg (by omega), if_neg (by omega)]
theorem Tg.part_all (s : ByteArray) : vec 16 (Tg.part s 39) = vec 16 (Tg.oct s) :=
  vec_congr fun k hk => by unfold Tg.part Tg.oct; rw [if_pos (by unfold Tg.at'; omega), if_pos (by unfold Tg.at'; omega)]
theorem f6.ok' (K : Nat) (s : ByteArray) (hs : s.size = 39) (hg : ∀ i, i < 39 → Tg.good s i) (hK : 39 < K) : f6.F K s = some (vec 16 (Tg.oct s), 0) := by
  simp only [f6.F, f6.T]
  rw [show (((ByteArray.size s : Nat) : Int) != 39) = false from by rw [bne_eq_false_iff_eq]; omega, cond_f]
  have := iter_for (stp := f6.s0 K) (N := 39) (fun i => (vec 16 (Tg.part s i), s, i)) (y := some (.inr (vec 16 (Tg.oct s)))) (fun i hi rec => f6.good K s i hs hi (hg i hi) rec) (fun rec => ?_) hK
  · simp only [Tg.part_zero] at this
    rw [this, bind_s, Tg.alt_r]
  · simp only [f6.s0, f6.s0t]
    rw [show Nat.blt 39 (ByteArray.size s) = false from by rw [hs]; rfl, cond_f, Tg.part_all]
theorem f6.no (K : Nat) (s : ByteArray) (hs : s.size = 39) (hg : ∃ i, i < 39 ∧ ¬ Tg.good s i) (hK : 39 < K) : f6.F K s = some ([0, 0, 0, 0, 0, 0, 0, 0, 0, 0, 0, 0, 0, 0, 0, 0], 4) := by
  have first : ∀ n, (∃ i, i < n ∧ ¬ Tg.good s i) → ∃ i, i < n ∧ ¬ Tg.good s i ∧ ∀ j, j < i → Tg.good s j := by
    intro n
    induction n with
    | zero => rintro ⟨i, hi, _⟩; omega
    | succ n ih =>
      rintro ⟨i, hi, hb⟩
      by_cases h : ∃ j, j < n ∧ ¬ Tg.good s j
      · obtain ⟨j, h1, h2⟩ := ih h; exact ⟨j, by omega, h2⟩
      · refine ⟨i, hi, hb, fun j hj => ?_⟩
        exact Decidable.not_not.1 fun hn => h ⟨j, by omega, hn⟩
  obtain ⟨i, hi, hb, hall⟩ := first 39 hg
  simp only [f6.F, f6.T]
  rw [show (((ByteArray.size s : Nat) : Int) != 39) = false from by rw [bne_eq_false_iff_eq]; omega, cond_f]
  have := iter_for (stp := f6.s0 K) (N := i) (fun i => (vec 16 (Tg.part s i), s, i)) (y := some (.inl (4, [0, 0, 0, 0, 0, 0, 0, 0, 0, 0, 0, 0, 0, 0, 0, 0]))) (fun j hj rec => f6.good K s j hs (by omega) (hall j hj) rec) (fun rec => f6.bad K s _ i (by omega) hb rec) (show i < K by omega)
  simp only [Tg.part_zero] at this
  rw [this, bind_s, Tg.alt_l]
theorem mkStr_size (l : List Int) : (mkStr l).size = l.length := by
  show (mkStr l).data.size = l.length
  simp [mkStr]
theorem mkStr_byte (f : Nat → Nat) (n i : Nat) (hi : i < n) (hf : f i < 256) : Tg.byte (mkStr ((List.range n).map fun i => (f i : Int))) i = f i := by
  show ((mkStr _).data[i]!).toNat = f i
  have : (mkStr ((List.range n).map fun i => (f i : Int))).data = ((List.range n).map fun i => UInt8.ofNat (f i)).toArray := by
    simp [mkStr]
  rw [this]
  simp [hi]
  omega
theorem bytes_ext {a b : ByteArray} (hs : a.size = b.size) (h : ∀ i, i < a.size → Tg.byte a i = Tg.byte b i) : a = b := by
  cases a with | mk da => cases b with | mk db =>
  congr 1
  refine Array.ext hs fun i h1 h2 => ?_
  have := h i h1
  have e1 : (da[i]!).toNat = (db[i]!).toNat := this
  rw [getElem!_pos da i h1, getElem!_pos db i h2] at e1
  exact UInt8.toNat_inj.1 e1
theorem Tg.chr_lt (A : Nat → Nat) (hA : ∀ i, A i < 256) (i : Nat) : Tg.chr A i < 128 := by
  unfold Tg.chr
  have := hA (2 * (i / 5) + i % 5 / 2)
  split
  · decide
  · split
    · exact Tg.hex_lt (by omega)
    · exact Tg.hex_lt (by omega)
theorem Tg.text_byte (A : Nat → Nat) (hA : ∀ i, A i < 256) (i : Nat) (hi : i < 39) : Tg.byte (mkStr (Tg.text A)) i = Tg.chr A i :=
  mkStr_byte (Tg.chr A) 39 i hi (by have := Tg.chr_lt A hA i; omega)
theorem Tg.text_size (A : Nat → Nat) : (mkStr (Tg.text A)).size = 39 := by rw [mkStr_size]; simp [Tg.text]
theorem Tg.text_good (A : Nat → Nat) (hA : ∀ i, A i < 256) (i : Nat) (hi : i < 39) : Tg.good (mkStr (Tg.text A)) i := by
  unfold Tg.good
  rw [Tg.text_byte A hA i hi]
  unfold Tg.chr
  have := hA (2 * (i / 5) + i % 5 / 2)
  by_cases h : i % 5 = 4
  · rw [if_pos h, if_pos h]
  · rw [if_neg h, if_neg h]
    split
    · rw [Tg.val_hex (by omega)]; rfl
    · rw [Tg.val_hex (by omega)]; rfl
theorem Tg.text_oct (A : Nat → Nat) (hA : ∀ i, A i < 256) (k : Nat) (hk : k < 16) : Tg.oct (mkStr (Tg.text A)) k = A k := by
  have := hA k
  unfold Tg.oct Tg.dig
  rw [Tg.text_byte A hA _ (by unfold Tg.at'; omega), Tg.text_byte A hA _ (by unfold Tg.at'; omega)]
  have e1 : Tg.chr A (Tg.at' k) = Tg.hex (A k / 16) := by
    unfold Tg.chr Tg.at'
    rw [show (5 * (k / 2) + 2 * (k % 2)) / 5 = k / 2 by omega, show (5 * (k / 2) + 2 * (k % 2)) % 5 = 2 * (k % 2) by omega, if_neg (by omega), if_pos (by omega), show 2 * (k / 2) + 2 * (k % 2) / 2 = k by omega]
  have e2 : Tg.chr A (Tg.at' k + 1) = Tg.hex (A k % 16) := by
    unfold Tg.chr Tg.at'
    rw [show (5 * (k / 2) + 2 * (k % 2) + 1) / 5 = k / 2 by omega, show (5 * (k / 2) + 2 * (k % 2) + 1) % 5 = 2 * (k % 2) + 1 by omega, if_neg (by omega), if_neg (by omega), show 2 * (k / 2) + (2 * (k % 2) + 1) / 2 = k by omega]
  rw [e1, e2, Tg.val_hex (by omega), Tg.val_hex (by omega)]
  simp only [Option.getD_some]
  omega
theorem f6.text (K : Nat) (A : Nat → Nat) (hA : ∀ i, A i < 256) (hK : 39 < K) : f6.F K (mkStr (Tg.text A)) = some (vec 16 A, 0) := by
  rw [f6.ok' K _ (Tg.text_size A) (Tg.text_good A hA) hK, vec_congr fun k hk => Tg.text_oct A hA k hk]
theorem Tg.oct_lt (s : ByteArray) (k : Nat) : Tg.oct s k < 256 := by
  unfold Tg.oct
  have := Tg.dig_lt s (Tg.at' k)
  have := Tg.dig_lt s (Tg.at' k + 1)
  omega
theorem Tg.text_back (s : ByteArray) (hs : s.size = 39) (hg : ∀ i, i < 39 → Tg.good s i) : mkStr (Tg.text (Tg.oct s)) = s := by
  refine bytes_ext (by rw [Tg.text_size, hs]) fun i hi => ?_
  rw [Tg.text_size] at hi
  rw [Tg.text_byte _ (Tg.oct_lt s) i hi]
  have h := hg i hi
  unfold Tg.good at h
  unfold Tg.chr
  by_cases h5 : i % 5 = 4
  · rw [if_pos h5] at h ⊢; exact h.symm
  · rw [if_neg h5] at h ⊢
    obtain ⟨n, hn⟩ := Option.isSome_iff_exists.1 h
    have hd : Tg.dig s i = n := by unfold Tg.dig; rw [hn]; rfl
    have d1 := Tg.dig_lt s (Tg.at' (2 * (i / 5) + i % 5 / 2))
    have d2 := Tg.dig_lt s (Tg.at' (2 * (i / 5) + i % 5 / 2) + 1)
    by_cases he : i % 5 % 2 = 0
    · have e : Tg.at' (2 * (i / 5) + i % 5 / 2) = i := by unfold Tg.at'; omega
      rw [if_pos he]
      unfold Tg.oct
      rw [e] at d1 d2 ⊢
      rw [show (16 * Tg.dig s i + Tg.dig s (i + 1)) / 16 = Tg.dig s i by omega, hd, Tg.hex_val hn]
    · have e : Tg.at' (2 * (i / 5) + i % 5 / 2) + 1 = i := by unfold Tg.at'; omega
      rw [if_neg he]
      unfold Tg.oct
      rw [e] at d2 ⊢
      rw [show (16 * Tg.dig s (Tg.at' (2 * (i / 5) + i % 5 / 2)) + Tg.dig s i) % 16 = Tg.dig s i by omega, hd, Tg.hex_val hn]
theorem f10.round (K : Nat) (A B : Nat → Nat) (i : Nat) (hi : i < 16) (he : A i = B i) (rec : List Int × Int × List Int → Option (Int ⊕ Unit)) :
    f10.s0 K rec (vec 16 A, (i : Int), vec 16 B) = rec (vec 16 A, ((i + 1 : Nat) : Int), vec 16 B) := by
  simp only [f10.s0, f10.s0t]
  rw [decide_eq_true (show (i : Int) < 16 by omega), cond_t, decide_eq_true (show (0 : Int) ≤ (i : Int) ∧ (i : Int) < 16 by omega), cond_t, cond_t, Int.toNat_natCast, getD_vec hi, getD_vec hi, decide_eq_false (show ¬ ((A i : Nat) : Int) < ((B i : Nat) : Int) by omega), cond_f, cond_t, decide_eq_false (show ¬ ((A i : Nat) : Int) > ((B i : Nat) : Int) by omega), cond_f, wrap_i _ (by omega) (by omega)]
  rfl
theorem f10.less (K : Nat) (A B : Nat → Nat) (i : Nat) (hi : i < 16) (he : ∀ j, j < i → A j = B j) (hl : A i < B i) (hK : 16 < K) : f10.F K (vec 16 A, vec 16 B) = some (-1) := by
  simp only [f10.F, f10.T]
  have := iter_for (stp := f10.s0 K) (N := i) (fun i => (vec 16 A, (i : Int), vec 16 B)) (y := some (.inl (-1))) (fun j hj rec => f10.round K A B j (by omega) (he j hj) rec) (fun rec => ?_) (show i < K by omega)
  · rw [show iter (f10.s0 K) K (vec 16 A, 0, vec 16 B) = _ from this, bind_s, Tg.alt_l]
  · simp only [f10.s0, f10.s0t]
    rw [decide_eq_true (show (i : Int) < 16 by omega), cond_t, decide_eq_true (show (0 : Int) ≤ (i : Int) ∧ (i : Int) < 16 by omega), cond_t, cond_t, Int.toNat_natCast, getD_vec hi, getD_vec hi, decide_eq_true (show ((A i : Nat) : Int) < ((B i : Nat) : Int) by omega), cond_t]
theorem f10.more (K : Nat) (A B : Nat → Nat) (i : Nat) (hi : i < 16) (he : ∀ j, j < i → A j = B j) (hl : B i < A i) (hK : 16 < K) : f10.F K (vec 16 A, vec 16 B) = some 1 := by
  simp only [f10.F, f10.T]
  have := iter_for (stp := f10.s0 K) (N := i) (fun i => (vec 16 A, (i : Int), vec 16 B)) (y := some (.inl 1)) (fun j hj rec => f10.round K A B j (by omega) (he j hj) rec) (fun rec => ?_) (show i < K by omega)
  · rw [show iter (f10.s0 K) K (vec 16 A, 0, vec 16 B) = _ from this, bind_s, Tg.alt_l]
  · simp only [f10.s0, f10.s0t]
    rw [decide_eq_true (show (i : Int) < 16 by omega), cond_t, decide_eq_true (show (0 : Int) ≤ (i : Int) ∧ (i : Int) < 16 by omega), cond_t, cond_t, Int.toNat_natCast, getD_vec hi, getD_vec hi, decide_eq_false (show ¬ ((A i : Nat) : Int) < ((B i : Nat) : Int) by omega), cond_f, cond_t, decide_eq_true (show ((A i : Nat) : Int) > ((B i : Nat) : Int) by omega), cond_t]
theorem f10.same (K : Nat) (A B : Nat → Nat) (he : ∀ j, j < 16 → A j = B j) (hK : 16 < K) : f10.F K (vec 16 A, vec 16 B) = some 0 := by
  simp only [f10.F, f10.T]
  have := iter_for (stp := f10.s0 K) (N := 16) (fun i => (vec 16 A, (i : Int), vec 16 B)) (y := some (.inr ())) (fun j hj rec => f10.round K A B j hj (he j hj) rec) (fun rec => ?_) (show 16 < K by omega)
  · rw [show iter (f10.s0 K) K (vec 16 A, 0, vec 16 B) = _ from this, bind_s, Tg.alt_r]
  · simp only [f10.s0, f10.s0t]
    rw [decide_eq_false (show ¬ ((16 : Nat) : Int) < 16 by omega), cond_f]
end Go.Proofs

namespace Go.Proofs
open Go.VM
def Tg.bytes (f : Nat → Nat) (n : Nat) : List UInt8 := (List.range n).map fun i => UInt8.ofNat (f i)
theorem text_list (A : Nat → Nat) : (mkStr (Tg.text A)).toList = Tg.bytes (Tg.chr A) 39 := by
  rw [ByteArray.toList_eq]
  simp [mkStr, Tg.text, Tg.bytes]
theorem three (A B : Nat → Nat) : ∀ n, (∀ j, j < n → A j = B j) ∨ ∃ k, k < n ∧ (∀ j, j < k → A j = B j) ∧ (A k < B k ∨ B k < A k)
  | 0 => .inl fun j hj => absurd hj (Nat.not_lt_zero j)
  | n + 1 => by
    rcases three A B n with h | ⟨k, h1, h2⟩
    · rcases Nat.lt_trichotomy (A n) (B n) with h3 | h3 | h3
      · exact .inr ⟨n, by omega, h, .inl h3⟩
      · refine .inl fun j hj => ?_
        by_cases hjn : j = n
        · subst hjn; exact h3
        · exact h j (by omega)
      · exact .inr ⟨n, by omega, h, .inr h3⟩
    · exact .inr ⟨k, by omega, h2⟩
theorem eqL_same (A B : Nat → Nat) (h : ∀ j, j < 16 → A j = B j) : eqL 16 (vec 16 A) (vec 16 B) = true := by
  unfold eqL
  rw [List.all_eq_true]
  intro i hi
  have hi' : i < 16 := by simpa using hi
  rw [getD_vec hi', getD_vec hi', h i hi']
  exact beq_self_eq_true _
def Tg.t0 (i : Nat) : Nat := if i = 0 then 32 else if i = 1 then 1 else if i = 3 then 33 else 0
theorem Tg.t0_lt (i : Nat) : Tg.t0 i < 256 := by unfold Tg.t0; split <;> (try split) <;> (try split) <;> decide
theorem Tg.t0_vec : ([32, 1, 0, 33, 0, 0, 0, 0, 0, 0, 0, 0, 0, 0, 0, 0] : List Int) = vec 16 Tg.t0 := by decide +kernel
theorem f5.spec (K : Nat) (hK : 39 < K) : f5.F K () = some true := by
  simp only [f5.F, f5.T]
  have e1 : strEq (mkStr (Tg.text Tg.t0)) f5.k1 = true := by
    unfold strEq
    rw [text_list, ByteArray.toList_eq]
    decide +kernel
  rw [Tg.t0_vec, f12.spec K Tg.t0 Tg.t0_lt, bind_s, f6.text K Tg.t0 Tg.t0_lt hK, bind_s, f6.other K f5.k0 (by decide), bind_s, e1, cond_t]
  simp only []
  rw [eqL_same _ _ fun _ _ => rfl, Bool.true_and, cond_t, show ((0 : Int) == 0) = true from rfl, cond_t, show ((4 : Int) == 4) = true from rfl, cond_t, f10.same K _ _ (fun _ _ => rfl) (by omega), bind_s]
  rfl
end Go.Proofs

namespace Go.Proofs
open Go.VM
abbrev f20.Ty0 := List Int × Int × Int × List Int
def f20.T (_K : Nat)  : Option (f20.Ty0) :=
  some ([0, 0, 0, 0, 0, 0, 0, 0, 0, 0, 0, 0, 0, 0, 0, 0, 0, 0, 0, 0, 0, 0, 0, 0, 0, 0, 0, 0, 0, 0, 0, 0, 0, 0, 0, 0, 0, 0, 0, 0, 0, 0, 0, 0, 0, 0, 0, 0, 0, 0, 0, 0, 0, 0, 0, 0, 0, 0, 0, 0, 0, 0, 0, 0], 0, 0, [1779033703, 3144134277, 1013904242, 2773480762, 1359893119, 2600822924, 528734635, 1541459225])
def f20.F (K : Nat) (_x : Unit) : Option (f20.Ty0) := f20.T K
def f20.av (_x : Unit) : List VV := []
def f20.bl (_x : Unit) : List (Nat × Blk) := []
def f20.inA : VS → Option (Unit)
  | ⟨[], [], 0⟩ => some ()
  | _ => none
def f20.o0 (y : f20.Ty0) : VS := ⟨[(0, .ptr 0 0)], [(0, ([.ptr 1 0, .ints .u8 64 y.1, .int .i64 y.2.1, .int .u64 y.2.2.1], 66, .norm)), (1, ([.ints .u32 8 y.2.2.2], 61, .norm))], 2⟩
def f20.inR : VS → Option (f20.Ty0)
  | ⟨[(0, .ptr 0 0)], [(0, ([.ptr 1 0, .ints .u8 64 z0_0, .int .i64 z0_1, .int .u64 z0_2], 66, .norm)), (1, ([.ints .u32 8 z1], 61, .norm))], 2⟩ => some (z0_0, z0_1, z0_2, z1)
  | _ => none
noncomputable def f20.E (K : Nat) : Entry := genE 0 f20.inA (f20.F K) (dv1 f20.o0)
theorem f20.ok (K : Nat) : EntryOK Tryd.prog 20 (f20.E K) := gen_ok mix tys_ok (tab_ok ( tab_nil)) Tryd.func20 (c := bodyOf Tryd.f20) (by kernel_rfl) (by kernel_rfl) (loops_none (lp := lpNone) (by kernel_rfl)) (av := f20.av) (bl := f20.bl) (inR := f20.inR) (out := f20.o0) (fuel := 400)
  (by intro s x h; unfold f20.inA at h; split at h <;> simp at h; rfl) (fun _ => Nat.le_of_ble_eq_true rfl)
  (by intro s y h; unfold f20.inR at h; split at h <;> simp at h <;> subst h <;> rfl) (fun _ _ _ => rfl) (fun _ => by kernel_rfl)
end Go.Proofs

namespace Go.Proofs
open Go.VM
abbrev f14.Ty0 := ByteArray × Nat × Nat × List Int
abbrev f14.Ty1 := List Int × Nat × Nat × List Int
def f14.T (K : Nat) (a0 : ByteArray) (m0 : Nat) (m2_0 : Nat) (m2_1 : List Int) : Option (f14.Ty1) :=
  (f20.F K ()).bind fun y1 =>
  let v2 := ByteArray.size a0
  bif ((Nat.ble (0 + v2) (ByteArray.size a0) && true) && true) then
    (f22.F K (0, v2, 0, [], v2, (subI (strL a0) 0 v2))).bind fun y4 =>
    (f23.F K (0, 1, 4, 0, [])).bind fun y5 =>
    bif ((Nat.ble (0 + y4.1) y4.2.2.2.2.2.1 && true) && ((Nat.ble (0 + y5.1) y5.2.2.2.2.1 && (Nat.ble y5.1 y5.2.1)) && true)) then
      (f21.F K (y1.1, y1.2.1, y1.2.2.1, y4.1, y5.1, y1.2.2.2, y4.1, (subI y4.2.2.2.2.2.2 0 y4.1), y5.1, (subI y5.2.2.2.2.2 0 y5.1))).bind fun y6 =>
      bif ((Nat.ble (0 + m0) m2_0 && true) && true) then
        (f22.F K (0, m0, 0, [], m0, (subI m2_1 0 m0))).bind fun y7 =>
        bif ((Nat.ble (0 + y7.1) y7.2.2.2.2.2.1 && true) && true) then
          (f21v1.F K (y6.1, y6.2.1, y6.2.2.1, y7.1, y6.2.2.2.2.2.2.2.2.2, y7.1, (subI y7.2.2.2.2.2.2 0 y7.1))).bind fun y8 =>
          (f24.F K (y8.1, y8.2.1, y8.2.2.1, y8.2.2.2.2.2.2)).bind fun y9 =>
          some (y9.1, m0, m2_0, m2_1)
        else
          none
      else
        none
    else
      none
  else
    none
def f14.F (K : Nat) (x : f14.Ty0) : Option (f14.Ty1) := f14.T K x.1 x.2.1 x.2.2.1 x.2.2.2
def f14.av (x : f14.Ty0) : List VV := [.str x.1, .vw true 0 0 1 1]
def f14.bl (x : f14.Ty0) : List (Nat × Blk) := [(0, ([.vw true 2 0 x.2.1 3], 0, .ro)), (2, ([.ints .u8 x.2.2.1 x.2.2.2], 0, .ro))]
def f14.inA : VS → Option (f14.Ty0)
  | ⟨[(0, .str a0), (1, .vw true 0 0 1 1)], [(0, ([.vw true 2 0 m0 3], 0, .ro)), (2, ([.ints .u8 m2_0 m2_1], 0, .ro))], 4⟩ => some (a0, m0, m2_0, m2_1)
  | _ => none
def f14.o0 (y : f14.Ty1) : VS := ⟨[(0, .agg [.ints .u8 32 y.1])], [(0, ([.vw true 2 0 y.2.1 3], 0, .ro)), (2, ([.ints .u8 y.2.2.1 y.2.2.2], 0, .ro))], 4⟩
def f14.inR : VS → Option (f14.Ty1)
  | ⟨[(0, .agg [.ints .u8 32 y])], [(0, ([.vw true 2 0 z0 3], 0, .ro)), (2, ([.ints .u8 z2_0 z2_1], 0, .ro))], 4⟩ => some (y, z0, z2_0, z2_1)
  | _ => none
noncomputable def f14.E (K : Nat) : Entry := genE 4 f14.inA (f14.F K) (dv1 f14.o0)
theorem f14.ok (K : Nat) : EntryOK Tryd.prog 14 (f14.E K) := gen_ok mix tys_ok (sp := tabSp [(20, (f20.E K)), (22, (viewE [(0, .u8), (1, .u8)] (f22.E K))), (23, (viewE [(0, .u8)] (f23.E K))), (21, (orF (fitR 1 .u8 (fitE 8 f21.inA)) (rowsE 1 .u8 (f21.E K)) (rowsE 1 .u8 (f21v1.E K)))), (24, (f24.E K))]) (tab_ok ((tab_cons (f20.ok K) (tab_cons (view_ok (f22.ok K)) (tab_cons (view_ok (f23.ok K)) (tab_cons (orF_ok (rows_ok (f21.ok K)) (rows_ok (f21v1.ok K))) (tab_cons (f24.ok K) tab_nil))))))) Tryd.func14 (c := bodyOf Tryd.f14) (by kernel_rfl) (by kernel_rfl) (loops_none (lp := lpNone) (by kernel_rfl)) (av := f14.av) (bl := f14.bl) (inR := f14.inR) (out := f14.o0) (fuel := 400)
  (by intro s x h; unfold f14.inA at h; split at h <;> simp at h; subst h; rfl) (fun _ => Nat.le_of_ble_eq_true rfl)
  (by intro s y h; unfold f14.inR at h; split at h <;> simp at h <;> subst h <;> rfl) (fun _ _ _ => rfl) (fun _ => by kernel_rfl)
end Go.Proofs

namespace Go.Proofs
open Go.VM
abbrev f27.Ty0 := Nat × Nat × Nat × List Int × Nat × List Int
abbrev f27.Ty1 := ByteArray × Nat × Nat × List Int
def f27.T (K : Nat) (a0 : ByteArray) (m0 : Nat) (m2_0 : Nat) (m2_1 : List Int) : Option (f27.Ty0) :=
  let v1 := ByteArray.size a0
  bif ((Nat.ble (0 + v1) (ByteArray.size a0) && true) && true) then
    (f36.F K (0, v1, 0, [], v1, (subI (strL a0) 0 v1))).bind fun y3 =>
    bif ((Nat.ble (0 + y3.1) y3.2.2.2.2.2.1 && true) && true) then
      (f37.F K (y3.1, 1, 4, y3.1, (subI y3.2.2.2.2.2.2 0 y3.1))).bind fun y4 =>
      bif ((Nat.ble (0 + y4.1) y4.2.2.2.1 && true) && ((Nat.ble (0 + m0) m2_0 && true) && true)) then
        (f36.F K (y4.1, m0, y4.1, (subI y4.2.2.2.2 0 y4.1), m0, (subI m2_1 0 m0))).bind fun y5 =>
        some (y5.1, m0, m2_0, m2_1, y5.2.2.2.2.2.1, y5.2.2.2.2.2.2)
      else
        none
    else
      none
  else
    none
def f27.F (K : Nat) (x : f27.Ty1) : Option (f27.Ty0) := f27.T K x.1 x.2.1 x.2.2.1 x.2.2.2
def f27.av (x : f27.Ty1) : List VV := [.str x.1, .vw true 0 0 1 1]
def f27.bl (x : f27.Ty1) : List (Nat × Blk) := [(0, ([.vw true 2 0 x.2.1 3], 0, .ro)), (2, ([.ints .u8 x.2.2.1 x.2.2.2], 0, .ro))]
def f27.inA : VS → Option (f27.Ty1)
  | ⟨[(0, .str a0), (1, .vw true 0 0 1 1)], [(0, ([.vw true 2 0 m0 3], 0, .ro)), (2, ([.ints .u8 m2_0 m2_1], 0, .ro))], 4⟩ => some (a0, m0, m2_0, m2_1)
  | _ => none
def f27.o0 (y : f27.Ty0) : VS := ⟨[(0, .vec 4 0 y.1 5)], [(0, ([.vw true 2 0 y.2.1 3], 0, .ro)), (2, ([.ints .u8 y.2.2.1 y.2.2.2.1], 0, .ro)), (4, ([.ints .u8 y.2.2.2.2.1 y.2.2.2.2.2], 5, .vec 5))], 6⟩
def f27.inR : VS → Option (f27.Ty0)
  | ⟨[(0, .vec 4 0 y 5)], [(0, ([.vw true 2 0 z0 3], 0, .ro)), (2, ([.ints .u8 z2_0 z2_1], 0, .ro)), (4, ([.ints .u8 z4_0 z4_1], 5, .vec 5))], 6⟩ => some (y, z0, z2_0, z2_1, z4_0, z4_1)
  | _ => none
noncomputable def f27.E (K : Nat) : Entry := genE 4 f27.inA (f27.F K) (dv1 f27.o0)
theorem f27.ok (K : Nat) : EntryOK Tryd.prog 27 (f27.E K) := gen_ok mix tys_ok (sp := tabSp [(36, (viewE [(0, .u8), (1, .u8)] (f36.E K))), (37, (viewE [(0, .u8)] (f37.E K)))]) (tab_ok ((tab_cons (view_ok (f36.ok K)) (tab_cons (view_ok (f37.ok K)) tab_nil)))) Tryd.func27 (c := bodyOf Tryd.f27) (by kernel_rfl) (by kernel_rfl) (loops_none (lp := lpNone) (by kernel_rfl)) (av := f27.av) (bl := f27.bl) (inR := f27.inR) (out := f27.o0) (fuel := 400)
  (by intro s x h; unfold f27.inA at h; split at h <;> simp at h; subst h; rfl) (fun _ => Nat.le_of_ble_eq_true rfl)
  (by intro s y h; unfold f27.inR at h; split at h <;> simp at h <;> subst h <;> rfl) (fun _ _ _ => rfl) (fun _ => by kernel_rfl)
end Go.Proofs

namespace Go.Proofs
open Go.VM
abbrev f18.Ty0 := ByteArray × Nat × Nat × List Int
abbrev f18.Ty1 := List Int × Nat × Nat × List Int
def f18.T (K : Nat) (a0 : ByteArray) (m0 : Nat) (m2_0 : Nat) (m2_1 : List Int) : Option (f18.Ty1) :=
  bif ((Nat.ble (0 + m0) m2_0 && true) && true) then
    (f27.F K (a0, m0, m0, (subI m2_1 0 m0))).bind fun y1 =>
    bif ((Nat.ble (0 + y1.1) y1.2.2.2.2.1 && true) && true) then
      (f26.F K (y1.1, y1.1, (subI y1.2.2.2.2.2 0 y1.1))).bind fun y2 =>
      some (y2.1, m0, m2_0, m2_1)
    else
      none
  else
    none
def f18.F (K : Nat) (x : f18.Ty0) : Option (f18.Ty1) := f18.T K x.1 x.2.1 x.2.2.1 x.2.2.2
def f18.av (x : f18.Ty0) : List VV := [.str x.1, .vw true 0 0 1 1]
def f18.bl (x : f18.Ty0) : List (Nat × Blk) := [(0, ([.vw true 2 0 x.2.1 3], 0, .ro)), (2, ([.ints .u8 x.2.2.1 x.2.2.2], 0, .ro))]
def f18.inA : VS → Option (f18.Ty0)
  | ⟨[(0, .str a0), (1, .vw true 0 0 1 1)], [(0, ([.vw true 2 0 m0 3], 0, .ro)), (2, ([.ints .u8 m2_0 m2_1], 0, .ro))], 4⟩ => some (a0, m0, m2_0, m2_1)
  | _ => none
def f18.o0 (y : f18.Ty1) : VS := ⟨[(0, .agg [.ints .u8 32 y.1])], [(0, ([.vw true 2 0 y.2.1 3], 0, .ro)), (2, ([.ints .u8 y.2.2.1 y.2.2.2], 0, .ro))], 4⟩
def f18.inR : VS → Option (f18.Ty1)
  | ⟨[(0, .agg [.ints .u8 32 y])], [(0, ([.vw true 2 0 z0 3], 0, .ro)), (2, ([.ints .u8 z2_0 z2_1], 0, .ro))], 4⟩ => some (y, z0, z2_0, z2_1)
  | _ => none
noncomputable def f18.E (K : Nat) : Entry := genE 4 f18.inA (f18.F K) (dv1 f18.o0)
theorem f18.ok (K : Nat) : EntryOK Tryd.prog 18 (f18.E K) := gen_ok mix tys_ok (sp := tabSp [(27, (rowsE 1 .u8 (f27.E K))), (26, (viewE [(0, .u8)] (f26.E K)))]) (tab_ok ((tab_cons (rows_ok (f27.ok K)) (tab_cons (view_ok (f26.ok K)) tab_nil)))) Tryd.func18 (c := bodyOf Tryd.f18) (by kernel_rfl) (by kernel_rfl) (loops_none (lp := lpNone) (by kernel_rfl)) (av := f18.av) (bl := f18.bl) (inR := f18.inR) (out := f18.o0) (fuel := 400)
  (by intro s x h; unfold f18.inA at h; split at h <;> simp at h; subst h; rfl) (fun _ => Nat.le_of_ble_eq_true rfl)
  (by intro s y h; unfold f18.inR at h; split at h <;> simp at h <;> subst h <;> rfl) (fun _ _ _ => rfl) (fun _ => by kernel_rfl)
end Go.Proofs

namespace Go.Proofs
open Go.VM
def f8.k0 : ByteArray := ByteArray.mk #[116, 97, 103]
def f8.T (K : Nat) (a0 : List Int) : Option (List Int) :=
  (f15.F K (0, a0, 0, [])).bind fun y1 =>
  bif ((Nat.ble (0 + y1.1) y1.2.2.2.2.1 && (Nat.ble y1.1 y1.2.1)) && true) then
    (f14.F K (f8.k0, y1.1, y1.1, (subI y1.2.2.2.2.2 0 y1.1))).bind fun y2 =>
    some (spl [32, 1, 0, 33, 0, 0, 0, 0, 0, 0, 0, 0, 0, 0, 0, 0] 4 12 (subI y2.1 10 22))
  else
    none
def f8.F (K : Nat) (x : List Int) : Option (List Int) := f8.T K x
def f8.av (x : List Int) : List VV := [.agg [.ints .u64 4 x]]
def f8.bl (_x : List Int) : List (Nat × Blk) := []
def f8.inA : VS → Option (List Int)
  | ⟨[(0, .agg [.ints .u64 4 a0])], [], 0⟩ => some a0
  | _ => none
def f8.o0 (y : List Int) : VS := ⟨[(0, .agg [.ints .u8 16 y])], [], 0⟩
def f8.inR : VS → Option (List Int)
  | ⟨[(0, .agg [.ints .u8 16 y])], [], 0⟩ => some y
  | _ => none
noncomputable def f8.E (K : Nat) : Entry := genE 0 f8.inA (f8.F K) (dv1 f8.o0)
theorem f8.ok (K : Nat) : EntryOK Tryd.prog 8 (f8.E K) := gen_ok mix tys_ok (sp := tabSp [(15, (viewE [(0, .u8)] (f15.E K))), (14, (rowsE 1 .u8 (f14.E K)))]) (tab_ok ((tab_cons (view_ok (f15.ok K)) (tab_cons (rows_ok (f14.ok K)) tab_nil)))) Tryd.func8 (c := bodyOf Tryd.f8) (by kernel_rfl) (by kernel_rfl) (loops_none (lp := lpNone) (by kernel_rfl)) (av := f8.av) (bl := f8.bl) (inR := f8.inR) (out := f8.o0) (fuel := 400)
  (by intro s x h; unfold f8.inA at h; split at h <;> simp at h; subst h; rfl) (fun _ => Nat.le_of_ble_eq_true rfl)
  (by intro s y h; unfold f8.inR at h; split at h <;> simp at h <;> subst h <;> rfl) (fun _ _ _ => rfl) (fun _ => by kernel_rfl)
end Go.Proofs

namespace Go.Proofs
open Go.VM
def f9.k0 : ByteArray := ByteArray.mk #[116, 97, 103]
def f9.T (K : Nat) (a0 : List Int) : Option (List Int) :=
  (f19.F K (0, a0, 0, [])).bind fun y1 =>
  bif ((Nat.ble (0 + y1.1) y1.2.2.2.1 && true) && true) then
    (f18.F K (f9.k0, y1.1, y1.1, (subI y1.2.2.2.2 0 y1.1))).bind fun y2 =>
    some ([32, 1, 0, 33, (List.getD y2.1 10 0), (List.getD y2.1 11 0), (List.getD y2.1 12 0), (List.getD y2.1 13 0), (List.getD y2.1 14 0), (List.getD y2.1 15 0), (List.getD y2.1 16 0), (List.getD y2.1 17 0), (List.getD y2.1 18 0), (List.getD y2.1 19 0), (List.getD y2.1 20 0), (List.getD y2.1 21 0)])
  else
    none
def f9.F (K : Nat) (x : List Int) : Option (List Int) := f9.T K x
def f9.av (x : List Int) : List VV := [.agg [.ints .u64 4 x]]
def f9.bl (_x : List Int) : List (Nat × Blk) := []
def f9.inA : VS → Option (List Int)
  | ⟨[(0, .agg [.ints .u64 4 a0])], [], 0⟩ => some a0
  | _ => none
def f9.o0 (y : List Int) : VS := ⟨[(0, .agg [.ints .u8 16 y])], [], 0⟩
def f9.inR : VS → Option (List Int)
  | ⟨[(0, .agg [.ints .u8 16 y])], [], 0⟩ => some y
  | _ => none
noncomputable def f9.E (K : Nat) : Entry := genE 0 f9.inA (f9.F K) (dv1 f9.o0)
theorem f9.ok (K : Nat) : EntryOK Tryd.prog 9 (f9.E K) := gen_ok mix tys_ok (sp := tabSp [(19, (viewE [(0, .u8)] (f19.E K))), (18, (rowsE 1 .u8 (f18.E K)))]) (tab_ok ((tab_cons (view_ok (f19.ok K)) (tab_cons (rows_ok (f18.ok K)) tab_nil)))) Tryd.func9 (c := bodyOf Tryd.f9) (by kernel_rfl) (by kernel_rfl) (loops_none (lp := lpNone) (by kernel_rfl)) (av := f9.av) (bl := f9.bl) (inR := f9.inR) (out := f9.o0) (fuel := 400)
  (by intro s x h; unfold f9.inA at h; split at h <;> simp at h; subst h; rfl) (fun _ => Nat.le_of_ble_eq_true rfl)
  (by intro s y h; unfold f9.inR at h; split at h <;> simp at h <;> subst h <;> rfl) (fun _ _ _ => rfl) (fun _ => by kernel_rfl)
end Go.Proofs

namespace Go.Proofs
open Go.VM
end Go.Proofs

namespace Go.Proofs
open Go.VM
theorem f14.spec (K : Nat) (name : ByteArray) (n0 : Nat) (l0 : List Int) (hs : name.size ≤ 1000000000) (e0 : l0.length = n0) (o0 : octets l0) (z0 : n0 ≤ 1000000000) (hK : 200 + name.size < K) (k0 : 68 + n0 < K) :
    f14.F K (name, n0, n0, l0) = some (Sh.sha (strL name) [l0], n0, n0, l0) := by
  have hnl := strL_length name
  have hno := strL_octets name
  simp only [f14.F, f14.T]
  rw [show f20.F K () = some ([0, 0, 0, 0, 0, 0, 0, 0, 0, 0, 0, 0, 0, 0, 0, 0, 0, 0, 0, 0, 0, 0, 0, 0, 0, 0, 0, 0, 0, 0, 0, 0, 0, 0, 0, 0, 0, 0, 0, 0, 0, 0, 0, 0, 0, 0, 0, 0, 0, 0, 0, 0, 0, 0, 0, 0, 0, 0, 0, 0, 0, 0, 0, 0], 0, 0, Sh.init) from rfl, bind_s]
  have a0 : f22.F K (0, name.size, 0, [], name.size, strL name) = some (0 + 4 + name.size, 0, [], name.size, strL name, 0 + 4 + name.size, [] ++ Sh.frame (strL name)) := f22.spec K 0 name.size [] (strL name) rfl hnl (by omega) (by omega)
  have a1 : f23.F K (0, ((1 : Nat) : Int), ((4 : Nat) : Int), 0, []) = some (4, 4, 0, [], 4, [] ++ be 4 1) := f23.spec K 0 4 1 [] rfl (by omega) (by omega) (by omega)
  rw [Nat.zero_add, List.nil_append] at a0
  rw [List.nil_append] at a1
  rw [Nat.zero_add, ble_true (Nat.le_refl name.size), Bool.and_self, Bool.and_self, cond_t, subI_self _ hnl, a0, bind_s, show ((1 : Int)) = ((1 : Nat) : Int) from rfl, show ((4 : Int)) = ((4 : Nat) : Int) from rfl, a1, bind_s]
  simp only []
  have hf := frame_length (strL name)
  rw [hnl] at hf
  rw [Nat.zero_add, Nat.zero_add, ble_true (Nat.le_refl (4 + name.size)), ble_true (Nat.le_refl 4), Bool.and_self, Bool.and_self, Bool.and_self, cond_t, subI_self _ hf, subI_self _ (be_length 4 1)]
  obtain ⟨B, H, S, c0, R⟩ := f21.spec K [] (4 + name.size) (Sh.frame (strL name)) 4 (be 4 1) hf (frame_octets hno) (by omega) (be_length _ _) (be_octets _ _) (by omega) _ _ _ Sh.rep0 (by omega)
  rw [show f21.F K ([0, 0, 0, 0, 0, 0, 0, 0, 0, 0, 0, 0, 0, 0, 0, 0, 0, 0, 0, 0, 0, 0, 0, 0, 0, 0, 0, 0, 0, 0, 0, 0, 0, 0, 0, 0, 0, 0, 0, 0, 0, 0, 0, 0, 0, 0, 0, 0, 0, 0, 0, 0, 0, 0, 0, 0, 0, 0, 0, 0, 0, 0, 0, 0], 0, 0, 4 + name.size, 4, Sh.init, 4 + name.size, Sh.frame (strL name), 4, be 4 1) = _ from c0, bind_s]
  simp only []
  have g0 : f22.F K (0, n0, 0, [], n0, l0) = some (4 + n0, 0, [], n0, l0, 4 + n0, Sh.frame l0) := by
    have := f22.spec K 0 n0 [] l0 rfl e0 (by omega) (by omega)
    rw [Nat.zero_add, List.nil_append] at this
    exact this
  have f0_ : (Sh.frame l0).length = 4 + n0 := by rw [frame_length, e0]
  rw [Nat.zero_add, ble_true (Nat.le_refl n0), Bool.and_self, Bool.and_self, cond_t, subI_self _ e0, g0, bind_s]
  simp only []
  rw [Nat.zero_add, ble_true (Nat.le_refl (4 + n0)), Bool.and_self, Bool.and_self, cond_t, subI_self _ f0_]
  obtain ⟨B0, H0, S0, c0_, R0⟩ := f21v1.spec K ([] ++ Sh.frame (strL name) ++ be 4 1) (4 + n0) (Sh.frame l0) f0_ (frame_octets o0) (by omega) _ _ _ R (by omega)
  rw [c0_, bind_s]
  simp only []
  rw [f24.spec K _ _ _ _ R0 (by omega), bind_s]
  simp only []
  have hM : [] ++ Sh.frame (strL name) ++ be 4 1 ++ Sh.frame l0 = Sh.cut (strL name) [l0] := by
    simp only [Sh.cut, List.nil_append, List.length_cons, List.length_nil, List.flatMap_cons, List.flatMap_nil, List.append_nil, List.append_assoc]
  rw [hM, ← Sh.sha]
theorem f27.spec (K : Nat) (name : ByteArray) (n0 : Nat) (l0 : List Int) (hs : name.size ≤ 1000) (e0 : l0.length = n0) (z0 : n0 ≤ 1000) (hK : 1000 < K) :
    f27.F K (name, n0, n0, l0) = some ((Sh.cut (strL name) [l0]).length, n0, n0, l0, (Sh.cut (strL name) [l0]).length, Sh.cut (strL name) [l0]) := by
  have hnl := strL_length name
  have hM : Sh.cut (strL name) [l0] = Sh.frame (strL name) ++ be 4 1 ++ Sh.frame l0 := by
    simp only [Sh.cut, List.length_cons, List.length_nil, List.flatMap_cons, List.flatMap_nil, List.append_nil]
  have f0 := frame_length (strL name)
  rw [hnl] at f0
  simp only [f27.F, f27.T]
  have a0 := f36.spec K 0 name.size [] (strL name) rfl hnl (by omega) (by omega) (by omega)
  rw [Nat.zero_add, List.nil_append] at a0
  rw [Nat.zero_add, ble_true (Nat.le_refl name.size), Bool.and_self, Bool.and_self, cond_t, subI_self _ hnl, a0, bind_s]
  dsimp only
  have a1 := f37.spec K (4 + name.size) 1 (Sh.frame (strL name)) f0 (by omega) (by omega) (by omega)
  rw [Nat.zero_add, ble_true (Nat.le_refl _), Bool.and_self, Bool.and_self, cond_t, subI_self _ f0, show f37.F K (4 + name.size, 1, 4, 4 + name.size, Sh.frame (strL name)) = _ from a1, bind_s]
  dsimp only
  have M0 : (Sh.frame (strL name) ++ be 4 1).length = 4 + name.size + 4 := by rw [List.length_append, f0, be_length]
  have b0 := f36.spec K (4 + name.size + 4) n0 (Sh.frame (strL name) ++ be 4 1) l0 M0 e0 (by omega) (by omega) (by omega)
  rw [Nat.zero_add, ble_true (Nat.le_refl (4 + name.size + 4)), Nat.zero_add, ble_true (Nat.le_refl n0), Bool.and_self, Bool.and_self, Bool.and_self, cond_t, subI_self _ M0, subI_self _ e0, b0, bind_s]
  dsimp only
  have M1 : (Sh.frame (strL name) ++ be 4 1 ++ Sh.frame l0).length = 4 + name.size + 4 + (4 + n0) := by rw [List.length_append, M0, frame_length, e0]
  rw [hM, M1]
theorem f18.spec (K : Nat) (name : ByteArray) (n0 : Nat) (l0 : List Int) (hs : name.size ≤ 1000) (e0 : l0.length = n0) (o0 : octets l0) (z0 : n0 ≤ 1000) (hK : 10000 < K) :
    f18.F K (name, n0, n0, l0) = some (Sh.sha (strL name) [l0], n0, n0, l0) := by
  have hnl := strL_length name
  have hM : Sh.cut (strL name) [l0] = Sh.frame (strL name) ++ be 4 1 ++ Sh.frame l0 := by
    simp only [Sh.cut, List.length_cons, List.length_nil, List.flatMap_cons, List.flatMap_nil, List.append_nil]
  have ho : octets (Sh.cut (strL name) [l0]) := by
    rw [hM]
    exact octets_append (octets_append (frame_octets (strL_octets name)) (be_octets _ _)) (frame_octets o0)
  have hlen : (Sh.cut (strL name) [l0]).length ≤ 3000 := by
    rw [hM, List.length_append, List.length_append, frame_length, frame_length, be_length, hnl, e0]; omega
  simp only [f18.F, f18.T]
  rw [Nat.zero_add, ble_true (Nat.le_refl n0), Bool.and_self, Bool.and_self, cond_t, subI_self _ e0, f27.spec K name n0 l0 hs e0 z0 (by omega), bind_s]
  dsimp only
  rw [Nat.zero_add, ble_true (Nat.le_refl _), Bool.and_self, Bool.and_self, cond_t, subI_self _ rfl, f26.spec K _ _ rfl ho (by omega) (by omega), bind_s]
  rfl
def Tg.of (s : List Int) : List Int := spl [32, 1, 0, 33, 0, 0, 0, 0, 0, 0, 0, 0, 0, 0, 0, 0] 4 12 (subI s 10 22)
def Tg.sum (A : Nat) : List Int := Sh.sha (strL f8.k0) [be 32 A]
theorem f8.spec (K A : Nat) (hA : A < 2 ^ 256) (hK : 1000 < K) : f8.F K (num A) = some (Tg.of (Tg.sum A)) := by
  have hs : f8.k0.size = 3 := rfl
  simp only [f8.F, f8.T]
  have e : f15.F K (0, num A, 0, []) = some (0 + 32, 0 + 32, 0, [], 0 + 32, [] ++ be 32 A) := f15.spec K 0 A [] rfl hA (by omega)
  rw [e, bind_s]
  simp only [Nat.zero_add, List.nil_append]
  rw [ble_true (Nat.le_refl 32), Bool.and_self, Bool.and_self, cond_t, subI_self _ (be_length 32 A), f14.spec K f8.k0 32 (be 32 A) (by omega) (be_length _ _) (be_octets _ _) (by omega) (by omega) (by omega), bind_s]
  rfl
end Go.Proofs

namespace Go.Proofs
open Go.VM
abbrev f17.Ty0 := Int × Bool
noncomputable def f17.c : Code := bodyOf Tryd.f17
def f17.k0 : ByteArray := ByteArray.mk #[48, 49, 50, 51, 52, 53, 54, 55, 56, 57, 97, 98, 99, 100, 101, 102]
def f17.s0t (_K : Nat) (rec : Int × Int → Option ((f17.Ty0) ⊕ Unit)) (t0 : Int) (t4 : Int) : Option ((f17.Ty0) ⊕ Unit) :=
  bif (decide (t4 < 16)) then
    bif decide (0 ≤ t4 ∧ t4 < ((ByteArray.size f17.k0 : Nat) : Int)) then
      bif ((strAt f17.k0 (Int.toNat t4)) == t0) then
        some (.inl (t4, true))
      else
        rec (t0, (IntKind.wrap .i64 (t4 + 1)))
    else
      none
  else
    some (.inr ())
def f17.s0 (K : Nat) (rec : Int × Int → Option ((f17.Ty0) ⊕ Unit)) (x : Int × Int) : Option ((f17.Ty0) ⊕ Unit) := f17.s0t K rec x.1 x.2
noncomputable def f17.s0.b : Code := (findLoop 0 f17.c).getD .skip
def f17.s0.h : Hint := { lv := [0, 4] }
def f17.s0.ho : Hint := { lv := [2, 3] }
def f17.s0.shp (x : Int × Int) : VS := ⟨[(0, .int .u8 x.1), (4, .int .i64 x.2)], [], 0⟩
def f17.s0.inX : VS → Option (Int × Int)
  | ⟨[(0, .int .u8 t0), (4, .int .i64 t4)], [], 0⟩ => some (t0, t4)
  | _ => none
def f17.s0.o0 (y : f17.Ty0) : VS := ⟨[(2, .int .i64 y.1), (3, .bool y.2)], [], 0⟩
def f17.s0.o1 (_y : Unit) : VS := ⟨[], [], 0⟩
def f17.s0.des : ∀ α : Type, ((f17.Ty0) ⊕ Unit) → (Ex → VS → Option α) → Option α := (desA (des1 (.ret) f17.s0.o0) (des1 (.exit 0) f17.s0.o1))
def f17.s0.out : (f17.Ty0) ⊕ Unit → Ex × VS := (alt (fun y => (.ret, f17.s0.o0 y)) (fun y => (.exit 0, f17.s0.o1 y)))
theorem f17.s0.desOK : ∀ α y (k : Ex → VS → Option α), f17.s0.des α y k = k (f17.s0.out y).1 (f17.s0.out y).2 := (desA_ok (fun _ _ _ => rfl) (fun _ _ _ => rfl))
def f17.s0.inY : Ex → VS → Option ((f17.Ty0) ⊕ Unit)
  | .ret, ⟨[(2, .int .i64 t2), (3, .bool t3)], [], 0⟩ => some (.inl (t2, t3))
  | .exit 0, ⟨[], [], 0⟩ => some (.inr ())
  | _, _ => none
def f17.lp (K : Nat) : Nat → Option (Hint × Summ) := tabLp [(0, f17.s0.h, summOf (iter (f17.s0 K) K) f17.s0.inX f17.s0.des)]
noncomputable def f17.tab (_K : Nat) : List (Nat × Entry) := []
theorem f17.tabOK (K : Nat) : SpecOK Tryd.prog (tabSp (f17.tab K)) := tab_ok ( tab_nil)
theorem f17.s0.eq (K : Nat) (rec : Int × Int → Option ((f17.Ty0) ⊕ Unit)) (x : Int × Int) : f17.s0 K rec x = roundL (getA tys) (tabSp (f17.tab K)) 14 0 (f17.lp K) 400 f17.s0.b f17.s0.h f17.s0.ho f17.s0.shp f17.s0.inX f17.s0.inY rec x := by kernel_rfl
theorem f17.s0.lok (K : Nat) : LoopsOK Tryd.prog 14 0 (f17.lp K) f17.s0.b := loops_ok (by
  have h : loopsIn (f17.lp K) f17.s0.b = [] := by kernel_rfl
  rw [h]; simp)
theorem f17.s0.ok (K : Nat) : SummOK Tryd.prog 14 0 (summOf (iter (f17.s0 K) K) f17.s0.inX f17.s0.des) f17.s0.b :=
  loop_ok mix tys_ok (f17.tabOK K) (h := f17.s0.h) (ho := f17.s0.ho) (shp := f17.s0.shp) (inX := f17.s0.inX) (des := f17.s0.des) (out := f17.s0.out) (inY := f17.s0.inY) (fuel := 400)
    (by intro st x h; unfold f17.s0.inX at h; split at h <;> simp at h; subst h; rfl)
    (by intro e st y h; unfold f17.s0.inY at h; split at h <;> simp at h <;> subst h <;> rfl)
    f17.s0.desOK (f17.s0.lok K) (f17.s0 K) (f17.s0.eq K) K
theorem f17.loops (K : Nat) : LoopsOK Tryd.prog 14 0 (f17.lp K) f17.c := loops_ok (by
  have h : loopsIn (f17.lp K) f17.c = [(0, f17.s0.b)] := by kernel_rfl
  rw [h]
  intro p hp
  simp only [List.mem_cons, List.not_mem_nil, or_false] at hp
  rcases hp with rfl
  · exact ⟨_, rfl, (f17.s0.ok K)⟩)
def f17.T (K : Nat) (a0 : Int) : Option (f17.Ty0) :=
  (iter (f17.s0 K) K (a0, 0)).bind fun y4 =>
  alt (fun y5 =>
    some (y5.1, y5.2)) (fun y6 =>
    some (0, false)) y4
def f17.F (K : Nat) (x : Int) : Option (f17.Ty0) := f17.T K x
def f17.av (x : Int) : List VV := [.int .u8 x]
def f17.bl (_x : Int) : List (Nat × Blk) := []
def f17.inA : VS → Option (Int)
  | ⟨[(0, .int .u8 a0)], [], 0⟩ => some a0
  | _ => none
def f17.o0 (y : f17.Ty0) : VS := ⟨[(0, .tup [.int .i64 y.1, .bool y.2])], [], 0⟩
def f17.des : ∀ α : Type, (f17.Ty0) → (VS → Option α) → Option α := (dv1 f17.o0)
def f17.out : f17.Ty0 → VS := f17.o0
def f17.inR : VS → Option (f17.Ty0)
  | ⟨[(0, .tup [.int .i64 y_0, .bool y_1])], [], 0⟩ => some (y_0, y_1)
  | _ => none
noncomputable def f17.E (K : Nat) : Entry := genE 0 f17.inA (f17.F K) f17.des
theorem f17.eq (K : Nat) (x : Int) : f17.F K x = xrun (getA tys) (tabSp (f17.tab K)) Tryd.f17.ntmps 0 (f17.lp K) 400 f17.c ⟨initL 0 (f17.av x), f17.bl x, 0⟩ (contF (getA tys) 0 Tryd.f17.results.toList f17.inR) := by kernel_rfl
theorem f17.ok (K : Nat) : EntryOK Tryd.prog 17 (f17.E K) :=
  gen_ok mix tys_ok (f17.tabOK K) Tryd.func17 (by kernel_rfl : Tryd.f17.body = some f17.c) (by kernel_rfl) (f17.loops K) (av := f17.av) (bl := f17.bl) (out := f17.out) (fuel := 400)
    (by intro s x h; unfold f17.inA at h; split at h <;> simp at h; subst h; rfl) (fun _ => Nat.le_of_ble_eq_true rfl)
    (by intro s y h; unfold f17.inR at h; split at h <;> simp at h <;> subst h <;> rfl) (fun _ _ _ => rfl) (f17.eq K)
end Go.Proofs

namespace Go.Proofs
open Go.VM
abbrev f13.Ty0 := ByteArray × Int × List Int
noncomputable def f13.c : Code := bodyOf Tryd.f13
def f13.k0 : ByteArray := ByteArray.mk #[58]
def f13.k1 : ByteArray := ByteArray.mk #[48, 49, 50, 51, 52, 53, 54, 55, 56, 57, 97, 98, 99, 100, 101, 102]
def f13.s0t (_K : Nat) (rec : f13.Ty0 → Option (ByteArray)) (t3 : ByteArray) (t4 : Int) (b0 : List Int) : Option (ByteArray) :=
  bif (decide (t4 < 16)) then
    bif (decide (t4 > 0)) then
      bif ((Int.tmod t4 2) == 0) then
        bif fitB (ByteArray.size t3 + ByteArray.size f13.k0) then
          bif decide (0 ≤ t4 ∧ t4 < 16) then
            let v6 := Int.fdiv (List.getD b0 (Int.toNat t4) 0) (2 ^ 4)
            bif decide (0 ≤ t4 ∧ t4 < 16) then
              let v10 := IntKind.wrap .u8 ((Int.fdiv (List.getD b0 (Int.toNat t4) 0) (2 ^ 4)) + 1)
              bif (decide (0 ≤ v10 ∧ v10 ≤ ((ByteArray.size f13.k1 : Nat) : Int)) && (decide (0 ≤ v6 ∧ v6 ≤ ((Int.toNat v10 : Nat) : Int)))) then
                bif fitB (ByteArray.size (t3 ++ f13.k0) + ByteArray.size (ByteArray.extract f13.k1 (Int.toNat v6) (Int.toNat v10))) then
                  bif decide (0 ≤ t4 ∧ t4 < 16) then
                    let v13 := bits .and .u8 (List.getD b0 (Int.toNat t4) 0) 15
                    bif decide (0 ≤ t4 ∧ t4 < 16) then
                      let v17 := IntKind.wrap .u8 ((bits .and .u8 (List.getD b0 (Int.toNat t4) 0) 15) + 1)
                      bif (decide (0 ≤ v17 ∧ v17 ≤ ((ByteArray.size f13.k1 : Nat) : Int)) && (decide (0 ≤ v13 ∧ v13 ≤ ((Int.toNat v17 : Nat) : Int)))) then
                        bif fitB (ByteArray.size ((t3 ++ f13.k0) ++ (ByteArray.extract f13.k1 (Int.toNat v6) (Int.toNat v10))) + ByteArray.size (ByteArray.extract f13.k1 (Int.toNat v13) (Int.toNat v17))) then
                          rec ((((t3 ++ f13.k0) ++ (ByteArray.extract f13.k1 (Int.toNat v6) (Int.toNat v10))) ++ (ByteArray.extract f13.k1 (Int.toNat v13) (Int.toNat v17))), (IntKind.wrap .i64 (t4 + 1)), b0)
                        else
                          none
                      else
                        none
                    else
                      none
                  else
                    none
                else
                  none
              else
                none
            else
              none
          else
            none
        else
          none
      else
        bif decide (0 ≤ t4 ∧ t4 < 16) then
          let v21 := Int.fdiv (List.getD b0 (Int.toNat t4) 0) (2 ^ 4)
          bif decide (0 ≤ t4 ∧ t4 < 16) then
            let v25 := IntKind.wrap .u8 ((Int.fdiv (List.getD b0 (Int.toNat t4) 0) (2 ^ 4)) + 1)
            bif (decide (0 ≤ v25 ∧ v25 ≤ ((ByteArray.size f13.k1 : Nat) : Int)) && (decide (0 ≤ v21 ∧ v21 ≤ ((Int.toNat v25 : Nat) : Int)))) then
              bif fitB (ByteArray.size t3 + ByteArray.size (ByteArray.extract f13.k1 (Int.toNat v21) (Int.toNat v25))) then
                bif decide (0 ≤ t4 ∧ t4 < 16) then
                  let v28 := bits .and .u8 (List.getD b0 (Int.toNat t4) 0) 15
                  bif decide (0 ≤ t4 ∧ t4 < 16) then
                    let v32 := IntKind.wrap .u8 ((bits .and .u8 (List.getD b0 (Int.toNat t4) 0) 15) + 1)
                    bif (decide (0 ≤ v32 ∧ v32 ≤ ((ByteArray.size f13.k1 : Nat) : Int)) && (decide (0 ≤ v28 ∧ v28 ≤ ((Int.toNat v32 : Nat) : Int)))) then
                      bif fitB (ByteArray.size (t3 ++ (ByteArray.extract f13.k1 (Int.toNat v21) (Int.toNat v25))) + ByteArray.size (ByteArray.extract f13.k1 (Int.toNat v28) (Int.toNat v32))) then
                        rec (((t3 ++ (ByteArray.extract f13.k1 (Int.toNat v21) (Int.toNat v25))) ++ (ByteArray.extract f13.k1 (Int.toNat v28) (Int.toNat v32))), (IntKind.wrap .i64 (t4 + 1)), b0)
                      else
                        none
                    else
                      none
                  else
                    none
                else
                  none
              else
                none
            else
              none
          else
            none
        else
          none
    else
      bif decide (0 ≤ t4 ∧ t4 < 16) then
        let v36 := Int.fdiv (List.getD b0 (Int.toNat t4) 0) (2 ^ 4)
        bif decide (0 ≤ t4 ∧ t4 < 16) then
          let v40 := IntKind.wrap .u8 ((Int.fdiv (List.getD b0 (Int.toNat t4) 0) (2 ^ 4)) + 1)
          bif (decide (0 ≤ v40 ∧ v40 ≤ ((ByteArray.size f13.k1 : Nat) : Int)) && (decide (0 ≤ v36 ∧ v36 ≤ ((Int.toNat v40 : Nat) : Int)))) then
            bif fitB (ByteArray.size t3 + ByteArray.size (ByteArray.extract f13.k1 (Int.toNat v36) (Int.toNat v40))) then
              bif decide (0 ≤ t4 ∧ t4 < 16) then
                let v43 := bits .and .u8 (List.getD b0 (Int.toNat t4) 0) 15
                bif decide (0 ≤ t4 ∧ t4 < 16) then
                  let v47 := IntKind.wrap .u8 ((bits .and .u8 (List.getD b0 (Int.toNat t4) 0) 15) + 1)
                  bif (decide (0 ≤ v47 ∧ v47 ≤ ((ByteArray.size f13.k1 : Nat) : Int)) && (decide (0 ≤ v43 ∧ v43 ≤ ((Int.toNat v47 : Nat) : Int)))) then
                    bif fitB (ByteArray.size (t3 ++ (ByteArray.extract f13.k1 (Int.toNat v36) (Int.toNat v40))) + ByteArray.size (ByteArray.extract f13.k1 (Int.toNat v43) (Int.toNat v47))) then
                      rec (((t3 ++ (ByteArray.extract f13.k1 (Int.toNat v36) (Int.toNat v40))) ++ (ByteArray.extract f13.k1 (Int.toNat v43) (Int.toNat v47))), (IntKind.wrap .i64 (t4 + 1)), b0)
                    else
                      none
                  else
                    none
                else
                  none
              else
                none
            else
              none
          else
            none
        else
          none
      else
        none
  else
    some t3
def f13.s0 (K : Nat) (rec : f13.Ty0 → Option (ByteArray)) (x : f13.Ty0) : Option (ByteArray) := f13.s0t K rec x.1 x.2.1 x.2.2
noncomputable def f13.s0.b : Code := (findLoop 0 f13.c).getD .skip
def f13.s0.h : Hint := { lv := [1, 3, 4] }
def f13.s0.ho : Hint := { lv := [3] }
def f13.s0.shp (x : f13.Ty0) : VS := ⟨[(1, .ptr 0 0), (3, .str x.1), (4, .int .i64 x.2.1)], [(0, ([.ints .u8 16 x.2.2], 26, .norm))], 1⟩
def f13.s0.inX : VS → Option (f13.Ty0)
  | ⟨[(1, .ptr 0 0), (3, .str t3), (4, .int .i64 t4)], [(0, ([.ints .u8 16 b0], 26, .norm))], 1⟩ => some (t3, t4, b0)
  | _ => none
def f13.s0.o0 (y : ByteArray) : VS := ⟨[(3, .str y)], [], 0⟩
def f13.s0.des : ∀ α : Type, ByteArray → (Ex → VS → Option α) → Option α := (des1 (.exit 0) f13.s0.o0)
def f13.s0.out : ByteArray → Ex × VS := (fun y => (.exit 0, f13.s0.o0 y))
theorem f13.s0.desOK : ∀ α y (k : Ex → VS → Option α), f13.s0.des α y k = k (f13.s0.out y).1 (f13.s0.out y).2 := (fun _ _ _ => rfl)
def f13.s0.inY : Ex → VS → Option (ByteArray)
  | .exit 0, ⟨[(3, .str t3)], [], 0⟩ => some t3
  | _, _ => none
def f13.lp (K : Nat) : Nat → Option (Hint × Summ) := tabLp [(0, f13.s0.h, summOf (iter (f13.s0 K) K) f13.s0.inX f13.s0.des)]
noncomputable def f13.tab (_K : Nat) : List (Nat × Entry) := []
theorem f13.tabOK (K : Nat) : SpecOK Tryd.prog (tabSp (f13.tab K)) := tab_ok ( tab_nil)
theorem f13.s0.eq (K : Nat) (rec : f13.Ty0 → Option (ByteArray)) (x : f13.Ty0) : f13.s0 K rec x = roundL (getA tys) (tabSp (f13.tab K)) 42 0 (f13.lp K) 400 f13.s0.b f13.s0.h f13.s0.ho f13.s0.shp f13.s0.inX f13.s0.inY rec x := by kernel_rfl
theorem f13.s0.lok (K : Nat) : LoopsOK Tryd.prog 42 0 (f13.lp K) f13.s0.b := loops_ok (by
  have h : loopsIn (f13.lp K) f13.s0.b = [] := by kernel_rfl
  rw [h]; simp)
theorem f13.s0.ok (K : Nat) : SummOK Tryd.prog 42 0 (summOf (iter (f13.s0 K) K) f13.s0.inX f13.s0.des) f13.s0.b :=
  loop_ok mix tys_ok (f13.tabOK K) (h := f13.s0.h) (ho := f13.s0.ho) (shp := f13.s0.shp) (inX := f13.s0.inX) (des := f13.s0.des) (out := f13.s0.out) (inY := f13.s0.inY) (fuel := 400)
    (by intro st x h; unfold f13.s0.inX at h; split at h <;> simp at h; subst h; rfl)
    (by intro e st y h; unfold f13.s0.inY at h; split at h <;> simp at h <;> subst h <;> rfl)
    f13.s0.desOK (f13.s0.lok K) (f13.s0 K) (f13.s0.eq K) K
theorem f13.loops (K : Nat) : LoopsOK Tryd.prog 42 0 (f13.lp K) f13.c := loops_ok (by
  have h : loopsIn (f13.lp K) f13.c = [(0, f13.s0.b)] := by kernel_rfl
  rw [h]
  intro p hp
  simp only [List.mem_cons, List.not_mem_nil, or_false] at hp
  rcases hp with rfl
  · exact ⟨_, rfl, (f13.s0.ok K)⟩)
def f13.T (K : Nat) (a0 : List Int) : Option (ByteArray) :=
  (iter (f13.s0 K) K (ByteArray.empty, 0, a0)).bind fun y49 =>
  some y49
def f13.F (K : Nat) (x : List Int) : Option (ByteArray) := f13.T K x
def f13.av (x : List Int) : List VV := [.agg [.ints .u8 16 x]]
def f13.bl (_x : List Int) : List (Nat × Blk) := []
def f13.inA : VS → Option (List Int)
  | ⟨[(0, .agg [.ints .u8 16 a0])], [], 0⟩ => some a0
  | _ => none
def f13.o0 (y : ByteArray) : VS := ⟨[(0, .str y)], [], 0⟩
def f13.des : ∀ α : Type, ByteArray → (VS → Option α) → Option α := (dv1 f13.o0)
def f13.out : ByteArray → VS := f13.o0
def f13.inR : VS → Option (ByteArray)
  | ⟨[(0, .str y)], [], 0⟩ => some y
  | _ => none
noncomputable def f13.E (K : Nat) : Entry := genE 0 f13.inA (f13.F K) f13.des
theorem f13.eq (K : Nat) (x : List Int) : f13.F K x = xrun (getA tys) (tabSp (f13.tab K)) Tryd.f13.ntmps 0 (f13.lp K) 400 f13.c ⟨initL 0 (f13.av x), f13.bl x, 0⟩ (contF (getA tys) 0 Tryd.f13.results.toList f13.inR) := by kernel_rfl
theorem f13.ok (K : Nat) : EntryOK Tryd.prog 13 (f13.E K) :=
  gen_ok mix tys_ok (f13.tabOK K) Tryd.func13 (by kernel_rfl : Tryd.f13.body = some f13.c) (by kernel_rfl) (f13.loops K) (av := f13.av) (bl := f13.bl) (out := f13.out) (fuel := 400)
    (by intro s x h; unfold f13.inA at h; split at h <;> simp at h; subst h; rfl) (fun _ => Nat.le_of_ble_eq_true rfl)
    (by intro s y h; unfold f13.inR at h; split at h <;> simp at h <;> subst h <;> rfl) (fun _ _ _ => rfl) (f13.eq K)
end Go.Proofs

namespace Go.Proofs
open Go.VM
abbrev f7.Ty0 := ByteArray × Int × List Int × List Int
abbrev f7.Ty1 := ByteArray × List Int × List Int
abbrev f7.Ty2 := List Int × Int
noncomputable def f7.c : Code := bodyOf Tryd.f7
def f7.s0t (K : Nat) (rec : f7.Ty0 → Option ((f7.Ty0) ⊕ (f7.Ty1))) (t0 : ByteArray) (t5 : Int) (b0 : List Int) (b1 : List Int) : Option ((f7.Ty0) ⊕ (f7.Ty1)) :=
  bif (decide (t5 < 16)) then
    let v7 := IntKind.wrap .i64 ((IntKind.wrap .i64 (5 * (IntKind.wrap .i64 (Int.tdiv t5 2)))) + (IntKind.wrap .i64 (2 * (Int.tmod t5 2))))
    bif decide (0 ≤ v7 ∧ v7 < ((ByteArray.size t0 : Nat) : Int)) then
      (f17.F K (strAt t0 (Int.toNat v7))).bind fun y9 =>
      let v10 := IntKind.wrap .i64 (v7 + 1)
      bif decide (0 ≤ v10 ∧ v10 < ((ByteArray.size t0 : Nat) : Int)) then
        (f17.F K (strAt t0 (Int.toNat v10))).bind fun y12 =>
        bif !y9.2 then
          some (.inl (t0, 4, [0, 0, 0, 0, 0, 0, 0, 0, 0, 0, 0, 0, 0, 0, 0, 0], b1))
        else
          bif !y12.2 then
            some (.inl (t0, 4, [0, 0, 0, 0, 0, 0, 0, 0, 0, 0, 0, 0, 0, 0, 0, 0], b1))
          else
            bif decide (0 ≤ t5 ∧ t5 < 16) then
              rec (t0, (IntKind.wrap .i64 (t5 + 1)), b0, (setD b1 (Int.toNat t5) (IntKind.wrap .u8 (IntKind.wrap .i64 ((IntKind.wrap .i64 (16 * y9.1)) + y12.1)))))
            else
              none
      else
        none
    else
      none
  else
    some (.inr (t0, b0, b1))
def f7.s0 (K : Nat) (rec : f7.Ty0 → Option ((f7.Ty0) ⊕ (f7.Ty1))) (x : f7.Ty0) : Option ((f7.Ty0) ⊕ (f7.Ty1)) := f7.s0t K rec x.1 x.2.1 x.2.2.1 x.2.2.2
noncomputable def f7.s0.b : Code := (findLoop 0 f7.c).getD .skip
def f7.s0.h : Hint := { lv := [0, 2, 4, 5] }
def f7.s0.ho : Hint := { lv := [0, 2, 3, 4] }
def f7.s0.shp (x : f7.Ty0) : VS := ⟨[(0, .str x.1), (2, .ptr 0 0), (4, .ptr 1 0), (5, .int .i64 x.2.1)], [(0, ([.ints .u8 16 x.2.2.1], 26, .norm)), (1, ([.ints .u8 16 x.2.2.2], 26, .norm))], 2⟩
def f7.s0.inX : VS → Option (f7.Ty0)
  | ⟨[(0, .str t0), (2, .ptr 0 0), (4, .ptr 1 0), (5, .int .i64 t5)], [(0, ([.ints .u8 16 b0], 26, .norm)), (1, ([.ints .u8 16 b1], 26, .norm))], 2⟩ => some (t0, t5, b0, b1)
  | _ => none
def f7.s0.o0 (y : f7.Ty0) : VS := ⟨[(0, .str y.1), (2, .ptr 0 0), (3, .int .i64 y.2.1), (4, .ptr 1 0)], [(0, ([.ints .u8 16 y.2.2.1], 26, .norm)), (1, ([.ints .u8 16 y.2.2.2], 26, .norm))], 2⟩
def f7.s0.o1 (y : f7.Ty1) : VS := ⟨[(0, .str y.1), (2, .ptr 0 0), (4, .ptr 1 0)], [(0, ([.ints .u8 16 y.2.1], 26, .norm)), (1, ([.ints .u8 16 y.2.2], 26, .norm))], 2⟩
def f7.s0.des : ∀ α : Type, ((f7.Ty0) ⊕ (f7.Ty1)) → (Ex → VS → Option α) → Option α := (desA (des1 (.ret) f7.s0.o0) (des1 (.exit 0) f7.s0.o1))
def f7.s0.out : (f7.Ty0) ⊕ (f7.Ty1) → Ex × VS := (alt (fun y => (.ret, f7.s0.o0 y)) (fun y => (.exit 0, f7.s0.o1 y)))
theorem f7.s0.desOK : ∀ α y (k : Ex → VS → Option α), f7.s0.des α y k = k (f7.s0.out y).1 (f7.s0.out y).2 := (desA_ok (fun _ _ _ => rfl) (fun _ _ _ => rfl))
def f7.s0.inY : Ex → VS → Option ((f7.Ty0) ⊕ (f7.Ty1))
  | .ret, ⟨[(0, .str t0), (2, .ptr 0 0), (3, .int .i64 t3), (4, .ptr 1 0)], [(0, ([.ints .u8 16 b0], 26, .norm)), (1, ([.ints .u8 16 b1], 26, .norm))], 2⟩ => some (.inl (t0, t3, b0, b1))
  | .exit 0, ⟨[(0, .str t0), (2, .ptr 0 0), (4, .ptr 1 0)], [(0, ([.ints .u8 16 b0], 26, .norm)), (1, ([.ints .u8 16 b1], 26, .norm))], 2⟩ => some (.inr (t0, b0, b1))
  | _, _ => none
def f7.lp (K : Nat) : Nat → Option (Hint × Summ) := tabLp [(0, f7.s0.h, summOf (iter (f7.s0 K) K) f7.s0.inX f7.s0.des)]
noncomputable def f7.tab (K : Nat) : List (Nat × Entry) := [(17, (f17.E K)), (13, (f13.E K))]
theorem f7.tabOK (K : Nat) : SpecOK Tryd.prog (tabSp (f7.tab K)) := tab_ok ((tab_cons (f17.ok K) (tab_cons (f13.ok K) tab_nil)))
theorem f7.s0.eq (K : Nat) (rec : f7.Ty0 → Option ((f7.Ty0) ⊕ (f7.Ty1))) (x : f7.Ty0) : f7.s0 K rec x = roundL (getA tys) (tabSp (f7.tab K)) 61 0 (f7.lp K) 400 f7.s0.b f7.s0.h f7.s0.ho f7.s0.shp f7.s0.inX f7.s0.inY rec x := by kernel_rfl
theorem f7.s0.lok (K : Nat) : LoopsOK Tryd.prog 61 0 (f7.lp K) f7.s0.b := loops_ok (by
  have h : loopsIn (f7.lp K) f7.s0.b = [] := by kernel_rfl
  rw [h]; simp)
theorem f7.s0.ok (K : Nat) : SummOK Tryd.prog 61 0 (summOf (iter (f7.s0 K) K) f7.s0.inX f7.s0.des) f7.s0.b :=
  loop_ok mix tys_ok (f7.tabOK K) (h := f7.s0.h) (ho := f7.s0.ho) (shp := f7.s0.shp) (inX := f7.s0.inX) (des := f7.s0.des) (out := f7.s0.out) (inY := f7.s0.inY) (fuel := 400)
    (by intro st x h; unfold f7.s0.inX at h; split at h <;> simp at h; subst h; rfl)
    (by intro e st y h; unfold f7.s0.inY at h; split at h <;> simp at h <;> subst h <;> rfl)
    f7.s0.desOK (f7.s0.lok K) (f7.s0 K) (f7.s0.eq K) K
theorem f7.loops (K : Nat) : LoopsOK Tryd.prog 61 0 (f7.lp K) f7.c := loops_ok (by
  have h : loopsIn (f7.lp K) f7.c = [(0, f7.s0.b)] := by kernel_rfl
  rw [h]
  intro p hp
  simp only [List.mem_cons, List.not_mem_nil, or_false] at hp
  rcases hp with rfl
  · exact ⟨_, rfl, (f7.s0.ok K)⟩)
def f7.T (K : Nat) (a0 : ByteArray) : Option (f7.Ty2) :=
  bif (((ByteArray.size a0 : Nat) : Int) != 39) then
    some ([0, 0, 0, 0, 0, 0, 0, 0, 0, 0, 0, 0, 0, 0, 0, 0], 4)
  else
    (iter (f7.s0 K) K (a0, 0, [0, 0, 0, 0, 0, 0, 0, 0, 0, 0, 0, 0, 0, 0, 0, 0], [0, 0, 0, 0, 0, 0, 0, 0, 0, 0, 0, 0, 0, 0, 0, 0])).bind fun y19 =>
    alt (fun y20 =>
      some (y20.2.2.1, y20.2.1)) (fun y21 =>
      (f13.F K y21.2.2).bind fun y22 =>
      bif (!(strEq y22 y21.1)) then
        some ([0, 0, 0, 0, 0, 0, 0, 0, 0, 0, 0, 0, 0, 0, 0, 0], 4)
      else
        some (y21.2.2, 0)) y19
def f7.F (K : Nat) (x : ByteArray) : Option (f7.Ty2) := f7.T K x
def f7.av (x : ByteArray) : List VV := [.str x]
def f7.bl (_x : ByteArray) : List (Nat × Blk) := []
def f7.inA : VS → Option (ByteArray)
  | ⟨[(0, .str a0)], [], 0⟩ => some a0
  | _ => none
def f7.o0 (y : f7.Ty2) : VS := ⟨[(0, .tup [.agg [.ints .u8 16 y.1], .int .i64 y.2])], [], 0⟩
def f7.des : ∀ α : Type, (f7.Ty2) → (VS → Option α) → Option α := (dv1 f7.o0)
def f7.out : f7.Ty2 → VS := f7.o0
def f7.inR : VS → Option (f7.Ty2)
  | ⟨[(0, .tup [.agg [.ints .u8 16 y_0], .int .i64 y_1])], [], 0⟩ => some (y_0, y_1)
  | _ => none
noncomputable def f7.E (K : Nat) : Entry := genE 0 f7.inA (f7.F K) f7.des
theorem f7.eq (K : Nat) (x : ByteArray) : f7.F K x = xrun (getA tys) (tabSp (f7.tab K)) Tryd.f7.ntmps 0 (f7.lp K) 400 f7.c ⟨initL 0 (f7.av x), f7.bl x, 0⟩ (contF (getA tys) 0 Tryd.f7.results.toList f7.inR) := by kernel_rfl
theorem f7.ok (K : Nat) : EntryOK Tryd.prog 7 (f7.E K) :=
  gen_ok mix tys_ok (f7.tabOK K) Tryd.func7 (by kernel_rfl : Tryd.f7.body = some f7.c) (by kernel_rfl) (f7.loops K) (av := f7.av) (bl := f7.bl) (out := f7.out) (fuel := 400)
    (by intro s x h; unfold f7.inA at h; split at h <;> simp at h; subst h; rfl) (fun _ => Nat.le_of_ble_eq_true rfl)
    (by intro s y h; unfold f7.inR at h; split at h <;> simp at h <;> subst h <;> rfl) (fun _ _ _ => rfl) (f7.eq K)
end Go.Proofs

namespace Go.Proofs
open Go.VM
abbrev f11.Ty0 := Int × List Int × List Int
abbrev f11.Ty1 := List Int × List Int
noncomputable def f11.c : Code := bodyOf Tryd.f11
def f11.s0t (_K : Nat) (rec : f11.Ty0 → Option (Int ⊕ Unit)) (t5 : Int) (b0 : List Int) (b1 : List Int) : Option (Int ⊕ Unit) :=
  bif (decide (t5 < 16)) then
    bif decide (0 ≤ t5 ∧ t5 < 16) then
      bif decide (0 ≤ t5 ∧ t5 < 16) then
        bif (decide ((List.getD b0 (Int.toNat t5) 0) < (List.getD b1 (Int.toNat t5) 0))) then
          some (.inl (-1))
        else
          bif decide (0 ≤ t5 ∧ t5 < 16) then
            bif decide (0 ≤ t5 ∧ t5 < 16) then
              bif (decide ((List.getD b0 (Int.toNat t5) 0) > (List.getD b1 (Int.toNat t5) 0))) then
                some (.inl (1))
              else
                rec ((IntKind.wrap .i64 (t5 + 1)), b0, b1)
            else
              none
          else
            none
      else
        none
    else
      none
  else
    some (.inr ())
def f11.s0 (K : Nat) (rec : f11.Ty0 → Option (Int ⊕ Unit)) (x : f11.Ty0) : Option (Int ⊕ Unit) := f11.s0t K rec x.1 x.2.1 x.2.2
noncomputable def f11.s0.b : Code := (findLoop 0 f11.c).getD .skip
def f11.s0.h : Hint := { lv := [2, 3, 5] }
def f11.s0.ho : Hint := { lv := [4] }
def f11.s0.shp (x : f11.Ty0) : VS := ⟨[(2, .ptr 0 0), (3, .ptr 1 0), (5, .int .i64 x.1)], [(0, ([.ints .u8 16 x.2.1], 26, .norm)), (1, ([.ints .u8 16 x.2.2], 26, .norm))], 2⟩
def f11.s0.inX : VS → Option (f11.Ty0)
  | ⟨[(2, .ptr 0 0), (3, .ptr 1 0), (5, .int .i64 t5)], [(0, ([.ints .u8 16 b0], 26, .norm)), (1, ([.ints .u8 16 b1], 26, .norm))], 2⟩ => some (t5, b0, b1)
  | _ => none
def f11.s0.o0 (y : Int) : VS := ⟨[(4, .int .i64 y)], [], 0⟩
def f11.s0.o1 (_y : Unit) : VS := ⟨[], [], 0⟩
def f11.s0.des : ∀ α : Type, (Int ⊕ Unit) → (Ex → VS → Option α) → Option α := (desA (des1 (.ret) f11.s0.o0) (des1 (.exit 0) f11.s0.o1))
def f11.s0.out : Int ⊕ Unit → Ex × VS := (alt (fun y => (.ret, f11.s0.o0 y)) (fun y => (.exit 0, f11.s0.o1 y)))
theorem f11.s0.desOK : ∀ α y (k : Ex → VS → Option α), f11.s0.des α y k = k (f11.s0.out y).1 (f11.s0.out y).2 := (desA_ok (fun _ _ _ => rfl) (fun _ _ _ => rfl))
def f11.s0.inY : Ex → VS → Option (Int ⊕ Unit)
  | .ret, ⟨[(4, .int .i64 t4)], [], 0⟩ => some (.inl t4)
  | .exit 0, ⟨[], [], 0⟩ => some (.inr ())
  | _, _ => none
def f11.lp (K : Nat) : Nat → Option (Hint × Summ) := tabLp [(0, f11.s0.h, summOf (iter (f11.s0 K) K) f11.s0.inX f11.s0.des)]
noncomputable def f11.tab (_K : Nat) : List (Nat × Entry) := []
theorem f11.tabOK (K : Nat) : SpecOK Tryd.prog (tabSp (f11.tab K)) := tab_ok ( tab_nil)
theorem f11.s0.eq (K : Nat) (rec : f11.Ty0 → Option (Int ⊕ Unit)) (x : f11.Ty0) : f11.s0 K rec x = roundL (getA tys) (tabSp (f11.tab K)) 24 0 (f11.lp K) 400 f11.s0.b f11.s0.h f11.s0.ho f11.s0.shp f11.s0.inX f11.s0.inY rec x := by kernel_rfl
theorem f11.s0.lok (K : Nat) : LoopsOK Tryd.prog 24 0 (f11.lp K) f11.s0.b := loops_ok (by
  have h : loopsIn (f11.lp K) f11.s0.b = [] := by kernel_rfl
  rw [h]; simp)
theorem f11.s0.ok (K : Nat) : SummOK Tryd.prog 24 0 (summOf (iter (f11.s0 K) K) f11.s0.inX f11.s0.des) f11.s0.b :=
  loop_ok mix tys_ok (f11.tabOK K) (h := f11.s0.h) (ho := f11.s0.ho) (shp := f11.s0.shp) (inX := f11.s0.inX) (des := f11.s0.des) (out := f11.s0.out) (inY := f11.s0.inY) (fuel := 400)
    (by intro st x h; unfold f11.s0.inX at h; split at h <;> simp at h; subst h; rfl)
    (by intro e st y h; unfold f11.s0.inY at h; split at h <;> simp at h <;> subst h <;> rfl)
    f11.s0.desOK (f11.s0.lok K) (f11.s0 K) (f11.s0.eq K) K
theorem f11.loops (K : Nat) : LoopsOK Tryd.prog 24 0 (f11.lp K) f11.c := loops_ok (by
  have h : loopsIn (f11.lp K) f11.c = [(0, f11.s0.b)] := by kernel_rfl
  rw [h]
  intro p hp
  simp only [List.mem_cons, List.not_mem_nil, or_false] at hp
  rcases hp with rfl
  · exact ⟨_, rfl, (f11.s0.ok K)⟩)
def f11.T (K : Nat) (a0 : List Int) (a1 : List Int) : Option (Int) :=
  (iter (f11.s0 K) K (0, a0, a1)).bind fun y13 =>
  alt (fun y14 =>
    some y14) (fun y15 =>
    some (0)) y13
def f11.F (K : Nat) (x : f11.Ty1) : Option (Int) := f11.T K x.1 x.2
def f11.av (x : f11.Ty1) : List VV := [.agg [.ints .u8 16 x.1], .agg [.ints .u8 16 x.2]]
def f11.bl (_x : f11.Ty1) : List (Nat × Blk) := []
def f11.inA : VS → Option (f11.Ty1)
  | ⟨[(0, .agg [.ints .u8 16 a0]), (1, .agg [.ints .u8 16 a1])], [], 0⟩ => some (a0, a1)
  | _ => none
def f11.o0 (y : Int) : VS := ⟨[(0, .int .i64 y)], [], 0⟩
def f11.des : ∀ α : Type, Int → (VS → Option α) → Option α := (dv1 f11.o0)
def f11.out : Int → VS := f11.o0
def f11.inR : VS → Option (Int)
  | ⟨[(0, .int .i64 y)], [], 0⟩ => some y
  | _ => none
noncomputable def f11.E (K : Nat) : Entry := genE 0 f11.inA (f11.F K) f11.des
theorem f11.eq (K : Nat) (x : f11.Ty1) : f11.F K x = xrun (getA tys) (tabSp (f11.tab K)) Tryd.f11.ntmps 0 (f11.lp K) 400 f11.c ⟨initL 0 (f11.av x), f11.bl x, 0⟩ (contF (getA tys) 0 Tryd.f11.results.toList f11.inR) := by kernel_rfl
theorem f11.ok (K : Nat) : EntryOK Tryd.prog 11 (f11.E K) :=
  gen_ok mix tys_ok (f11.tabOK K) Tryd.func11 (by kernel_rfl : Tryd.f11.body = some f11.c) (by kernel_rfl) (f11.loops K) (av := f11.av) (bl := f11.bl) (out := f11.out) (fuel := 400)
    (by intro s x h; unfold f11.inA at h; split at h <;> simp at h; subst h; rfl) (fun _ => Nat.le_of_ble_eq_true rfl)
    (by intro s y h; unfold f11.inR at h; split at h <;> simp at h <;> subst h <;> rfl) (fun _ _ _ => rfl) (f11.eq K)
end Go.Proofs

namespace Go.Proofs
open Go.VM
abbrev f3.Ty0 := List Int × List Int × ByteArray
def f3.T (K : Nat) (a0 : List Int) (a1 : List Int) (a2 : ByteArray) : Option (Bool) :=
  bif (decide (((ByteArray.size a2 : Nat) : Int) > 1000)) then
    (f5.F K ()).bind fun y3 =>
    some y3
  else
    (f6.F K a2).bind fun y4 =>
    (f7.F K a2).bind fun y5 =>
    (f8.F K a0).bind fun y6 =>
    (f9.F K a0).bind fun y7 =>
    bif (eqL 16 y6 y7 && true) then
      (f10.F K ((List.take 16 (List.drop 0 a1)), (List.take 16 (List.drop 16 a1)))).bind fun y11 =>
      (f11.F K ((List.take 16 (List.drop 0 a1)), (List.take 16 (List.drop 16 a1)))).bind fun y14 =>
      bif (y11 == y14) then
        (f12.F K (List.take 16 (List.drop 0 a1))).bind fun y17 =>
        (f13.F K (List.take 16 (List.drop 0 a1))).bind fun y19 =>
        bif (strEq y17 y19) then
          bif (eqL 16 y4.1 y5.1 && true) then
            bif (y4.2 == y5.2) then
              (f5.F K ()).bind fun y23 =>
              some y23
            else
              some false
          else
            some false
        else
          some false
      else
        some false
    else
      some false
def f3.F (K : Nat) (x : f3.Ty0) : Option (Bool) := f3.T K x.1 x.2.1 x.2.2
def f3.av (x : f3.Ty0) : List VV := [.agg [.ints .u64 4 x.1], .agg [.ints .u8 32 x.2.1], .str x.2.2]
def f3.bl (_x : f3.Ty0) : List (Nat × Blk) := []
def f3.inA : VS → Option (f3.Ty0)
  | ⟨[(0, .agg [.ints .u64 4 a0]), (1, .agg [.ints .u8 32 a1]), (2, .str a2)], [], 0⟩ => some (a0, a1, a2)
  | _ => none
def f3.o0 (y : Bool) : VS := ⟨[(0, .bool y)], [], 0⟩
def f3.inR : VS → Option (Bool)
  | ⟨[(0, .bool y)], [], 0⟩ => some y
  | _ => none
noncomputable def f3.E (K : Nat) : Entry := genE 0 f3.inA (f3.F K) (dv1 f3.o0)
theorem f3.ok (K : Nat) : EntryOK Tryd.prog 3 (f3.E K) := gen_ok mix tys_ok (tab_ok ((tab_cons (f5.ok K) (tab_cons (f6.ok K) (tab_cons (f7.ok K) (tab_cons (f8.ok K) (tab_cons (f9.ok K) (tab_cons (f10.ok K) (tab_cons (f11.ok K) (tab_cons (f12.ok K) (tab_cons (f13.ok K) tab_nil))))))))))) Tryd.func3 (c := bodyOf Tryd.f3) (by kernel_rfl) (by kernel_rfl) (loops_none (lp := lpNone) (by kernel_rfl)) (av := f3.av) (bl := f3.bl) (inR := f3.inR) (out := f3.o0) (fuel := 400)
  (by intro s x h; unfold f3.inA at h; split at h <;> simp at h; subst h; rfl) (fun _ => Nat.le_of_ble_eq_true rfl)
  (by intro s y h; unfold f3.inR at h; split at h <;> simp at h <;> subst h <;> rfl) (fun _ _ _ => rfl) (fun _ => by kernel_rfl)
end Go.Proofs

namespace Go.Proofs
open Go.VM
theorem f11.round (K : Nat) (A B : Nat → Nat) (i : Nat) (hi : i < 16) (he : A i = B i) (rec : Int × List Int × List Int → Option (Int ⊕ Unit)) :
    f11.s0 K rec ((i : Int), vec 16 A, vec 16 B) = rec (((i + 1 : Nat) : Int), vec 16 A, vec 16 B) := by
  simp only [f11.s0, f11.s0t]
  rw [decide_eq_true (show (i : Int) < 16 by omega), cond_t, decide_eq_true (show (0 : Int) ≤ (i : Int) ∧ (i : Int) < 16 by omega), cond_t, cond_t, Int.toNat_natCast, getD_vec hi, getD_vec hi, decide_eq_false (show ¬ ((A i : Nat) : Int) < ((B i : Nat) : Int) by omega), cond_f, cond_t, cond_t, decide_eq_false (show ¬ ((A i : Nat) : Int) > ((B i : Nat) : Int) by omega), cond_f, wrap_i _ (by omega) (by omega)]
  rfl
theorem f11.less (K : Nat) (A B : Nat → Nat) (i : Nat) (hi : i < 16) (he : ∀ j, j < i → A j = B j) (hl : A i < B i) (hK : 16 < K) : f11.F K (vec 16 A, vec 16 B) = some (-1) := by
  simp only [f11.F, f11.T]
  have := iter_for (stp := f11.s0 K) (N := i) (fun i => ((i : Int), vec 16 A, vec 16 B)) (y := some (.inl (-1))) (fun j hj rec => f11.round K A B j (by omega) (he j hj) rec) (fun rec => ?_) (show i < K by omega)
  · rw [show iter (f11.s0 K) K (0, vec 16 A, vec 16 B) = _ from this, bind_s, Tg.alt_l]
  · simp only [f11.s0, f11.s0t]
    rw [decide_eq_true (show (i : Int) < 16 by omega), cond_t, decide_eq_true (show (0 : Int) ≤ (i : Int) ∧ (i : Int) < 16 by omega), cond_t, cond_t, Int.toNat_natCast, getD_vec hi, getD_vec hi, decide_eq_true (show ((A i : Nat) : Int) < ((B i : Nat) : Int) by omega), cond_t]
theorem f11.more (K : Nat) (A B : Nat → Nat) (i : Nat) (hi : i < 16) (he : ∀ j, j < i → A j = B j) (hl : B i < A i) (hK : 16 < K) : f11.F K (vec 16 A, vec 16 B) = some 1 := by
  simp only [f11.F, f11.T]
  have := iter_for (stp := f11.s0 K) (N := i) (fun i => ((i : Int), vec 16 A, vec 16 B)) (y := some (.inl 1)) (fun j hj rec => f11.round K A B j (by omega) (he j hj) rec) (fun rec => ?_) (show i < K by omega)
  · rw [show iter (f11.s0 K) K (0, vec 16 A, vec 16 B) = _ from this, bind_s, Tg.alt_l]
  · simp only [f11.s0, f11.s0t]
    rw [decide_eq_true (show (i : Int) < 16 by omega), cond_t, decide_eq_true (show (0 : Int) ≤ (i : Int) ∧ (i : Int) < 16 by omega), cond_t, cond_t, Int.toNat_natCast, getD_vec hi, getD_vec hi, decide_eq_false (show ¬ ((A i : Nat) : Int) < ((B i : Nat) : Int) by omega), cond_f, cond_t, cond_t, decide_eq_true (show ((A i : Nat) : Int) > ((B i : Nat) : Int) by omega), cond_t]
theorem f11.same (K : Nat) (A B : Nat → Nat) (he : ∀ j, j < 16 → A j = B j) (hK : 16 < K) : f11.F K (vec 16 A, vec 16 B) = some 0 := by
  simp only [f11.F, f11.T]
  have := iter_for (stp := f11.s0 K) (N := 16) (fun i => ((i : Int), vec 16 A, vec 16 B)) (y := some (.inr ())) (fun j hj rec => f11.round K A B j hj (he j hj) rec) (fun rec => ?_) (show 16 < K by omega)
  · rw [show iter (f11.s0 K) K (0, vec 16 A, vec 16 B) = _ from this, bind_s, Tg.alt_r]
  · simp only [f11.s0, f11.s0t]
    rw [decide_eq_false (show ¬ ((16 : Nat) : Int) < 16 by omega), cond_f]
theorem f9.spec (A : Nat) : f9.F 100000 (num A) = some (Tg.of (Tg.sum A)) := by
  have hs : f9.k0.size = 3 := rfl
  simp only [f9.F, f9.T]
  have e : f19.F 100000 (0, num A, 0, []) = some (0 + 32, 0, [], 0 + 32, [] ++ be 32 A) := f19.spec 0 A [] rfl (by omega)
  rw [e, bind_s]
  simp only [Nat.zero_add, List.nil_append]
  rw [ble_true (Nat.le_refl 32), Bool.and_self, Bool.and_self, cond_t, subI_self _ (be_length 32 A), f18.spec 100000 f9.k0 32 (be 32 A) (by omega) (be_length _ _) (be_octets _ _) (by omega) (by omega), bind_s]
  rfl
theorem mkStr_append (l m : List Int) : mkStr l ++ mkStr m = mkStr (l ++ m) := by
  apply ByteArray.ext
  simp [mkStr]
theorem Tg.digits (v : Nat) (h : v < 16) : ByteArray.extract f13.k1 v (v + 1) = mkStr [(Tg.hex v : Int)] := by
  have : ∀ v : Fin 16, ByteArray.extract f13.k1 v.val (v.val + 1) = mkStr [(Tg.hex v.val : Int)] := by decide +kernel
  exact this ⟨v, h⟩
theorem and_u8 (a b : Nat) (ha : a < 256) (hb : b < 256) : bits .and .u8 (a : Int) (b : Int) = ((a &&& b : Nat) : Int) := by
  have hx : a &&& b ≤ a := Nat.and_le_left
  have h1 : (BitVec.ofInt 8 (a : Int)).toNat = a := by
    rw [BitVec.ofInt_natCast, BitVec.toNat_ofNat]; exact Nat.mod_eq_of_lt (by omega)
  have h2 : (BitVec.ofInt 8 (b : Int)).toNat = b := by
    rw [BitVec.ofInt_natCast, BitVec.toNat_ofNat]; exact Nat.mod_eq_of_lt (by omega)
  show IntKind.u8.wrap ((BitVec.ofInt 8 (a : Int) &&& BitVec.ofInt 8 (b : Int)).toNat : Int) = _
  rw [BitVec.toNat_and, h1, h2, wrap_8 _ (by omega) (by omega)]
theorem low_half (a : Nat) (ha : a < 256) : bits .and .u8 (a : Int) 15 = ((a % 16 : Nat) : Int) := by
  rw [show (15 : Int) = ((15 : Nat) : Int) from rfl, and_u8 a 15 ha (by omega), show (15 : Nat) = 2 ^ 4 - 1 from rfl, Nat.and_two_pow_sub_one_eq_mod]
theorem high_half (a : Nat) : Int.fdiv (a : Int) (2 ^ 4) = ((a / 16 : Nat) : Int) := fdiv_nat a 4
theorem Tg.text_take (A : Nat → Nat) (n : Nat) (h : n < 39) : (Tg.text A).take (n + 1) = (Tg.text A).take n ++ [(Tg.chr A n : Int)] := by
  have hl : (Tg.text A).length = 39 := by simp [Tg.text]
  rw [List.take_add_one, List.getElem?_eq_getElem (by omega)]
  simp [Tg.text]
theorem Tg.at_cases (k : Nat) : ∃ j, (k = 2 * j ∧ Tg.at' k = 5 * j) ∨ (k = 2 * j + 1 ∧ Tg.at' k = 5 * j + 2) := by
  refine ⟨k / 2, ?_⟩
  unfold Tg.at'
  omega
theorem Tg.chr_high (A : Nat → Nat) (k : Nat) : Tg.chr A (Tg.at' k) = Tg.hex (A k / 16) := by
  obtain ⟨j, ⟨rfl, e⟩ | ⟨rfl, e⟩⟩ := Tg.at_cases k <;> rw [e] <;> unfold Tg.chr
  · rw [if_neg (by omega), if_pos (by omega), show 5 * j / 5 = j by omega, show 5 * j % 5 / 2 = 0 by omega, Nat.add_zero]
  · rw [if_neg (by omega), if_pos (by omega), show (5 * j + 2) / 5 = j by omega, show (5 * j + 2) % 5 / 2 = 1 by omega]
theorem Tg.chr_low (A : Nat → Nat) (k : Nat) : Tg.chr A (Tg.at' k + 1) = Tg.hex (A k % 16) := by
  obtain ⟨j, ⟨rfl, e⟩ | ⟨rfl, e⟩⟩ := Tg.at_cases k <;> rw [e] <;> unfold Tg.chr
  · rw [if_neg (by omega), if_neg (by omega), show (5 * j + 1) / 5 = j by omega, show (5 * j + 1) % 5 / 2 = 0 by omega, Nat.add_zero]
  · rw [if_neg (by omega), if_neg (by omega), show (5 * j + 2 + 1) / 5 = j by omega, show (5 * j + 2 + 1) % 5 / 2 = 1 by omega]
theorem Tg.chr_colon (A : Nat → Nat) (n : Nat) (h : n % 5 = 4) : Tg.chr A n = 58 := by
  unfold Tg.chr
  rw [if_pos h]
def Tg.cn (i : Nat) : Nat := if i % 2 = 0 ∧ 0 < i then Tg.at' i - 1 else Tg.at' i
theorem Tg.cn_next (i : Nat) : Tg.cn (i + 1) = Tg.at' i + 1 + 1 := by unfold Tg.cn Tg.at'; split <;> omega
theorem Tg.two_more (A : Nat → Nat) (i : Nat) (hi : i < 16) : (mkStr ((Tg.text A).take (Tg.at' i)) ++ mkStr [(Tg.hex (A i / 16) : Int)]) ++ mkStr [(Tg.hex (A i % 16) : Int)] = mkStr ((Tg.text A).take (Tg.cn (i + 1))) := by
  have ha : Tg.at' i + 1 < 39 := by unfold Tg.at'; omega
  rw [Tg.cn_next, Tg.text_take A (Tg.at' i + 1) ha, Tg.text_take A (Tg.at' i) (by omega), Tg.chr_high, Tg.chr_low, mkStr_append, mkStr_append]
theorem Tg.take_length (A : Nat → Nat) (n : Nat) : ((Tg.text A).take n).length ≤ 39 := by
  rw [List.length_take]; simp [Tg.text]; omega
theorem f13.spec (K : Nat) (A : Nat → Nat) (hA : ∀ i, A i < 256) (hK : 16 < K) : f13.F K (vec 16 A) = some (mkStr (Tg.text A)) := by
  have := iter_for (stp := f13.s0 K) (N := 16) (fun i => (mkStr ((Tg.text A).take (Tg.cn i)), (i : Int), vec 16 A)) (y := some (mkStr (Tg.text A))) ?_ ?_ hK
  · simp only [f13.F, f13.T]
    rw [show iter (f13.s0 K) K (ByteArray.empty, 0, vec 16 A) = _ from this, bind_s]
  · intro i hi rec
    have h16 : A i / 16 < 16 := by have := hA i; omega
    have l16 : A i % 16 < 16 := Nat.mod_lt _ (by decide)
    have sz : ((ByteArray.size f13.k1 : Nat) : Int) = 16 := rfl
    have w1 : IntKind.wrap .u8 (((A i / 16 : Nat) : Int) + 1) = ((A i / 16 + 1 : Nat) : Int) := by rw [wrap_8 _ (by omega) (by omega)]; omega
    have w2 : IntKind.wrap .u8 (((A i % 16 : Nat) : Int) + 1) = ((A i % 16 + 1 : Nat) : Int) := by rw [wrap_8 _ (by omega) (by omega)]; omega
    have c1 : (decide ((0 : Int) ≤ ((A i / 16 + 1 : Nat) : Int) ∧ ((A i / 16 + 1 : Nat) : Int) ≤ 16) && decide ((0 : Int) ≤ ((A i / 16 : Nat) : Int) ∧ ((A i / 16 : Nat) : Int) ≤ ((A i / 16 + 1 : Nat) : Int))) = true := by
      rw [decide_eq_true (by omega), decide_eq_true (by omega)]; rfl
    have c2 : (decide ((0 : Int) ≤ ((A i % 16 + 1 : Nat) : Int) ∧ ((A i % 16 + 1 : Nat) : Int) ≤ 16) && decide ((0 : Int) ≤ ((A i % 16 : Nat) : Int) ∧ ((A i % 16 : Nat) : Int) ≤ ((A i % 16 + 1 : Nat) : Int))) = true := by
      rw [decide_eq_true (by omega), decide_eq_true (by omega)]; rfl
    have ci : decide ((0 : Int) ≤ (i : Int) ∧ (i : Int) < 16) = true := decide_eq_true (by omega)
    have two := Tg.two_more A i hi
    have wi : IntKind.wrap .i64 ((i : Int) + 1) = ((i + 1 : Nat) : Int) := by rw [wrap_i _ (by omega) (by omega)]; rfl
    have len1 : ∀ x : Int, (mkStr [x]).size = 1 := fun x => mkStr_size _
    have len2 : ∀ n, (mkStr ((Tg.text A).take n)).size ≤ 39 := fun n => by rw [mkStr_size]; exact Tg.take_length A n
    have app : ∀ a b : ByteArray, (a ++ b).size = a.size + b.size := fun a b => ByteArray.size_append
    simp only [f13.s0, f13.s0t]
    rw [decide_eq_true (show (i : Int) < 16 by omega), cond_t]
    simp only [getD_vec hi, Int.toNat_natCast, high_half, low_half _ (hA i), w1, w2, sz, c1, c2, ci, cond_t, Tg.digits _ h16, Tg.digits _ l16, wi]
    by_cases h0 : i = 0
    · subst h0
      rw [show decide (((0 : Nat) : Int) > 0) = false from rfl, cond_f]
      have e0 : Tg.cn 0 = Tg.at' 0 := rfl
      have g2 := len2 (Tg.at' 0)
      rw [e0, fitB_true (by rw [len1]; omega), cond_t, fitB_true (by rw [app, len1, len1]; omega), cond_t, two]
    · rw [decide_eq_true (show (i : Int) > 0 by omega), cond_t, show Int.tmod (i : Int) 2 = ((i % 2 : Nat) : Int) from tmod_nat i 2]
      by_cases h2 : i % 2 = 0
      · have e0 : Tg.cn i + 1 = Tg.at' i := by unfold Tg.cn; rw [if_pos ⟨h2, by omega⟩]; unfold Tg.at'; omega
        have c5 : Tg.cn i % 5 = 4 := by unfold Tg.cn; rw [if_pos ⟨h2, by omega⟩]; unfold Tg.at'; omega
        have c6 : Tg.cn i < 39 := by unfold Tg.cn Tg.at'; split <;> omega
        have e1 : mkStr ((Tg.text A).take (Tg.cn i)) ++ f13.k0 = mkStr ((Tg.text A).take (Tg.at' i)) := by
          rw [← e0, Tg.text_take A _ c6, Tg.chr_colon A _ c5, ← mkStr_append]; rfl
        have s0 : ByteArray.size f13.k0 = 1 := rfl
        have g2 := len2 (Tg.cn i)
        have g3 := len2 (Tg.at' i)
        rw [show (((i % 2 : Nat) : Int) == 0) = true by rw [h2]; rfl, cond_t, fitB_true (by rw [s0]; omega), cond_t, e1, fitB_true (by rw [len1]; omega), cond_t, fitB_true (by rw [app, len1, len1]; omega), cond_t, two]
      · have e0 : Tg.cn i = Tg.at' i := by unfold Tg.cn; rw [if_neg (by omega)]
        have g2 := len2 (Tg.at' i)
        rw [show (((i % 2 : Nat) : Int) == 0) = false by rw [show i % 2 = 1 by omega]; rfl, cond_f, e0, fitB_true (by rw [len1]; omega), cond_t, fitB_true (by rw [app, len1, len1]; omega), cond_t, two]
  · intro rec
    simp only [f13.s0, f13.s0t]
    rw [decide_eq_false (show ¬ (((16 : Nat) : Int) < 16) by omega), cond_f, show Tg.cn 16 = 39 from rfl, List.take_of_length_le (by simp [Tg.text])]
theorem f17.spec (c : Nat) (hc : c < 256) : f17.F 100000 (c : Int) = some (match Tg.val c with | some n => ((n : Int), true) | none => (0, false)) := by
  have : ∀ c : Fin 256, f17.F 100000 ((c.val : Nat) : Int) = some (match Tg.val c.val with | some n => ((n : Int), true) | none => (0, false)) := by decide +kernel
  exact this ⟨c, hc⟩
theorem strAt_byte (s : ByteArray) (i : Nat) (h : i < s.size) : strAt s i = (Tg.byte s i : Int) := by
  unfold strAt Tg.byte
  congr 2
  cases s with | mk d =>
  have h' : i < d.size := h
  show d.toList.getD i 0 = d[i]!
  rw [getElem!_pos d i h', List.getD_eq_getElem?_getD, List.getElem?_eq_getElem (by simpa using h')]
  simp
def Tg.both (s : ByteArray) (k : Nat) : Bool := (Tg.val (Tg.byte s (Tg.at' k))).isSome && (Tg.val (Tg.byte s (Tg.at' k + 1))).isSome
def Tg.some' (s : ByteArray) (i k : Nat) : Nat := if k < i then Tg.oct s k else 0
theorem Tg.digits_at (s : ByteArray) (i : Nat) (hs : s.size = 39) (hi : i < 16) (b1 : List Int) (rec : ByteArray × Int × List Int × List Int → Option ((ByteArray × Int × List Int × List Int) ⊕ (ByteArray × List Int × List Int))) (z : List Int) :
    f7.s0 100000 rec (s, (i : Int), z, b1) = if Tg.both s i = true then rec (s, ((i + 1 : Nat) : Int), z, setD b1 i (Tg.oct s i : Int)) else some (.inl (s, 4, [0, 0, 0, 0, 0, 0, 0, 0, 0, 0, 0, 0, 0, 0, 0, 0], b1)) := by
  have ha : Tg.at' i + 1 < 39 := by unfold Tg.at'; omega
  have e7 : IntKind.wrap .i64 ((IntKind.wrap .i64 (5 * (IntKind.wrap .i64 (Int.tdiv (i : Int) 2)))) + (IntKind.wrap .i64 (2 * (Int.tmod (i : Int) 2)))) = ((Tg.at' i : Nat) : Int) := by
    rw [show Int.tdiv (i : Int) 2 = ((i / 2 : Nat) : Int) from tdiv_nat i 2, show Int.tmod (i : Int) 2 = ((i % 2 : Nat) : Int) from tmod_nat i 2, wrap_i ((i / 2 : Nat) : Int) (by omega) (by omega), wrap_i (5 * _) (by omega) (by omega), wrap_i (2 * _) (by omega) (by omega), wrap_i _ (by omega) (by omega)]
    unfold Tg.at'; omega
  have e8 : IntKind.wrap .i64 (((Tg.at' i : Nat) : Int) + 1) = ((Tg.at' i + 1 : Nat) : Int) := by rw [wrap_i _ (by omega) (by omega)]; rfl
  simp only [f7.s0, f7.s0t]
  rw [decide_eq_true (show (i : Int) < 16 by omega), cond_t]
  simp only [e7, e8, hs, Int.toNat_natCast]
  rw [decide_eq_true (show (0 : Int) ≤ ((Tg.at' i : Nat) : Int) ∧ ((Tg.at' i : Nat) : Int) < ((39 : Nat) : Int) by omega), cond_t, strAt_byte s (Tg.at' i) (by omega), f17.spec _ (Tg.byte_lt s _), bind_s, decide_eq_true (show (0 : Int) ≤ ((Tg.at' i + 1 : Nat) : Int) ∧ ((Tg.at' i + 1 : Nat) : Int) < ((39 : Nat) : Int) by omega), cond_t, strAt_byte s (Tg.at' i + 1) (by omega),
    f17.spec _ (Tg.byte_lt s _), bind_s, decide_eq_true (show (0 : Int) ≤ (i : Int) ∧ (i : Int) < 16 by omega), cond_t]
  unfold Tg.both Tg.oct Tg.dig
  cases h1 : Tg.val (Tg.byte s (Tg.at' i)) with
  | none => simp
  | some a =>
    cases h2 : Tg.val (Tg.byte s (Tg.at' i + 1)) with
    | none => simp
    | some b =>
      have ha' := (Tg.val_lt h1).1
      have hb' := (Tg.val_lt h2).1
      simp only [Bool.not_true, cond_f, Option.isSome_some, Bool.and_self, if_true, Option.getD_some]
      rw [wrap_i (16 * (a : Int)) (by omega) (by omega), wrap_i (16 * (a : Int) + (b : Int)) (by omega) (by omega), wrap_8 _ (by omega) (by omega), wrap_i ((i : Int) + 1) (by omega) (by omega), show (16 * (a : Int) + (b : Int)) = ((16 * a + b : Nat) : Int) by omega]
      rfl
theorem Tg.some_next (s : ByteArray) (i : Nat) (hi : i < 16) : setD (vec 16 (Tg.some' s i)) i (Tg.oct s i : Int) = vec 16 (Tg.some' s (i + 1)) := by
  have hl : ∀ f, (vec 16 f).length = 16 := fun f => by simp [vec]
  refine ext_getD (by rw [length_setD (by rw [hl]; exact hi), hl, hl]) fun k hk => ?_
  rw [length_setD (by rw [hl]; exact hi), hl] at hk
  rw [setD_at _ _ _ _ (by rw [hl]; exact hi), getD_vec hk, getD_vec hk]
  unfold Tg.some'
  by_cases h : k = i
  · subst h; rw [if_pos rfl, if_pos (by omega)]
  · rw [if_neg h]
    by_cases h2 : k < i
    · rw [if_pos h2, if_pos (by omega)]
    · rw [if_neg h2, if_neg (by omega)]
theorem Tg.both_of_good (s : ByteArray) (hg : ∀ i, i < 39 → Tg.good s i) (k : Nat) (hk : k < 16) : Tg.both s k = true := by
  have h1 := hg (Tg.at' k) (by unfold Tg.at'; omega)
  have h2 := hg (Tg.at' k + 1) (by unfold Tg.at'; omega)
  unfold Tg.good at h1 h2
  rw [if_neg (by unfold Tg.at'; omega)] at h1 h2
  unfold Tg.both
  rw [h1, h2]; rfl
theorem f7.read (s : ByteArray) (hs : s.size = 39) (hb : ∀ k, k < 16 → Tg.both s k = true) : f7.F 100000 s = some (if strEq (mkStr (Tg.text (Tg.oct s))) s = true then (vec 16 (Tg.oct s), 0) else ([0, 0, 0, 0, 0, 0, 0, 0, 0, 0, 0, 0, 0, 0, 0, 0], 4)) := by
  have hv : vec 16 (Tg.some' s 16) = vec 16 (Tg.oct s) := List.map_congr_left fun k hk => by
    have : k < 16 := by simpa using hk
    unfold Tg.some'; rw [if_pos this]
  have := iter_for (stp := f7.s0 100000) (N := 16) (fun i => (s, (i : Int), [0, 0, 0, 0, 0, 0, 0, 0, 0, 0, 0, 0, 0, 0, 0, 0], vec 16 (Tg.some' s i))) (y := some (.inr (s, [0, 0, 0, 0, 0, 0, 0, 0, 0, 0, 0, 0, 0, 0, 0, 0], vec 16 (Tg.oct s)))) ?_ ?_ (show 16 < 100000 by omega)
  · simp only [f7.F, f7.T]
    rw [hs, show ((((39 : Nat) : Int)) != 39) = false from rfl, cond_f, show iter (f7.s0 100000) 100000 (s, 0, [0, 0, 0, 0, 0, 0, 0, 0, 0, 0, 0, 0, 0, 0, 0, 0], [0, 0, 0, 0, 0, 0, 0, 0, 0, 0, 0, 0, 0, 0, 0, 0]) = _ from this, bind_s, Tg.alt_r]
    simp only []
    rw [f13.spec 100000 _ (Tg.oct_lt s) (by omega), bind_s]
    cases strEq (mkStr (Tg.text (Tg.oct s))) s <;> rfl
  · intro i hi rec
    rw [Tg.digits_at s i hs hi, if_pos (hb i hi), Tg.some_next s i hi]
  · intro rec
    simp only [f7.s0, f7.s0t]
    rw [decide_eq_false (show ¬ (((16 : Nat) : Int) < 16) by omega), cond_f, hv]
theorem f7.bad (s : ByteArray) (hs : s.size = 39) (k : Nat) (hk : k < 16) (hb : ∀ j, j < k → Tg.both s j = true) (hn : Tg.both s k = false) : f7.F 100000 s = some ([0, 0, 0, 0, 0, 0, 0, 0, 0, 0, 0, 0, 0, 0, 0, 0], 4) := by
  have := iter_for (stp := f7.s0 100000) (N := k) (fun i => (s, (i : Int), [0, 0, 0, 0, 0, 0, 0, 0, 0, 0, 0, 0, 0, 0, 0, 0], vec 16 (Tg.some' s i))) (y := some (.inl (s, 4, [0, 0, 0, 0, 0, 0, 0, 0, 0, 0, 0, 0, 0, 0, 0, 0], vec 16 (Tg.some' s k)))) ?_ ?_ (show k < 100000 by omega)
  · simp only [f7.F, f7.T]
    rw [hs, show ((((39 : Nat) : Int)) != 39) = false from rfl, cond_f, show iter (f7.s0 100000) 100000 (s, 0, [0, 0, 0, 0, 0, 0, 0, 0, 0, 0, 0, 0, 0, 0, 0, 0], [0, 0, 0, 0, 0, 0, 0, 0, 0, 0, 0, 0, 0, 0, 0, 0]) = _ from this, bind_s, Tg.alt_l]
  · intro i hi rec
    rw [Tg.digits_at s i hs (by omega), if_pos (hb i hi), Tg.some_next s i (by omega)]
  · intro rec
    rw [Tg.digits_at s k hs hk, if_neg (by rw [hn]; simp)]
theorem Tg.first_bad (s : ByteArray) : ∀ n, (∀ k, k < n → Tg.both s k = true) ∨ ∃ k, k < n ∧ (∀ j, j < k → Tg.both s j = true) ∧ Tg.both s k = false
  | 0 => Or.inl fun k hk => by omega
  | n + 1 => by
    rcases Tg.first_bad s n with h | ⟨k, h1, h2, h3⟩
    · cases hb : Tg.both s n with
      | true =>
        refine Or.inl fun k hk => ?_
        by_cases e : k = n
        · subst e; exact hb
        · exact h k (by omega)
      | false => exact Or.inr ⟨n, by omega, h, hb⟩
    · exact Or.inr ⟨k, by omega, h2, h3⟩
theorem f6.f7 (s : ByteArray) : ∃ y, f6.F 100000 s = some y ∧ f7.F 100000 s = some y := by
  by_cases hs : s.size = 39
  · by_cases hg : ∀ i, i < 39 → Tg.good s i
    · refine ⟨_, f6.ok' 100000 s hs hg (by omega), ?_⟩
      rw [f7.read s hs (Tg.both_of_good s hg), Tg.text_back s hs hg, if_pos (show strEq s s = true from beq_self_eq_true _)]
    · have hno : ∃ i, i < 39 ∧ ¬ Tg.good s i := by
        apply Classical.byContradiction
        intro h
        exact hg fun i hi => Classical.byContradiction fun h2 => h ⟨i, hi, h2⟩
      refine ⟨_, f6.no 100000 s hs hno (by omega), ?_⟩
      rcases Tg.first_bad s 16 with hb | ⟨k, h1, h2, h3⟩
      · rw [f7.read s hs hb, if_neg]
        intro he
        have e1 : (mkStr (Tg.text (Tg.oct s))).toList = s.toList := by simpa [strEq] using he
        rw [ByteArray.toList_eq, ByteArray.toList_eq] at e1
        have e2 : mkStr (Tg.text (Tg.oct s)) = s := by
          apply ByteArray.ext
          exact Array.toList_inj.1 e1
        exact hg (fun i hi => by rw [← e2]; exact Tg.text_good _ (Tg.oct_lt s) i hi)
      · exact f7.bad s hs k h1 h2 h3
  · refine ⟨_, f6.other 100000 s hs, ?_⟩
    simp only [f7.F, f7.T]
    rw [show (((ByteArray.size s : Nat) : Int) != 39) = true by simp [bne]; omega, cond_t]
theorem f10.f11 (A B : Nat → Nat) : ∃ y, f10.F 100000 (vec 16 A, vec 16 B) = some y ∧ f11.F 100000 (vec 16 A, vec 16 B) = some y := by
  rcases three A B 16 with h | ⟨k, hk, he, hl | hl⟩
  · exact ⟨_, f10.same _ A B h (by decide), f11.same _ A B h (by decide)⟩
  · exact ⟨_, f10.less _ A B k hk he hl (by decide), f11.less _ A B k hk he hl (by decide)⟩
  · exact ⟨_, f10.more _ A B k hk he hl (by decide), f11.more _ A B k hk he hl (by decide)⟩
theorem Tg.as_vec (l : List Int) (hl : l.length = 16 ∧ ∀ x ∈ l, 0 ≤ x ∧ x < 256) : ∃ A : Nat → Nat, (∀ i, A i < 256) ∧ l = vec 16 A := by
  have hg : ∀ i, 0 ≤ l.getD i 0 ∧ l.getD i 0 < 256 := fun i => by
    rw [List.getD_eq_getElem?_getD]
    cases e : l[i]? with
    | none => simp
    | some y => exact hl.2 y (List.mem_of_getElem? e)
  exact ⟨fun i => (l.getD i 0).toNat, fun i => by have := hg i; show (l.getD i 0).toNat < 256; omega, eq_vec hl.1 fun i _ => (hg i).1⟩
theorem f3.holds (A : Nat) (hA : A < 2 ^ 256) (w : List Int) (hw : w.length = 32 ∧ ∀ x ∈ w, 0 ≤ x ∧ x < 256) (s : ByteArray) : f3.F 100000 (num A, w, s) = some true := by
  obtain ⟨B, hB, e0⟩ := Tg.as_vec (List.take 16 (List.drop 0 w)) ⟨by rw [List.length_take, List.length_drop]; omega, octets_drop hw.2 0 16⟩
  obtain ⟨C, hC, e1⟩ := Tg.as_vec (List.take 16 (List.drop 16 w)) ⟨by rw [List.length_take, List.length_drop]; omega, octets_drop hw.2 16 16⟩
  simp only [f3.F, f3.T]
  by_cases h : 1000 < s.size
  · rw [decide_eq_true (show ((ByteArray.size s : Nat) : Int) > 1000 by omega), cond_t, f5.spec 100000 (by decide), bind_s]
  · obtain ⟨y, h6, h7⟩ := f6.f7 s
    obtain ⟨z, h10, h11⟩ := f10.f11 B C
    rw [decide_eq_false (show ¬ ((ByteArray.size s : Nat) : Int) > 1000 by omega), cond_f, h6, bind_s, h7, bind_s, f8.spec 100000 A hA (by decide), bind_s, f9.spec A, bind_s, e0, e1, h10, bind_s, h11, bind_s, f12.spec _ B hB, bind_s, f13.spec _ B hB (by decide), bind_s, beq_self_eq_true, show strEq (mkStr (Tg.text B)) (mkStr (Tg.text B)) = true from beq_self_eq_true _, beq_self_eq_true, f5.spec 100000 (by decide), bind_s]
    rw [show ∀ l : List Int, eqL 16 l l = true from fun l => by simp [eqL], show ∀ l : List Int, eqL 16 l l = true from fun l => by simp [eqL]]
    rfl
end Go.Proofs
