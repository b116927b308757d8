/- Plain laws: lemmas that hold with no condition but those that each states. -/
import Derived.Test.YtncpjehemmmgkaaGreatQ2
import Derived.Test.YtncpjehemmmgkaaGreatQ7
import Derived.Test.YtncpjehemmmgkaaGreatQ3
import Derived.Laws.MathBits
namespace Go.Proofs
open Go.VM
namespace f59v1
abbrev Ty0 := ByteArray × Nat × Nat × Nat × Nat × Nat × List Int × Nat × List Int × Nat × List Int × Nat × List Int
abbrev Ty1 := List Int × Nat × Nat × Nat × Nat × Nat × List Int × Nat × List Int × Nat × List Int × Nat × List Int
def T (K : Nat) (a0 : ByteArray) (m0_0 : Nat) (m0_1 : Nat) (m0_2 : Nat) (m0_3 : Nat) (m2_0 : Nat) (m2_1 : List Int) (m4_0 : Nat) (m4_1 : List Int) (m6_0 : Nat) (m6_1 : List Int) (m8_0 : Nat) (m8_1 : List Int) : Option (Ty1) :=
 (f75.F K ()).bind fun y1 =>
 let v2 := ByteArray.size a0
 bif ((Nat.ble (0 + v2) (ByteArray.size a0) && true) && true) then
 (f77.F K (0, v2, 0, [], v2, (subI (strL a0) 0 v2))).bind fun y4 =>
 (f78.F K (0, 4, 4, 0, [])).bind fun y5 =>
 bif ((Nat.ble (0 + y4.1) y4.2.2.2.2.2.1 && true) && ((Nat.ble (0 + y5.1) y5.2.2.2.2.1 && (Nat.ble y5.1 y5.2.1)) && true)) then
 (f76.F K (y1.1, y1.2.1, y1.2.2.1, y4.1, y5.1, y1.2.2.2, y4.1, (subI y4.2.2.2.2.2.2 0 y4.1), y5.1, (subI y5.2.2.2.2.2 0 y5.1))).bind fun y6 =>
 bif ((Nat.ble (0 + m0_0) m2_0 && true) && true) then
 (f77.F K (0, m0_0, 0, [], m0_0, (subI m2_1 0 m0_0))).bind fun y7 =>
 bif ((Nat.ble (0 + y7.1) y7.2.2.2.2.2.1 && true) && true) then
 (f76v1.F K (y6.1, y6.2.1, y6.2.2.1, y7.1, y6.2.2.2.2.2.2.2.2.2, y7.1, (subI y7.2.2.2.2.2.2 0 y7.1))).bind fun y8 =>
 bif ((Nat.ble (0 + m0_1) m4_0 && true) && true) then
 (f77.F K (0, m0_1, 0, [], m0_1, (subI m4_1 0 m0_1))).bind fun y9 =>
 bif ((Nat.ble (0 + y9.1) y9.2.2.2.2.2.1 && true) && true) then
 (f76v1.F K (y8.1, y8.2.1, y8.2.2.1, y9.1, y8.2.2.2.2.2.2, y9.1, (subI y9.2.2.2.2.2.2 0 y9.1))).bind fun y10 =>
 bif ((Nat.ble (0 + m0_2) m6_0 && true) && true) then
 (f77.F K (0, m0_2, 0, [], m0_2, (subI m6_1 0 m0_2))).bind fun y11 =>
 bif ((Nat.ble (0 + y11.1) y11.2.2.2.2.2.1 && true) && true) then
 (f76v1.F K (y10.1, y10.2.1, y10.2.2.1, y11.1, y10.2.2.2.2.2.2, y11.1, (subI y11.2.2.2.2.2.2 0 y11.1))).bind fun y12 =>
 bif ((Nat.ble (0 + m0_3) m8_0 && true) && true) then
 (f77.F K (0, m0_3, 0, [], m0_3, (subI m8_1 0 m0_3))).bind fun y13 =>
 bif ((Nat.ble (0 + y13.1) y13.2.2.2.2.2.1 && true) && true) then
 (f76v1.F K (y12.1, y12.2.1, y12.2.2.1, y13.1, y12.2.2.2.2.2.2, y13.1, (subI y13.2.2.2.2.2.2 0 y13.1))).bind fun y14 =>
 (f79.F K (y14.1, y14.2.1, y14.2.2.1, y14.2.2.2.2.2.2)).bind fun y15 =>
 some (y15.1, m0_0, m0_1, m0_2, m0_3, m2_0, m2_1, m4_0, m4_1, m6_0, m6_1, m8_0, m8_1)
 else
 none
 else
 none
 else
 none
 else
 none
 else
 none
 else
 none
 else
 none
 else
 none
 else
 none
 else
 none
def F (K : Nat) (x : Ty0) : Option (Ty1) := T K x.1 x.2.1 x.2.2.1 x.2.2.2.1 x.2.2.2.2.1 x.2.2.2.2.2.1 x.2.2.2.2.2.2.1 x.2.2.2.2.2.2.2.1 x.2.2.2.2.2.2.2.2.1 x.2.2.2.2.2.2.2.2.2.1 x.2.2.2.2.2.2.2.2.2.2.1 x.2.2.2.2.2.2.2.2.2.2.2.1 x.2.2.2.2.2.2.2.2.2.2.2.2
def av (x : Ty0) : List VV := [.str x.1, .vw true 0 0 4 1]
def bl (x : Ty0) : List (Nat × Blk) := [(0, ([.vw true 2 0 x.2.1 3, .vw true 4 0 x.2.2.1 5, .vw true 6 0 x.2.2.2.1 7, .vw true 8 0 x.2.2.2.2.1 9], 0, .ro)), (2, ([.ints .u8 x.2.2.2.2.2.1 x.2.2.2.2.2.2.1], 0, .ro)), (4, ([.ints .u8 x.2.2.2.2.2.2.2.1 x.2.2.2.2.2.2.2.2.1], 0, .ro)), (6, ([.ints .u8 x.2.2.2.2.2.2.2.2.2.1 x.2.2.2.2.2.2.2.2.2.2.1], 0, .ro)), (8, ([.ints .u8 x.2.2.2.2.2.2.2.2.2.2.2.1 x.2.2.2.2.2.2.2.2.2.2.2.2], 0, .ro))]
def inA : VS → Option (Ty0)
 | ⟨[(0, .str a0), (1, .vw true 0 0 4 1)], [(0, ([.vw true 2 0 m0_0 3, .vw true 4 0 m0_1 5, .vw true 6 0 m0_2 7, .vw true 8 0 m0_3 9], 0, .ro)), (2, ([.ints .u8 m2_0 m2_1], 0, .ro)), (4, ([.ints .u8 m4_0 m4_1], 0, .ro)), (6, ([.ints .u8 m6_0 m6_1], 0, .ro)), (8, ([.ints .u8 m8_0 m8_1], 0, .ro))], 10⟩ => some (a0, m0_0, m0_1, m0_2, m0_3, m2_0, m2_1, m4_0, m4_1, m6_0, m6_1, m8_0, m8_1)
 | _ => none
def o0 (y : Ty1) : VS := ⟨[(0, .agg [.ints .u8 32 y.1])], [(0, ([.vw true 2 0 y.2.1 3, .vw true 4 0 y.2.2.1 5, .vw true 6 0 y.2.2.2.1 7, .vw true 8 0 y.2.2.2.2.1 9], 0, .ro)), (2, ([.ints .u8 y.2.2.2.2.2.1 y.2.2.2.2.2.2.1], 0, .ro)), (4, ([.ints .u8 y.2.2.2.2.2.2.2.1 y.2.2.2.2.2.2.2.2.1], 0, .ro)), (6, ([.ints .u8 y.2.2.2.2.2.2.2.2.2.1 y.2.2.2.2.2.2.2.2.2.2.1], 0, .ro)), (8, ([.ints .u8 y.2.2.2.2.2.2.2.2.2.2.2.1 y.2.2.2.2.2.2.2.2.2.2.2.2], 0, .ro))], 10⟩
def inR : VS → Option (Ty1)
 | ⟨[(0, .agg [.ints .u8 32 y])], [(0, ([.vw true 2 0 z0_0 3, .vw true 4 0 z0_1 5, .vw true 6 0 z0_2 7, .vw true 8 0 z0_3 9], 0, .ro)), (2, ([.ints .u8 z2_0 z2_1], 0, .ro)), (4, ([.ints .u8 z4_0 z4_1], 0, .ro)), (6, ([.ints .u8 z6_0 z6_1], 0, .ro)), (8, ([.ints .u8 z8_0 z8_1], 0, .ro))], 10⟩ => some (y, z0_0, z0_1, z0_2, z0_3, z2_0, z2_1, z4_0, z4_1, z6_0, z6_1, z8_0, z8_1)
 | _ => none
noncomputable def E (K : Nat) : Entry := genE 10 inA (F K) (dv1 o0)
theorem ok (K : Nat) : EntryOK Tryz.prog 59 (E K) := gen_ok mix tys_ok (sp := tabSp [(75, (f75.E K)), (77, (viewE [(0, .u8), (1, .u8)] (f77.E K))), (78, (viewE [(0, .u8)] (f78.E K))), (76, (orF (fitR 1 .u8 (fitE 8 f76.inA)) (rowsE 1 .u8 (f76.E K)) (rowsE 1 .u8 (f76v1.E K)))), (79, (f79.E K))]) (tab_ok ((tab_cons (f75.ok K) (tab_cons (view_ok (f77.ok K)) (tab_cons (view_ok (f78.ok K)) (tab_cons (orF_ok (rows_ok (f76.ok K)) (rows_ok (f76v1.ok K))) (tab_cons (f79.ok K) tab_nil))))))) Tryz.func59 (c := bodyOf Tryz.f59) (by kernel_rfl) (by kernel_rfl) (loops_none (lp := lpNone) (by kernel_rfl)) (av := av) (bl := bl) (inR := inR) (out := o0) (fuel := 400)
  (by intro s x h; unfold inA at h; split at h <;> simp at h; subst h; rfl) (fun _ => Nat.le_of_ble_eq_true rfl)
  (by intro s y h; unfold inR at h; split at h <;> simp at h <;> subst h <;> rfl) (fun _ _ _ => rfl) (fun _ => by kernel_rfl)
end f59v1
end Go.Proofs

namespace Go.Proofs
open Go.VM
def Sh.frame (p : List Int) : List Int := be 4 p.length ++ p
theorem strL_length (s : ByteArray) : (strL s).length = s.size := by simp [strL]
theorem strL_octets (s : ByteArray) : octets (strL s) := by
  intro x hx
  simp only [strL, List.mem_map] at hx
  obtain ⟨b, _, rfl⟩ := hx
  have := b.toNat_lt
  omega
theorem frame_octets {p : List Int} (h : octets p) : octets (Sh.frame p) := octets_append (be_octets _ _) h
theorem frame_length (p : List Int) : (Sh.frame p).length = 4 + p.length := by rw [Sh.frame, List.length_append, be_length]
theorem f100.spec (K n : Nat) (l : List Int) : f100.F K (n, n, l) = some (n, n, l) := by
  simp only [f100.F, f100.T, Int.toNat_natCast]
  rw [decide_eq_true (show (0 : Int) ≤ (n : Int) ∧ (n : Int) ≤ (n : Int) by omega), Bool.and_self, Bool.and_self, Nat.zero_add, ble_true (Nat.le_refl n), Bool.and_self, cond_t]
theorem f99.spec (K a n : Nat) (l : List Int) (hl : l.length = a) (hs : a + n ≤ 100000000000000) : f99.F K (a, a, (n : Int), a, l) = some (if n = 0 then .inr (a, a, a, l) else .inl (a, a + n, l ++ padT [] n)) := by
  have e : IntKind.wrap .i64 ((n : Int) - (IntKind.wrap .i64 (((a : Nat) : Int) - ((a : Nat) : Int)))) = (n : Int) := by
    rw [show ((a : Nat) : Int) - ((a : Nat) : Int) = 0 by omega, wrap_i 0 (by omega) (by omega), wrap_i _ (by omega) (by omega)]; omega
  simp only [f99.F, f99.T, e, Int.toNat_natCast]
  rw [decide_eq_false (show ¬ (n : Int) < 0 by omega), cond_f]
  rcases Nat.eq_zero_or_pos n with h | h
  · subst h
    rw [decide_eq_false (show ¬ (((0 : Nat) : Int) > 0) by omega), cond_f, if_pos rfl]
  · rw [decide_eq_true (show ((n : Int) > 0) by omega), cond_t, decide_eq_true (show (0 : Int) ≤ (a : Int) ∧ (a : Int) ≤ (a : Int) by omega), Bool.and_self, cond_t, decide_eq_true (show (0 : Int) ≤ (n : Int) by omega), fitB_true (by omega), ble_true (Nat.le_refl a), fitB_true (by omega), Bool.and_self, Bool.and_self, Bool.and_self, Bool.and_self, cond_t,
      decide_eq_true (show (0 : Int) ≤ (a : Int) ∧ (a : Int) ≤ ((a + n : Nat) : Int) by omega), Nat.zero_add, ble_true (Nat.le_refl _), Bool.and_self, cond_t, if_neg (by omega), padT_self l hl]
theorem f77.spec (K a n : Nat) (l p : List Int) (hl : l.length = a) (hp : p.length = n) (hn : n ≤ 1000000000000) (ha : a ≤ 1000000000) :
    f77.F K (a, n, a, l, n, p) = some (a + 4 + n, a, l, n, p, a + 4 + n, l ++ Sh.frame p) := by
  have h0 : IntKind.wrap .u64 ((n : Nat) : Int) = (n : Int) := wrap_u _ (by omega) (by omega)
  have e2 := f57.spec K a 4 1 l [n] hl rfl (by intro x hx; simp only [List.mem_singleton] at hx; omega) (by omega) (by omega) (by omega)
  simp only [List.map_cons, List.map_nil, List.flatMap_cons, List.flatMap_nil, List.append_nil, Nat.mul_one] at e2
  have hl4 : (l ++ be 4 n).length = a + 4 := by rw [List.length_append, be_length, hl]
  simp only [f77.F, f77.T]
  rw [Nat.zero_add, ble_true (Nat.le_refl a), Bool.and_self, Bool.and_self, cond_t, subI_self l hl, h0, show ((4 : Int)) = ((4 : Nat) : Int) from rfl, e2, bind_s]
  simp only []
  rw [f99.spec K (a + 4) n _ hl4 (by omega), bind_s]
  rcases Nat.eq_zero_or_pos n with h | h
  · rw [if_pos h, altr]
    simp only []
    rw [Nat.zero_add, ble_true (Nat.le_refl n), ble_true (Nat.le_refl (a + 4)), fitB_true (by omega), Bool.and_self, Bool.and_self, Bool.and_self, cond_t, f100.spec, bind_s, padT_self _ hl4, subI_self p hp, padT_self p hp, Sh.frame, hp, List.append_assoc]
  · rw [if_neg (by omega), altl]
    simp only []
    have e : padT (l ++ be 4 n ++ padT [] n) (a + 4) = l ++ be 4 n := by
      rw [padT_take _ _ (by rw [List.length_append, hl4]; omega), List.take_append_of_le_length (by omega), List.take_of_length_le (by omega)]
    rw [Nat.zero_add, ble_true (Nat.le_refl n), ble_true (show a + 4 ≤ a + 4 + n by omega), fitB_true (by omega), Bool.and_self, Bool.and_self, cond_t, f100.spec, bind_s, e, subI_self p hp, padT_self p hp, Sh.frame, hp, List.append_assoc]
def Sh.padded (m : List Int) : List Int := m ++ [128] ++ List.replicate ((119 - m.length % 64) % 64) 0 ++ be 8 (8 * m.length)
def Sh.digest (s : List Int) : List Int := (List.range 8).flatMap fun i => be 4 (IntKind.wrap .u64 (s.getD i 0)).toNat
def Sh.sum (m : List Int) : List Int := Sh.digest (Sh.chain (Sh.padded m) ((Sh.padded m).length / 64))
theorem digest_length (s : List Int) : (Sh.digest s).length = 32 := by
  simp [Sh.digest, List.range, List.range.loop, be_length]
theorem digest_octets (s : List Int) : octets (Sh.digest s) := by
  intro x hx
  simp only [Sh.digest, List.mem_flatMap] at hx
  obtain ⟨i, _, h⟩ := hx
  exact be_octets _ _ x h
theorem wrap_pos (z : Int) : IntKind.wrap .u64 z = ((IntKind.wrap .u64 z).toNat : Int) ∧ (IntKind.wrap .u64 z).toNat < 18446744073709551616 := by
  simp only [IntKind.wrap, IntKind.signed, IntKind.bits]
  simp
  omega
theorem sub_zero (l : List Int) (n : Nat) (h : l = []) : subI l 0 n = List.replicate n 0 := by
  subst h
  refine List.ext_getElem? fun i => ?_
  by_cases hi : i < n
  · simp [subI, hi]
  · rw [List.getElem?_eq_none (by simpa [subI] using hi), List.getElem?_eq_none (by simpa using hi)]
theorem f79.spec (K : Nat) (m b s : List Int) (h : Int) (R : Sh.Rep m b h s) (hK : 200 < K) :
    f79.F K (b, h, ((m.length % 18446744073709551616 : Nat) : Int), s) = some (Sh.sum m, b, h, ((m.length % 18446744073709551616 : Nat) : Int)) := by
  have hr : m.length % 64 < 64 := Nat.mod_lt _ (by decide)
  have e2 : Int.tmod (IntKind.wrap .i64 (119 - ((m.length % 64 : Nat) : Int))) 64 = (((119 - m.length % 64) % 64 : Nat) : Int) := by
    rw [wrap_i _ (by omega) (by omega), show (119 : Int) - ((m.length % 64 : Nat) : Int) = ((119 - m.length % 64 : Nat) : Int) by omega]
    exact tmod_nat _ 64
  have e8 : IntKind.wrap .u64 (8 * ((m.length % 18446744073709551616 : Nat) : Int)) = ((8 * m.length % 18446744073709551616 : Nat) : Int) := by
    rw [show (8 : Int) * ((m.length % 18446744073709551616 : Nat) : Int) = ((8 * (m.length % 18446744073709551616) : Nat) : Int) by omega, wrap_nat]
    congr 1
    omega
  simp only [f79.F, f79.T]
  rw [R.held, e2]
  generalize hp : (119 - m.length % 64) % 64 = p
  have hp64 : p < 64 := by omega
  have el : lenOK (p : Int) (p : Int) 1 = true := by
    simp only [lenOK, Int.toNat_natCast]
    rw [decide_eq_true (show (0 : Int) ≤ (p : Int) ∧ (p : Int) ≤ (p : Int) by omega), fitB_true (by omega), fitB_true (by omega)]; rfl
  have e1 := f78.spec K 0 8 (8 * m.length % 18446744073709551616) [] rfl (Nat.mod_lt _ (by decide)) (by omega) (by omega)
  rw [List.nil_append, show (18446744073709551616 : Nat) = 256 ^ 8 from rfl, be_mod, ← show (18446744073709551616 : Nat) = 256 ^ 8 from rfl, Nat.zero_add] at e1
  rw [el, cond_t, e8]
  simp only [Int.toNat_natCast]
  rw [show ((8 : Int)) = ((8 : Nat) : Int) from rfl, e1, bind_s]
  simp only []
  rw [Nat.zero_add, ble_true (Nat.le_refl p), ble_true (Nat.le_refl 8), Bool.and_self, Bool.and_self, Bool.and_self, cond_t, sub_zero [] p rfl, subI_self (be 8 (8 * m.length)) (be_length _ _)]
  obtain ⟨b', h', s', e3, R'⟩ := f76v2.spec K m 1 [128] p (List.replicate p 0) 8 (be 8 (8 * m.length)) rfl (by intro x hx; simp only [List.mem_singleton] at hx; omega) (by omega) (by simp) (octets_zeros _) (by omega) (be_length _ _) (be_octets _ _) (by omega) b s _ R (by omega)
  rw [R.held] at e3
  have hz : (m ++ [128] ++ List.replicate p 0 ++ be 8 (8 * m.length)) = Sh.padded m := by rw [Sh.padded, hp]
  rw [hz] at e3 R'
  rw [e3, bind_s]
  simp only []
  have hsum : Sh.digest s' = Sh.sum m := by rw [Sh.sum, ← R'.st]
  obtain ⟨x0, g0, t0⟩ : ∃ x : Nat, IntKind.wrap .u64 (List.getD s' 0 0) = (x : Int) ∧ x < 18446744073709551616 := ⟨_, wrap_pos _⟩
  obtain ⟨x1, g1, t1⟩ : ∃ x : Nat, IntKind.wrap .u64 (List.getD s' 1 0) = (x : Int) ∧ x < 18446744073709551616 := ⟨_, wrap_pos _⟩
  obtain ⟨x2, g2, t2⟩ : ∃ x : Nat, IntKind.wrap .u64 (List.getD s' 2 0) = (x : Int) ∧ x < 18446744073709551616 := ⟨_, wrap_pos _⟩
  obtain ⟨x3, g3, t3⟩ : ∃ x : Nat, IntKind.wrap .u64 (List.getD s' 3 0) = (x : Int) ∧ x < 18446744073709551616 := ⟨_, wrap_pos _⟩
  obtain ⟨x4, g4, t4⟩ : ∃ x : Nat, IntKind.wrap .u64 (List.getD s' 4 0) = (x : Int) ∧ x < 18446744073709551616 := ⟨_, wrap_pos _⟩
  obtain ⟨x5, g5, t5⟩ : ∃ x : Nat, IntKind.wrap .u64 (List.getD s' 5 0) = (x : Int) ∧ x < 18446744073709551616 := ⟨_, wrap_pos _⟩
  obtain ⟨x6, g6, t6⟩ : ∃ x : Nat, IntKind.wrap .u64 (List.getD s' 6 0) = (x : Int) ∧ x < 18446744073709551616 := ⟨_, wrap_pos _⟩
  obtain ⟨x7, g7, t7⟩ : ∃ x : Nat, IntKind.wrap .u64 (List.getD s' 7 0) = (x : Int) ∧ x < 18446744073709551616 := ⟨_, wrap_pos _⟩
  have hd : Sh.digest s' = []  ++ be 4 x0 ++ be 4 x1 ++ be 4 x2 ++ be 4 x3 ++ be 4 x4 ++ be 4 x5 ++ be 4 x6 ++ be 4 x7 := by
    simp only [Sh.digest, List.range, List.range.loop, List.flatMap_cons, List.flatMap_nil, List.append_nil, List.nil_append, g0, g1, g2, g3, g4, g5, g6, g7, Int.toNat_natCast, List.append_assoc]
  rw [hsum] at hd
  have p0 : f78.F K (0, (x0 : Int), ((4 : Nat) : Int), 0, []) = some (4, 4, 0, [], 4, [] ++ be 4 x0) := f78.spec K 0 4 x0 ([]) (by simp [be_length]) t0 (by omega) (by omega)
  rw [g0, show ((4 : Int)) = ((4 : Nat) : Int) from rfl, p0, bind_s]
  simp only []
  rw [Nat.zero_add, ble_true (Nat.le_refl 4), Bool.and_self, Bool.and_self, cond_t]
  have p1 : f78.F K (4, (x1 : Int), ((4 : Nat) : Int), 4, [] ++ be 4 x0) = some (8, 8, 4, [] ++ be 4 x0, 8, [] ++ be 4 x0 ++ be 4 x1) := f78.spec K 4 4 x1 ([] ++ be 4 x0) (by simp [be_length]) t1 (by omega) (by omega)
  rw [g1, subI_self ([] ++ be 4 x0) (show _ = 4 by simp [be_length]), p1, bind_s]
  simp only []
  rw [Nat.zero_add, ble_true (Nat.le_refl 8), Bool.and_self, Bool.and_self, cond_t]
  have p2 : f78.F K (8, (x2 : Int), ((4 : Nat) : Int), 8, [] ++ be 4 x0 ++ be 4 x1) = some (12, 12, 8, [] ++ be 4 x0 ++ be 4 x1, 12, [] ++ be 4 x0 ++ be 4 x1 ++ be 4 x2) := f78.spec K 8 4 x2 ([] ++ be 4 x0 ++ be 4 x1) (by simp [be_length]) t2 (by omega) (by omega)
  rw [g2, subI_self ([] ++ be 4 x0 ++ be 4 x1) (show _ = 8 by simp [be_length]), p2, bind_s]
  simp only []
  rw [Nat.zero_add, ble_true (Nat.le_refl 12), Bool.and_self, Bool.and_self, cond_t]
  have p3 : f78.F K (12, (x3 : Int), ((4 : Nat) : Int), 12, [] ++ be 4 x0 ++ be 4 x1 ++ be 4 x2) = some (16, 16, 12, [] ++ be 4 x0 ++ be 4 x1 ++ be 4 x2, 16, [] ++ be 4 x0 ++ be 4 x1 ++ be 4 x2 ++ be 4 x3) := f78.spec K 12 4 x3 ([] ++ be 4 x0 ++ be 4 x1 ++ be 4 x2) (by simp [be_length]) t3 (by omega) (by omega)
  rw [g3, subI_self ([] ++ be 4 x0 ++ be 4 x1 ++ be 4 x2) (show _ = 12 by simp [be_length]), p3, bind_s]
  simp only []
  rw [Nat.zero_add, ble_true (Nat.le_refl 16), Bool.and_self, Bool.and_self, cond_t]
  have p4 : f78.F K (16, (x4 : Int), ((4 : Nat) : Int), 16, [] ++ be 4 x0 ++ be 4 x1 ++ be 4 x2 ++ be 4 x3) = some (20, 20, 16, [] ++ be 4 x0 ++ be 4 x1 ++ be 4 x2 ++ be 4 x3, 20, [] ++ be 4 x0 ++ be 4 x1 ++ be 4 x2 ++ be 4 x3 ++ be 4 x4) := f78.spec K 16 4 x4 ([] ++ be 4 x0 ++ be 4 x1 ++ be 4 x2 ++ be 4 x3) (by simp [be_length]) t4 (by omega) (by omega)
  rw [g4, subI_self ([] ++ be 4 x0 ++ be 4 x1 ++ be 4 x2 ++ be 4 x3) (show _ = 16 by simp [be_length]), p4, bind_s]
  simp only []
  rw [Nat.zero_add, ble_true (Nat.le_refl 20), Bool.and_self, Bool.and_self, cond_t]
  have p5 : f78.F K (20, (x5 : Int), ((4 : Nat) : Int), 20, [] ++ be 4 x0 ++ be 4 x1 ++ be 4 x2 ++ be 4 x3 ++ be 4 x4) = some (24, 24, 20, [] ++ be 4 x0 ++ be 4 x1 ++ be 4 x2 ++ be 4 x3 ++ be 4 x4, 24, [] ++ be 4 x0 ++ be 4 x1 ++ be 4 x2 ++ be 4 x3 ++ be 4 x4 ++ be 4 x5) := f78.spec K 20 4 x5 ([] ++ be 4 x0 ++ be 4 x1 ++ be 4 x2 ++ be 4 x3 ++ be 4 x4) (by simp [be_length]) t5 (by omega) (by omega)
  rw [g5, subI_self ([] ++ be 4 x0 ++ be 4 x1 ++ be 4 x2 ++ be 4 x3 ++ be 4 x4) (show _ = 20 by simp [be_length]), p5, bind_s]
  simp only []
  rw [Nat.zero_add, ble_true (Nat.le_refl 24), Bool.and_self, Bool.and_self, cond_t]
  have p6 : f78.F K (24, (x6 : Int), ((4 : Nat) : Int), 24, [] ++ be 4 x0 ++ be 4 x1 ++ be 4 x2 ++ be 4 x3 ++ be 4 x4 ++ be 4 x5) = some (28, 28, 24, [] ++ be 4 x0 ++ be 4 x1 ++ be 4 x2 ++ be 4 x3 ++ be 4 x4 ++ be 4 x5, 28, [] ++ be 4 x0 ++ be 4 x1 ++ be 4 x2 ++ be 4 x3 ++ be 4 x4 ++ be 4 x5 ++ be 4 x6) := f78.spec K 24 4 x6 ([] ++ be 4 x0 ++ be 4 x1 ++ be 4 x2 ++ be 4 x3 ++ be 4 x4 ++ be 4 x5) (by simp [be_length]) t6 (by omega) (by omega)
  rw [g6, subI_self ([] ++ be 4 x0 ++ be 4 x1 ++ be 4 x2 ++ be 4 x3 ++ be 4 x4 ++ be 4 x5) (show _ = 24 by simp [be_length]), p6, bind_s]
  simp only []
  rw [Nat.zero_add, ble_true (Nat.le_refl 28), Bool.and_self, Bool.and_self, cond_t]
  have p7 : f78.F K (28, (x7 : Int), ((4 : Nat) : Int), 28, [] ++ be 4 x0 ++ be 4 x1 ++ be 4 x2 ++ be 4 x3 ++ be 4 x4 ++ be 4 x5 ++ be 4 x6) = some (32, 32, 28, [] ++ be 4 x0 ++ be 4 x1 ++ be 4 x2 ++ be 4 x3 ++ be 4 x4 ++ be 4 x5 ++ be 4 x6, 32, [] ++ be 4 x0 ++ be 4 x1 ++ be 4 x2 ++ be 4 x3 ++ be 4 x4 ++ be 4 x5 ++ be 4 x6 ++ be 4 x7) := f78.spec K 28 4 x7 ([] ++ be 4 x0 ++ be 4 x1 ++ be 4 x2 ++ be 4 x3 ++ be 4 x4 ++ be 4 x5 ++ be 4 x6) (by simp [be_length]) t7 (by omega) (by omega)
  rw [g7, subI_self ([] ++ be 4 x0 ++ be 4 x1 ++ be 4 x2 ++ be 4 x3 ++ be 4 x4 ++ be 4 x5 ++ be 4 x6) (show _ = 28 by simp [be_length]), p7, bind_s]
  simp only []
  rw [Nat.zero_add, ble_true (Nat.le_refl 32)]
  rw [Bool.and_self, show Nat.beq 32 32 = true from rfl, Bool.and_self, cond_t, subI_self ([] ++ be 4 x0 ++ be 4 x1 ++ be 4 x2 ++ be 4 x3 ++ be 4 x4 ++ be 4 x5 ++ be 4 x6 ++ be 4 x7) (show _ = 32 by simp [be_length]), ← hd, spl, show Nat.min 32 32 = 32 from rfl, padT_self (Sh.sum m) (digest_length _)]
  rfl
end Go.Proofs

namespace Go.Proofs
open Go.VM
theorem f104.third (K : Nat) (b k4 z : List Int) (s : List Int) (hK : 64 < K) :
    iter (f104.s4 K) K (64, 0, 64, b, 64, Sh.consts, k4, z, Rf.tab b 64, s) = some (64, b, 64, Sh.consts, k4, z, Rf.rounds s b 64) := by
  have := iter_for (stp := f104.s4 K) (N := 64) (fun i => (64, (i : Int), 64, b, 64, Sh.consts, k4, z, Rf.tab b 64, Rf.rounds s b i)) (y := some (64, b, 64, Sh.consts, k4, z, Rf.rounds s b 64)) ?_ ?_ hK
  · exact this
  · intro i hi rec
    simp only [f104.s4, f104.s4t]
    rw [decide_eq_true (show (i : Int) < 64 by omega), cond_t]
    have r : ∀ (x : Int) (n : Nat), 1 ≤ n → n ≤ 31 → f112.F K (x, (n : Int)) = some (Rf.round x n) := fun x n h1 h2 => f112.spec K x n h1 h2
    rw [show ((6 : Int)) = ((6 : Nat) : Int) from rfl, show ((11 : Int)) = ((11 : Nat) : Int) from rfl, show ((25 : Int)) = ((25 : Nat) : Int) from rfl, r _ 6 (by omega) (by omega), bind_s, r _ 11 (by omega) (by omega), bind_s, r _ 25 (by omega) (by omega), bind_s,
      decide_eq_true (show (0 : Int) ≤ (i : Int) ∧ (i : Int) < ((64 : Nat) : Int) by omega), cond_t]
    simp only [Int.toNat_natCast, Nat.zero_add]
    rw [show Nat.blt i 64 = true from by simp [Nat.blt_eq]; omega, cond_t, decide_eq_true (show (0 : Int) ≤ (i : Int) ∧ (i : Int) < 64 by omega), cond_t,
      show ((2 : Int)) = ((2 : Nat) : Int) from rfl, show ((13 : Int)) = ((13 : Nat) : Int) from rfl, show ((22 : Int)) = ((22 : Nat) : Int) from rfl, r _ 2 (by omega) (by omega), bind_s, r _ 13 (by omega) (by omega), bind_s, r _ 22 (by omega) (by omega), bind_s, Rf.tab_at b 64 i (by omega) (by omega), wrap_i _ (by omega) (by omega)]
    rfl
  · intro rec
    simp only [f104.s4, f104.s4t]
    rfl
theorem f104.fourth (K : Nat) (b s v z : List Int) (k2 : Nat) (k2l : List Int) (hK : 8 < K) :
    iter (f104.s6 K) K (0, 64, b, k2, k2l, s, z, v) = some (64, b, k2, k2l, z, Sh.added s v 8) := by
  have := iter_for (stp := f104.s6 K) (N := 8) (fun i => ((i : Int), 64, b, k2, k2l, s, z, Sh.added s v i)) (y := some (64, b, k2, k2l, z, Sh.added s v 8)) ?_ ?_ hK
  · exact this
  · intro i hi rec
    simp only [f104.s6, f104.s6t]
    rw [decide_eq_true (show (i : Int) < 8 by omega), cond_t, decide_eq_true (show (0 : Int) ≤ (i : Int) ∧ (i : Int) < 8 by omega), cond_t, cond_t, cond_t, Int.toNat_natCast, wrap_i _ (by omega) (by omega)]
    rfl
  · intro rec
    simp only [f104.s6, f104.s6t]
    rfl
theorem f104.spec (K : Nat) (s b : List Int) (hs : s.length = 8) (hb : b.length = 64) (ho : octets b) (hK : 64 < K) :
    f104.F K (s, 64, 64, 64, b, 64, Sh.consts) = some (Sh.comp s b, 64, b, 64, Sh.consts) := by
  simp only [f104.F, f104.T]
  have h1 := f104.first K 64 b s [0, 0, 0, 0, 0, 0, 0, 0] ho hb (by omega) 64 Sh.consts
  rw [show iter (f104.s0 K) K (64, 64, 0, 64, b, 64, Sh.consts, s, [0, 0, 0, 0, 0, 0, 0, 0], [0, 0, 0, 0, 0, 0, 0, 0, 0, 0, 0, 0, 0, 0, 0, 0, 0, 0, 0, 0, 0, 0, 0, 0, 0, 0, 0, 0, 0, 0, 0, 0, 0, 0, 0, 0, 0, 0, 0, 0, 0, 0, 0, 0, 0, 0, 0, 0, 0, 0, 0, 0, 0, 0, 0, 0, 0, 0, 0, 0, 0, 0, 0, 0]) = _ from h1, bind_s]
  dsimp only
  rw [f104.second K 64 b s _ hK, bind_s]
  dsimp only
  rw [f104.third K b s _ s hK, bind_s]
  dsimp only
  rw [f104.fourth K b s _ _ 64 Sh.consts (by omega), bind_s]
  dsimp only
  rw [comp_same s b hs]
theorem added_len (v s : List Int) (hs : s.length = 8) : ∀ i, i ≤ 8 → (Sh.added v s i).length = 8
  | 0, _ => hs
  | i + 1, h => by
    have := added_len v s hs i (by omega)
    rw [Sh.added, length_setD (by omega)]; exact this
theorem rounds_len (s b : List Int) (hs : s.length = 8) (t : Nat) : (Rf.rounds s b t).length = 8 := (rounds_same s b hs t).2
theorem comp_len (s b : List Int) (hs : s.length = 8) : (Sh.comp s b).length = 8 := by
  rw [comp_same s b hs]; exact added_len _ _ (rounds_len s b hs 64) 8 (by omega)
theorem chain_len (m : List Int) : ∀ n, (Sh.chain m n).length = 8
  | 0 => rfl
  | n + 1 => comp_len _ _ (chain_len m n)
theorem f91.zeros (K n0 : Nat) (l0 z : List Int) (m : List Int) (a : Nat) (hm : m.length + 100 ≤ 140737488355328) (hK : 64 < K) :
    iter (f91.s0 K) K (a, m.length, n0, l0, z, m.length, m) = some (a, m.length + (119 - (m.length + 63) % 64) % 64, n0, l0, z, m.length + (119 - (m.length + 63) % 64) % 64, m ++ List.replicate ((119 - (m.length + 63) % 64) % 64) 0) := by
  generalize hN : (119 - (m.length + 63) % 64) % 64 = N
  have := iter_for (stp := f91.s0 K) (N := N) (fun i => (a, m.length + i, n0, l0, z, m.length + i, m ++ List.replicate i 0)) (y := some (a, m.length + N, n0, l0, z, m.length + N, m ++ List.replicate N 0)) ?_ ?_ (show N < K by omega)
  · simp only [Nat.add_zero, List.replicate_zero, List.append_nil] at this
    exact this
  · intro i hi rec
    simp only [f91.s0, f91.s0t]
    have e : Int.tmod ((m.length + i : Nat) : Int) 64 = (((m.length + i) % 64 : Nat) : Int) := tmod_nat _ 64
    rw [e, show ((((m.length + i) % 64 : Nat) : Int) != 56) = true from bne_iff_ne.2 (by omega), cond_t, ble_true (Nat.le_refl _), fitB_true (by omega), Bool.and_self, cond_t, padT_self _ (by simp), List.append_assoc, ← List.replicate_succ']
    rfl
  · intro rec
    simp only [f91.s0, f91.s0t]
    have e : Int.tmod ((m.length + N : Nat) : Int) 64 = (((m.length + N) % 64 : Nat) : Int) := tmod_nat _ 64
    rw [e, show ((((m.length + N) % 64 : Nat) : Int) != 56) = false from by rw [bne_eq_false_iff_eq]; omega, cond_f]
theorem f91.eight (K n0 : Nat) (l0 z : List Int) (m : List Int) (x : Nat) (hx : x < 18446744073709551616) (hm : m.length + 100 ≤ 140737488355328) (hK : 64 < K) :
    iter (f91.s2 K) K (m.length, (x : Int), 0, n0, l0, z, m.length, m) = some (m.length + 8, n0, l0, z, m.length + 8, m ++ be 8 x) := by
  have top : ∀ i, i < 8 → be (i + 1) (x / 256 ^ (7 - i)) = be i (x / 256 ^ (8 - i)) ++ [((x / 256 ^ (7 - i) % 256 : Nat) : Int)] := fun i hi => by
    rw [be, Nat.div_div_eq_div_mul, ← Nat.pow_succ, show (7 - i).succ = 8 - i by omega]
  have := iter_for (stp := f91.s2 K) (N := 8) (fun i => (m.length + i, (x : Int), (i : Int), n0, l0, z, m.length + i, m ++ be i (x / 256 ^ (8 - i)))) (y := some (m.length + 8, n0, l0, z, m.length + 8, m ++ be 8 x)) ?_ ?_ (show 8 < K by omega)
  · simp only [Nat.add_zero, be, List.append_nil] at this
    exact this
  · intro i hi rec
    simp only [f91.s2, f91.s2t]
    have e12 : IntKind.wrap .i64 (56 - (IntKind.wrap .i64 (8 * (i : Int)))) = ((56 - 8 * i : Nat) : Int) := by rw [wrap_i (8 * (i : Int)) (by omega) (by omega), wrap_i _ (by omega) (by omega)]; omega
    have sh : IntKind.wrap .u8 (shiftI .shr .u64 (x : Int) ((56 - 8 * i : Nat) : Int)) = ((x / 256 ^ (7 - i) % 256 : Nat) : Int) := by
      unfold shiftI
      dsimp only
      rw [Int.toNat_natCast, show min (56 - 8 * i) IntKind.u64.bits = 56 - 8 * i from Nat.min_eq_left (by show _ ≤ 64; omega), fdiv_nat, show (2 : Nat) ^ (56 - 8 * i) = 256 ^ (7 - i) by rw [show (256 : Nat) = 2 ^ 8 from rfl, ← Nat.pow_mul]; congr 1; omega]
      simp [IntKind.wrap, IntKind.signed, IntKind.bits]
    rw [decide_eq_true (show (i : Int) < 8 by omega), cond_t]
    simp only [e12]
    rw [decide_eq_true (show (0 : Int) ≤ ((56 - 8 * i : Nat) : Int) by omega), cond_t, ble_true (Nat.le_refl _), fitB_true (by omega), Bool.and_self, cond_t, padT_self _ (by simp [be_length]), sh, wrap_i _ (by omega) (by omega), List.append_assoc, show 8 - (i + 1) = 7 - i by omega, top i hi]
    rfl
  · intro rec
    simp only [f91.s2, f91.s2t]
    rw [show 8 - 8 = 0 from rfl, Nat.pow_zero, Nat.div_one]
    rfl
end Go.Proofs

namespace Go.Proofs
open Go.VM
theorem octets_drop {l : List Int} (h : octets l) (a b : Nat) : octets ((l.drop a).take b) := fun x hx => h x (List.mem_of_mem_drop (List.mem_of_mem_take hx))
theorem f91.blocks (K n0 : Nat) (l0 z : List Int) (m : List Int) (n : Nat) (hm : m.length = 64 * n) (ho : octets m) (hs : m.length ≤ 140737488355328) (hK : 64 + n < K) :
    iter (f91.s4 K) K (m.length, 0, n0, l0, z, m.length, m, Sh.init, Sh.consts) = some (n0, l0, z, Sh.chain m n) := by
  have := iter_for (stp := f91.s4 K) (N := n) (fun i => (m.length, ((64 * i : Nat) : Int), n0, l0, z, m.length, m, Sh.chain m i, Sh.consts)) (y := some (n0, l0, z, Sh.chain m n)) ?_ ?_ (show n < K by omega)
  · exact this
  · intro i hi rec
    simp only [f91.s4, f91.s4t]
    have e21 : IntKind.wrap .i64 (((64 * i : Nat) : Int) + 64) = ((64 * (i + 1) : Nat) : Int) := by rw [wrap_i _ (by omega) (by omega)]; omega
    rw [decide_eq_true (show ((64 * i : Nat) : Int) < ((m.length : Nat) : Int) by omega), cond_t]
    simp only [e21, Int.toNat_natCast]
    rw [decide_eq_true (show (0 : Int) ≤ ((64 * (i + 1) : Nat) : Int) ∧ ((64 * (i + 1) : Nat) : Int) ≤ ((m.length : Nat) : Int) by omega), decide_eq_true (show (0 : Int) ≤ ((64 * i : Nat) : Int) ∧ ((64 * i : Nat) : Int) ≤ ((64 * (i + 1) : Nat) : Int) by omega), Nat.zero_add, ble_true (Nat.le_refl _), Bool.and_self, Bool.and_self, cond_t,
      Nat.zero_add, show 64 * (i + 1) - 64 * i = 64 by omega, ble_true (show 64 * i + 64 ≤ m.length by omega), Bool.and_self, Bool.and_self, cond_t, subI_self Sh.consts (show _ = 64 from rfl), subI_cut m (64 * i) 64 (by omega)]
    rw [f104.spec K _ _ (chain_len m i) (by rw [List.length_take, List.length_drop]; omega) (octets_drop ho _ _) (by omega), bind_s]
    dsimp only
    rw [← show Sh.chain m (i + 1) = Sh.comp (Sh.chain m i) ((m.drop (64 * i)).take 64) from rfl]
  · intro rec
    simp only [f91.s4, f91.s4t]
    rw [decide_eq_false (show ¬ ((64 * n : Nat) : Int) < ((m.length : Nat) : Int) by omega), cond_f]
theorem added_range (v : List Int) (s : List Int) (hs : s.length = 8) : ∀ i, i ≤ 8 → ∀ k, k < i → 0 ≤ (Sh.added v s i).getD k 0 ∧ (Sh.added v s i).getD k 0 < 4294967296
  | 0, _, k, hk => absurd hk (Nat.not_lt_zero k)
  | i + 1, h, k, hk => by
    have hl := added_len v s hs i (by omega)
    rw [Sh.added, setD_at _ _ _ _ (by omega)]
    by_cases hki : k = i
    · rw [if_pos hki, wrap32_mod]; omega
    · rw [if_neg hki]; exact added_range v s hs i (by omega) k (by omega)
theorem chain_range (m : List Int) (n k : Nat) (hk : k < 8) : 0 ≤ (Sh.chain m n).getD k 0 ∧ (Sh.chain m n).getD k 0 < 4294967296 := by
  cases n with
  | zero =>
    have : ∀ k : Fin 8, 0 ≤ Sh.init.getD k.val 0 ∧ Sh.init.getD k.val 0 < 4294967296 := by decide
    exact this ⟨k, hk⟩
  | succ n =>
    rw [Sh.chain, comp_same _ _ (chain_len m n)]
    exact added_range _ _ (rounds_len _ _ (chain_len m n) 64) 8 (by omega) k hk
def Rf.dig (s : List Int) (i : Nat) : Int := (((s.getD (i / 4) 0).toNat / 256 ^ (3 - i % 4) % 256 : Nat) : Int)
def Rf.digs (s : List Int) (i : Nat) : List Int := (List.range 32).map fun k => if k < i then Rf.dig s k else 0
theorem Rf.digs_set (s : List Int) (i : Nat) (hi : i < 32) : setD (Rf.digs s i) i (Rf.dig s i) = Rf.digs s (i + 1) := by
  have hl : ∀ j, (Rf.digs s j).length = 32 := fun j => by simp [Rf.digs]
  refine ext_getD (by rw [length_setD (by rw [hl]; exact hi), hl, hl]) fun k hk => ?_
  rw [length_setD (by rw [hl]; exact hi), hl] at hk
  rw [setD_at _ _ _ _ (by rw [hl]; exact hi)]
  have g : ∀ j, (Rf.digs s j).getD k 0 = if k < j then Rf.dig s k else 0 := fun j => by simp [Rf.digs, List.getD_eq_getElem?_getD, hk]
  rw [g, g]
  by_cases h : k = i
  · subst h; rw [if_pos rfl, if_pos (by omega)]
  · rw [if_neg h]
    by_cases h2 : k < i
    · rw [if_pos h2, if_pos (by omega)]
    · rw [if_neg h2, if_neg (by omega)]
theorem Rf.digs_all (s : List Int) (h : ∀ k, k < 8 → 0 ≤ s.getD k 0 ∧ s.getD k 0 < 4294967296) : Rf.digs s 32 = Sh.digest s := by
  have w : ∀ k, k < 8 → (IntKind.wrap .u64 (s.getD k 0)).toNat = (s.getD k 0).toNat := fun k hk => by
    obtain ⟨h1, h2⟩ := h k hk
    rw [wrap_u _ h1 (by omega)]
  have b4 : ∀ x : Nat, be 4 x = [((x / 256 ^ 3 % 256 : Nat) : Int), ((x / 256 ^ 2 % 256 : Nat) : Int), ((x / 256 ^ 1 % 256 : Nat) : Int), ((x / 256 ^ 0 % 256 : Nat) : Int)] := fun x => by
    simp only [be, List.nil_append, List.cons_append, Nat.div_div_eq_div_mul]
    simp
  simp only [Sh.digest, List.range, List.range.loop, List.flatMap_cons, List.flatMap_nil, w 0 (by omega), w 1 (by omega), w 2 (by omega), w 3 (by omega), w 4 (by omega), w 5 (by omega), w 6 (by omega), w 7 (by omega), b4, List.cons_append, List.nil_append, List.append_nil]
  rfl
theorem f91.digest (K n0 : Nat) (l0 z s : List Int) (h : ∀ k, k < 8 → 0 ≤ s.getD k 0 ∧ s.getD k 0 < 4294967296) (hK : 32 < K) :
    iter (f91.s6 K) K (0, n0, l0, z, s, Rf.digs s 0) = some (n0, l0, z, Rf.digs s 32) := by
  have := iter_for (stp := f91.s6 K) (N := 32) (fun i => ((i : Int), n0, l0, z, s, Rf.digs s i)) (y := some (n0, l0, z, Rf.digs s 32)) ?_ ?_ hK
  · exact this
  · intro i hi rec
    simp only [f91.s6, f91.s6t]
    have e28 : IntKind.wrap .i64 (Int.tdiv (i : Int) 4) = ((i / 4 : Nat) : Int) := by rw [show Int.tdiv (i : Int) 4 = ((i / 4 : Nat) : Int) from tdiv_nat i 4, wrap_i _ (by omega) (by omega)]
    have e33 : IntKind.wrap .i64 (24 - (IntKind.wrap .i64 (8 * (Int.tmod (i : Int) 4)))) = ((24 - 8 * (i % 4) : Nat) : Int) := by
      rw [show Int.tmod (i : Int) 4 = ((i % 4 : Nat) : Int) from tmod_nat i 4, wrap_i (8 * ((i % 4 : Nat) : Int)) (by omega) (by omega), wrap_i _ (by omega) (by omega)]; omega
    obtain ⟨r1, r2⟩ := h (i / 4) (by omega)
    have sh : IntKind.wrap .u8 (shiftI .shr .u32 (List.getD s (i / 4) 0) ((24 - 8 * (i % 4) : Nat) : Int)) = Rf.dig s i := by
      unfold shiftI Rf.dig
      dsimp only
      obtain ⟨x, hx⟩ : ∃ x : Nat, List.getD s (i / 4) 0 = (x : Int) := ⟨(List.getD s (i / 4) 0).toNat, by omega⟩
      rw [hx, Int.toNat_natCast, Int.toNat_natCast, show min (24 - 8 * (i % 4)) IntKind.u32.bits = 24 - 8 * (i % 4) from Nat.min_eq_left (by show _ ≤ 32; omega), fdiv_nat, show (2 : Nat) ^ (24 - 8 * (i % 4)) = 256 ^ (3 - i % 4) by rw [show (256 : Nat) = 2 ^ 8 from rfl, ← Nat.pow_mul]; congr 1; omega]
      simp [IntKind.wrap, IntKind.signed, IntKind.bits]
    rw [decide_eq_true (show (i : Int) < 32 by omega), cond_t]
    simp only [e28, e33, Int.toNat_natCast]
    rw [decide_eq_true (show (0 : Int) ≤ ((i / 4 : Nat) : Int) ∧ ((i / 4 : Nat) : Int) < 8 by omega), cond_t, decide_eq_true (show (0 : Int) ≤ ((24 - 8 * (i % 4) : Nat) : Int) by omega), cond_t, decide_eq_true (show (0 : Int) ≤ (i : Int) ∧ (i : Int) < 32 by omega), cond_t, sh, Rf.digs_set s i hi, wrap_i _ (by omega) (by omega)]
    rfl
  · intro rec
    simp only [f91.s6, f91.s6t]
    rfl
theorem f91.spec (K n : Nat) (m : List Int) (hm : m.length = n) (ho : octets m) (hn : n ≤ 100000000000) (hK : 200 + n / 64 < K) : f91.F K (n, n, m) = some (Sh.sum m, n, m) := by
  simp only [f91.F, f91.T]
  rw [Nat.zero_add, ble_true (Nat.le_refl n), fitB_true (by omega), Bool.and_self, cond_t, fitB_true (by omega), Bool.and_self, cond_t, subI_self m hm, padT_self m hm]
  have l1 : (m ++ [128]).length = n + 1 := by simp [hm]
  have z := f91.zeros K n m [0, 0, 0, 0, 0, 0, 0, 0, 0, 0, 0, 0, 0, 0, 0, 0, 0, 0, 0, 0, 0, 0, 0, 0, 0, 0, 0, 0, 0, 0, 0, 0] (m ++ [128]) n (by omega) (by omega)
  rw [l1, show (119 - (n + 1 + 63) % 64) % 64 = (119 - m.length % 64) % 64 by omega] at z
  generalize hN : (119 - m.length % 64) % 64 = N at z
  rw [z, bind_s]
  dsimp only
  have w8 : IntKind.wrap .u64 (8 * (IntKind.wrap .u64 ((n : Nat) : Int))) = ((8 * n : Nat) : Int) := by rw [wrap_u (n : Int) (by omega) (by omega), wrap_u _ (by omega) (by omega)]; omega
  have l2 : (m ++ [128] ++ List.replicate N 0).length = n + 1 + N := by rw [List.length_append, l1, List.length_replicate]
  have e := f91.eight K n m [0, 0, 0, 0, 0, 0, 0, 0, 0, 0, 0, 0, 0, 0, 0, 0, 0, 0, 0, 0, 0, 0, 0, 0, 0, 0, 0, 0, 0, 0, 0, 0] (m ++ [128] ++ List.replicate N 0) (8 * n) (by omega) (by omega) (by omega)
  rw [l2] at e
  rw [w8, e, bind_s, show f103.F K () = some Sh.consts from rfl, bind_s]
  dsimp only
  have hp : m ++ [128] ++ List.replicate N 0 ++ be 8 (8 * n) = Sh.padded m := by rw [Sh.padded, hN, hm]
  have lp : (Sh.padded m).length = n + 1 + N + 8 := by rw [← hp, List.length_append, l2, be_length]
  have op : octets (Sh.padded m) := by
    rw [← hp]
    exact octets_append (octets_append (octets_append ho (by intro x hx; simp only [List.mem_singleton] at hx; omega)) (octets_zeros N)) (be_octets _ _)
  have b := f91.blocks K n m [0, 0, 0, 0, 0, 0, 0, 0, 0, 0, 0, 0, 0, 0, 0, 0, 0, 0, 0, 0, 0, 0, 0, 0, 0, 0, 0, 0, 0, 0, 0, 0] (Sh.padded m) ((Sh.padded m).length / 64) (by omega) op (by omega) (by omega)
  rw [hp, ← lp]
  rw [show [1779033703, 3144134277, 1013904242, 2773480762, 1359893119, 2600822924, 528734635, 1541459225] = Sh.init from rfl, b, bind_s]
  dsimp only
  have d := f91.digest K n m [0, 0, 0, 0, 0, 0, 0, 0, 0, 0, 0, 0, 0, 0, 0, 0, 0, 0, 0, 0, 0, 0, 0, 0, 0, 0, 0, 0, 0, 0, 0, 0] (Sh.chain (Sh.padded m) ((Sh.padded m).length / 64)) (fun k hk => chain_range _ _ k hk) (by omega)
  rw [show Rf.digs (Sh.chain (Sh.padded m) ((Sh.padded m).length / 64)) 0 = [0, 0, 0, 0, 0, 0, 0, 0, 0, 0, 0, 0, 0, 0, 0, 0, 0, 0, 0, 0, 0, 0, 0, 0, 0, 0, 0, 0, 0, 0, 0, 0] from rfl] at d
  rw [d, bind_s]
  dsimp only
  rw [Rf.digs_all _ (fun k hk => chain_range _ _ k hk), ← Sh.sum]
end Go.Proofs

namespace Go.Proofs
open Go.VM
end Go.Proofs

namespace Go.Proofs
open Go.VM
theorem blen_lt (x : Nat) : x < 2 ^ blen x := by
  unfold blen
  by_cases h : x = 0
  · simp [h]
  · rw [if_neg h]; exact Nat.lt_log2_self
theorem blen_ge {x : Nat} (h : x ≠ 0) : 2 ^ (blen x - 1) ≤ x ∧ 0 < blen x := by
  unfold blen
  rw [if_neg h]
  exact ⟨Nat.log2_self_le h, by omega⟩
theorem blen_mono {a b : Nat} (h : a ≤ b) : blen a ≤ blen b := blen_le (Nat.lt_of_le_of_lt h (blen_lt b))
theorem blen_zero : blen 0 = 0 := rfl
theorem blen_256 {x : Nat} (h : x < 2 ^ 256) : blen x ≤ 256 := blen_le h
end Go.Proofs

namespace Go.Proofs
open Go.VM
namespace f83
abbrev Ty0 := List Int × List Int × List Int
def T (K : Nat) (a0 : List Int) (a1 : List Int) (a2 : List Int) : Option (List Int) :=
 (f85.F K (a0, a1)).bind fun y1 =>
 bif (decide (y1.2 > 0)) then
 (f26.F K (y1.1, a2)).bind fun y3 =>
 some y3.1
 else
 (f32.F K (y1.1, a2)).bind fun y4 =>
 bif (decide (y4 ≥ 0)) then
 (f26.F K (y1.1, a2)).bind fun y6 =>
 some y6.1
 else
 some y1.1
def F (K : Nat) (x : Ty0) : Option (List Int) := T K x.1 x.2.1 x.2.2
def av (x : Ty0) : List VV := [.agg [.ints .u64 4 x.1], .agg [.ints .u64 4 x.2.1], .agg [.ints .u64 4 x.2.2]]
def bl (_x : Ty0) : List (Nat × Blk) := []
def inA : VS → Option (Ty0)
 | ⟨[(0, .agg [.ints .u64 4 a0]), (1, .agg [.ints .u64 4 a1]), (2, .agg [.ints .u64 4 a2])], [], 0⟩ => some (a0, a1, a2)
 | _ => none
def o0 (y : List Int) : VS := ⟨[(0, .agg [.ints .u64 4 y])], [], 0⟩
def inR : VS → Option (List Int)
 | ⟨[(0, .agg [.ints .u64 4 y])], [], 0⟩ => some y
 | _ => none
noncomputable def E (K : Nat) : Entry := genE 0 inA (F K) (dv1 o0)
theorem ok (K : Nat) : EntryOK Tryz.prog 83 (E K) := gen_ok mix tys_ok (tab_ok ((tab_cons (f85.ok K) (tab_cons (f26.ok K) (tab_cons (f32.ok K) tab_nil))))) Tryz.func83 (c := bodyOf Tryz.f83) (by kernel_rfl) (by kernel_rfl) (loops_none (lp := lpNone) (by kernel_rfl)) (av := av) (bl := bl) (inR := inR) (out := o0) (fuel := 400)
  (by intro s x h; unfold inA at h; split at h <;> simp at h; subst h; rfl) (fun _ => Nat.le_of_ble_eq_true rfl)
  (by intro s y h; unfold inR at h; split at h <;> simp at h <;> subst h <;> rfl) (fun _ _ _ => rfl) (fun _ => by kernel_rfl)
end f83
end Go.Proofs

namespace Go.Proofs
open Go.VM
namespace f81
def T (_K : Nat)  : Option (List Int) :=
 some ([0, 0, 0, 0])
def F (K : Nat) (_x : Unit) : Option (List Int) := T K
def av (_x : Unit) : List VV := []
def bl (_x : Unit) : List (Nat × Blk) := []
def inA : VS → Option (Unit)
 | ⟨[], [], 0⟩ => some ()
 | _ => none
def o0 (y : List Int) : VS := ⟨[(0, .agg [.ints .u64 4 y])], [], 0⟩
def inR : VS → Option (List Int)
 | ⟨[(0, .agg [.ints .u64 4 y])], [], 0⟩ => some y
 | _ => none
noncomputable def E (K : Nat) : Entry := genE 0 inA (F K) (dv1 o0)
theorem ok (K : Nat) : EntryOK Tryz.prog 81 (E K) := gen_ok mix tys_ok (tab_ok ( tab_nil)) Tryz.func81 (c := bodyOf Tryz.f81) (by kernel_rfl) (by kernel_rfl) (loops_none (lp := lpNone) (by kernel_rfl)) (av := av) (bl := bl) (inR := inR) (out := o0) (fuel := 400)
  (by intro s x h; unfold inA at h; split at h <;> simp at h; rfl) (fun _ => Nat.le_of_ble_eq_true rfl)
  (by intro s y h; unfold inR at h; split at h <;> simp at h <;> subst h <;> rfl) (fun _ _ _ => rfl) (fun _ => by kernel_rfl)
end f81
end Go.Proofs

namespace Go.Proofs
open Go.VM
namespace f82
abbrev Ty0 := Int × List Int × List Int × List Int
abbrev Ty1 := List Int × List Int × Int
abbrev Ty2 := List Int × List Int
noncomputable def c : Code := bodyOf Tryz.f82
def s0t (K : Nat) (rec : Ty0 → Option (Ty2)) (t7 : Int) (b0 : List Int) (b1 : List Int) (b2 : List Int) : Option (Ty2) :=
 bif (decide (t7 ≥ 0)) then
 (f32.F K (b1, b2)).bind fun y19 =>
 bif (decide (y19 ≥ 0)) then
 (f26.F K (b1, b2)).bind fun y21 =>
 let v22 := IntKind.wrap .i64 (Int.tdiv t7 64)
 bif decide (0 ≤ v22 ∧ v22 < 4) then
 let v25 := Int.tmod t7 64
 bif decide (0 ≤ v25) then
 bif decide (0 ≤ v22 ∧ v22 < 4) then
 (f101.F K (b2, (-1))).bind fun y31 =>
 rec ((IntKind.wrap .i64 (t7 - 1)), (setD b0 (Int.toNat v22) (bits .or .u64 (List.getD b0 (Int.toNat v22) 0) (shiftI .shl .u64 1 v25))), y21.1, y31)
 else
 none
 else
 none
 else
 none
 else
 (f101.F K (b2, (-1))).bind fun y33 =>
 rec ((IntKind.wrap .i64 (t7 - 1)), b0, b1, y33)
 else
 some (b0, b1)
def s0 (K : Nat) (rec : Ty0 → Option (Ty2)) (x : Ty0) : Option (Ty2) := s0t K rec x.1 x.2.1 x.2.2.1 x.2.2.2
noncomputable def s0.b : Code := (findLoop 0 c).getD .skip
def s0.h : Hint := { lv := [4, 5, 7, 8] }
def s0.ho : Hint := { lv := [4, 5] }
def s0.shp (x : Ty0) : VS := ⟨[(4, .ptr 0 0), (5, .ptr 1 0), (7, .int .i64 x.1), (8, .ptr 2 0)], [(0, ([.ints .u64 4 x.2.1], 24, .norm)), (1, ([.ints .u64 4 x.2.2.1], 24, .norm)), (2, ([.ints .u64 4 x.2.2.2], 24, .norm))], 3⟩
def s0.inX : VS → Option (Ty0)
 | ⟨[(4, .ptr 0 0), (5, .ptr 1 0), (7, .int .i64 t7), (8, .ptr 2 0)], [(0, ([.ints .u64 4 b0], 24, .norm)), (1, ([.ints .u64 4 b1], 24, .norm)), (2, ([.ints .u64 4 b2], 24, .norm))], 3⟩ => some (t7, b0, b1, b2)
 | _ => none
def s0.o0 (y : Ty2) : VS := ⟨[(4, .ptr 0 0), (5, .ptr 1 0)], [(0, ([.ints .u64 4 y.1], 24, .norm)), (1, ([.ints .u64 4 y.2], 24, .norm))], 2⟩
def s0.des : ∀ α : Type, (Ty2) → (Ex → VS → Option α) → Option α := (des1 (.exit 0) s0.o0)
def s0.out : Ty2 → Ex × VS := (fun y => (.exit 0, s0.o0 y))
theorem s0.desOK : ∀ α y (k : Ex → VS → Option α), s0.des α y k = k (s0.out y).1 (s0.out y).2 := (fun _ _ _ => rfl)
def s0.inY : Ex → VS → Option (Ty2)
 | .exit 0, ⟨[(4, .ptr 0 0), (5, .ptr 1 0)], [(0, ([.ints .u64 4 b0], 24, .norm)), (1, ([.ints .u64 4 b1], 24, .norm))], 2⟩ => some (b0, b1)
 | _, _ => none
def lp (K : Nat) : Nat → Option (Hint × Summ) := tabLp [(0, s0.h, summOf (iter (s0 K) K) s0.inX s0.des)]
noncomputable def tab (K : Nat) : List (Nat × Entry) := [(81, (f81.E K)), (72, (f72.E K)), (12, (f12.E K)), (101, (f101.E K)), (32, (f32.E K)), (26, (f26.E K))]
theorem tabOK (K : Nat) : SpecOK Tryz.prog (tabSp (tab K)) := tab_ok ((tab_cons (f81.ok K) (tab_cons (f72.ok K) (tab_cons (f12.ok K) (tab_cons (f101.ok K) (tab_cons (f32.ok K) (tab_cons (f26.ok K) tab_nil)))))))
theorem s0.eq (K : Nat) (rec : Ty0 → Option (Ty2)) (x : Ty0) : s0 K rec x = roundL (getA tys) (tabSp (tab K)) 70 0 (lp K) 400 s0.b s0.h s0.ho s0.shp s0.inX s0.inY rec x := by kernel_rfl
theorem s0.lok (K : Nat) : LoopsOK Tryz.prog 70 0 (lp K) s0.b := loops_ok (by
  have h : loopsIn (lp K) s0.b = [] := by kernel_rfl
  rw [h]; simp)
theorem s0.ok (K : Nat) : SummOK Tryz.prog 70 0 (summOf (iter (s0 K) K) s0.inX s0.des) s0.b :=
  loop_ok mix tys_ok (tabOK K) (h := s0.h) (ho := s0.ho) (shp := s0.shp) (inX := s0.inX) (des := s0.des) (out := s0.out) (inY := s0.inY) (fuel := 400)
    (by intro st x h; unfold s0.inX at h; split at h <;> simp at h; subst h; rfl)
    (by intro e st y h; unfold s0.inY at h; split at h <;> simp at h <;> subst h <;> rfl)
    s0.desOK (s0.lok K) (s0 K) (s0.eq K) K
theorem loops (K : Nat) : LoopsOK Tryz.prog 70 0 (lp K) c := loops_ok (by
  have h : loopsIn (lp K) c = [(0, s0.b)] := by kernel_rfl
  rw [h]
  intro p hp
  simp only [List.mem_cons, List.not_mem_nil, or_false] at hp
  rcases hp with rfl
  · exact ⟨_, rfl, (s0.ok K)⟩)
def T (K : Nat) (a0 : List Int) (a1 : List Int) : Option (Ty1) :=
 (f81.F K ()).bind fun y1 =>
 bif (eqL 4 a1 y1 && true) then
 some ([0, 0, 0, 0], [0, 0, 0, 0], 1)
 else
 (f72.F K a0).bind fun y3 =>
 (f72.F K a1).bind fun y4 =>
 let v5 := IntKind.wrap .i64 (y3 - y4)
 (f72.F K a0).bind fun y6 =>
 bif (decide (y6 ≤ 64)) then
 bif (decide (v5 ≥ 0)) then
 let v10 := List.getD a1 0 0
 bif decide (v10 ≠ 0) then
 (f12.F K (IntKind.wrap .u64 (Int.tdiv (List.getD a0 0 0) v10))).bind fun y12 =>
 let v14 := List.getD a1 0 0
 bif decide (v14 ≠ 0) then
 (f12.F K (Int.tmod (List.getD a0 0 0) v14)).bind fun y16 =>
 some (y12, y16, 0)
 else
 none
 else
 none
 else
 (f101.F K (a1, v5)).bind fun y17 =>
 (iter (s0 K) K (v5, [0, 0, 0, 0], a0, y17)).bind fun y34 =>
 some (y34.1, y34.2, 0)
 else
 (f101.F K (a1, v5)).bind fun y35 =>
 (iter (s0 K) K (v5, [0, 0, 0, 0], a0, y35)).bind fun y36 =>
 some (y36.1, y36.2, 0)
def F (K : Nat) (x : Ty2) : Option (Ty1) := T K x.1 x.2
def av (x : Ty2) : List VV := [.agg [.ints .u64 4 x.1], .agg [.ints .u64 4 x.2]]
def bl (_x : Ty2) : List (Nat × Blk) := []
def inA : VS → Option (Ty2)
 | ⟨[(0, .agg [.ints .u64 4 a0]), (1, .agg [.ints .u64 4 a1])], [], 0⟩ => some (a0, a1)
 | _ => none
def o0 (y : Ty1) : VS := ⟨[(0, .tup [.agg [.ints .u64 4 y.1], .agg [.ints .u64 4 y.2.1], .int .i64 y.2.2])], [], 0⟩
def des : ∀ α : Type, (Ty1) → (VS → Option α) → Option α := (dv1 o0)
def out : Ty1 → VS := o0
def inR : VS → Option (Ty1)
 | ⟨[(0, .tup [.agg [.ints .u64 4 y_0], .agg [.ints .u64 4 y_1], .int .i64 y_2])], [], 0⟩ => some (y_0, y_1, y_2)
 | _ => none
noncomputable def E (K : Nat) : Entry := genE 0 inA (F K) des
theorem eq (K : Nat) (x : Ty2) : F K x = xrun (getA tys) (tabSp (tab K)) Tryz.f82.ntmps 0 (lp K) 400 c ⟨initL 0 (av x), bl x, 0⟩ (contF (getA tys) 0 Tryz.f82.results.toList inR) := by kernel_rfl
theorem ok (K : Nat) : EntryOK Tryz.prog 82 (E K) :=
  gen_ok mix tys_ok (tabOK K) Tryz.func82 (by kernel_rfl : Tryz.f82.body = some c) (by kernel_rfl) (loops K) (av := av) (bl := bl) (out := out) (fuel := 400)
    (by intro s x h; unfold inA at h; split at h <;> simp at h; subst h; rfl) (fun _ => Nat.le_of_ble_eq_true rfl)
    (by intro s y h; unfold inR at h; split at h <;> simp at h <;> subst h <;> rfl) (fun _ _ _ => rfl) (eq K)
end f82
end Go.Proofs

namespace Go.Proofs
open Go.VM
theorem f81.spec (K : Nat) : f81.F K () = some (num 0) := rfl
theorem num_add_mod (A : Nat) : num (A + 2 ^ 256) = num A := by
  rw [← num_mod (A + 2 ^ 256), ← num_mod A, Nat.add_mod_right]
theorem cmp_ge (A B : Nat) : decide (cmp A B ≥ 0) = decide (B ≤ A) := by
  unfold cmp
  by_cases h : A = B
  · subst h; simp
  · rw [if_neg h]
    by_cases h2 : A < B
    · rw [if_pos h2, decide_eq_false (by omega), decide_eq_false (by omega)]
    · rw [if_neg h2, decide_eq_true (by omega), decide_eq_true (by omega)]
theorem cmp_lt (A B : Nat) : decide (cmp A B < 0) = decide (A < B) := by
  unfold cmp
  by_cases h : A = B
  · subst h; simp
  · rw [if_neg h]
    by_cases h2 : A < B
    · rw [if_pos h2, decide_eq_true (by omega), decide_eq_true h2]
    · rw [if_neg h2, decide_eq_false (by omega), decide_eq_false h2]
theorem mod_once {S M : Nat} (h : S < 2 * M) : S % M = if M ≤ S then S - M else S := by
  by_cases h1 : M ≤ S
  · rw [if_pos h1, Nat.mod_eq_sub_mod h1, Nat.mod_eq_of_lt (by omega)]
  · rw [if_neg h1, Nat.mod_eq_of_lt (by omega)]
theorem f83.spec (A B M : Nat) (hA : A < M) (hB : B < M) (hM : M < 2 ^ 256) : f83.F 100000 (num A, num B, num M) = some (num ((A + B) % M)) := by
  have mA := mod_self_of (Nat.lt_trans hA hM)
  have mB := mod_self_of (Nat.lt_trans hB hM)
  have mM := mod_self_of hM
  have hm := mod_once (S := A + B) (M := M) (by omega)
  simp only [f83.F, f83.T, f85.all, f26.all, f32.all, bind_s, mA, mB, mM, cmp_ge]
  by_cases h : 2 ^ 256 ≤ A + B
  · have hc : (A + B) / 2 ^ 256 = 1 := by omega
    have hr : (A + B) % 2 ^ 256 + 2 ^ 256 - M = A + B - M := by omega
    rw [hc, decide_eq_true (show ((1 : Nat) : Int) > 0 by decide), cond_t, hr, hm, if_pos (by omega)]
  · have hc : (A + B) / 2 ^ 256 = 0 := by omega
    have hr : (A + B) % 2 ^ 256 = A + B := Nat.mod_eq_of_lt (by omega)
    rw [hc, decide_eq_false (show ¬ ((0 : Nat) : Int) > 0 by decide), cond_f, hr]
    by_cases h2 : M ≤ A + B
    · rw [decide_eq_true h2, cond_t, hm, if_pos h2, show A + B + 2 ^ 256 - M = A + B - M + 2 ^ 256 by omega, num_add_mod]
    · rw [decide_eq_false h2, cond_f, hm, if_neg h2]
theorem or_bit (Q n : Nat) (hn : n < 256) (hQ : Q % 2 ^ (n + 1) = 0) :
    setD (num Q) (n / 64) (bits .or .u64 ((num Q).getD (n / 64) 0) (shiftI .shl .u64 1 ((n % 64 : Nat) : Int))) = num (Q + 2 ^ n) := by
  have hw : n / 64 < 4 := by omega
  have hs : shiftI .shl .u64 1 ((n % 64 : Nat) : Int) = ((2 ^ (n % 64) : Nat) : Int) := by
    have hm : n % 64 < 64 := Nat.mod_lt _ (by decide)
    show IntKind.wrap .u64 (1 * 2 ^ (min (Int.toNat ((n % 64 : Nat) : Int)) 64)) = _
    rw [Int.toNat_natCast, Nat.min_eq_left (by omega), Int.one_mul]
    have : (2 : Int) ^ (n % 64) = ((2 ^ (n % 64) : Nat) : Int) := by simp
    rw [this, wrap_nat, Nat.mod_eq_of_lt]
    exact Nat.pow_lt_pow_right (by decide) hm
  have hx : Q / 2 ^ (64 * (n / 64)) % 2 ^ 64 < 18446744073709551616 := Nat.mod_lt _ (by decide)
  have hp : 2 ^ (n % 64) < 18446744073709551616 := Nat.pow_lt_pow_right (a := 2) (by decide) (show n % 64 < 64 from Nat.mod_lt _ (by decide))
  rw [getD_words hw, hs, bits_or_u64_nat _ _ hx hp]
  generalize ha : n % 64 = a at hp
  have ha64 : a < 64 := by omega
  obtain ⟨c, hc⟩ : ∃ c, Q / 2 ^ (64 * (n / 64)) % 2 ^ 64 = c * 2 ^ (a + 1) := by
    refine ⟨Q / 2 ^ (64 * (n / 64)) % 2 ^ 64 / 2 ^ (a + 1), ?_⟩
    have h0 : Q / 2 ^ (64 * (n / 64)) % 2 ^ 64 % 2 ^ (a + 1) = 0 := by
      rw [Nat.mod_mod_of_dvd _ (Nat.pow_dvd_pow 2 (by omega))]
      have h1 : Q % (2 ^ (64 * (n / 64)) * 2 ^ (a + 1)) = 0 := by
        rw [← Nat.pow_add, show 64 * (n / 64) + (a + 1) = n + 1 by omega]; exact hQ
      rw [Nat.mod_mul] at h1
      have h2 : 2 ^ (64 * (n / 64)) * (Q / 2 ^ (64 * (n / 64)) % 2 ^ (a + 1)) = 0 := by omega
      rcases Nat.mul_eq_zero.1 h2 with h | h
      · have := Nat.two_pow_pos (64 * (n / 64)); omega
      · exact h
    have := Nat.div_add_mod (Q / 2 ^ (64 * (n / 64)) % 2 ^ 64) (2 ^ (a + 1))
    rw [h0, Nat.add_zero, Nat.mul_comm] at this
    exact this.symm
  have hor : (Q / 2 ^ (64 * (n / 64)) % 2 ^ 64) ||| 2 ^ a = Q / 2 ^ (64 * (n / 64)) % 2 ^ 64 + 2 ^ a := by
    rw [hc, ← Nat.shiftLeft_eq, ← Nat.shiftLeft_add_eq_or_of_lt (Nat.pow_lt_pow_right (by decide) (Nat.lt_succ_self a))]
  have hlt : Q / 2 ^ (64 * (n / 64)) % 2 ^ 64 + 2 ^ a < 2 ^ 64 := by
    rw [← hor]
    exact Nat.or_lt_two_pow (Nat.mod_lt _ (by decide)) hp
  rw [hor]
  show setD (vec 4 fun j => Q / 2 ^ (64 * j) % 2 ^ 64) (n / 64) _ = _
  rw [setD_vec hw, set_words 64 4 Q (n / 64) _ hlt]
  congr 1
  have hs := split_word 64 Q (n / 64)
  have e2 : 2 ^ n = 2 ^ (64 * (n / 64)) * 2 ^ a := by rw [← Nat.pow_add]; congr 1; omega
  rw [e2]
  conv => rhs; rw [hs]
  simp only [Nat.mul_add]
  omega
theorem digit (A T : Nat) (hT : 0 < T) : (T ≤ A % (T * 2) → A % T = A % (T * 2) - T ∧ A / T = A / (T * 2) * 2 + 1) ∧ (¬ T ≤ A % (T * 2) → A % T = A % (T * 2) ∧ A / T = A / (T * 2) * 2) := by
  have h1 : A % (T * 2) = A % T + T * (A / T % 2) := Nat.mod_mul
  have h2 : A / (T * 2) = A / T / 2 := (Nat.div_div_eq_div_mul _ _ _).symm
  have h3 := Nat.mod_lt A hT
  rw [h1, h2]
  rcases Nat.mod_two_eq_zero_or_one (A / T) with h | h
  · rw [h, Nat.mul_zero, Nat.add_zero]
    exact ⟨fun h => by omega, fun _ => ⟨rfl, by omega⟩⟩
  · rw [h, Nat.mul_one]
    exact ⟨fun _ => ⟨by omega, by omega⟩, fun h => by omega⟩
theorem f82.round (A B n : Nat) (hA : A < 2 ^ 256) (hB : 0 < B) (hn : n < 256) (hT : B * 2 ^ n < 2 ^ 256) (rec : _ → _) :
    f82.s0 100000 rec ((n : Int), num (A / (B * 2 ^ (n + 1)) * 2 ^ (n + 1)), num (A % (B * 2 ^ (n + 1))), num (B * 2 ^ n)) = rec ((n : Int) - 1, num (A / (B * 2 ^ n) * 2 ^ n), num (A % (B * 2 ^ n)), num (B * 2 ^ n / 2)) := by
  have hTp : 0 < B * 2 ^ n := Nat.mul_pos hB (Nat.two_pow_pos n)
  have e2 : B * 2 ^ (n + 1) = B * 2 ^ n * 2 := by rw [Nat.pow_succ, Nat.mul_assoc]
  obtain ⟨d1, d2⟩ := digit A (B * 2 ^ n) hTp
  rw [e2]
  generalize hTT : B * 2 ^ n = T at *
  have mR := mod_self_of (Nat.lt_of_le_of_lt (Nat.mod_le A (T * 2)) hA)
  have mT := mod_self_of hT
  have s1 : f101.F 100000 (num T, -1) = some (num (T % 2 ^ 256 / 2 ^ 1)) := f101.downA T 1
  have w1 : IntKind.wrap .i64 ((n : Int) - 1) = (n : Int) - 1 := wrap_i _ (by omega) (by omega)
  have w2 : IntKind.wrap .i64 (Int.tdiv (n : Int) 64) = ((n / 64 : Nat) : Int) := by
    rw [show (64 : Int) = ((64 : Nat) : Int) from rfl, tdiv_nat, wrap_i _ (by omega) (by omega)]
  have w3 : Int.tmod (n : Int) 64 = ((n % 64 : Nat) : Int) := tmod_nat n 64
  have h4 : decide ((0 : Int) ≤ ((n / 64 : Nat) : Int) ∧ ((n / 64 : Nat) : Int) < 4) = true := inR_nat (n := 4) (by omega)
  simp only [f82.s0, f82.s0t]
  rw [decide_eq_true (show (n : Int) ≥ 0 by omega), cond_t, f32.all, bind_s, mR, mT, cmp_ge, w1, w2, w3, h4, s1]
  simp only [cond_t, bind_s, mT, Nat.pow_one, Int.toNat_natCast, decide_eq_true (show (0 : Int) ≤ ((n % 64 : Nat) : Int) by omega)]
  by_cases h : T ≤ A % (T * 2)
  · obtain ⟨g1, g2⟩ := d1 h
    have hQ : A / (T * 2) * 2 ^ (n + 1) % 2 ^ (n + 1) = 0 := Nat.mul_mod_left _ _
    rw [decide_eq_true h, cond_t, f26.all, bind_s, mR, mT, or_bit _ _ hn hQ, g1, g2]
    simp only []
    rw [show A % (T * 2) + 2 ^ 256 - T = A % (T * 2) - T + 2 ^ 256 by omega, num_add_mod, Nat.add_mul, Nat.one_mul, Nat.mul_assoc, Nat.mul_comm 2 (2 ^ n), ← Nat.pow_succ]
  · obtain ⟨g1, g2⟩ := d2 h
    rw [decide_eq_false h, cond_f, g1, g2, Nat.mul_assoc, Nat.mul_comm 2 (2 ^ n), ← Nat.pow_succ]
theorem f82.loop (A B up : Nat) (hA : A < 2 ^ 256) (hB : 0 < B) (hup : up < 256) (hT : B * 2 ^ up < 2 ^ 256) (hlt : A < B * 2 ^ (up + 1)) :
    iter (f82.s0 100000) 100000 ((up : Int), [0, 0, 0, 0], num A, num (B * 2 ^ up)) = some (num (A / B), num (A % B)) := by
  have key := iter_for (stp := f82.s0 100000) (N := up + 1) (fun i => (((up + 1 - i : Nat) : Int) - 1, num (A / (B * 2 ^ (up + 1 - i)) * 2 ^ (up + 1 - i)), num (A % (B * 2 ^ (up + 1 - i))), num (B * 2 ^ (up + 1 - i) / 2)))
    (y := some (num (A / B), num (A % B))) (fun i hi rec => by
      obtain ⟨n, hn⟩ : ∃ n, up + 1 - i = n + 1 := ⟨up - i, by omega⟩
      have hTn : B * 2 ^ n < 2 ^ 256 := Nat.lt_of_le_of_lt (Nat.mul_le_mul_left B (Nat.pow_le_pow_right (by decide) (by omega))) hT
      have hr := f82.round A B n hA hB (by omega) hTn rec
      have e3 : B * 2 ^ (n + 1) / 2 = B * 2 ^ n := by rw [Nat.pow_succ, ← Nat.mul_assoc]; omega
      rw [hn, show up + 1 - (i + 1) = n by omega, e3, show ((n + 1 : Nat) : Int) - 1 = (n : Int) by omega]
      exact hr) (fun rec => by
      simp only [f82.s0, f82.s0t, Nat.sub_self, Nat.pow_zero, Nat.mul_one]
      rw [decide_eq_false (show ¬ (((0 : Nat) : Int) - 1) ≥ 0 by decide), cond_f]) (show up + 1 < 100000 by omega)
  simp only [Nat.sub_zero, Nat.div_eq_of_lt hlt, Nat.mod_eq_of_lt hlt, Nat.zero_mul] at key
  have e3 : B * 2 ^ (up + 1) / 2 = B * 2 ^ up := by rw [Nat.pow_succ, ← Nat.mul_assoc]; omega
  rw [e3, show ((up + 1 : Nat) : Int) - 1 = (up : Int) by omega] at key
  exact key
theorem word0 (A : Nat) (h : A < 2 ^ 64) : (num A).getD 0 0 = (A : Int) := by
  rw [getD_words (show 0 < 4 by decide), Nat.mul_zero, Nat.pow_zero, Nat.div_one, Nat.mod_eq_of_lt h]
theorem f82.spec (A B : Nat) (hA : A < 2 ^ 256) (hB : B < 2 ^ 256) (h0 : 0 < B) : f82.F 100000 (num A, num B) = some (num (A / B), num (A % B), 0) := by
  have mA := mod_self_of hA
  have mB := mod_self_of hB
  have bA := blen_256 hA
  have bB := blen_256 hB
  have lA := blen_lt A
  have lB := blen_lt B
  obtain ⟨gB, pB⟩ := blen_ge (x := B) (by omega)
  have w1 : IntKind.wrap .i64 (((blen A : Nat) : Int) - ((blen B : Nat) : Int)) = ((blen A : Nat) : Int) - ((blen B : Nat) : Int) := wrap_i _ (by omega) (by omega)
  have hz : decide (B = 0 % 2 ^ 256) = false := decide_eq_false (fun h => by rw [Nat.zero_mod] at h; omega)
  simp only [f82.F, f82.T, f81.spec, bind_s, eqL_num, Bool.and_true, hz, cond_f, f72.all, mA, mB, w1]
  have slow : ((f101.F 100000 (num B, ((blen A : Nat) : Int) - ((blen B : Nat) : Int))).bind fun y17 => (iter (f82.s0 100000) 100000 (((blen A : Nat) : Int) - ((blen B : Nat) : Int), [0, 0, 0, 0], num A, y17)).bind fun y34 => some (y34.1, y34.2, (0 : Int))) = some (num (A / B), num (A % B), 0) := by
    by_cases h : blen B ≤ blen A
    · obtain ⟨up, hup⟩ : ∃ up, blen A = blen B + up := ⟨blen A - blen B, by omega⟩
      rw [show ((blen A : Nat) : Int) - ((blen B : Nat) : Int) = (up : Int) by omega, f101.upA, mB, bind_s]
      have hT : B * 2 ^ up < 2 ^ 256 := by
        have h1 : B * 2 ^ up < 2 ^ blen B * 2 ^ up := Nat.mul_lt_mul_of_pos_right lB (Nat.two_pow_pos up)
        rw [← Nat.pow_add, ← hup] at h1
        exact Nat.lt_of_lt_of_le h1 (Nat.pow_le_pow_right (by decide) bA)
      have hlt : A < B * 2 ^ (up + 1) := by
        have h1 : 2 ^ (blen B - 1) * 2 ^ (up + 1) ≤ B * 2 ^ (up + 1) := Nat.mul_le_mul_right _ gB
        rw [← Nat.pow_add, show blen B - 1 + (up + 1) = blen A by omega] at h1
        omega
      rw [f82.loop A B up hA h0 (by omega) hT hlt, bind_s]
    · obtain ⟨dn, hdn⟩ : ∃ dn, blen B = blen A + (dn + 1) := ⟨blen B - blen A - 1, by omega⟩
      have hAB : A < B := by
        have h1 : 2 ^ blen A ≤ 2 ^ (blen B - 1) := Nat.pow_le_pow_right (by decide) (by omega)
        omega
      rw [show ((blen A : Nat) : Int) - ((blen B : Nat) : Int) = -((dn + 1 : Nat) : Int) by omega, f101.downA, bind_s, show (100000 : Nat) = 99999 + 1 from rfl, iter]
      simp only [f82.s0, f82.s0t]
      rw [decide_eq_false (show ¬ (-((dn + 1 : Nat) : Int)) ≥ 0 by omega), cond_f, bind_s, Nat.div_eq_of_lt hAB, Nat.mod_eq_of_lt hAB]
      rfl
  by_cases h1 : blen A ≤ 64
  · rw [decide_eq_true (show ((blen A : Nat) : Int) ≤ 64 by omega), cond_t]
    by_cases h2 : blen B ≤ blen A
    · rw [decide_eq_true (show ((blen A : Nat) : Int) - ((blen B : Nat) : Int) ≥ 0 by omega), cond_t]
      have hA64 : A < 2 ^ 64 := Nat.lt_of_lt_of_le lA (Nat.pow_le_pow_right (by decide) h1)
      have hB64 : B < 2 ^ 64 := Nat.lt_of_lt_of_le lB (Nat.pow_le_pow_right (by decide) (by omega))
      have hq : A / B < 18446744073709551616 := Nat.lt_of_le_of_lt (Nat.div_le_self _ _) hA64
      have hr : A % B < 18446744073709551616 := Nat.lt_of_le_of_lt (Nat.mod_le _ _) hA64
      rw [word0 A hA64, word0 B hB64, decide_eq_true (show ((B : Nat) : Int) ≠ 0 by omega), cond_t, tdiv_nat, tmod_nat, wrap_nat, Nat.mod_eq_of_lt hq, f12.nat _ _ hq, bind_s, cond_t, f12.nat _ _ hr, bind_s]
    · rw [decide_eq_false (show ¬ ((blen A : Nat) : Int) - ((blen B : Nat) : Int) ≥ 0 by omega), cond_f]
      exact slow
  · rw [decide_eq_false (show ¬ ((blen A : Nat) : Int) ≤ 64 by omega), cond_f]
    exact slow
end Go.Proofs

namespace Go.Proofs
open Go.VM
theorem div_mod_of {A B q r : Nat} (h : A = r + B * q) (hr : r < B) : A / B = q ∧ A % B = r :=
  (Nat.div_mod_unique (by omega)).2 ⟨h.symm, hr⟩
theorem eqN (X Y : Nat) (hX : X < 2 ^ 256) (hY : Y < 2 ^ 256) : eqL 4 (num X) (num Y) = decide (X = Y) := by
  rw [eqL_num, Nat.mod_eq_of_lt hX, Nat.mod_eq_of_lt hY]
end Go.Proofs

namespace Go.Proofs
open Go.VM
namespace f108
def k0 : ByteArray := ByteArray.mk #[0, 1, 2, 2, 3, 3, 3, 3, 4, 4, 4, 4, 4, 4, 4, 4, 5, 5, 5, 5, 5, 5, 5, 5, 5, 5, 5, 5, 5, 5, 5, 5, 6, 6, 6, 6, 6, 6, 6, 6, 6, 6, 6, 6, 6, 6, 6, 6, 6, 6, 6, 6, 6, 6, 6, 6, 6, 6, 6, 6, 6, 6, 6, 6, 7, 7, 7, 7, 7, 7, 7, 7, 7, 7, 7, 7, 7, 7, 7, 7, 7, 7, 7, 7, 7, 7, 7, 7, 7, 7, 7, 7, 7, 7, 7, 7, 7, 7, 7, 7, 7, 7, 7, 7, 7, 7, 7, 7, 7, 7, 7, 7, 7, 7, 7, 7, 7, 7, 7, 7, 7, 7, 7, 7, 7, 7, 7, 7, 8, 8, 8, 8, 8, 8, 8, 8, 8, 8, 8, 8, 8, 8, 8, 8, 8, 8, 8, 8, 8, 8, 8, 8, 8, 8, 8, 8, 8, 8, 8, 8, 8, 8, 8, 8, 8, 8, 8, 8, 8, 8, 8, 8, 8, 8, 8, 8, 8, 8, 8, 8, 8, 8, 8, 8, 8, 8, 8, 8, 8, 8, 8, 8, 8, 8, 8, 8, 8, 8, 8, 8, 8, 8, 8, 8, 8, 8, 8, 8, 8, 8, 8, 8, 8, 8, 8, 8, 8, 8, 8, 8, 8, 8, 8, 8, 8, 8, 8, 8, 8, 8, 8, 8, 8, 8, 8, 8, 8, 8, 8, 8, 8, 8, 8, 8, 8, 8, 8, 8, 8, 8, 8, 8, 8, 8, 8, 8]
def T (_K : Nat) (a0 : Int) : Option (Int) :=
 bif (decide (a0 ≥ 4294967296)) then
 let v2 := Int.fdiv a0 (2 ^ 32)
 bif (decide (v2 ≥ 65536)) then
 let v4 := Int.fdiv v2 (2 ^ 16)
 bif (decide (v4 ≥ 256)) then
 let v7 := IntKind.wrap .u8 (Int.fdiv v4 (2 ^ 8))
 bif decide (0 ≤ v7 ∧ v7 < ((ByteArray.size k0 : Nat) : Int)) then
 some (IntKind.wrap .i64 (56 + (IntKind.wrap .i64 (strAt k0 (Int.toNat v7)))))
 else
 none
 else
 let v11 := IntKind.wrap .u8 v4
 bif decide (0 ≤ v11 ∧ v11 < ((ByteArray.size k0 : Nat) : Int)) then
 some (IntKind.wrap .i64 (48 + (IntKind.wrap .i64 (strAt k0 (Int.toNat v11)))))
 else
 none
 else
 bif (decide (v2 ≥ 256)) then
 let v17 := IntKind.wrap .u8 (Int.fdiv v2 (2 ^ 8))
 bif decide (0 ≤ v17 ∧ v17 < ((ByteArray.size k0 : Nat) : Int)) then
 some (IntKind.wrap .i64 (40 + (IntKind.wrap .i64 (strAt k0 (Int.toNat v17)))))
 else
 none
 else
 let v21 := IntKind.wrap .u8 v2
 bif decide (0 ≤ v21 ∧ v21 < ((ByteArray.size k0 : Nat) : Int)) then
 some (IntKind.wrap .i64 (32 + (IntKind.wrap .i64 (strAt k0 (Int.toNat v21)))))
 else
 none
 else
 bif (decide (a0 ≥ 65536)) then
 let v26 := Int.fdiv a0 (2 ^ 16)
 bif (decide (v26 ≥ 256)) then
 let v29 := IntKind.wrap .u8 (Int.fdiv v26 (2 ^ 8))
 bif decide (0 ≤ v29 ∧ v29 < ((ByteArray.size k0 : Nat) : Int)) then
 some (IntKind.wrap .i64 (24 + (IntKind.wrap .i64 (strAt k0 (Int.toNat v29)))))
 else
 none
 else
 let v33 := IntKind.wrap .u8 v26
 bif decide (0 ≤ v33 ∧ v33 < ((ByteArray.size k0 : Nat) : Int)) then
 some (IntKind.wrap .i64 (16 + (IntKind.wrap .i64 (strAt k0 (Int.toNat v33)))))
 else
 none
 else
 bif (decide (a0 ≥ 256)) then
 let v39 := IntKind.wrap .u8 (Int.fdiv a0 (2 ^ 8))
 bif decide (0 ≤ v39 ∧ v39 < ((ByteArray.size k0 : Nat) : Int)) then
 some (IntKind.wrap .i64 (8 + (IntKind.wrap .i64 (strAt k0 (Int.toNat v39)))))
 else
 none
 else
 let v43 := IntKind.wrap .u8 a0
 bif decide (0 ≤ v43 ∧ v43 < ((ByteArray.size k0 : Nat) : Int)) then
 some (IntKind.wrap .i64 (0 + (IntKind.wrap .i64 (strAt k0 (Int.toNat v43)))))
 else
 none
def F (K : Nat) (x : Int) : Option (Int) := T K x
def av (x : Int) : List VV := [.int .u64 x]
def bl (_x : Int) : List (Nat × Blk) := []
def inA : VS → Option (Int)
 | ⟨[(0, .int .u64 a0)], [], 0⟩ => some a0
 | _ => none
def o0 (y : Int) : VS := ⟨[(0, .int .i64 y)], [], 0⟩
def inR : VS → Option (Int)
 | ⟨[(0, .int .i64 y)], [], 0⟩ => some y
 | _ => none
noncomputable def E (K : Nat) : Entry := genE 0 inA (F K) (dv1 o0)
theorem ok (K : Nat) : EntryOK Tryz.prog 108 (E K) := gen_ok mix tys_ok (tab_ok ( tab_nil)) Tryz.func108 (c := bodyOf Tryz.f108) (by kernel_rfl) (by kernel_rfl) (loops_none (lp := lpNone) (by kernel_rfl)) (av := av) (bl := bl) (inR := inR) (out := o0) (fuel := 400)
  (by intro s x h; unfold inA at h; split at h <;> simp at h; subst h; rfl) (fun _ => Nat.le_of_ble_eq_true rfl)
  (by intro s y h; unfold inR at h; split at h <;> simp at h <;> subst h <;> rfl) (fun _ _ _ => rfl) (fun _ => by kernel_rfl)
end f108
end Go.Proofs

namespace Go.Proofs
open Go.VM
namespace f96
def T (K : Nat) (a0 : Int) : Option (Int) :=
 (f108.F K a0).bind fun y1 =>
 some (IntKind.wrap .i64 (64 - y1))
def F (K : Nat) (x : Int) : Option (Int) := T K x
def av (x : Int) : List VV := [.int .u64 x]
def bl (_x : Int) : List (Nat × Blk) := []
def inA : VS → Option (Int)
 | ⟨[(0, .int .u64 a0)], [], 0⟩ => some a0
 | _ => none
def o0 (y : Int) : VS := ⟨[(0, .int .i64 y)], [], 0⟩
def inR : VS → Option (Int)
 | ⟨[(0, .int .i64 y)], [], 0⟩ => some y
 | _ => none
noncomputable def E (K : Nat) : Entry := genE 0 inA (F K) (dv1 o0)
theorem ok (K : Nat) : EntryOK Tryz.prog 96 (E K) := gen_ok mix tys_ok (tab_ok ((tab_cons (f108.ok K) tab_nil))) Tryz.func96 (c := bodyOf Tryz.f96) (by kernel_rfl) (by kernel_rfl) (loops_none (lp := lpNone) (by kernel_rfl)) (av := av) (bl := bl) (inR := inR) (out := o0) (fuel := 400)
  (by intro s x h; unfold inA at h; split at h <;> simp at h; subst h; rfl) (fun _ => Nat.le_of_ble_eq_true rfl)
  (by intro s y h; unfold inR at h; split at h <;> simp at h <;> subst h <;> rfl) (fun _ _ _ => rfl) (fun _ => by kernel_rfl)
end f96
end Go.Proofs

namespace Go.Proofs
open Go.VM
namespace f70
abbrev Ty0 := Int × Int × Int × Int × Int × Int × Int × Int × Int
abbrev Ty1 := Int × Int × Int × Int × Int × Int × Int × Int
abbrev Ty2 := Int × Int × Int × Int × Int × Int
abbrev Ty3 := Int × Int × Int
noncomputable def c : Code := bodyOf Tryz.f70
def s0t (_K : Nat) (rec : Ty0 → Option (Ty1)) (t2 : Int) (t8 : Int) (t9 : Int) (t10 : Int) (t11 : Int) (t13 : Int) (t14 : Int) (t15 : Int) (t16 : Int) : Option (Ty1) :=
 bif (decide (t15 ≥ 4294967296)) then
 let v20 := IntKind.wrap .u64 (t15 - 1)
 let v21 := IntKind.wrap .u64 (t16 + t9)
 bif (decide (v21 ≥ 4294967296)) then
 some (t2, t8, t9, t10, t11, t13, t14, v20)
 else
 rec (t2, t8, t9, t10, t11, t13, t14, v20, v21)
 else
 bif (decide ((IntKind.wrap .u64 (t15 * t10)) > (IntKind.wrap .u64 ((IntKind.wrap .u64 (4294967296 * t16)) + t13)))) then
 let v27 := IntKind.wrap .u64 (t15 - 1)
 let v28 := IntKind.wrap .u64 (t16 + t9)
 bif (decide (v28 ≥ 4294967296)) then
 some (t2, t8, t9, t10, t11, t13, t14, v27)
 else
 rec (t2, t8, t9, t10, t11, t13, t14, v27, v28)
 else
 some (t2, t8, t9, t10, t11, t13, t14, t15)
def s0 (K : Nat) (rec : Ty0 → Option (Ty1)) (x : Ty0) : Option (Ty1) := s0t K rec x.1 x.2.1 x.2.2.1 x.2.2.2.1 x.2.2.2.2.1 x.2.2.2.2.2.1 x.2.2.2.2.2.2.1 x.2.2.2.2.2.2.2.1 x.2.2.2.2.2.2.2.2
noncomputable def s0.b : Code := (findLoop 0 c).getD .skip
def s0.h : Hint := { lv := [2, 8, 9, 10, 11, 13, 14, 15, 16] }
def s0.ho : Hint := { lv := [2, 8, 9, 10, 11, 13, 14, 15] }
def s0.shp (x : Ty0) : VS := ⟨[(2, .int .u64 x.1), (8, .int .u64 x.2.1), (9, .int .u64 x.2.2.1), (10, .int .u64 x.2.2.2.1), (11, .int .u64 x.2.2.2.2.1), (13, .int .u64 x.2.2.2.2.2.1), (14, .int .u64 x.2.2.2.2.2.2.1), (15, .int .u64 x.2.2.2.2.2.2.2.1), (16, .int .u64 x.2.2.2.2.2.2.2.2)], [], 0⟩
def s0.inX : VS → Option (Ty0)
 | ⟨[(2, .int .u64 t2), (8, .int .u64 t8), (9, .int .u64 t9), (10, .int .u64 t10), (11, .int .u64 t11), (13, .int .u64 t13), (14, .int .u64 t14), (15, .int .u64 t15), (16, .int .u64 t16)], [], 0⟩ => some (t2, t8, t9, t10, t11, t13, t14, t15, t16)
 | _ => none
def s0.o0 (y : Ty1) : VS := ⟨[(2, .int .u64 y.1), (8, .int .u64 y.2.1), (9, .int .u64 y.2.2.1), (10, .int .u64 y.2.2.2.1), (11, .int .u64 y.2.2.2.2.1), (13, .int .u64 y.2.2.2.2.2.1), (14, .int .u64 y.2.2.2.2.2.2.1), (15, .int .u64 y.2.2.2.2.2.2.2)], [], 0⟩
def s0.des : ∀ α : Type, (Ty1) → (Ex → VS → Option α) → Option α := (des1 (.exit 0) s0.o0)
def s0.out : Ty1 → Ex × VS := (fun y => (.exit 0, s0.o0 y))
theorem s0.desOK : ∀ α y (k : Ex → VS → Option α), s0.des α y k = k (s0.out y).1 (s0.out y).2 := (fun _ _ _ => rfl)
def s0.inY : Ex → VS → Option (Ty1)
 | .exit 0, ⟨[(2, .int .u64 t2), (8, .int .u64 t8), (9, .int .u64 t9), (10, .int .u64 t10), (11, .int .u64 t11), (13, .int .u64 t13), (14, .int .u64 t14), (15, .int .u64 t15)], [], 0⟩ => some (t2, t8, t9, t10, t11, t13, t14, t15)
 | _, _ => none
def s2t (_K : Nat) (rec : Ty0 → Option (Ty2)) (t2 : Int) (t8 : Int) (t9 : Int) (t10 : Int) (t14 : Int) (t15 : Int) (t16 : Int) (t17 : Int) (t18 : Int) : Option (Ty2) :=
 bif (decide (t18 ≥ 4294967296)) then
 let v42 := IntKind.wrap .u64 (t18 - 1)
 let v43 := IntKind.wrap .u64 (t16 + t9)
 bif (decide (v43 ≥ 4294967296)) then
 some (t2, t8, t14, t15, t17, v42)
 else
 rec (t2, t8, t9, t10, t14, t15, v43, t17, v42)
 else
 bif (decide ((IntKind.wrap .u64 (t18 * t10)) > (IntKind.wrap .u64 ((IntKind.wrap .u64 (4294967296 * t16)) + t14)))) then
 let v49 := IntKind.wrap .u64 (t18 - 1)
 let v50 := IntKind.wrap .u64 (t16 + t9)
 bif (decide (v50 ≥ 4294967296)) then
 some (t2, t8, t14, t15, t17, v49)
 else
 rec (t2, t8, t9, t10, t14, t15, v50, t17, v49)
 else
 some (t2, t8, t14, t15, t17, t18)
def s2 (K : Nat) (rec : Ty0 → Option (Ty2)) (x : Ty0) : Option (Ty2) := s2t K rec x.1 x.2.1 x.2.2.1 x.2.2.2.1 x.2.2.2.2.1 x.2.2.2.2.2.1 x.2.2.2.2.2.2.1 x.2.2.2.2.2.2.2.1 x.2.2.2.2.2.2.2.2
noncomputable def s2.b : Code := (findLoop 2 c).getD .skip
def s2.h : Hint := { lv := [2, 8, 9, 10, 14, 15, 16, 17, 18] }
def s2.ho : Hint := { lv := [2, 8, 14, 15, 17, 18] }
def s2.shp (x : Ty0) : VS := ⟨[(2, .int .u64 x.1), (8, .int .u64 x.2.1), (9, .int .u64 x.2.2.1), (10, .int .u64 x.2.2.2.1), (14, .int .u64 x.2.2.2.2.1), (15, .int .u64 x.2.2.2.2.2.1), (16, .int .u64 x.2.2.2.2.2.2.1), (17, .int .u64 x.2.2.2.2.2.2.2.1), (18, .int .u64 x.2.2.2.2.2.2.2.2)], [], 0⟩
def s2.inX : VS → Option (Ty0)
 | ⟨[(2, .int .u64 t2), (8, .int .u64 t8), (9, .int .u64 t9), (10, .int .u64 t10), (14, .int .u64 t14), (15, .int .u64 t15), (16, .int .u64 t16), (17, .int .u64 t17), (18, .int .u64 t18)], [], 0⟩ => some (t2, t8, t9, t10, t14, t15, t16, t17, t18)
 | _ => none
def s2.o0 (y : Ty2) : VS := ⟨[(2, .int .u64 y.1), (8, .int .u64 y.2.1), (14, .int .u64 y.2.2.1), (15, .int .u64 y.2.2.2.1), (17, .int .u64 y.2.2.2.2.1), (18, .int .u64 y.2.2.2.2.2)], [], 0⟩
def s2.des : ∀ α : Type, (Ty2) → (Ex → VS → Option α) → Option α := (des1 (.exit 2) s2.o0)
def s2.out : Ty2 → Ex × VS := (fun y => (.exit 2, s2.o0 y))
theorem s2.desOK : ∀ α y (k : Ex → VS → Option α), s2.des α y k = k (s2.out y).1 (s2.out y).2 := (fun _ _ _ => rfl)
def s2.inY : Ex → VS → Option (Ty2)
 | .exit 2, ⟨[(2, .int .u64 t2), (8, .int .u64 t8), (14, .int .u64 t14), (15, .int .u64 t15), (17, .int .u64 t17), (18, .int .u64 t18)], [], 0⟩ => some (t2, t8, t14, t15, t17, t18)
 | _, _ => none
def lp (K : Nat) : Nat → Option (Hint × Summ) := tabLp [(0, s0.h, summOf (iter (s0 K) K) s0.inX s0.des), (2, s2.h, summOf (iter (s2 K) K) s2.inX s2.des)]
noncomputable def tab (K : Nat) : List (Nat × Entry) := [(96, (f96.E K))]
theorem tabOK (K : Nat) : SpecOK Tryz.prog (tabSp (tab K)) := tab_ok ((tab_cons (f96.ok K) tab_nil))
theorem s0.eq (K : Nat) (rec : Ty0 → Option (Ty1)) (x : Ty0) : s0 K rec x = roundL (getA tys) (tabSp (tab K)) 135 0 (lp K) 400 s0.b s0.h s0.ho s0.shp s0.inX s0.inY rec x := by kernel_rfl
theorem s0.lok (K : Nat) : LoopsOK Tryz.prog 135 0 (lp K) s0.b := loops_ok (by
  have h : loopsIn (lp K) s0.b = [] := by kernel_rfl
  rw [h]; simp)
theorem s0.ok (K : Nat) : SummOK Tryz.prog 135 0 (summOf (iter (s0 K) K) s0.inX s0.des) s0.b :=
  loop_ok mix tys_ok (tabOK K) (h := s0.h) (ho := s0.ho) (shp := s0.shp) (inX := s0.inX) (des := s0.des) (out := s0.out) (inY := s0.inY) (fuel := 400)
    (by intro st x h; unfold s0.inX at h; split at h <;> simp at h; subst h; rfl)
    (by intro e st y h; unfold s0.inY at h; split at h <;> simp at h <;> subst h <;> rfl)
    s0.desOK (s0.lok K) (s0 K) (s0.eq K) K
theorem s2.eq (K : Nat) (rec : Ty0 → Option (Ty2)) (x : Ty0) : s2 K rec x = roundL (getA tys) (tabSp (tab K)) 135 0 (lp K) 400 s2.b s2.h s2.ho s2.shp s2.inX s2.inY rec x := by kernel_rfl
theorem s2.lok (K : Nat) : LoopsOK Tryz.prog 135 0 (lp K) s2.b := loops_ok (by
  have h : loopsIn (lp K) s2.b = [] := by kernel_rfl
  rw [h]; simp)
theorem s2.ok (K : Nat) : SummOK Tryz.prog 135 0 (summOf (iter (s2 K) K) s2.inX s2.des) s2.b :=
  loop_ok mix tys_ok (tabOK K) (h := s2.h) (ho := s2.ho) (shp := s2.shp) (inX := s2.inX) (des := s2.des) (out := s2.out) (inY := s2.inY) (fuel := 400)
    (by intro st x h; unfold s2.inX at h; split at h <;> simp at h; subst h; rfl)
    (by intro e st y h; unfold s2.inY at h; split at h <;> simp at h <;> subst h <;> rfl)
    s2.desOK (s2.lok K) (s2 K) (s2.eq K) K
theorem loops (K : Nat) : LoopsOK Tryz.prog 135 0 (lp K) c := loops_ok (by
  have h : loopsIn (lp K) c = [(0, s0.b), (2, s2.b)] := by kernel_rfl
  rw [h]
  intro p hp
  simp only [List.mem_cons, List.not_mem_nil, or_false] at hp
  rcases hp with rfl | rfl
  · exact ⟨_, rfl, (s0.ok K)⟩
  · exact ⟨_, rfl, (s2.ok K)⟩)
def T (K : Nat) (a0 : Int) (a1 : Int) (a2 : Int) : Option (Int × Int) :=
 bif (a2 == 0) then
 none
 else
 bif (decide (a2 ≤ a0)) then
 none
 else
 bif (a0 == 0) then
 bif decide (a2 ≠ 0) then
 bif decide (a2 ≠ 0) then
 some ((IntKind.wrap .u64 (Int.tdiv a1 a2)), (Int.tmod a1 a2))
 else
 none
 else
 none
 else
 (f96.F K a2).bind fun y4 =>
 let v5 := IntKind.wrap .u64 y4
 bif decide (0 ≤ v5) then
 let v6 := shiftI .shl .u64 a2 v5
 let v7 := Int.fdiv v6 (2 ^ 32)
 bif decide (0 ≤ v5) then
 let v10 := IntKind.wrap .u64 (64 - v5)
 bif decide (0 ≤ v10) then
 let v12 := bits .or .u64 (shiftI .shl .u64 a0 v5) (shiftI .shr .u64 a1 v10)
 bif decide (0 ≤ v5) then
 let v13 := shiftI .shl .u64 a1 v5
 bif decide (v7 ≠ 0) then
 let v16 := IntKind.wrap .u64 (Int.tdiv v12 v7)
 (iter (s0 K) K (v6, v5, v7, (bits .and .u64 v6 4294967295), v12, (Int.fdiv v13 (2 ^ 32)), (bits .and .u64 v13 4294967295), v16, (IntKind.wrap .u64 (v12 - (IntKind.wrap .u64 (v16 * v7)))))).bind fun y30 =>
 let v37 := IntKind.wrap .u64 ((IntKind.wrap .u64 ((IntKind.wrap .u64 (y30.2.2.2.2.1 * 4294967296)) + y30.2.2.2.2.2.1)) - (IntKind.wrap .u64 (y30.2.2.2.2.2.2.2 * y30.1)))
 bif decide (y30.2.2.1 ≠ 0) then
 let v38 := IntKind.wrap .u64 (Int.tdiv v37 y30.2.2.1)
 (iter (s2 K) K (y30.1, y30.2.1, y30.2.2.1, y30.2.2.2.1, y30.2.2.2.2.2.2.1, y30.2.2.2.2.2.2.2, (IntKind.wrap .u64 (v37 - (IntKind.wrap .u64 (v38 * y30.2.2.1)))), v37, v38)).bind fun y52 =>
 bif decide (0 ≤ y52.2.1) then
 some ((IntKind.wrap .u64 ((IntKind.wrap .u64 (y52.2.2.2.1 * 4294967296)) + y52.2.2.2.2.2)), (shiftI .shr .u64 (IntKind.wrap .u64 ((IntKind.wrap .u64 ((IntKind.wrap .u64 (y52.2.2.2.2.1 * 4294967296)) + y52.2.2.1)) - (IntKind.wrap .u64 (y52.2.2.2.2.2 * y52.1)))) y52.2.1))
 else
 none
 else
 none
 else
 none
 else
 none
 else
 none
 else
 none
 else
 none
def F (K : Nat) (x : Ty3) : Option (Int × Int) := T K x.1 x.2.1 x.2.2
def av (x : Ty3) : List VV := [.int .u64 x.1, .int .u64 x.2.1, .int .u64 x.2.2]
def bl (_x : Ty3) : List (Nat × Blk) := []
def inA : VS → Option (Ty3)
 | ⟨[(0, .int .u64 a0), (1, .int .u64 a1), (2, .int .u64 a2)], [], 0⟩ => some (a0, a1, a2)
 | _ => none
def o0 (y : Int × Int) : VS := ⟨[(0, .tup [.int .u64 y.1, .int .u64 y.2])], [], 0⟩
def des : ∀ α : Type, (Int × Int) → (VS → Option α) → Option α := (dv1 o0)
def out : Int × Int → VS := o0
def inR : VS → Option (Int × Int)
 | ⟨[(0, .tup [.int .u64 y_0, .int .u64 y_1])], [], 0⟩ => some (y_0, y_1)
 | _ => none
noncomputable def E (K : Nat) : Entry := genE 0 inA (F K) des
theorem eq (K : Nat) (x : Ty3) : F K x = xrun (getA tys) (tabSp (tab K)) Tryz.f70.ntmps 0 (lp K) 400 c ⟨initL 0 (av x), bl x, 0⟩ (contF (getA tys) 0 Tryz.f70.results.toList inR) := by kernel_rfl
theorem ok (K : Nat) : EntryOK Tryz.prog 70 (E K) :=
  gen_ok mix tys_ok (tabOK K) Tryz.func70 (by kernel_rfl : Tryz.f70.body = some c) (by kernel_rfl) (loops K) (av := av) (bl := bl) (out := out) (fuel := 400)
    (by intro s x h; unfold inA at h; split at h <;> simp at h; subst h; rfl) (fun _ => Nat.le_of_ble_eq_true rfl)
    (by intro s y h; unfold inR at h; split at h <;> simp at h <;> subst h <;> rfl) (fun _ _ _ => rfl) (eq K)
end f70
end Go.Proofs

namespace Go.Proofs
open Go.VM
namespace f69
def T (_K : Nat) (a0 : Int) (a1 : Int) : Option (Int × Int) :=
 let v1 := bits .and .u64 a0 4294967295
 let v2 := Int.fdiv a0 (2 ^ 32)
 let v3 := bits .and .u64 a1 4294967295
 let v4 := Int.fdiv a1 (2 ^ 32)
 let v8 := IntKind.wrap .u64 ((IntKind.wrap .u64 (v2 * v3)) + (Int.fdiv (IntKind.wrap .u64 (v1 * v3)) (2 ^ 32)))
 some ((IntKind.wrap .u64 ((IntKind.wrap .u64 ((IntKind.wrap .u64 (v2 * v4)) + (Int.fdiv v8 (2 ^ 32)))) + (Int.fdiv (IntKind.wrap .u64 ((bits .and .u64 v8 4294967295) + (IntKind.wrap .u64 (v1 * v4)))) (2 ^ 32)))), (IntKind.wrap .u64 (a0 * a1)))
def F (K : Nat) (x : Int × Int) : Option (Int × Int) := T K x.1 x.2
def av (x : Int × Int) : List VV := [.int .u64 x.1, .int .u64 x.2]
def bl (_x : Int × Int) : List (Nat × Blk) := []
def inA : VS → Option (Int × Int)
 | ⟨[(0, .int .u64 a0), (1, .int .u64 a1)], [], 0⟩ => some (a0, a1)
 | _ => none
def o0 (y : Int × Int) : VS := ⟨[(0, .tup [.int .u64 y.1, .int .u64 y.2])], [], 0⟩
def inR : VS → Option (Int × Int)
 | ⟨[(0, .tup [.int .u64 y_0, .int .u64 y_1])], [], 0⟩ => some (y_0, y_1)
 | _ => none
noncomputable def E (K : Nat) : Entry := genE 0 inA (F K) (dv1 o0)
theorem ok (K : Nat) : EntryOK Tryz.prog 69 (E K) := gen_ok mix tys_ok (tab_ok ( tab_nil)) Tryz.func69 (c := bodyOf Tryz.f69) (by kernel_rfl) (by kernel_rfl) (loops_none (lp := lpNone) (by kernel_rfl)) (av := av) (bl := bl) (inR := inR) (out := o0) (fuel := 400)
  (by intro s x h; unfold inA at h; split at h <;> simp at h; subst h; rfl) (fun _ => Nat.le_of_ble_eq_true rfl)
  (by intro s y h; unfold inR at h; split at h <;> simp at h <;> subst h <;> rfl) (fun _ _ _ => rfl) (fun _ => by kernel_rfl)
end f69
end Go.Proofs

namespace Go.Proofs
open Go.VM
namespace f90
abbrev Ty0 := Int × Int × Int
def T (K : Nat) (a0 : Int) (a1 : Int) (a2 : Int) : Option (Int) :=
 bif decide (a2 ≠ 0) then
 (f70.F K ((Int.tmod a0 a2), a1, a2)).bind fun y2 =>
 some y2.2
 else
 none
def F (K : Nat) (x : Ty0) : Option (Int) := T K x.1 x.2.1 x.2.2
def av (x : Ty0) : List VV := [.int .u64 x.1, .int .u64 x.2.1, .int .u64 x.2.2]
def bl (_x : Ty0) : List (Nat × Blk) := []
def inA : VS → Option (Ty0)
 | ⟨[(0, .int .u64 a0), (1, .int .u64 a1), (2, .int .u64 a2)], [], 0⟩ => some (a0, a1, a2)
 | _ => none
def o0 (y : Int) : VS := ⟨[(0, .int .u64 y)], [], 0⟩
def inR : VS → Option (Int)
 | ⟨[(0, .int .u64 y)], [], 0⟩ => some y
 | _ => none
noncomputable def E (K : Nat) : Entry := genE 0 inA (F K) (dv1 o0)
theorem ok (K : Nat) : EntryOK Tryz.prog 90 (E K) := gen_ok mix tys_ok (tab_ok ((tab_cons (f70.ok K) tab_nil))) Tryz.func90 (c := bodyOf Tryz.f90) (by kernel_rfl) (by kernel_rfl) (loops_none (lp := lpNone) (by kernel_rfl)) (av := av) (bl := bl) (inR := inR) (out := o0) (fuel := 400)
  (by intro s x h; unfold inA at h; split at h <;> simp at h; subst h; rfl) (fun _ => Nat.le_of_ble_eq_true rfl)
  (by intro s y h; unfold inR at h; split at h <;> simp at h <;> subst h <;> rfl) (fun _ _ _ => rfl) (fun _ => by kernel_rfl)
end f90
end Go.Proofs

namespace Go.Proofs
open Go.VM
theorem wrap_emod (z : Int) : IntKind.wrap .u64 z = z % 18446744073709551616 := by
  simp only [IntKind.wrap, IntKind.bits, IntKind.signed, Bool.false_and, Bool.false_eq_true, if_false]
  omega
theorem wrap_u8 (n : Nat) (h : n < 256) : IntKind.wrap .u8 (n : Int) = (n : Int) := by
  simp only [IntKind.wrap, IntKind.bits, IntKind.signed, Bool.false_and, Bool.false_eq_true, if_false]
  omega
theorem len8 : ∀ i : Fin 256, strAt f108.k0 i.val = ((blen i.val : Nat) : Int) := by decide +kernel
theorem blen_shift (x p : Nat) (h : x / 2 ^ p ≠ 0) : blen x = p + blen (x / 2 ^ p) := by
  have h1 := blen_word (x % 2 ^ p) (x / 2 ^ p) p (Nat.mod_lt _ (Nat.two_pow_pos p)) h
  have h2 := Nat.mod_add_div x (2 ^ p)
  rw [Nat.mul_comm] at h2
  rw [h2] at h1
  exact h1
theorem f108.end (x p : Nat) (h : x < 256) (hp : p ≤ 56) :
    (bif decide (0 ≤ IntKind.wrap .u8 ((x : Nat) : Int) ∧ IntKind.wrap .u8 ((x : Nat) : Int) < ((ByteArray.size f108.k0 : Nat) : Int)) then some (IntKind.wrap .i64 ((p : Int) + IntKind.wrap .i64 (strAt f108.k0 (Int.toNat (IntKind.wrap .u8 ((x : Nat) : Int)))))) else none) = some (((p + blen x : Nat) : Int)) := by
  have h1 := len8 ⟨x, h⟩
  have h2 : blen x ≤ 8 := blen_le (k := 8) h
  have h3 : ((ByteArray.size f108.k0 : Nat) : Int) = 256 := by decide +kernel
  rw [wrap_u8 x h, h3, decide_eq_true ⟨by omega, by omega⟩, cond_t, Int.toNat_natCast]
  rw [show strAt f108.k0 x = ((blen x : Nat) : Int) from h1, wrap_i (((blen x : Nat) : Int)) (by omega) (by omega), wrap_i _ (by omega) (by omega)]
  rfl
theorem f108.spec (K x : Nat) (hx : x < 18446744073709551616) : f108.F K (x : Int) = some ((blen x : Nat) : Int) := by
  simp only [f108.F, f108.T, fdiv_nat]
  have fin : ∀ (y p q : Nat), y / 2 ^ q < 256 → y / 2 ^ q ≠ 0 → p + q ≤ 56 → blen x = p + blen y → ∀ P : Int, P = ((p + q : Nat) : Int) →
      (bif decide (0 ≤ IntKind.wrap .u8 ((y / 2 ^ q : Nat) : Int) ∧ IntKind.wrap .u8 ((y / 2 ^ q : Nat) : Int) < ((ByteArray.size f108.k0 : Nat) : Int)) then some (IntKind.wrap .i64 (P + IntKind.wrap .i64 (strAt f108.k0 (Int.toNat (IntKind.wrap .u8 ((y / 2 ^ q : Nat) : Int)))))) else none) = some ((blen x : Nat) : Int) := by
    rintro y p q h1 h2 h3 h4 P rfl
    rw [f108.end _ _ h1 h3, h4, blen_shift y q h2, Nat.add_assoc]
  have fin0 : ∀ (y p : Nat), y < 256 → p ≤ 56 → blen x = p + blen y → ∀ P : Int, P = (p : Int) →
      (bif decide (0 ≤ IntKind.wrap .u8 ((y : Nat) : Int) ∧ IntKind.wrap .u8 ((y : Nat) : Int) < ((ByteArray.size f108.k0 : Nat) : Int)) then some (IntKind.wrap .i64 (P + IntKind.wrap .i64 (strAt f108.k0 (Int.toNat (IntKind.wrap .u8 ((y : Nat) : Int)))))) else none) = some ((blen x : Nat) : Int) := by
    rintro y p h1 h3 h4 P rfl
    rw [f108.end _ _ h1 h3, h4]
  by_cases h1 : 4294967296 ≤ x
  · rw [decide_eq_true (show (x : Int) ≥ 4294967296 by omega), cond_t]
    have b1 : blen x = 32 + blen (x / 2 ^ 32) := blen_shift x 32 (by omega)
    have l1 : x / 2 ^ 32 < 4294967296 := by omega
    generalize x / 2 ^ 32 = x1 at *
    by_cases h2 : 65536 ≤ x1
    · rw [decide_eq_true (show (x1 : Int) ≥ 65536 by omega), cond_t]
      have b2 : blen x1 = 16 + blen (x1 / 2 ^ 16) := blen_shift x1 16 (by omega)
      have l2 : x1 / 2 ^ 16 < 65536 := by omega
      generalize x1 / 2 ^ 16 = x2 at *
      by_cases h3 : 256 ≤ x2
      · rw [decide_eq_true (show (x2 : Int) ≥ 256 by omega), cond_t]
        exact fin x2 48 8 (by omega) (by omega) (by omega) (by omega) _ rfl
      · rw [decide_eq_false (show ¬ (x2 : Int) ≥ 256 by omega), cond_f]
        exact fin0 x2 48 (by omega) (by omega) (by omega) _ rfl
    · rw [decide_eq_false (show ¬ (x1 : Int) ≥ 65536 by omega), cond_f]
      by_cases h3 : 256 ≤ x1
      · rw [decide_eq_true (show (x1 : Int) ≥ 256 by omega), cond_t]
        exact fin x1 32 8 (by omega) (by omega) (by omega) (by omega) _ rfl
      · rw [decide_eq_false (show ¬ (x1 : Int) ≥ 256 by omega), cond_f]
        exact fin0 x1 32 (by omega) (by omega) (by omega) _ rfl
  · rw [decide_eq_false (show ¬ (x : Int) ≥ 4294967296 by omega), cond_f]
    by_cases h2 : 65536 ≤ x
    · rw [decide_eq_true (show (x : Int) ≥ 65536 by omega), cond_t]
      have b2 : blen x = 16 + blen (x / 2 ^ 16) := blen_shift x 16 (by omega)
      have l2 : x / 2 ^ 16 < 65536 := by omega
      generalize x / 2 ^ 16 = x2 at *
      by_cases h3 : 256 ≤ x2
      · rw [decide_eq_true (show (x2 : Int) ≥ 256 by omega), cond_t]
        exact fin x2 16 8 (by omega) (by omega) (by omega) (by omega) _ rfl
      · rw [decide_eq_false (show ¬ (x2 : Int) ≥ 256 by omega), cond_f]
        exact fin0 x2 16 (by omega) (by omega) (by omega) _ rfl
    · rw [decide_eq_false (show ¬ (x : Int) ≥ 65536 by omega), cond_f]
      by_cases h3 : 256 ≤ x
      · rw [decide_eq_true (show (x : Int) ≥ 256 by omega), cond_t]
        exact fin x 0 8 (by omega) (by omega) (by omega) (by omega) _ rfl
      · rw [decide_eq_false (show ¬ (x : Int) ≥ 256 by omega), cond_f]
        exact fin0 x 0 (by omega) (by omega) (by omega) _ rfl
theorem f69.spec (K a b : Nat) (ha : a < 18446744073709551616) (hb : b < 18446744073709551616) : f69.F K ((a : Int), (b : Int)) = some (((a * b / 2 ^ 64 : Nat) : Int), ((a * b % 2 ^ 64 : Nat) : Int)) := by
  have h := mul64_arith (a : Int) (b : Int) (by omega) (by omega) (by omega) (by omega)
  have fd : ∀ z : Int, 0 ≤ z → Int.fdiv z (2 ^ 32) = z / 4294967296 := fun z _ => by
    rw [Int.fdiv_eq_ediv_of_nonneg _ (by decide)]; rfl
  have m1 : ∀ z : Int, 0 ≤ z % 18446744073709551616 := fun z => Int.emod_nonneg _ (by decide)
  simp only [f69.F, f69.T]
  rw [and_low32 _ (by omega) (by omega), and_low32 _ (by omega) (by omega)]
  simp only [wrap_emod]
  rw [and_low32 _ (m1 _) (Int.emod_lt_of_pos _ (by decide)), fd (a : Int) (by omega), fd (b : Int) (by omega), fd _ (m1 _), fd _ (m1 _), fd _ (m1 _), h]
  congr 1
end Go.Proofs

namespace Go.Proofs
open Go.VM
theorem guess_high {u u1 y1 y0 q r : Nat} (hY : 0 < y1) (hu : u = q * y1 + r) : (r * 4294967296 + u1 < q * y0) ↔ (u * 4294967296 + u1) / (y1 * 4294967296 + y0) < q := by
  rw [Nat.div_lt_iff_lt_mul (by omega), hu, Nat.mul_add q (y1 * 4294967296) y0, Nat.add_mul (q * y1) r 4294967296, ← Nat.mul_assoc q y1 4294967296]
  omega
theorem guess_over {u u1 y1 y0 q r : Nat} (hY : 0 < y1) (hu : u = q * y1 + r) (hr : 4294967296 ≤ r) (hq : q ≤ 4294967296) (hy0 : y0 < 4294967296) : q ≤ (u * 4294967296 + u1) / (y1 * 4294967296 + y0) := by
  have h := not_congr (guess_high (u1 := u1) (y0 := y0) hY hu)
  have h2 : q * y0 ≤ 4294967296 * 4294967295 := Nat.mul_le_mul hq (by omega)
  exact Nat.le_of_not_lt (h.1 (by omega))
theorem guess_lt {u u1 y1 y0 : Nat} (_hY : 0 < y1) (hu : u < y1 * 4294967296 + y0) (h1 : u1 < 4294967296) : (u * 4294967296 + u1) / (y1 * 4294967296 + y0) < 4294967296 := by
  rw [Nat.div_lt_iff_lt_mul (by omega), Nat.mul_comm 4294967296]
  have : (u + 1) * 4294967296 ≤ (y1 * 4294967296 + y0) * 4294967296 := Nat.mul_le_mul_right _ hu
  omega
theorem guess_first {u u1 y1 y0 : Nat} (hY : 2147483648 ≤ y1) (hu : u < y1 * 4294967296 + y0) (h1 : u1 < 4294967296) (hy0 : y0 < 4294967296) : (u * 4294967296 + u1) / (y1 * 4294967296 + y0) ≤ u / y1 ∧ u / y1 ≤ 4294967297 := by
  constructor
  · rw [Nat.le_div_iff_mul_le (by omega)]
    generalize hQ : (u * 4294967296 + u1) / (y1 * 4294967296 + y0) = Q
    have h2 : Q * (y1 * 4294967296 + y0) ≤ u * 4294967296 + u1 := by rw [← hQ]; exact Nat.div_mul_le_self _ _
    rw [Nat.mul_add Q (y1 * 4294967296) y0, ← Nat.mul_assoc Q y1 4294967296] at h2
    omega
  · have : u < 4294967298 * y1 := by omega
    have := (Nat.div_lt_iff_lt_mul (show 0 < y1 by omega)).2 this
    omega
theorem guess_round {u u1 y1 y0 q r : Nat} (hY : 2147483648 ≤ y1) (hy1 : y1 < 4294967296) (hY0 : y0 < 4294967296) (_hu : u < y1 * 4294967296 + y0) (_h1 : u1 < 4294967296)
    (he : u = q * y1 + r) (_hr : r < 4294967296) (hq : (u * 4294967296 + u1) / (y1 * 4294967296 + y0) ≤ q) (hq2 : q ≤ 4294967297) (hgt : (u * 4294967296 + u1) / (y1 * 4294967296 + y0) < q) :
    u = (q - 1) * y1 + (r + y1) ∧ (u * 4294967296 + u1) / (y1 * 4294967296 + y0) ≤ q - 1 ∧ q - 1 ≤ 4294967296 ∧ (4294967296 ≤ r + y1 → q - 1 = (u * 4294967296 + u1) / (y1 * 4294967296 + y0)) := by
  have hq0 : 0 < q := Nat.lt_of_le_of_lt (Nat.zero_le _) hgt
  obtain ⟨k, rfl⟩ : ∃ k, q = k + 1 := ⟨q - 1, by omega⟩
  have e : u = k * y1 + (r + y1) := by rw [he, Nat.succ_mul k y1]; omega
  simp only [Nat.add_sub_cancel]
  refine ⟨e, Nat.le_of_lt_succ hgt, by omega, fun h => ?_⟩
  exact Nat.le_antisymm (guess_over (u1 := u1) (y0 := y0) (by omega) e h (by omega) hY0) (Nat.le_of_lt_succ hgt)
theorem f70.loop0 (K' K Y y1 y0 u u1 : Nat) (s t : Int) (hYe : Y = y1 * 4294967296 + y0) (hY : 2147483648 ≤ y1) (hy1 : y1 < 4294967296) (hY0 : y0 < 4294967296) (hu : u < Y) (h1 : u1 < 4294967296) (hK : 1 < K) :
    iter (f70.s0 K') K ((Y : Int), s, (y1 : Int), (y0 : Int), (u : Int), (u1 : Int), t, ((u / y1 : Nat) : Int), ((u % y1 : Nat) : Int)) = some ((Y : Int), s, (y1 : Int), (y0 : Int), (u : Int), (u1 : Int), t, (((u * 4294967296 + u1) / Y : Nat) : Int)) := by
  have hu' : u < y1 * 4294967296 + y0 := by omega
  have hfirst := guess_first (u1 := u1) hY hu' h1 hY0
  have hlt := guess_lt (y1 := y1) (y0 := y0) (u := u) (by omega) hu' h1
  have hi := fun q r he => guess_high (u := u) (u1 := u1) (y1 := y1) (y0 := y0) (q := q) (r := r) (by omega) he
  have hround := fun q r he hr hq hq2 hgt => guess_round (q := q) (r := r) hY hy1 hY0 hu' h1 he hr hq hq2 hgt
  rw [show (u * 4294967296 + u1) / Y = (u * 4294967296 + u1) / (y1 * 4294967296 + y0) by rw [hYe]]
  generalize (u * 4294967296 + u1) / (y1 * 4294967296 + y0) = Q at *
  obtain ⟨y, hy, hz⟩ := iter_inv (stp := f70.s0 K')
    (fun m x => ∃ q r : Nat, x = ((Y : Int), s, (y1 : Int), (y0 : Int), (u : Int), (u1 : Int), t, (q : Int), (r : Int)) ∧ u = q * y1 + r ∧ r < 4294967296 ∧ Q ≤ q ∧ q ≤ 4294967297 ∧ (r < 2147483648 → 1 ≤ m))
    (fun y => y = ((Y : Int), s, (y1 : Int), (y0 : Int), (u : Int), (u1 : Int), t, (Q : Int)))
    (fun m x ⟨q, r, hx, he, hr, hq, hq2, hm⟩ => by
      subst hx
      have hw2 : IntKind.wrap .u64 ((r : Int) + (y1 : Int)) = ((r + y1 : Nat) : Int) := by rw [wrap_u _ (by omega) (by omega)]; rfl
      have down : Q < q →
          (∃ y, y = ((Y : Int), s, (y1 : Int), (y0 : Int), (u : Int), (u1 : Int), t, (Q : Int)) ∧ ∀ rec : Int × Int × Int × Int × Int × Int × Int × Int × Int → Option (Int × Int × Int × Int × Int × Int × Int × Int), (bif decide (((r + y1 : Nat) : Int) ≥ 4294967296) then some ((Y : Int), s, (y1 : Int), (y0 : Int), (u : Int), (u1 : Int), t, IntKind.wrap .u64 ((q : Int) - 1)) else rec ((Y : Int), s, (y1 : Int), (y0 : Int), (u : Int), (u1 : Int), t, IntKind.wrap .u64 ((q : Int) - 1), ((r + y1 : Nat) : Int))) = some y) ∨
          (∃ x' m', m' < m ∧ (∃ q' r' : Nat, x' = ((Y : Int), s, (y1 : Int), (y0 : Int), (u : Int), (u1 : Int), t, (q' : Int), (r' : Int)) ∧ u = q' * y1 + r' ∧ r' < 4294967296 ∧ Q ≤ q' ∧ q' ≤ 4294967297 ∧ (r' < 2147483648 → 1 ≤ m')) ∧
            ∀ rec : Int × Int × Int × Int × Int × Int × Int × Int × Int → Option (Int × Int × Int × Int × Int × Int × Int × Int), (bif decide (((r + y1 : Nat) : Int) ≥ 4294967296) then some ((Y : Int), s, (y1 : Int), (y0 : Int), (u : Int), (u1 : Int), t, IntKind.wrap .u64 ((q : Int) - 1)) else rec ((Y : Int), s, (y1 : Int), (y0 : Int), (u : Int), (u1 : Int), t, IntKind.wrap .u64 ((q : Int) - 1), ((r + y1 : Nat) : Int))) = rec x') := by
        intro hgt
        obtain ⟨g1, g2, g3, g4⟩ := hround q r he hr hq hq2 hgt
        have hw1 : IntKind.wrap .u64 ((q : Int) - 1) = ((q - 1 : Nat) : Int) := by rw [wrap_u _ (by omega) (by omega)]; omega
        rw [hw1]
        by_cases h : 4294967296 ≤ r + y1
        · refine .inl ⟨_, rfl, fun rec => ?_⟩
          rw [decide_eq_true (show ((r + y1 : Nat) : Int) ≥ 4294967296 by omega), cond_t, g4 h]
        · refine .inr ⟨_, 0, ?_, ⟨q - 1, r + y1, rfl, g1, by omega, g2, by omega, by omega⟩, fun rec => ?_⟩
          · have := hm (by omega); omega
          · rw [decide_eq_false (show ¬ ((r + y1 : Nat) : Int) ≥ 4294967296 by omega), cond_f]
      simp only [f70.s0, f70.s0t, hw2]
      by_cases hb : 4294967296 ≤ q
      · rw [decide_eq_true (show (q : Int) ≥ 4294967296 by omega)]
        simp only [cond_t]
        exact down (by omega)
      · rw [decide_eq_false (show ¬ (q : Int) ≥ 4294967296 by omega)]
        simp only [cond_f]
        have hp : q * y0 ≤ 4294967295 * 4294967295 := Nat.mul_le_mul (by omega) (by omega)
        have w1 : IntKind.wrap .u64 ((q : Int) * (y0 : Int)) = ((q * y0 : Nat) : Int) := by
          rw [show (q : Int) * (y0 : Int) = ((q * y0 : Nat) : Int) by simp, wrap_u _ (by omega) (by omega)]
        have w2 : IntKind.wrap .u64 (IntKind.wrap .u64 (4294967296 * (r : Int)) + (u1 : Int)) = ((r * 4294967296 + u1 : Nat) : Int) := by
          rw [wrap_u (4294967296 * (r : Int)) (by omega) (by omega), wrap_u _ (by omega) (by omega)]; omega
        rw [w1, w2]
        have hc' := hi q r he
        by_cases hc : r * 4294967296 + u1 < q * y0
        · rw [decide_eq_true (show ((q * y0 : Nat) : Int) > ((r * 4294967296 + u1 : Nat) : Int) by omega)]
          simp only [cond_t]
          exact down (hc'.1 hc)
        · rw [decide_eq_false (show ¬ ((q * y0 : Nat) : Int) > ((r * 4294967296 + u1 : Nat) : Int) by omega)]
          simp only [cond_f]
          have : q = Q := Nat.le_antisymm (Nat.le_of_not_lt ((not_congr hc').1 hc)) hq
          exact .inl ⟨_, rfl, fun rec => by rw [this]⟩)
    1 _ ⟨u / y1, u % y1, rfl, by have := Nat.div_add_mod u y1; rw [Nat.mul_comm] at this; exact this.symm, by have := Nat.mod_lt u (show 0 < y1 by omega); omega, hfirst.1, hfirst.2, fun _ => Nat.le_refl _⟩ K hK
  rw [hz, hy]
theorem f70.loop2 (K' K Y y1 y0 u u1 : Nat) (s t : Int) (hYe : Y = y1 * 4294967296 + y0) (hY : 2147483648 ≤ y1) (hy1 : y1 < 4294967296) (hY0 : y0 < 4294967296) (hu : u < Y) (h1 : u1 < 4294967296) (hK : 1 < K) :
    iter (f70.s2 K') K ((Y : Int), s, (y1 : Int), (y0 : Int), (u1 : Int), t, ((u % y1 : Nat) : Int), (u : Int), ((u / y1 : Nat) : Int)) = some ((Y : Int), s, (u1 : Int), t, (u : Int), (((u * 4294967296 + u1) / Y : Nat) : Int)) := by
  have hu' : u < y1 * 4294967296 + y0 := by omega
  have hfirst := guess_first (u1 := u1) hY hu' h1 hY0
  have hlt := guess_lt (y1 := y1) (y0 := y0) (u := u) (by omega) hu' h1
  have hi := fun q r he => guess_high (u := u) (u1 := u1) (y1 := y1) (y0 := y0) (q := q) (r := r) (by omega) he
  have hround := fun q r he hr hq hq2 hgt => guess_round (q := q) (r := r) hY hy1 hY0 hu' h1 he hr hq hq2 hgt
  rw [show (u * 4294967296 + u1) / Y = (u * 4294967296 + u1) / (y1 * 4294967296 + y0) by rw [hYe]]
  generalize (u * 4294967296 + u1) / (y1 * 4294967296 + y0) = Q at *
  obtain ⟨y, hy, hz⟩ := iter_inv (stp := f70.s2 K')
    (fun m x => ∃ q r : Nat, x = ((Y : Int), s, (y1 : Int), (y0 : Int), (u1 : Int), t, (r : Int), (u : Int), (q : Int)) ∧ u = q * y1 + r ∧ r < 4294967296 ∧ Q ≤ q ∧ q ≤ 4294967297 ∧ (r < 2147483648 → 1 ≤ m))
    (fun y => y = ((Y : Int), s, (u1 : Int), t, (u : Int), (Q : Int)))
    (fun m x ⟨q, r, hx, he, hr, hq, hq2, hm⟩ => by
      subst hx
      have hw2 : IntKind.wrap .u64 ((r : Int) + (y1 : Int)) = ((r + y1 : Nat) : Int) := by rw [wrap_u _ (by omega) (by omega)]; rfl
      have down : Q < q →
          (∃ y, y = ((Y : Int), s, (u1 : Int), t, (u : Int), (Q : Int)) ∧ ∀ rec : Int × Int × Int × Int × Int × Int × Int × Int × Int → Option (Int × Int × Int × Int × Int × Int), (bif decide (((r + y1 : Nat) : Int) ≥ 4294967296) then some ((Y : Int), s, (u1 : Int), t, (u : Int), IntKind.wrap .u64 ((q : Int) - 1)) else rec ((Y : Int), s, (y1 : Int), (y0 : Int), (u1 : Int), t, ((r + y1 : Nat) : Int), (u : Int), IntKind.wrap .u64 ((q : Int) - 1))) = some y) ∨
          (∃ x' m', m' < m ∧ (∃ q' r' : Nat, x' = ((Y : Int), s, (y1 : Int), (y0 : Int), (u1 : Int), t, (r' : Int), (u : Int), (q' : Int)) ∧ u = q' * y1 + r' ∧ r' < 4294967296 ∧ Q ≤ q' ∧ q' ≤ 4294967297 ∧ (r' < 2147483648 → 1 ≤ m')) ∧
            ∀ rec : Int × Int × Int × Int × Int × Int × Int × Int × Int → Option (Int × Int × Int × Int × Int × Int), (bif decide (((r + y1 : Nat) : Int) ≥ 4294967296) then some ((Y : Int), s, (u1 : Int), t, (u : Int), IntKind.wrap .u64 ((q : Int) - 1)) else rec ((Y : Int), s, (y1 : Int), (y0 : Int), (u1 : Int), t, ((r + y1 : Nat) : Int), (u : Int), IntKind.wrap .u64 ((q : Int) - 1))) = rec x') := by
        intro hgt
        obtain ⟨g1, g2, g3, g4⟩ := hround q r he hr hq hq2 hgt
        have hw1 : IntKind.wrap .u64 ((q : Int) - 1) = ((q - 1 : Nat) : Int) := by rw [wrap_u _ (by omega) (by omega)]; omega
        rw [hw1]
        by_cases h : 4294967296 ≤ r + y1
        · refine .inl ⟨_, rfl, fun rec => ?_⟩
          rw [decide_eq_true (show ((r + y1 : Nat) : Int) ≥ 4294967296 by omega), cond_t, g4 h]
        · refine .inr ⟨_, 0, ?_, ⟨q - 1, r + y1, rfl, g1, by omega, g2, by omega, by omega⟩, fun rec => ?_⟩
          · have := hm (by omega); omega
          · rw [decide_eq_false (show ¬ ((r + y1 : Nat) : Int) ≥ 4294967296 by omega), cond_f]
      simp only [f70.s2, f70.s2t, hw2]
      by_cases hb : 4294967296 ≤ q
      · rw [decide_eq_true (show (q : Int) ≥ 4294967296 by omega)]
        simp only [cond_t]
        exact down (by omega)
      · rw [decide_eq_false (show ¬ (q : Int) ≥ 4294967296 by omega)]
        simp only [cond_f]
        have hp : q * y0 ≤ 4294967295 * 4294967295 := Nat.mul_le_mul (by omega) (by omega)
        have w1 : IntKind.wrap .u64 ((q : Int) * (y0 : Int)) = ((q * y0 : Nat) : Int) := by
          rw [show (q : Int) * (y0 : Int) = ((q * y0 : Nat) : Int) by simp, wrap_u _ (by omega) (by omega)]
        have w2 : IntKind.wrap .u64 (IntKind.wrap .u64 (4294967296 * (r : Int)) + (u1 : Int)) = ((r * 4294967296 + u1 : Nat) : Int) := by
          rw [wrap_u (4294967296 * (r : Int)) (by omega) (by omega), wrap_u _ (by omega) (by omega)]; omega
        rw [w1, w2]
        have hc' := hi q r he
        by_cases hc : r * 4294967296 + u1 < q * y0
        · rw [decide_eq_true (show ((q * y0 : Nat) : Int) > ((r * 4294967296 + u1 : Nat) : Int) by omega)]
          simp only [cond_t]
          exact down (hc'.1 hc)
        · rw [decide_eq_false (show ¬ ((q * y0 : Nat) : Int) > ((r * 4294967296 + u1 : Nat) : Int) by omega)]
          simp only [cond_f]
          have : q = Q := Nat.le_antisymm (Nat.le_of_not_lt ((not_congr hc').1 hc)) hq
          exact .inl ⟨_, rfl, fun rec => by rw [this]⟩)
    1 _ ⟨u / y1, u % y1, rfl, by have := Nat.div_add_mod u y1; rw [Nat.mul_comm] at this; exact this.symm, by have := Nat.mod_lt u (show 0 < y1 by omega); omega, hfirst.1, hfirst.2, fun _ => Nat.le_refl _⟩ K hK
  rw [hz, hy]
end Go.Proofs

namespace Go.Proofs
open Go.VM
theorem shl_nat (x k : Nat) (h : k ≤ 64) : shiftI .shl .u64 (x : Int) (k : Int) = ((x * 2 ^ k % 2 ^ 64 : Nat) : Int) := by
  show IntKind.wrap .u64 ((x : Int) * 2 ^ (min (Int.toNat (k : Int)) 64)) = _
  rw [Int.toNat_natCast, Nat.min_eq_left h, show (x : Int) * 2 ^ k = ((x * 2 ^ k : Nat) : Int) by simp, wrap_nat]
theorem f96.spec (K x : Nat) (hx : x < 18446744073709551616) : f96.F K (x : Int) = some ((64 - blen x : Nat) : Int) := by
  have h : blen x ≤ 64 := blen_le (k := 64) hx
  simp only [f96.F, f96.T, f108.spec K x hx, bind_s]
  rw [wrap_i _ (by omega) (by omega)]
  congr 1; omega
theorem wrap_left (u u1 q Y : Nat) (hq : q * Y ≤ u * 4294967296 + u1) (hr : u * 4294967296 + u1 - q * Y < 18446744073709551616) :
    IntKind.wrap .u64 (IntKind.wrap .u64 (IntKind.wrap .u64 ((u : Int) * 4294967296) + (u1 : Int)) - IntKind.wrap .u64 ((q : Int) * (Y : Int))) = ((u * 4294967296 + u1 - q * Y : Nat) : Int) := by
  have e : (q : Int) * (Y : Int) = ((q * Y : Nat) : Int) := by simp
  rw [e]
  simp only [wrap_emod]
  omega
theorem low_mask (x : Nat) (h : x < 18446744073709551616) : bits .and .u64 (x : Int) 4294967295 = ((x % 4294967296 : Nat) : Int) := and_mask32 x h
theorem fdiv32 (x : Nat) : Int.fdiv (x : Int) (2 ^ 32) = ((x / 4294967296 : Nat) : Int) := fdiv_nat x 32
theorem mod_eq_sub (u v : Nat) : u - u / v * v = u % v := by
  have := Nat.mod_add_div u v
  rw [Nat.mul_comm] at this
  omega
theorem f70.spec (K hi lo y : Nat) (hy : y < 18446744073709551616) (hhi : hi < y) (hlo : lo < 18446744073709551616) (hK : 1 < K) :
    f70.F K ((hi : Int), (lo : Int), (y : Int)) = some ((((hi * 18446744073709551616 + lo) / y : Nat) : Int), (((hi * 18446744073709551616 + lo) % y : Nat) : Int)) := by
  have hy0 : 0 < y := by omega
  simp only [f70.F, f70.T]
  have c1 : ((y : Int) == 0) = false := by simp; omega
  have c3 : decide ((y : Int) ≠ 0) = true := decide_eq_true (by omega)
  rw [c1, decide_eq_false (show ¬ (y : Int) ≤ (hi : Int) by omega), c3]
  simp only [cond_t, cond_f]
  by_cases h0 : hi = 0
  · subst h0
    rw [show (((0 : Nat) : Int) == 0) = true from rfl, cond_t, tdiv_nat, tmod_nat, wrap_nat, Nat.zero_mul, Nat.zero_add, Nat.mod_eq_of_lt (Nat.lt_of_le_of_lt (Nat.div_le_self _ _) hlo)]
  · have c4 : ((hi : Int) == 0) = false := by simp; omega
    rw [c4, cond_f, f96.spec K y hy, bind_s]
    obtain ⟨gy, py⟩ := blen_ge (x := y) (by omega)
    have hb : blen y ≤ 64 := blen_le (k := 64) hy
    have ly := blen_lt y
    obtain ⟨s, hs⟩ : ∃ s, s = 64 - blen y := ⟨_, rfl⟩
    rw [← hs]
    have hs63 : s ≤ 63 := by omega
    have w5 : IntKind.wrap .u64 (s : Int) = (s : Int) := wrap_u _ (by omega) (by omega)
    have w10 : IntKind.wrap .u64 (64 - (s : Int)) = ((64 - s : Nat) : Int) := by rw [wrap_u _ (by omega) (by omega)]; omega
    have d1 : decide (0 ≤ (s : Int)) = true := decide_eq_true (by omega)
    have d2 : decide (0 ≤ ((64 - s : Nat) : Int)) = true := decide_eq_true (by omega)
    have p2 := Nat.two_pow_pos s
    have e64 : 18446744073709551616 = 2 ^ (64 - s) * 2 ^ s := by rw [← Nat.pow_add, show 64 - s + s = 64 by omega]
    have hYlt : y * 2 ^ s < 18446744073709551616 := by
      have h1 : y * 2 ^ s < 2 ^ blen y * 2 ^ s := Nat.mul_lt_mul_of_pos_right ly p2
      rw [← Nat.pow_add, show blen y + s = 64 by omega] at h1
      exact h1
    have hYge : 9223372036854775808 ≤ y * 2 ^ s := by
      have h1 : 2 ^ (blen y - 1) * 2 ^ s ≤ y * 2 ^ s := Nat.mul_le_mul_right _ gy
      rw [← Nat.pow_add, show blen y - 1 + s = 63 by omega] at h1
      exact h1
    have hl1 : lo / 2 ^ (64 - s) < 2 ^ s := by rw [Nat.div_lt_iff_lt_mul (Nat.two_pow_pos _), Nat.mul_comm, ← e64]; exact hlo
    have hu : hi * 2 ^ s + lo / 2 ^ (64 - s) < y * 2 ^ s := by
      have : (hi + 1) * 2 ^ s ≤ y * 2 ^ s := Nat.mul_le_mul_right _ hhi
      rw [Nat.succ_mul] at this
      omega
    have hh1 : hi * 2 ^ s < 18446744073709551616 := Nat.lt_of_le_of_lt (Nat.le_add_right _ _) (Nat.lt_trans hu hYlt)
    have hh2 : lo / 2 ^ (64 - s) < 18446744073709551616 := Nat.lt_of_le_of_lt (Nat.le_add_left _ _) (Nat.lt_trans hu hYlt)
    have hor : bits .or .u64 (shiftI .shl .u64 (hi : Int) (s : Int)) (shiftI .shr .u64 (lo : Int) ((64 - s : Nat) : Int)) = ((hi * 2 ^ s + lo / 2 ^ (64 - s) : Nat) : Int) := by
      rw [shl_nat hi s (by omega), shr_nat lo (64 - s) (by omega), show (2 : Nat) ^ 64 = 18446744073709551616 from rfl, Nat.mod_eq_of_lt hh1, bits_or_u64_nat _ _ hh1 hh2]
      congr 1
      rw [← Nat.shiftLeft_eq, ← Nat.shiftLeft_add_eq_or_of_lt hl1]
    have hlow : lo * 2 ^ s = lo / 2 ^ (64 - s) * 18446744073709551616 + lo * 2 ^ s % 18446744073709551616 := by
      have h1 : lo * 2 ^ s / 18446744073709551616 = lo / 2 ^ (64 - s) := by rw [e64, Nat.mul_div_mul_right _ _ p2]
      have h2 := Nat.mod_add_div (lo * 2 ^ s) 18446744073709551616
      rw [h1, Nat.mul_comm 18446744073709551616] at h2
      omega
    rw [w5, w10, d1, d2, hor, shl_nat y s (by omega), shl_nat lo s (by omega), show (2 : Nat) ^ 64 = 18446744073709551616 from rfl, Nat.mod_eq_of_lt hYlt]
    simp only [cond_t]
    have hw : lo * 2 ^ s % 18446744073709551616 < 18446744073709551616 := Nat.mod_lt _ (by decide)
    rw [low_mask _ hYlt, low_mask _ hw, fdiv32, fdiv32]
    have hN : (hi * 18446744073709551616 + lo) * 2 ^ s = (hi * 2 ^ s + lo / 2 ^ (64 - s)) * 18446744073709551616 + lo * 2 ^ s % 18446744073709551616 := by
      rw [Nat.add_mul, hlow, Nat.add_mul, Nat.mul_assoc, Nat.mul_comm 18446744073709551616, ← Nat.mul_assoc]
      omega
    have hfin : (hi * 18446744073709551616 + lo) / y = (hi * 18446744073709551616 + lo) * 2 ^ s / (y * 2 ^ s) ∧ (hi * 18446744073709551616 + lo) % y * 2 ^ s = (hi * 18446744073709551616 + lo) * 2 ^ s % (y * 2 ^ s) :=
      ⟨(Nat.mul_div_mul_right _ _ p2).symm, (Nat.mul_mod_mul_right _ _ _).symm⟩
    obtain ⟨N, hNN⟩ : ∃ N, N = hi * 18446744073709551616 + lo := ⟨_, rfl⟩
    obtain ⟨u, huu⟩ : ∃ u, u = hi * 2 ^ s + lo / 2 ^ (64 - s) := ⟨_, rfl⟩
    obtain ⟨l, hll⟩ : ∃ l, l = lo * 2 ^ s % 18446744073709551616 := ⟨_, rfl⟩
    obtain ⟨Y, hYY⟩ : ∃ Y, Y = y * 2 ^ s := ⟨_, rfl⟩
    rw [← hNN, ← huu, ← hll] at hN
    rw [← hNN, ← hYY] at hfin
    rw [← huu, ← hYY] at hu
    rw [← hYY] at hYlt hYge
    rw [← hll] at hw
    rw [← hNN, ← huu, ← hll, ← hYY]
    clear hNN huu hll hYY hlow hl1 hor hh1 hh2
    obtain ⟨y1, hy1⟩ : ∃ y1, y1 = Y / 4294967296 := ⟨_, rfl⟩
    obtain ⟨y0', hy0'⟩ : ∃ y0, y0 = Y % 4294967296 := ⟨_, rfl⟩
    obtain ⟨u1, hu1⟩ : ∃ u1, u1 = l / 4294967296 := ⟨_, rfl⟩
    obtain ⟨u0, hu0⟩ : ∃ u0, u0 = l % 4294967296 := ⟨_, rfl⟩
    rw [← hy1, ← hy0', ← hu1, ← hu0]
    have b1 : 2147483648 ≤ y1 := by omega
    have b2 : y1 < 4294967296 := by omega
    have b3 : y0' < 4294967296 := by omega
    have b4 : Y = y1 * 4294967296 + y0' := by omega
    have b5 : u1 < 4294967296 := by omega
    have b6 : u0 < 4294967296 := by omega
    have step : ∀ v : Nat, v < Y → IntKind.wrap .u64 (Int.tdiv (v : Int) (y1 : Int)) = ((v / y1 : Nat) : Int) ∧ IntKind.wrap .u64 ((v : Int) - IntKind.wrap .u64 (((v / y1 : Nat) : Int) * (y1 : Int))) = ((v % y1 : Nat) : Int) := by
      intro v hv
      have h1 : v / y1 ≤ v := Nat.div_le_self _ _
      have h2 : v / y1 * y1 ≤ v := Nat.div_mul_le_self _ _
      have h3 := mod_eq_sub v y1
      refine ⟨by rw [tdiv_nat, wrap_nat, Nat.mod_eq_of_lt (by omega)], ?_⟩
      rw [show ((v / y1 : Nat) : Int) * (y1 : Int) = ((v / y1 * y1 : Nat) : Int) by simp, wrap_nat, Nat.mod_eq_of_lt (by omega), wrap_u _ (by omega) (by omega)]
      omega
    have dy : decide ((y1 : Int) ≠ 0) = true := decide_eq_true (by omega)
    rw [dy]
    simp only [cond_t]
    rw [(step u hu).1, (step u hu).2, f70.loop0 K K Y y1 y0' u u1 (s : Int) (u0 : Int) b4 b1 b2 b3 hu b5 hK, bind_s]
    have hY0 : 0 < Y := by omega
    have m1 := Nat.mod_lt (u * 4294967296 + u1) hY0
    have q1 : (u * 4294967296 + u1) / Y * Y ≤ u * 4294967296 + u1 := Nat.div_mul_le_self _ _
    have r1 := mod_eq_sub (u * 4294967296 + u1) Y
    have hq1 : (u * 4294967296 + u1) / Y < 4294967296 := by have := guess_lt (y1 := y1) (y0 := y0') (u := u) (u1 := u1) (by omega) (by omega) b5; rwa [← b4] at this
    have d1' := Nat.mod_add_div (u * 4294967296 + u1) Y
    generalize (u * 4294967296 + u1) / Y = Q1 at *
    have wl := wrap_left u u1 Q1 Y q1 (by omega)
    simp only [dy, cond_t]
    rw [wl, r1]
    generalize (u * 4294967296 + u1) % Y = R1 at *
    rw [(step R1 m1).1, (step R1 m1).2, f70.loop2 K K Y y1 y0' R1 u0 (s : Int) (Q1 : Int) b4 b1 b2 b3 m1 b6 hK, bind_s]
    have m2 := Nat.mod_lt (R1 * 4294967296 + u0) hY0
    have q2 : (R1 * 4294967296 + u0) / Y * Y ≤ R1 * 4294967296 + u0 := Nat.div_mul_le_self _ _
    have r2 := mod_eq_sub (R1 * 4294967296 + u0) Y
    have hq2 : (R1 * 4294967296 + u0) / Y < 4294967296 := by have := guess_lt (y1 := y1) (y0 := y0') (u := R1) (u1 := u0) (by omega) (by omega) b6; rwa [← b4] at this
    have d2' := Nat.mod_add_div (R1 * 4294967296 + u0) Y
    generalize (R1 * 4294967296 + u0) / Y = Q0 at *
    have wl2 := wrap_left R1 u0 Q0 Y q2 (by omega)
    simp only [d1, cond_t]
    rw [wl2, r2]
    generalize (R1 * 4294967296 + u0) % Y = R0 at *
    have hdiv : N * 2 ^ s = R0 + Y * (Q1 * 4294967296 + Q0) := by
      rw [hN, Nat.mul_add, ← Nat.mul_assoc]
      omega
    obtain ⟨g1, g2⟩ := div_mod_of hdiv m2
    rw [hfin.1, g1, shr_nat R0 s (by omega)]
    have hrem : N % y = R0 / 2 ^ s := by
      have := hfin.2
      rw [g2] at this
      rw [← this, Nat.mul_div_cancel _ p2]
    rw [hrem, wrap_u ((Q1 : Int) * 4294967296) (by omega) (by omega), wrap_u _ (by omega) (by omega)]
    rfl
end Go.Proofs

namespace Go.Proofs
open Go.VM
namespace f61
abbrev Ty0 := Int × Int × Int × Int × List Int × List Int × List Int × List Int
abbrev Ty1 := Int × Int × List Int × List Int × List Int × List Int
abbrev Ty2 := Int × Int × Int × List Int × List Int × List Int
abbrev Ty3 := List Int × List Int × List Int
abbrev Ty4 := Int × List Int
abbrev Ty5 := List Int × Int
noncomputable def c : Code := bodyOf Tryz.f61
def s2t (K : Nat) (rec : Ty0 → Option (Ty2)) (t8 : Int) (t28 : Int) (t29 : Int) (t33 : Int) (b0 : List Int) (b1 : List Int) (b2 : List Int) (b3 : List Int) : Option (Ty2) :=
 bif (decide (t33 < 4)) then
 let v10 := IntKind.wrap .i64 (3 - t33)
 bif decide (0 ≤ v10 ∧ v10 < 4) then
 (f70.F K (t8, (List.getD b2 (Int.toNat v10) 0), (List.getD b0 0 0))).bind fun y14 =>
 rec (y14.2, t28, t29, (IntKind.wrap .i64 (t33 + 1)), b0, b1, b2, b3)
 else
 none
 else
 some (t8, t28, t29, b0, b1, b3)
def s2 (K : Nat) (rec : Ty0 → Option (Ty2)) (x : Ty0) : Option (Ty2) := s2t K rec x.1 x.2.1 x.2.2.1 x.2.2.2.1 x.2.2.2.2.1 x.2.2.2.2.2.1 x.2.2.2.2.2.2.1 x.2.2.2.2.2.2.2
noncomputable def s2.b : Code := (findLoop 2 c).getD .skip
def s2.h : Hint := { lv := [5, 6, 8, 10, 27, 28, 29, 33] }
def s2.ho : Hint := { lv := [5, 6, 8, 27, 28, 29] }
def s2.shp (x : Ty0) : VS := ⟨[(5, .ptr 0 0), (6, .ptr 1 0), (8, .int .u64 x.1), (10, .ptr 2 0), (27, .sl 3 0 2 2), (28, .int .i64 x.2.1), (29, .int .i64 x.2.2.1), (33, .int .i64 x.2.2.2.1)], [(0, ([.ints .u64 4 x.2.2.2.2.1], 24, .norm)), (1, ([.ints .u64 4 x.2.2.2.2.2.1], 24, .norm)), (2, ([.ints .u64 4 x.2.2.2.2.2.2.1], 24, .norm)), (3, ([.ints .u64 8 x.2.2.2.2.2.2.2], 24, .norm))], 4⟩
def s2.inX : VS → Option (Ty0)
 | ⟨[(5, .ptr 0 0), (6, .ptr 1 0), (8, .int .u64 t8), (10, .ptr 2 0), (27, .sl 3 0 2 2), (28, .int .i64 t28), (29, .int .i64 t29), (33, .int .i64 t33)], [(0, ([.ints .u64 4 b0], 24, .norm)), (1, ([.ints .u64 4 b1], 24, .norm)), (2, ([.ints .u64 4 b2], 24, .norm)), (3, ([.ints .u64 8 b3], 24, .norm))], 4⟩ => some (t8, t28, t29, t33, b0, b1, b2, b3)
 | _ => none
def s2.o0 (y : Ty2) : VS := ⟨[(5, .ptr 0 0), (6, .ptr 1 0), (8, .int .u64 y.1), (27, .sl 2 0 2 2), (28, .int .i64 y.2.1), (29, .int .i64 y.2.2.1)], [(0, ([.ints .u64 4 y.2.2.2.1], 24, .norm)), (1, ([.ints .u64 4 y.2.2.2.2.1], 24, .norm)), (2, ([.ints .u64 8 y.2.2.2.2.2], 24, .norm))], 3⟩
def s2.des : ∀ α : Type, (Ty2) → (Ex → VS → Option α) → Option α := (des1 (.exit 2) s2.o0)
def s2.out : Ty2 → Ex × VS := (fun y => (.exit 2, s2.o0 y))
theorem s2.desOK : ∀ α y (k : Ex → VS → Option α), s2.des α y k = k (s2.out y).1 (s2.out y).2 := (fun _ _ _ => rfl)
def s2.inY : Ex → VS → Option (Ty2)
 | .exit 2, ⟨[(5, .ptr 0 0), (6, .ptr 1 0), (8, .int .u64 t8), (27, .sl 2 0 2 2), (28, .int .i64 t28), (29, .int .i64 t29)], [(0, ([.ints .u64 4 b0], 24, .norm)), (1, ([.ints .u64 4 b1], 24, .norm)), (2, ([.ints .u64 8 b2], 24, .norm))], 3⟩ => some (t8, t28, t29, b0, b1, b2)
 | _, _ => none
def s0t (K : Nat) (rec : Ty2 → Option (Ty4)) (t8 : Int) (t28 : Int) (t29 : Int) (b0 : List Int) (b1 : List Int) (b2 : List Int) : Option (Ty4) :=
 bif (decide (t29 < t28)) then
 bif decide (0 ≤ t29 ∧ t29 < 2) then
 (iter (s2 K) K (t8, t28, t29, 0, b0, b1, (List.take 4 (List.drop ((Int.toNat t29) * 4) b2)), b2)).bind fun y16 =>
 rec (y16.1, y16.2.1, (IntKind.wrap .i64 (y16.2.2.1 + 1)), y16.2.2.2.1, y16.2.2.2.2.1, y16.2.2.2.2.2)
 else
 none
 else
 some (t8, b1)
def s0 (K : Nat) (rec : Ty2 → Option (Ty4)) (x : Ty2) : Option (Ty4) := s0t K rec x.1 x.2.1 x.2.2.1 x.2.2.2.1 x.2.2.2.2.1 x.2.2.2.2.2
noncomputable def s0.b : Code := (findLoop 0 c).getD .skip
def s0.h : Hint := { lv := [5, 6, 8, 27, 28, 29] }
def s0.ho : Hint := { lv := [6, 8] }
def s0.shp (x : Ty2) : VS := ⟨[(5, .ptr 0 0), (6, .ptr 1 0), (8, .int .u64 x.1), (27, .sl 2 0 2 2), (28, .int .i64 x.2.1), (29, .int .i64 x.2.2.1)], [(0, ([.ints .u64 4 x.2.2.2.1], 24, .norm)), (1, ([.ints .u64 4 x.2.2.2.2.1], 24, .norm)), (2, ([.ints .u64 8 x.2.2.2.2.2], 24, .norm))], 3⟩
def s0.inX : VS → Option (Ty2)
 | ⟨[(5, .ptr 0 0), (6, .ptr 1 0), (8, .int .u64 t8), (27, .sl 2 0 2 2), (28, .int .i64 t28), (29, .int .i64 t29)], [(0, ([.ints .u64 4 b0], 24, .norm)), (1, ([.ints .u64 4 b1], 24, .norm)), (2, ([.ints .u64 8 b2], 24, .norm))], 3⟩ => some (t8, t28, t29, b0, b1, b2)
 | _ => none
def s0.o0 (y : Ty4) : VS := ⟨[(6, .ptr 0 0), (8, .int .u64 y.1)], [(0, ([.ints .u64 4 y.2], 24, .norm))], 1⟩
def s0.des : ∀ α : Type, (Ty4) → (Ex → VS → Option α) → Option α := (des1 (.exit 0) s0.o0)
def s0.out : Ty4 → Ex × VS := (fun y => (.exit 0, s0.o0 y))
theorem s0.desOK : ∀ α y (k : Ex → VS → Option α), s0.des α y k = k (s0.out y).1 (s0.out y).2 := (fun _ _ _ => rfl)
def s0.inY : Ex → VS → Option (Ty4)
 | .exit 0, ⟨[(6, .ptr 0 0), (8, .int .u64 t8)], [(0, ([.ints .u64 4 b0], 24, .norm))], 1⟩ => some (t8, b0)
 | _, _ => none
def s4t (K : Nat) (rec : Ty1 → Option (List Int)) (t76 : Int) (t77 : Int) (b0 : List Int) (b1 : List Int) (b2 : List Int) (b3 : List Int) : Option (List Int) :=
 bif (decide (t77 < t76)) then
 (f73.F K (b0, t77)).bind fun y29 =>
 bif (y29 == 1) then
 (f83.F K (b2, b3, b1)).bind fun y30 =>
 (f83.F K (b3, b3, b1)).bind fun y31 =>
 rec (t76, (IntKind.wrap .i64 (t77 + 1)), b0, b1, y30, y31)
 else
 (f83.F K (b3, b3, b1)).bind fun y33 =>
 rec (t76, (IntKind.wrap .i64 (t77 + 1)), b0, b1, b2, y33)
 else
 some b2
def s4 (K : Nat) (rec : Ty1 → Option (List Int)) (x : Ty1) : Option (List Int) := s4t K rec x.1 x.2.1 x.2.2.1 x.2.2.2.1 x.2.2.2.2.1 x.2.2.2.2.2
noncomputable def s4.b : Code := (findLoop 4 c).getD .skip
def s4.h : Hint := { lv := [4, 5, 6, 15, 76, 77] }
def s4.ho : Hint := { lv := [6] }
def s4.shp (x : Ty1) : VS := ⟨[(4, .ptr 0 0), (5, .ptr 1 0), (6, .ptr 2 0), (15, .ptr 3 0), (76, .int .i64 x.1), (77, .int .i64 x.2.1)], [(0, ([.ints .u64 4 x.2.2.1], 24, .norm)), (1, ([.ints .u64 4 x.2.2.2.1], 24, .norm)), (2, ([.ints .u64 4 x.2.2.2.2.1], 24, .norm)), (3, ([.ints .u64 4 x.2.2.2.2.2], 24, .norm))], 4⟩
def s4.inX : VS → Option (Ty1)
 | ⟨[(4, .ptr 0 0), (5, .ptr 1 0), (6, .ptr 2 0), (15, .ptr 3 0), (76, .int .i64 t76), (77, .int .i64 t77)], [(0, ([.ints .u64 4 b0], 24, .norm)), (1, ([.ints .u64 4 b1], 24, .norm)), (2, ([.ints .u64 4 b2], 24, .norm)), (3, ([.ints .u64 4 b3], 24, .norm))], 4⟩ => some (t76, t77, b0, b1, b2, b3)
 | _ => none
def s4.o0 (y : List Int) : VS := ⟨[(6, .ptr 0 0)], [(0, ([.ints .u64 4 y], 24, .norm))], 1⟩
def s4.des : ∀ α : Type, (List Int) → (Ex → VS → Option α) → Option α := (des1 (.exit 4) s4.o0)
def s4.out : List Int → Ex × VS := (fun y => (.exit 4, s4.o0 y))
theorem s4.desOK : ∀ α y (k : Ex → VS → Option α), s4.des α y k = k (s4.out y).1 (s4.out y).2 := (fun _ _ _ => rfl)
def s4.inY : Ex → VS → Option (List Int)
 | .exit 4, ⟨[(6, .ptr 0 0)], [(0, ([.ints .u64 4 b0], 24, .norm))], 1⟩ => some b0
 | _, _ => none
def lp (K : Nat) : Nat → Option (Hint × Summ) := tabLp [(2, s2.h, summOf (iter (s2 K) K) s2.inX s2.des), (0, s0.h, summOf (iter (s0 K) K) s0.inX s0.des), (4, s4.h, summOf (iter (s4 K) K) s4.inX s4.des)]
noncomputable def tab (K : Nat) : List (Nat × Entry) := [(81, (f81.E K)), (72, (f72.E K)), (70, (f70.E K)), (12, (f12.E K)), (26, (f26.E K)), (82, (f82.E K)), (83, (f83.E K)), (73, (f73.E K))]
theorem tabOK (K : Nat) : SpecOK Tryz.prog (tabSp (tab K)) := tab_ok ((tab_cons (f81.ok K) (tab_cons (f72.ok K) (tab_cons (f70.ok K) (tab_cons (f12.ok K) (tab_cons (f26.ok K) (tab_cons (f82.ok K) (tab_cons (f83.ok K) (tab_cons (f73.ok K) tab_nil)))))))))
theorem s2.eq (K : Nat) (rec : Ty0 → Option (Ty2)) (x : Ty0) : s2 K rec x = roundL (getA tys) (tabSp (tab K)) 94 0 (lp K) 400 s2.b s2.h s2.ho s2.shp s2.inX s2.inY rec x := by kernel_rfl
theorem s2.lok (K : Nat) : LoopsOK Tryz.prog 94 0 (lp K) s2.b := loops_ok (by
  have h : loopsIn (lp K) s2.b = [] := by kernel_rfl
  rw [h]; simp)
theorem s2.ok (K : Nat) : SummOK Tryz.prog 94 0 (summOf (iter (s2 K) K) s2.inX s2.des) s2.b :=
  loop_ok mix tys_ok (tabOK K) (h := s2.h) (ho := s2.ho) (shp := s2.shp) (inX := s2.inX) (des := s2.des) (out := s2.out) (inY := s2.inY) (fuel := 400)
    (by intro st x h; unfold s2.inX at h; split at h <;> simp at h; subst h; rfl)
    (by intro e st y h; unfold s2.inY at h; split at h <;> simp at h <;> subst h <;> rfl)
    s2.desOK (s2.lok K) (s2 K) (s2.eq K) K
theorem s0.eq (K : Nat) (rec : Ty2 → Option (Ty4)) (x : Ty2) : s0 K rec x = roundL (getA tys) (tabSp (tab K)) 94 0 (lp K) 400 s0.b s0.h s0.ho s0.shp s0.inX s0.inY rec x := by kernel_rfl
theorem s0.lok (K : Nat) : LoopsOK Tryz.prog 94 0 (lp K) s0.b := loops_ok (by
  have h : loopsIn (lp K) s0.b = [(2, s2.b)] := by kernel_rfl
  rw [h]
  intro p hp
  simp only [List.mem_cons, List.not_mem_nil, or_false] at hp
  rcases hp with rfl
  · exact ⟨_, rfl, (s2.ok K)⟩)
theorem s0.ok (K : Nat) : SummOK Tryz.prog 94 0 (summOf (iter (s0 K) K) s0.inX s0.des) s0.b :=
  loop_ok mix tys_ok (tabOK K) (h := s0.h) (ho := s0.ho) (shp := s0.shp) (inX := s0.inX) (des := s0.des) (out := s0.out) (inY := s0.inY) (fuel := 400)
    (by intro st x h; unfold s0.inX at h; split at h <;> simp at h; subst h; rfl)
    (by intro e st y h; unfold s0.inY at h; split at h <;> simp at h <;> subst h <;> rfl)
    s0.desOK (s0.lok K) (s0 K) (s0.eq K) K
theorem s4.eq (K : Nat) (rec : Ty1 → Option (List Int)) (x : Ty1) : s4 K rec x = roundL (getA tys) (tabSp (tab K)) 94 0 (lp K) 400 s4.b s4.h s4.ho s4.shp s4.inX s4.inY rec x := by kernel_rfl
theorem s4.lok (K : Nat) : LoopsOK Tryz.prog 94 0 (lp K) s4.b := loops_ok (by
  have h : loopsIn (lp K) s4.b = [] := by kernel_rfl
  rw [h]; simp)
theorem s4.ok (K : Nat) : SummOK Tryz.prog 94 0 (summOf (iter (s4 K) K) s4.inX s4.des) s4.b :=
  loop_ok mix tys_ok (tabOK K) (h := s4.h) (ho := s4.ho) (shp := s4.shp) (inX := s4.inX) (des := s4.des) (out := s4.out) (inY := s4.inY) (fuel := 400)
    (by intro st x h; unfold s4.inX at h; split at h <;> simp at h; subst h; rfl)
    (by intro e st y h; unfold s4.inY at h; split at h <;> simp at h <;> subst h <;> rfl)
    s4.desOK (s4.lok K) (s4 K) (s4.eq K) K
theorem loops (K : Nat) : LoopsOK Tryz.prog 94 0 (lp K) c := loops_ok (by
  have h : loopsIn (lp K) c = [(0, s0.b), (2, s2.b), (4, s4.b)] := by kernel_rfl
  rw [h]
  intro p hp
  simp only [List.mem_cons, List.not_mem_nil, or_false] at hp
  rcases hp with rfl | rfl | rfl
  · exact ⟨_, rfl, (s0.ok K)⟩
  · exact ⟨_, rfl, (s2.ok K)⟩
  · exact ⟨_, rfl, (s4.ok K)⟩)
def T (K : Nat) (a0 : List Int) (a1 : List Int) (a2 : List Int) : Option (Ty5) :=
 (f81.F K ()).bind fun y1 =>
 bif (eqL 4 a2 y1 && true) then
 some ([0, 0, 0, 0], 1)
 else
 (f72.F K a2).bind fun y3 =>
 bif (decide (y3 ≤ 64)) then
 (iter (s0 K) K (0, 2, 0, a2, [0, 0, 0, 0], (spl (spl [] 0 4 a1) 4 4 a0))).bind fun y18 =>
 (f12.F K y18.1).bind fun y19 =>
 some (y19, 0)
 else
 (f81.F K ()).bind fun y20 =>
 (f12.F K 1).bind fun y21 =>
 (f26.F K (y20, y21)).bind fun y22 =>
 (f82.F K (a0, a2)).bind fun y23 =>
 (f82.F K (y22.1, a2)).bind fun y24 =>
 (f12.F K 1).bind fun y25 =>
 (f83.F K (y24.2.1, y25, a2)).bind fun y26 =>
 (f72.F K a1).bind fun y27 =>
 (iter (s4 K) K (y27, 0, a1, a2, y23.2.1, y26)).bind fun y35 =>
 some (y35, 0)
def F (K : Nat) (x : Ty3) : Option (Ty5) := T K x.1 x.2.1 x.2.2
def av (x : Ty3) : List VV := [.agg [.ints .u64 4 x.1], .agg [.ints .u64 4 x.2.1], .agg [.ints .u64 4 x.2.2]]
def bl (_x : Ty3) : List (Nat × Blk) := []
def inA : VS → Option (Ty3)
 | ⟨[(0, .agg [.ints .u64 4 a0]), (1, .agg [.ints .u64 4 a1]), (2, .agg [.ints .u64 4 a2])], [], 0⟩ => some (a0, a1, a2)
 | _ => none
def o0 (y : Ty5) : VS := ⟨[(0, .tup [.agg [.ints .u64 4 y.1], .int .i64 y.2])], [], 0⟩
def des : ∀ α : Type, (Ty5) → (VS → Option α) → Option α := (dv1 o0)
def out : Ty5 → VS := o0
def inR : VS → Option (Ty5)
 | ⟨[(0, .tup [.agg [.ints .u64 4 y_0], .int .i64 y_1])], [], 0⟩ => some (y_0, y_1)
 | _ => none
noncomputable def E (K : Nat) : Entry := genE 0 inA (F K) des
theorem eq (K : Nat) (x : Ty3) : F K x = xrun (getA tys) (tabSp (tab K)) Tryz.f61.ntmps 0 (lp K) 400 c ⟨initL 0 (av x), bl x, 0⟩ (contF (getA tys) 0 Tryz.f61.results.toList inR) := by kernel_rfl
theorem ok (K : Nat) : EntryOK Tryz.prog 61 (E K) :=
  gen_ok mix tys_ok (tabOK K) Tryz.func61 (by kernel_rfl : Tryz.f61.body = some c) (by kernel_rfl) (loops K) (av := av) (bl := bl) (out := out) (fuel := 400)
    (by intro s x h; unfold inA at h; split at h <;> simp at h; subst h; rfl) (fun _ => Nat.le_of_ble_eq_true rfl)
    (by intro s y h; unfold inR at h; split at h <;> simp at h <;> subst h <;> rfl) (fun _ _ _ => rfl) (eq K)
end f61
end Go.Proofs

namespace Go.Proofs
open Go.VM
theorem mod_step (a t w M : Nat) : (a % M * t + w) % M = (a * t + w) % M := by
  rw [Nat.add_mod, Nat.mul_mod, Nat.mod_mod, ← Nat.mul_mod, ← Nat.add_mod]
theorem two_rows (H L : Nat) : spl (spl [] 0 4 (num H)) 4 4 (num L) = num H ++ num L := rfl
theorem f61.words (X M l : Nat) (hX : X < 2 ^ 256) (hM : 0 < M) (hM64 : M < 18446744073709551616) (hl : l < M) (t z b3 : _) (i : Nat) :
    iter (f61.s2 100000) 100000 ((l : Int), t, (i : Int), 0, num M, z, num X, b3) = some ((((l * 2 ^ 256 + X) % M : Nat) : Int), t, (i : Int), num M, z, b3) := by
  have key := iter_for (stp := f61.s2 100000) (N := 4) (fun j => ((((l * 2 ^ (64 * j) + X / 2 ^ (64 * (4 - j))) % M : Nat) : Int), t, (i : Int), (j : Int), num M, z, num X, b3))
    (y := some ((((l * 2 ^ 256 + X) % M : Nat) : Int), t, (i : Int), num M, z, b3)) (fun j hj rec => by
      simp only [f61.s2, f61.s2t]
      have w1 : IntKind.wrap .i64 (3 - (j : Int)) = ((3 - j : Nat) : Int) := by rw [wrap_i _ (by omega) (by omega)]; omega
      have w2 : IntKind.wrap .i64 ((j : Int) + 1) = ((j + 1 : Nat) : Int) := by rw [wrap_i _ (by omega) (by omega)]; rfl
      have h4 : decide ((0 : Int) ≤ ((3 - j : Nat) : Int) ∧ ((3 - j : Nat) : Int) < 4) = true := inR_nat (n := 4) (by omega)
      have hw : X / 2 ^ (64 * (3 - j)) % 2 ^ 64 < 18446744073709551616 := Nat.mod_lt _ (by decide)
      rw [decide_eq_true (show (j : Int) < 4 by omega), cond_t, w1, w2, h4, cond_t, Int.toNat_natCast, getD_words (show 3 - j < 4 by omega), word0 M hM64,
        f70.spec 100000 _ _ M hM64 (Nat.mod_lt _ hM) hw (by decide), bind_s, mod_step]
      have e1 : X / 2 ^ (64 * (3 - j)) = X / 2 ^ (64 * (4 - j)) * 18446744073709551616 + X / 2 ^ (64 * (3 - j)) % 2 ^ 64 := by
        have h := Nat.mod_add_div (X / 2 ^ (64 * (3 - j))) (2 ^ 64)
        rw [Nat.div_div_eq_div_mul, ← Nat.pow_add, show 64 * (3 - j) + 64 = 64 * (4 - j) by omega] at h
        omega
      have e2 : l * 2 ^ (64 * (j + 1)) = l * 2 ^ (64 * j) * 18446744073709551616 := by
        rw [show 64 * (j + 1) = 64 * j + 64 by omega, Nat.pow_add, ← Nat.mul_assoc]
      rw [show 4 - (j + 1) = 3 - j by omega, e2]
      conv => rhs; rw [e1]
      rw [Nat.add_mul, Nat.add_assoc]) (fun rec => by
      simp only [f61.s2, f61.s2t]
      rw [decide_eq_false (show ¬ ((4 : Nat) : Int) < 4 by decide), cond_f, Nat.sub_self, Nat.mul_zero, Nat.pow_zero, Nat.div_one]) (show 4 < 100000 by decide)
  simp only [Nat.mul_zero, Nat.pow_zero, Nat.mul_one, Nat.sub_zero] at key
  rw [show 64 * 4 = 256 from rfl, Nat.div_eq_of_lt hX, Nat.add_zero, Nat.mod_eq_of_lt hl] at key
  exact key
def wideSo (H L M i : Nat) : Nat := if i = 0 then 0 else if i = 1 then H % M else (H * 2 ^ 256 + L) % M
theorem wideSo0 (H L M : Nat) : wideSo H L M 0 = 0 := if_pos rfl
theorem wideSo1 (H L M : Nat) : wideSo H L M 1 = H % M := by unfold wideSo; rw [if_neg (by decide), if_pos rfl]
theorem wideSo2 (H L M : Nat) : wideSo H L M 2 = (H * 2 ^ 256 + L) % M := by unfold wideSo; rw [if_neg (by decide), if_neg (by decide)]
theorem f61.small (H L M : Nat) (hH : H < 2 ^ 256) (hL : L < 2 ^ 256) (hM : 0 < M) (hM64 : M < 18446744073709551616) (z : _) :
    iter (f61.s0 100000) 100000 (0, 2, 0, num M, z, num H ++ num L) = some ((((H * 2 ^ 256 + L) % M : Nat) : Int), z) := by
  have key := iter_for (stp := f61.s0 100000) (N := 2) (fun i => ((wideSo H L M i : Int), (2 : Int), (i : Int), num M, z, num H ++ num L))
    (y := some ((((H * 2 ^ 256 + L) % M : Nat) : Int), z)) (fun i hi rec => by
      have hi2 : i = 0 ∨ i = 1 := by omega
      have wi : IntKind.wrap .i64 ((i : Int) + 1) = ((i + 1 : Nat) : Int) := by rw [wrap_i _ (by omega) (by omega)]; rfl
      simp only [f61.s0, f61.s0t]
      rw [decide_eq_true (show (i : Int) < 2 by omega), cond_t, decide_eq_true (show 0 ≤ (i : Int) ∧ (i : Int) < 2 by omega), cond_t]
      rcases hi2 with rfl | rfl
      · have hrow : List.take 4 (List.drop (Int.toNat ((0 : Nat) : Int) * 4) (num H ++ num L)) = num H := rfl
        have e := f61.words H M 0 hH hM hM64 hM 2 z (num H ++ num L) 0
        rw [Nat.zero_mul, Nat.zero_add] at e
        rw [hrow, wideSo0, e, bind_s]
        simp only []
        rw [wi, wideSo1]
      · have hrow : List.take 4 (List.drop (Int.toNat ((1 : Nat) : Int) * 4) (num H ++ num L)) = num L := rfl
        have e := f61.words L M (H % M) hL hM hM64 (Nat.mod_lt _ hM) 2 z (num H ++ num L) 1
        rw [hrow, wideSo1, e, bind_s, mod_step]
        simp only []
        rw [wi, wideSo2]) (fun rec => by
      simp only [f61.s0, f61.s0t]
      rw [decide_eq_false (show ¬ ((2 : Nat) : Int) < 2 by decide), cond_f, wideSo2]) (show 2 < 100000 by decide)
  rw [wideSo0] at key
  exact key
theorem f61.bits (H L M : Nat) (hH : H < 2 ^ 256) (hM : 0 < M) (hM' : M < 2 ^ 256) (_hL : L < 2 ^ 256) :
    iter (f61.s4 100000) 100000 (((blen H : Nat) : Int), 0, num H, num M, num (L % M), num (2 ^ 256 % M)) = some (num ((H * 2 ^ 256 + L) % M)) := by
  have hb := blen_256 hH
  have key := iter_for (stp := f61.s4 100000) (N := blen H) (fun i => (((blen H : Nat) : Int), (i : Int), num H, num M, num ((H % 2 ^ i * 2 ^ 256 + L) % M), num (2 ^ (256 + i) % M)))
    (y := some (num ((H * 2 ^ 256 + L) % M))) (fun i hi rec => by
      simp only [f61.s4, f61.s4t]
      have w2 : IntKind.wrap .i64 ((i : Int) + 1) = ((i + 1 : Nat) : Int) := by rw [wrap_i _ (by omega) (by omega)]; rfl
      have hs : num ((2 ^ (256 + i) % M + 2 ^ (256 + i) % M) % M) = num (2 ^ (256 + (i + 1)) % M) := by
        rw [← Nat.add_mod, show 2 ^ (256 + (i + 1)) = 2 ^ (256 + i) + 2 ^ (256 + i) by rw [show 256 + (i + 1) = (256 + i) + 1 from rfl, Nat.pow_succ, Nat.mul_two]]
      have hl := Nat.mod_lt (2 ^ (256 + i)) hM
      have hr := Nat.mod_lt (H % 2 ^ i * 2 ^ 256 + L) hM
      have hbit : H % 2 ^ (i + 1) = H % 2 ^ i + 2 ^ i * (H / 2 ^ i % 2) := by rw [Nat.pow_succ, Nat.mod_mul]
      rw [decide_eq_true (show (i : Int) < ((blen H : Nat) : Int) by omega), cond_t, f73.all H i (by omega), mod_self_of hH, bind_s, w2, f83.spec _ _ M hl hl hM', bind_s, hs, hbit]
      rcases Nat.mod_two_eq_zero_or_one (H / 2 ^ i) with h | h
      · rw [h, show (((0 : Nat) : Int) == 1) = false from rfl, cond_f, Nat.mul_zero, Nat.add_zero (H % 2 ^ i)]
      · rw [h, show (((1 : Nat) : Int) == 1) = true from rfl, cond_t, f83.spec _ _ M hr hl hM', bind_s, ← Nat.add_mod, Nat.mul_one]
        have e : (H % 2 ^ i + 2 ^ i) * 2 ^ 256 + L = H % 2 ^ i * 2 ^ 256 + L + 2 ^ (256 + i) := by
          rw [Nat.add_mul (H % 2 ^ i) (2 ^ i) (2 ^ 256), Nat.pow_add 2 256 i, Nat.mul_comm (2 ^ 256) (2 ^ i)]
          omega
        rw [e, bind_s]) (fun rec => by
      simp only [f61.s4, f61.s4t]
      rw [decide_eq_false (Int.lt_irrefl _), cond_f, Nat.mod_eq_of_lt (blen_lt H)]) (show blen H < 100000 by omega)
  simp only [Nat.pow_zero, Nat.mod_one, Nat.zero_mul, Nat.zero_add, Nat.add_zero] at key
  exact key
theorem f61.spec (L H M : Nat) (hL : L < 2 ^ 256) (hH : H < 2 ^ 256) (hM : M < 2 ^ 256) (h0 : 0 < M) : f61.F 100000 (num L, num H, num M) = some (num ((H * 2 ^ 256 + L) % M), 0) := by
  have mM := mod_self_of hM
  have hz : decide (M = 0 % 2 ^ 256) = false := decide_eq_false (fun h => by rw [Nat.zero_mod] at h; omega)
  have lM := blen_lt M
  simp only [f61.F, f61.T, f81.spec, bind_s, eqL_num, mM, hz, Bool.and_true, cond_f, f72.all, two_rows]
  by_cases h : blen M ≤ 64
  · have hM64 : M < 2 ^ 64 := Nat.lt_of_lt_of_le lM (Nat.pow_le_pow_right (by decide) h)
    have hr : (H * 2 ^ 256 + L) % M < 18446744073709551616 := Nat.lt_trans (Nat.mod_lt _ h0) hM64
    rw [decide_eq_true (show ((blen M : Nat) : Int) ≤ 64 by omega), cond_t, f61.small H L M hH hL h0 hM64, bind_s, f12.nat _ _ hr, bind_s]
  · obtain ⟨gM, _⟩ := blen_ge (x := M) (by omega)
    have hM64 : 2 ^ 64 ≤ M := Nat.le_trans (Nat.pow_le_pow_right (by decide) (by omega)) gM
    have e1 : (0 : Nat) % 2 ^ 256 + 2 ^ 256 - 1 % 2 ^ 256 = 2 ^ 256 - 1 := rfl
    have hp : (2 ^ 256 - 1 : Nat) < 2 ^ 256 := by decide
    have e2 : ((2 ^ 256 - 1) % M + 1) % M = 2 ^ 256 % M := by
      have h1 : (1 : Nat) % M = 1 := Nat.mod_eq_of_lt (by omega)
      have h2 : ((2 ^ 256 - 1) % M + 1 % M) % M = 2 ^ 256 % M := by rw [← Nat.add_mod]
      rwa [h1] at h2
    rw [decide_eq_false (show ¬ ((blen M : Nat) : Int) ≤ 64 by omega), cond_f]
    simp only [f12.one, bind_s, f26.all, e1]
    rw [f82.spec L M hL hM h0, bind_s, f82.spec _ M hp hM h0, bind_s, f83.spec _ 1 M (Nat.mod_lt _ h0) (by omega) hM, bind_s, e2, mod_self_of hH, f61.bits H L M hH h0 hM hL, bind_s]
end Go.Proofs

namespace Go.Proofs
open Go.VM
namespace f58
abbrev Ty0 := List Int × ByteArray × Nat × Nat × Nat × List Int × Nat × List Int × List Int
abbrev Ty1 := Int × ByteArray × Nat × Nat × Nat × List Int × Nat × List Int
def T (K : Nat) (a0 : Int) (m0 : ByteArray) (m2_0 : Nat) (m2_1 : Nat) (m3_0 : Nat) (m3_1 : List Int) (m5_0 : Nat) (m5_1 : List Int) : Option (Ty0) :=
 bif ((Nat.ble (0 + m2_0) m3_0 && true) && ((Nat.ble (0 + m2_1) m5_0 && true) && true)) then
 (f59.F K (m0, m2_0, m2_1, 1, m2_0, (subI m3_1 0 m2_0), m2_1, (subI m5_1 0 m2_1), 1, [a0])).bind fun y1 =>
 (f60.F K (32, 32, (subI y1.1 0 32))).bind fun y2 =>
 some (y2.1, m0, m2_0, m2_1, m3_0, m3_1, m5_0, m5_1, [a0])
 else
 none
def F (K : Nat) (x : Ty1) : Option (Ty0) := T K x.1 x.2.1 x.2.2.1 x.2.2.2.1 x.2.2.2.2.1 x.2.2.2.2.2.1 x.2.2.2.2.2.2.1 x.2.2.2.2.2.2.2
def av (x : Ty1) : List VV := [.int .u8 x.1, .ptr 0 0, .ptr 1 0]
def bl (x : Ty1) : List (Nat × Blk) := [(0, ([.str x.2.1], 9, .norm)), (1, ([.sl 2 0 2 3], 62, .norm)), (2, ([.vw true 3 0 x.2.2.1 4, .vw true 5 0 x.2.2.2.1 6, .raw (.slice none 0 0)], 63, .norm)), (3, ([.ints .u8 x.2.2.2.2.1 x.2.2.2.2.2.1], 0, .ro)), (5, ([.ints .u8 x.2.2.2.2.2.2.1 x.2.2.2.2.2.2.2], 0, .ro))]
def inA : VS → Option (Ty1)
 | ⟨[(0, .int .u8 a0), (1, .ptr 0 0), (2, .ptr 1 0)], [(0, ([.str m0], 9, .norm)), (1, ([.sl 2 0 2 3], 62, .norm)), (2, ([.vw true 3 0 m2_0 4, .vw true 5 0 m2_1 6, .raw (.slice none 0 0)], 63, .norm)), (3, ([.ints .u8 m3_0 m3_1], 0, .ro)), (5, ([.ints .u8 m5_0 m5_1], 0, .ro))], 7⟩ => some (a0, m0, m2_0, m2_1, m3_0, m3_1, m5_0, m5_1)
 | _ => none
def o0 (y : Ty0) : VS := ⟨[(0, .agg [.ints .u64 4 y.1])], [(0, ([.str y.2.1], 9, .norm)), (1, ([.sl 2 0 2 3], 62, .norm)), (2, ([.vw true 3 0 y.2.2.1 4, .vw true 5 0 y.2.2.2.1 6, .sl 7 0 1 1], 63, .norm)), (3, ([.ints .u8 y.2.2.2.2.1 y.2.2.2.2.2.1], 0, .ro)), (5, ([.ints .u8 y.2.2.2.2.2.2.1 y.2.2.2.2.2.2.2.1], 0, .ro)), (7, ([.ints .u8 1 y.2.2.2.2.2.2.2.2], 5, .norm))], 8⟩
def inR : VS → Option (Ty0)
 | ⟨[(0, .agg [.ints .u64 4 y])], [(0, ([.str z0], 9, .norm)), (1, ([.sl 2 0 2 3], 62, .norm)), (2, ([.vw true 3 0 z2_0 4, .vw true 5 0 z2_1 6, .sl 7 0 1 1], 63, .norm)), (3, ([.ints .u8 z3_0 z3_1], 0, .ro)), (5, ([.ints .u8 z5_0 z5_1], 0, .ro)), (7, ([.ints .u8 1 z7], 5, .norm))], 8⟩ => some (y, z0, z2_0, z2_1, z3_0, z3_1, z5_0, z5_1, z7)
 | _ => none
noncomputable def E (K : Nat) : Entry := genE 7 inA (F K) (dv1 o0)
theorem ok (K : Nat) : EntryOK Tryz.prog 58 (E K) := gen_ok mix tys_ok (sp := tabSp [(59, (rowsE 1 .u8 (f59.E K))), (60, (viewE [(0, .u8)] (f60.E K)))]) (tab_ok ((tab_cons (rows_ok (f59.ok K)) (tab_cons (view_ok (f60.ok K)) tab_nil)))) Tryz.func58 (c := bodyOf Tryz.f58) (by kernel_rfl) (by kernel_rfl) (loops_none (lp := lpNone) (by kernel_rfl)) (av := av) (bl := bl) (inR := inR) (out := o0) (fuel := 400)
  (by intro s x h; unfold inA at h; split at h <;> simp at h; subst h; rfl) (fun _ => Nat.le_of_ble_eq_true rfl)
  (by intro s y h; unfold inR at h; split at h <;> simp at h <;> subst h <;> rfl) (fun _ _ _ => rfl) (fun _ => by kernel_rfl)
end f58
end Go.Proofs

namespace Go.Proofs
open Go.VM
namespace f58v1
abbrev Ty0 := List Int × ByteArray × Nat × Nat × Nat × List Int × Nat × List Int × List Int × List Int
abbrev Ty1 := Int × ByteArray × Nat × Nat × Nat × List Int × Nat × List Int × List Int
def T (K : Nat) (a0 : Int) (m0 : ByteArray) (m2_0 : Nat) (m2_1 : Nat) (m3_0 : Nat) (m3_1 : List Int) (m5_0 : Nat) (m5_1 : List Int) (m7 : List Int) : Option (Ty0) :=
 bif ((Nat.ble (0 + m2_0) m3_0 && true) && ((Nat.ble (0 + m2_1) m5_0 && true) && true)) then
 (f59.F K (m0, m2_0, m2_1, 1, m2_0, (subI m3_1 0 m2_0), m2_1, (subI m5_1 0 m2_1), 1, [a0])).bind fun y1 =>
 (f60.F K (32, 32, (subI y1.1 0 32))).bind fun y2 =>
 some (y2.1, m0, m2_0, m2_1, m3_0, m3_1, m5_0, m5_1, m7, [a0])
 else
 none
def F (K : Nat) (x : Ty1) : Option (Ty0) := T K x.1 x.2.1 x.2.2.1 x.2.2.2.1 x.2.2.2.2.1 x.2.2.2.2.2.1 x.2.2.2.2.2.2.1 x.2.2.2.2.2.2.2.1 x.2.2.2.2.2.2.2.2
def av (x : Ty1) : List VV := [.int .u8 x.1, .ptr 0 0, .ptr 1 0]
def bl (x : Ty1) : List (Nat × Blk) := [(0, ([.str x.2.1], 9, .norm)), (1, ([.sl 2 0 2 3], 62, .norm)), (2, ([.vw true 3 0 x.2.2.1 4, .vw true 5 0 x.2.2.2.1 6, .sl 7 0 1 1], 63, .norm)), (3, ([.ints .u8 x.2.2.2.2.1 x.2.2.2.2.2.1], 0, .ro)), (5, ([.ints .u8 x.2.2.2.2.2.2.1 x.2.2.2.2.2.2.2.1], 0, .ro)), (7, ([.ints .u8 1 x.2.2.2.2.2.2.2.2], 5, .norm))]
def inA : VS → Option (Ty1)
 | ⟨[(0, .int .u8 a0), (1, .ptr 0 0), (2, .ptr 1 0)], [(0, ([.str m0], 9, .norm)), (1, ([.sl 2 0 2 3], 62, .norm)), (2, ([.vw true 3 0 m2_0 4, .vw true 5 0 m2_1 6, .sl 7 0 1 1], 63, .norm)), (3, ([.ints .u8 m3_0 m3_1], 0, .ro)), (5, ([.ints .u8 m5_0 m5_1], 0, .ro)), (7, ([.ints .u8 1 m7], 5, .norm))], 8⟩ => some (a0, m0, m2_0, m2_1, m3_0, m3_1, m5_0, m5_1, m7)
 | _ => none
def o0 (y : Ty0) : VS := ⟨[(0, .agg [.ints .u64 4 y.1])], [(0, ([.str y.2.1], 9, .norm)), (1, ([.sl 2 0 2 3], 62, .norm)), (2, ([.vw true 3 0 y.2.2.1 4, .vw true 5 0 y.2.2.2.1 6, .sl 8 0 1 1], 63, .norm)), (3, ([.ints .u8 y.2.2.2.2.1 y.2.2.2.2.2.1], 0, .ro)), (5, ([.ints .u8 y.2.2.2.2.2.2.1 y.2.2.2.2.2.2.2.1], 0, .ro)), (7, ([.ints .u8 1 y.2.2.2.2.2.2.2.2.1], 5, .norm)), (8, ([.ints .u8 1 y.2.2.2.2.2.2.2.2.2], 5, .norm))], 9⟩
def inR : VS → Option (Ty0)
 | ⟨[(0, .agg [.ints .u64 4 y])], [(0, ([.str z0], 9, .norm)), (1, ([.sl 2 0 2 3], 62, .norm)), (2, ([.vw true 3 0 z2_0 4, .vw true 5 0 z2_1 6, .sl 8 0 1 1], 63, .norm)), (3, ([.ints .u8 z3_0 z3_1], 0, .ro)), (5, ([.ints .u8 z5_0 z5_1], 0, .ro)), (7, ([.ints .u8 1 z7], 5, .norm)), (8, ([.ints .u8 1 z8], 5, .norm))], 9⟩ => some (y, z0, z2_0, z2_1, z3_0, z3_1, z5_0, z5_1, z7, z8)
 | _ => none
noncomputable def E (K : Nat) : Entry := genE 8 inA (F K) (dv1 o0)
theorem ok (K : Nat) : EntryOK Tryz.prog 58 (E K) := gen_ok mix tys_ok (sp := tabSp [(59, (rowsE 1 .u8 (f59.E K))), (60, (viewE [(0, .u8)] (f60.E K)))]) (tab_ok ((tab_cons (rows_ok (f59.ok K)) (tab_cons (view_ok (f60.ok K)) tab_nil)))) Tryz.func58 (c := bodyOf Tryz.f58) (by kernel_rfl) (by kernel_rfl) (loops_none (lp := lpNone) (by kernel_rfl)) (av := av) (bl := bl) (inR := inR) (out := o0) (fuel := 400)
  (by intro s x h; unfold inA at h; split at h <;> simp at h; subst h; rfl) (fun _ => Nat.le_of_ble_eq_true rfl)
  (by intro s y h; unfold inR at h; split at h <;> simp at h <;> subst h <;> rfl) (fun _ _ _ => rfl) (fun _ => by kernel_rfl)
end f58v1
end Go.Proofs

namespace Go.Proofs
open Go.VM
namespace f40
abbrev Ty0 := List Int × ByteArray × Nat × Nat × Nat × List Int × Nat × List Int
abbrev Ty1 := List Int × Int × Nat × Nat × Nat × List Int × Nat × List Int
def T (K : Nat) (a0 : List Int) (a1 : ByteArray) (m0_0 : Nat) (m0_1 : Nat) (m2_0 : Nat) (m2_1 : List Int) (m4_0 : Nat) (m4_1 : List Int) : Option (Ty1) :=
 (f58.F K (1, a1, m0_0, m0_1, m2_0, m2_1, m4_0, m4_1)).bind fun y1 =>
 (f58v1.F K (0, y1.2.1, y1.2.2.1, y1.2.2.2.1, m2_0, m2_1, m4_0, m4_1, y1.2.2.2.2.2.2.2.2)).bind fun y2 =>
 (f61.F K (y1.1, y2.1, a0)).bind fun y3 =>
 some (y3.1, y3.2, m0_0, m0_1, m2_0, m2_1, m4_0, m4_1)
def F (K : Nat) (x : Ty0) : Option (Ty1) := T K x.1 x.2.1 x.2.2.1 x.2.2.2.1 x.2.2.2.2.1 x.2.2.2.2.2.1 x.2.2.2.2.2.2.1 x.2.2.2.2.2.2.2
def av (x : Ty0) : List VV := [.agg [.ints .u64 4 x.1], .str x.2.1, .vw true 0 0 2 1]
def bl (x : Ty0) : List (Nat × Blk) := [(0, ([.vw true 2 0 x.2.2.1 3, .vw true 4 0 x.2.2.2.1 5], 0, .ro)), (2, ([.ints .u8 x.2.2.2.2.1 x.2.2.2.2.2.1], 0, .ro)), (4, ([.ints .u8 x.2.2.2.2.2.2.1 x.2.2.2.2.2.2.2], 0, .ro))]
def inA : VS → Option (Ty0)
 | ⟨[(0, .agg [.ints .u64 4 a0]), (1, .str a1), (2, .vw true 0 0 2 1)], [(0, ([.vw true 2 0 m0_0 3, .vw true 4 0 m0_1 5], 0, .ro)), (2, ([.ints .u8 m2_0 m2_1], 0, .ro)), (4, ([.ints .u8 m4_0 m4_1], 0, .ro))], 6⟩ => some (a0, a1, m0_0, m0_1, m2_0, m2_1, m4_0, m4_1)
 | _ => none
def o0 (y : Ty1) : VS := ⟨[(0, .tup [.agg [.ints .u64 4 y.1], .int .i64 y.2.1])], [(0, ([.vw true 2 0 y.2.2.1 3, .vw true 4 0 y.2.2.2.1 5], 0, .ro)), (2, ([.ints .u8 y.2.2.2.2.1 y.2.2.2.2.2.1], 0, .ro)), (4, ([.ints .u8 y.2.2.2.2.2.2.1 y.2.2.2.2.2.2.2], 0, .ro))], 6⟩
def inR : VS → Option (Ty1)
 | ⟨[(0, .tup [.agg [.ints .u64 4 y_0], .int .i64 y_1])], [(0, ([.vw true 2 0 z0_0 3, .vw true 4 0 z0_1 5], 0, .ro)), (2, ([.ints .u8 z2_0 z2_1], 0, .ro)), (4, ([.ints .u8 z4_0 z4_1], 0, .ro))], 6⟩ => some (y_0, y_1, z0_0, z0_1, z2_0, z2_1, z4_0, z4_1)
 | _ => none
noncomputable def E (K : Nat) : Entry := genE 6 inA (F K) (dv1 o0)
theorem ok (K : Nat) : EntryOK Tryz.prog 40 (E K) := gen_ok mix tys_ok (sp := tabSp [(58, (orF (fitE 7 f58.inA) (f58.E K) (f58v1.E K))), (61, (f61.E K))]) (tab_ok ((tab_cons (orF_ok (f58.ok K) (f58v1.ok K)) (tab_cons (f61.ok K) tab_nil)))) Tryz.func40 (c := bodyOf Tryz.f40) (by kernel_rfl) (by kernel_rfl) (loops_none (lp := lpNone) (by kernel_rfl)) (av := av) (bl := bl) (inR := inR) (out := o0) (fuel := 400)
  (by intro s x h; unfold inA at h; split at h <;> simp at h; subst h; rfl) (fun _ => Nat.le_of_ble_eq_true rfl)
  (by intro s y h; unfold inR at h; split at h <;> simp at h <;> subst h <;> rfl) (fun _ _ _ => rfl) (fun _ => by kernel_rfl)
end f40
end Go.Proofs

namespace Go.Proofs
open Go.VM
namespace f18
abbrev Ty0 := List Int × List Int × List Int × ByteArray × List Int × List Int
abbrev Ty1 := List Int × List Int
def T (K : Nat) (_a0_0 : List Int) (a0_1 : List Int) (_a0_2 : List Int) (a1 : ByteArray) (a2 : List Int) (m0 : List Int) : Option (Ty1) :=
 (f39.F K (0, (List.take 4 (List.drop 0 m0)), 0, [])).bind fun y2 =>
 bif ((Nat.ble (0 + y2.1) y2.2.2.2.2.1 && (Nat.ble y2.1 y2.2.1)) && true) then
 (f40.F K (a0_1, a1, y2.1, 32, y2.1, (subI y2.2.2.2.2.2 0 y2.1), 32, (subI a2 0 32))).bind fun y3 =>
 some (y3.1, m0)
 else
 none
def F (K : Nat) (x : Ty0) : Option (Ty1) := T K x.1 x.2.1 x.2.2.1 x.2.2.2.1 x.2.2.2.2.1 x.2.2.2.2.2
def av (x : Ty0) : List VV := [.agg [.ints .u64 4 x.1, .ints .u64 4 x.2.1, .ints .u64 4 x.2.2.1], .str x.2.2.2.1, .agg [.ints .u8 32 x.2.2.2.2.1], .sl 0 0 1 1]
def bl (x : Ty0) : List (Nat × Blk) := [(0, ([.ints .u64 4 x.2.2.2.2.2], 24, .norm))]
def inA : VS → Option (Ty0)
 | ⟨[(0, .agg [.ints .u64 4 a0_0, .ints .u64 4 a0_1, .ints .u64 4 a0_2]), (1, .str a1), (2, .agg [.ints .u8 32 a2]), (3, .sl 0 0 1 1)], [(0, ([.ints .u64 4 m0], 24, .norm))], 1⟩ => some (a0_0, a0_1, a0_2, a1, a2, m0)
 | _ => none
def o0 (y : Ty1) : VS := ⟨[(0, .agg [.ints .u64 4 y.1])], [(0, ([.ints .u64 4 y.2], 24, .norm))], 1⟩
def inR : VS → Option (Ty1)
 | ⟨[(0, .agg [.ints .u64 4 y])], [(0, ([.ints .u64 4 z0], 24, .norm))], 1⟩ => some (y, z0)
 | _ => none
noncomputable def E (K : Nat) : Entry := genE 1 inA (F K) (dv1 o0)
theorem ok (K : Nat) : EntryOK Tryz.prog 18 (E K) := gen_ok mix tys_ok (sp := tabSp [(39, (viewE [(0, .u8)] (f39.E K))), (40, (rowsE 2 .u8 (f40.E K)))]) (tab_ok ((tab_cons (view_ok (f39.ok K)) (tab_cons (rows_ok (f40.ok K)) tab_nil)))) Tryz.func18 (c := bodyOf Tryz.f18) (by kernel_rfl) (by kernel_rfl) (loops_none (lp := lpNone) (by kernel_rfl)) (av := av) (bl := bl) (inR := inR) (out := o0) (fuel := 400)
  (by intro s x h; unfold inA at h; split at h <;> simp at h; subst h; rfl) (fun _ => Nat.le_of_ble_eq_true rfl)
  (by intro s y h; unfold inR at h; split at h <;> simp at h <;> subst h <;> rfl) (fun _ _ _ => rfl) (fun _ => by kernel_rfl)
end f18
end Go.Proofs

namespace Go.Proofs
open Go.VM
namespace f58v2
abbrev Ty0 := List Int × ByteArray × Nat × Nat × Nat × Nat × List Int × Nat × List Int × Nat × List Int × List Int
abbrev Ty1 := Int × ByteArray × Nat × Nat × Nat × Nat × List Int × Nat × List Int × Nat × List Int
def T (K : Nat) (a0 : Int) (m0 : ByteArray) (m2_0 : Nat) (m2_1 : Nat) (m2_2 : Nat) (m3_0 : Nat) (m3_1 : List Int) (m5_0 : Nat) (m5_1 : List Int) (m7_0 : Nat) (m7_1 : List Int) : Option (Ty0) :=
 bif ((Nat.ble (0 + m2_0) m3_0 && true) && ((Nat.ble (0 + m2_1) m5_0 && true) && ((Nat.ble (0 + m2_2) m7_0 && true) && true))) then
 (f59v1.F K (m0, m2_0, m2_1, m2_2, 1, m2_0, (subI m3_1 0 m2_0), m2_1, (subI m5_1 0 m2_1), m2_2, (subI m7_1 0 m2_2), 1, [a0])).bind fun y1 =>
 (f60.F K (32, 32, (subI y1.1 0 32))).bind fun y2 =>
 some (y2.1, m0, m2_0, m2_1, m2_2, m3_0, m3_1, m5_0, m5_1, m7_0, m7_1, [a0])
 else
 none
def F (K : Nat) (x : Ty1) : Option (Ty0) := T K x.1 x.2.1 x.2.2.1 x.2.2.2.1 x.2.2.2.2.1 x.2.2.2.2.2.1 x.2.2.2.2.2.2.1 x.2.2.2.2.2.2.2.1 x.2.2.2.2.2.2.2.2.1 x.2.2.2.2.2.2.2.2.2.1 x.2.2.2.2.2.2.2.2.2.2
def av (x : Ty1) : List VV := [.int .u8 x.1, .ptr 0 0, .ptr 1 0]
def bl (x : Ty1) : List (Nat × Blk) := [(0, ([.str x.2.1], 9, .norm)), (1, ([.sl 2 0 3 4], 62, .norm)), (2, ([.vw true 3 0 x.2.2.1 4, .vw true 5 0 x.2.2.2.1 6, .vw true 7 0 x.2.2.2.2.1 8, .raw (.slice none 0 0)], 63, .norm)), (3, ([.ints .u8 x.2.2.2.2.2.1 x.2.2.2.2.2.2.1], 0, .ro)), (5, ([.ints .u8 x.2.2.2.2.2.2.2.1 x.2.2.2.2.2.2.2.2.1], 0, .ro)), (7, ([.ints .u8 x.2.2.2.2.2.2.2.2.2.1 x.2.2.2.2.2.2.2.2.2.2], 0, .ro))]
def inA : VS → Option (Ty1)
 | ⟨[(0, .int .u8 a0), (1, .ptr 0 0), (2, .ptr 1 0)], [(0, ([.str m0], 9, .norm)), (1, ([.sl 2 0 3 4], 62, .norm)), (2, ([.vw true 3 0 m2_0 4, .vw true 5 0 m2_1 6, .vw true 7 0 m2_2 8, .raw (.slice none 0 0)], 63, .norm)), (3, ([.ints .u8 m3_0 m3_1], 0, .ro)), (5, ([.ints .u8 m5_0 m5_1], 0, .ro)), (7, ([.ints .u8 m7_0 m7_1], 0, .ro))], 9⟩ => some (a0, m0, m2_0, m2_1, m2_2, m3_0, m3_1, m5_0, m5_1, m7_0, m7_1)
 | _ => none
def o0 (y : Ty0) : VS := ⟨[(0, .agg [.ints .u64 4 y.1])], [(0, ([.str y.2.1], 9, .norm)), (1, ([.sl 2 0 3 4], 62, .norm)), (2, ([.vw true 3 0 y.2.2.1 4, .vw true 5 0 y.2.2.2.1 6, .vw true 7 0 y.2.2.2.2.1 8, .sl 9 0 1 1], 63, .norm)), (3, ([.ints .u8 y.2.2.2.2.2.1 y.2.2.2.2.2.2.1], 0, .ro)), (5, ([.ints .u8 y.2.2.2.2.2.2.2.1 y.2.2.2.2.2.2.2.2.1], 0, .ro)), (7, ([.ints .u8 y.2.2.2.2.2.2.2.2.2.1 y.2.2.2.2.2.2.2.2.2.2.1], 0, .ro)), (9, ([.ints .u8 1 y.2.2.2.2.2.2.2.2.2.2.2], 5, .norm))], 10⟩
def inR : VS → Option (Ty0)
 | ⟨[(0, .agg [.ints .u64 4 y])], [(0, ([.str z0], 9, .norm)), (1, ([.sl 2 0 3 4], 62, .norm)), (2, ([.vw true 3 0 z2_0 4, .vw true 5 0 z2_1 6, .vw true 7 0 z2_2 8, .sl 9 0 1 1], 63, .norm)), (3, ([.ints .u8 z3_0 z3_1], 0, .ro)), (5, ([.ints .u8 z5_0 z5_1], 0, .ro)), (7, ([.ints .u8 z7_0 z7_1], 0, .ro)), (9, ([.ints .u8 1 z9], 5, .norm))], 10⟩ => some (y, z0, z2_0, z2_1, z2_2, z3_0, z3_1, z5_0, z5_1, z7_0, z7_1, z9)
 | _ => none
noncomputable def E (K : Nat) : Entry := genE 9 inA (F K) (dv1 o0)
theorem ok (K : Nat) : EntryOK Tryz.prog 58 (E K) := gen_ok mix tys_ok (sp := tabSp [(59, (rowsE 1 .u8 (f59v1.E K))), (60, (viewE [(0, .u8)] (f60.E K)))]) (tab_ok ((tab_cons (rows_ok (f59v1.ok K)) (tab_cons (view_ok (f60.ok K)) tab_nil)))) Tryz.func58 (c := bodyOf Tryz.f58) (by kernel_rfl) (by kernel_rfl) (loops_none (lp := lpNone) (by kernel_rfl)) (av := av) (bl := bl) (inR := inR) (out := o0) (fuel := 400)
  (by intro s x h; unfold inA at h; split at h <;> simp at h; subst h; rfl) (fun _ => Nat.le_of_ble_eq_true rfl)
  (by intro s y h; unfold inR at h; split at h <;> simp at h <;> subst h <;> rfl) (fun _ _ _ => rfl) (fun _ => by kernel_rfl)
end f58v2
end Go.Proofs

namespace Go.Proofs
open Go.VM
namespace f58v3
abbrev Ty0 := List Int × ByteArray × Nat × Nat × Nat × Nat × List Int × Nat × List Int × Nat × List Int × List Int × List Int
abbrev Ty1 := Int × ByteArray × Nat × Nat × Nat × Nat × List Int × Nat × List Int × Nat × List Int × List Int
def T (K : Nat) (a0 : Int) (m0 : ByteArray) (m2_0 : Nat) (m2_1 : Nat) (m2_2 : Nat) (m3_0 : Nat) (m3_1 : List Int) (m5_0 : Nat) (m5_1 : List Int) (m7_0 : Nat) (m7_1 : List Int) (m9 : List Int) : Option (Ty0) :=
 bif ((Nat.ble (0 + m2_0) m3_0 && true) && ((Nat.ble (0 + m2_1) m5_0 && true) && ((Nat.ble (0 + m2_2) m7_0 && true) && true))) then
 (f59v1.F K (m0, m2_0, m2_1, m2_2, 1, m2_0, (subI m3_1 0 m2_0), m2_1, (subI m5_1 0 m2_1), m2_2, (subI m7_1 0 m2_2), 1, [a0])).bind fun y1 =>
 (f60.F K (32, 32, (subI y1.1 0 32))).bind fun y2 =>
 some (y2.1, m0, m2_0, m2_1, m2_2, m3_0, m3_1, m5_0, m5_1, m7_0, m7_1, m9, [a0])
 else
 none
def F (K : Nat) (x : Ty1) : Option (Ty0) := T K x.1 x.2.1 x.2.2.1 x.2.2.2.1 x.2.2.2.2.1 x.2.2.2.2.2.1 x.2.2.2.2.2.2.1 x.2.2.2.2.2.2.2.1 x.2.2.2.2.2.2.2.2.1 x.2.2.2.2.2.2.2.2.2.1 x.2.2.2.2.2.2.2.2.2.2.1 x.2.2.2.2.2.2.2.2.2.2.2
def av (x : Ty1) : List VV := [.int .u8 x.1, .ptr 0 0, .ptr 1 0]
def bl (x : Ty1) : List (Nat × Blk) := [(0, ([.str x.2.1], 9, .norm)), (1, ([.sl 2 0 3 4], 62, .norm)), (2, ([.vw true 3 0 x.2.2.1 4, .vw true 5 0 x.2.2.2.1 6, .vw true 7 0 x.2.2.2.2.1 8, .sl 9 0 1 1], 63, .norm)), (3, ([.ints .u8 x.2.2.2.2.2.1 x.2.2.2.2.2.2.1], 0, .ro)), (5, ([.ints .u8 x.2.2.2.2.2.2.2.1 x.2.2.2.2.2.2.2.2.1], 0, .ro)), (7, ([.ints .u8 x.2.2.2.2.2.2.2.2.2.1 x.2.2.2.2.2.2.2.2.2.2.1], 0, .ro)), (9, ([.ints .u8 1 x.2.2.2.2.2.2.2.2.2.2.2], 5, .norm))]
def inA : VS → Option (Ty1)
 | ⟨[(0, .int .u8 a0), (1, .ptr 0 0), (2, .ptr 1 0)], [(0, ([.str m0], 9, .norm)), (1, ([.sl 2 0 3 4], 62, .norm)), (2, ([.vw true 3 0 m2_0 4, .vw true 5 0 m2_1 6, .vw true 7 0 m2_2 8, .sl 9 0 1 1], 63, .norm)), (3, ([.ints .u8 m3_0 m3_1], 0, .ro)), (5, ([.ints .u8 m5_0 m5_1], 0, .ro)), (7, ([.ints .u8 m7_0 m7_1], 0, .ro)), (9, ([.ints .u8 1 m9], 5, .norm))], 10⟩ => some (a0, m0, m2_0, m2_1, m2_2, m3_0, m3_1, m5_0, m5_1, m7_0, m7_1, m9)
 | _ => none
def o0 (y : Ty0) : VS := ⟨[(0, .agg [.ints .u64 4 y.1])], [(0, ([.str y.2.1], 9, .norm)), (1, ([.sl 2 0 3 4], 62, .norm)), (2, ([.vw true 3 0 y.2.2.1 4, .vw true 5 0 y.2.2.2.1 6, .vw true 7 0 y.2.2.2.2.1 8, .sl 10 0 1 1], 63, .norm)), (3, ([.ints .u8 y.2.2.2.2.2.1 y.2.2.2.2.2.2.1], 0, .ro)), (5, ([.ints .u8 y.2.2.2.2.2.2.2.1 y.2.2.2.2.2.2.2.2.1], 0, .ro)), (7, ([.ints .u8 y.2.2.2.2.2.2.2.2.2.1 y.2.2.2.2.2.2.2.2.2.2.1], 0, .ro)), (9, ([.ints .u8 1 y.2.2.2.2.2.2.2.2.2.2.2.1], 5, .norm)), (10, ([.ints .u8 1 y.2.2.2.2.2.2.2.2.2.2.2.2], 5, .norm))], 11⟩
def inR : VS → Option (Ty0)
 | ⟨[(0, .agg [.ints .u64 4 y])], [(0, ([.str z0], 9, .norm)), (1, ([.sl 2 0 3 4], 62, .norm)), (2, ([.vw true 3 0 z2_0 4, .vw true 5 0 z2_1 6, .vw true 7 0 z2_2 8, .sl 10 0 1 1], 63, .norm)), (3, ([.ints .u8 z3_0 z3_1], 0, .ro)), (5, ([.ints .u8 z5_0 z5_1], 0, .ro)), (7, ([.ints .u8 z7_0 z7_1], 0, .ro)), (9, ([.ints .u8 1 z9], 5, .norm)), (10, ([.ints .u8 1 z10], 5, .norm))], 11⟩ => some (y, z0, z2_0, z2_1, z2_2, z3_0, z3_1, z5_0, z5_1, z7_0, z7_1, z9, z10)
 | _ => none
noncomputable def E (K : Nat) : Entry := genE 10 inA (F K) (dv1 o0)
theorem ok (K : Nat) : EntryOK Tryz.prog 58 (E K) := gen_ok mix tys_ok (sp := tabSp [(59, (rowsE 1 .u8 (f59v1.E K))), (60, (viewE [(0, .u8)] (f60.E K)))]) (tab_ok ((tab_cons (rows_ok (f59v1.ok K)) (tab_cons (view_ok (f60.ok K)) tab_nil)))) Tryz.func58 (c := bodyOf Tryz.f58) (by kernel_rfl) (by kernel_rfl) (loops_none (lp := lpNone) (by kernel_rfl)) (av := av) (bl := bl) (inR := inR) (out := o0) (fuel := 400)
  (by intro s x h; unfold inA at h; split at h <;> simp at h; subst h; rfl) (fun _ => Nat.le_of_ble_eq_true rfl)
  (by intro s y h; unfold inR at h; split at h <;> simp at h <;> subst h <;> rfl) (fun _ _ _ => rfl) (fun _ => by kernel_rfl)
end f58v3
end Go.Proofs

namespace Go.Proofs
open Go.VM
namespace f40v1
abbrev Ty0 := List Int × ByteArray × Nat × Nat × Nat × Nat × List Int × Nat × List Int × Nat × List Int
abbrev Ty1 := List Int × Int × Nat × Nat × Nat × Nat × List Int × Nat × List Int × Nat × List Int
def T (K : Nat) (a0 : List Int) (a1 : ByteArray) (m0_0 : Nat) (m0_1 : Nat) (m0_2 : Nat) (m2_0 : Nat) (m2_1 : List Int) (m4_0 : Nat) (m4_1 : List Int) (m6_0 : Nat) (m6_1 : List Int) : Option (Ty1) :=
 (f58v2.F K (1, a1, m0_0, m0_1, m0_2, m2_0, m2_1, m4_0, m4_1, m6_0, m6_1)).bind fun y1 =>
 (f58v3.F K (0, y1.2.1, y1.2.2.1, y1.2.2.2.1, y1.2.2.2.2.1, m2_0, m2_1, m4_0, m4_1, m6_0, m6_1, y1.2.2.2.2.2.2.2.2.2.2.2)).bind fun y2 =>
 (f61.F K (y1.1, y2.1, a0)).bind fun y3 =>
 some (y3.1, y3.2, m0_0, m0_1, m0_2, m2_0, m2_1, m4_0, m4_1, m6_0, m6_1)
def F (K : Nat) (x : Ty0) : Option (Ty1) := T K x.1 x.2.1 x.2.2.1 x.2.2.2.1 x.2.2.2.2.1 x.2.2.2.2.2.1 x.2.2.2.2.2.2.1 x.2.2.2.2.2.2.2.1 x.2.2.2.2.2.2.2.2.1 x.2.2.2.2.2.2.2.2.2.1 x.2.2.2.2.2.2.2.2.2.2
def av (x : Ty0) : List VV := [.agg [.ints .u64 4 x.1], .str x.2.1, .vw true 0 0 3 1]
def bl (x : Ty0) : List (Nat × Blk) := [(0, ([.vw true 2 0 x.2.2.1 3, .vw true 4 0 x.2.2.2.1 5, .vw true 6 0 x.2.2.2.2.1 7], 0, .ro)), (2, ([.ints .u8 x.2.2.2.2.2.1 x.2.2.2.2.2.2.1], 0, .ro)), (4, ([.ints .u8 x.2.2.2.2.2.2.2.1 x.2.2.2.2.2.2.2.2.1], 0, .ro)), (6, ([.ints .u8 x.2.2.2.2.2.2.2.2.2.1 x.2.2.2.2.2.2.2.2.2.2], 0, .ro))]
def inA : VS → Option (Ty0)
 | ⟨[(0, .agg [.ints .u64 4 a0]), (1, .str a1), (2, .vw true 0 0 3 1)], [(0, ([.vw true 2 0 m0_0 3, .vw true 4 0 m0_1 5, .vw true 6 0 m0_2 7], 0, .ro)), (2, ([.ints .u8 m2_0 m2_1], 0, .ro)), (4, ([.ints .u8 m4_0 m4_1], 0, .ro)), (6, ([.ints .u8 m6_0 m6_1], 0, .ro))], 8⟩ => some (a0, a1, m0_0, m0_1, m0_2, m2_0, m2_1, m4_0, m4_1, m6_0, m6_1)
 | _ => none
def o0 (y : Ty1) : VS := ⟨[(0, .tup [.agg [.ints .u64 4 y.1], .int .i64 y.2.1])], [(0, ([.vw true 2 0 y.2.2.1 3, .vw true 4 0 y.2.2.2.1 5, .vw true 6 0 y.2.2.2.2.1 7], 0, .ro)), (2, ([.ints .u8 y.2.2.2.2.2.1 y.2.2.2.2.2.2.1], 0, .ro)), (4, ([.ints .u8 y.2.2.2.2.2.2.2.1 y.2.2.2.2.2.2.2.2.1], 0, .ro)), (6, ([.ints .u8 y.2.2.2.2.2.2.2.2.2.1 y.2.2.2.2.2.2.2.2.2.2], 0, .ro))], 8⟩
def inR : VS → Option (Ty1)
 | ⟨[(0, .tup [.agg [.ints .u64 4 y_0], .int .i64 y_1])], [(0, ([.vw true 2 0 z0_0 3, .vw true 4 0 z0_1 5, .vw true 6 0 z0_2 7], 0, .ro)), (2, ([.ints .u8 z2_0 z2_1], 0, .ro)), (4, ([.ints .u8 z4_0 z4_1], 0, .ro)), (6, ([.ints .u8 z6_0 z6_1], 0, .ro))], 8⟩ => some (y_0, y_1, z0_0, z0_1, z0_2, z2_0, z2_1, z4_0, z4_1, z6_0, z6_1)
 | _ => none
noncomputable def E (K : Nat) : Entry := genE 8 inA (F K) (dv1 o0)
theorem ok (K : Nat) : EntryOK Tryz.prog 40 (E K) := gen_ok mix tys_ok (sp := tabSp [(58, (orF (fitE 9 f58v2.inA) (f58v2.E K) (f58v3.E K))), (61, (f61.E K))]) (tab_ok ((tab_cons (orF_ok (f58v2.ok K) (f58v3.ok K)) (tab_cons (f61.ok K) tab_nil)))) Tryz.func40 (c := bodyOf Tryz.f40) (by kernel_rfl) (by kernel_rfl) (loops_none (lp := lpNone) (by kernel_rfl)) (av := av) (bl := bl) (inR := inR) (out := o0) (fuel := 400)
  (by intro s x h; unfold inA at h; split at h <;> simp at h; subst h; rfl) (fun _ => Nat.le_of_ble_eq_true rfl)
  (by intro s y h; unfold inR at h; split at h <;> simp at h <;> subst h <;> rfl) (fun _ _ _ => rfl) (fun _ => by kernel_rfl)
end f40v1
end Go.Proofs

namespace Go.Proofs
open Go.VM
namespace f18v1
abbrev Ty0 := List Int × List Int × List Int × ByteArray × List Int × List Int
abbrev Ty1 := List Int × List Int
def T (K : Nat) (_a0_0 : List Int) (a0_1 : List Int) (_a0_2 : List Int) (a1 : ByteArray) (a2 : List Int) (m0 : List Int) : Option (Ty1) :=
 (f39.F K (0, (List.take 4 (List.drop 0 m0)), 0, [])).bind fun y2 =>
 (f39.F K (0, (List.take 4 (List.drop 4 m0)), 0, [])).bind fun y4 =>
 bif ((Nat.ble (0 + y2.1) y2.2.2.2.2.1 && (Nat.ble y2.1 y2.2.1)) && ((Nat.ble (0 + y4.1) y4.2.2.2.2.1 && (Nat.ble y4.1 y4.2.1)) && true)) then
 (f40v1.F K (a0_1, a1, y2.1, y4.1, 32, y2.1, (subI y2.2.2.2.2.2 0 y2.1), y4.1, (subI y4.2.2.2.2.2 0 y4.1), 32, (subI a2 0 32))).bind fun y5 =>
 some (y5.1, m0)
 else
 none
def F (K : Nat) (x : Ty0) : Option (Ty1) := T K x.1 x.2.1 x.2.2.1 x.2.2.2.1 x.2.2.2.2.1 x.2.2.2.2.2
def av (x : Ty0) : List VV := [.agg [.ints .u64 4 x.1, .ints .u64 4 x.2.1, .ints .u64 4 x.2.2.1], .str x.2.2.2.1, .agg [.ints .u8 32 x.2.2.2.2.1], .sl 0 0 2 2]
def bl (x : Ty0) : List (Nat × Blk) := [(0, ([.ints .u64 8 x.2.2.2.2.2], 24, .norm))]
def inA : VS → Option (Ty0)
 | ⟨[(0, .agg [.ints .u64 4 a0_0, .ints .u64 4 a0_1, .ints .u64 4 a0_2]), (1, .str a1), (2, .agg [.ints .u8 32 a2]), (3, .sl 0 0 2 2)], [(0, ([.ints .u64 8 m0], 24, .norm))], 1⟩ => some (a0_0, a0_1, a0_2, a1, a2, m0)
 | _ => none
def o0 (y : Ty1) : VS := ⟨[(0, .agg [.ints .u64 4 y.1])], [(0, ([.ints .u64 8 y.2], 24, .norm))], 1⟩
def inR : VS → Option (Ty1)
 | ⟨[(0, .agg [.ints .u64 4 y])], [(0, ([.ints .u64 8 z0], 24, .norm))], 1⟩ => some (y, z0)
 | _ => none
noncomputable def E (K : Nat) : Entry := genE 1 inA (F K) (dv1 o0)
theorem ok (K : Nat) : EntryOK Tryz.prog 18 (E K) := gen_ok mix tys_ok (sp := tabSp [(39, (viewE [(0, .u8)] (f39.E K))), (40, (rowsE 2 .u8 (f40v1.E K)))]) (tab_ok ((tab_cons (view_ok (f39.ok K)) (tab_cons (rows_ok (f40v1.ok K)) tab_nil)))) Tryz.func18 (c := bodyOf Tryz.f18) (by kernel_rfl) (by kernel_rfl) (loops_none (lp := lpNone) (by kernel_rfl)) (av := av) (bl := bl) (inR := inR) (out := o0) (fuel := 400)
  (by intro s x h; unfold inA at h; split at h <;> simp at h; subst h; rfl) (fun _ => Nat.le_of_ble_eq_true rfl)
  (by intro s y h; unfold inR at h; split at h <;> simp at h <;> subst h <;> rfl) (fun _ _ _ => rfl) (fun _ => by kernel_rfl)
end f18v1
end Go.Proofs

namespace Go.Proofs
open Go.VM
def Sh.cut (name : List Int) (ps : List (List Int)) : List Int := Sh.frame name ++ be 4 ps.length ++ ps.flatMap Sh.frame
def Sh.sha (name : List Int) (ps : List (List Int)) : List Int := Sh.sum (Sh.cut name ps)
theorem Sh.rep0 : Sh.Rep [] [0, 0, 0, 0, 0, 0, 0, 0, 0, 0, 0, 0, 0, 0, 0, 0, 0, 0, 0, 0, 0, 0, 0, 0, 0, 0, 0, 0, 0, 0, 0, 0, 0, 0, 0, 0, 0, 0, 0, 0, 0, 0, 0, 0, 0, 0, 0, 0, 0, 0, 0, 0, 0, 0, 0, 0, 0, 0, 0, 0, 0, 0, 0, 0] 0 Sh.init :=
  ⟨rfl, by intro x hx; simp only [List.mem_cons, List.not_mem_nil, or_false, or_self] at hx; omega, rfl, rfl, rfl⟩
theorem sha_length (name : List Int) (ps : List (List Int)) : (Sh.sha name ps).length = 32 := digest_length _
theorem sha_octets (name : List Int) (ps : List (List Int)) : octets (Sh.sha name ps) := digest_octets _
theorem f59.spec (K : Nat) (name : ByteArray) (n0 : Nat) (l0 : List Int) (n1 : Nat) (l1 : List Int) (n2 : Nat) (l2 : List Int) (hs : name.size ≤ 1000000000) (e0 : l0.length = n0) (o0 : octets l0) (z0 : n0 ≤ 1000000000) (e1 : l1.length = n1) (o1 : octets l1) (z1 : n1 ≤ 1000000000) (e2 : l2.length = n2) (o2 : octets l2) (z2 : n2 ≤ 1000000000) (hK : 200 + name.size < K) (k0 : 68 + n0 < K) (k1 : 68 + n1 < K) (k2 : 68 + n2 < K) :
    f59.F K (name, n0, n1, n2, n0, l0, n1, l1, n2, l2) = some (Sh.sha (strL name) [l0, l1, l2], n0, n1, n2, n0, l0, n1, l1, n2, l2) := by
  have hnl := strL_length name
  have hno := strL_octets name
  simp only [f59.F, f59.T]
  rw [show f75.F K () = some ([0, 0, 0, 0, 0, 0, 0, 0, 0, 0, 0, 0, 0, 0, 0, 0, 0, 0, 0, 0, 0, 0, 0, 0, 0, 0, 0, 0, 0, 0, 0, 0, 0, 0, 0, 0, 0, 0, 0, 0, 0, 0, 0, 0, 0, 0, 0, 0, 0, 0, 0, 0, 0, 0, 0, 0, 0, 0, 0, 0, 0, 0, 0, 0], 0, 0, Sh.init) from rfl, bind_s]
  have a0 : f77.F K (0, name.size, 0, [], name.size, strL name) = some (0 + 4 + name.size, 0, [], name.size, strL name, 0 + 4 + name.size, [] ++ Sh.frame (strL name)) := f77.spec K 0 name.size [] (strL name) rfl hnl (by omega) (by omega)
  have a1 : f78.F K (0, ((3 : Nat) : Int), ((4 : Nat) : Int), 0, []) = some (4, 4, 0, [], 4, [] ++ be 4 3) := f78.spec K 0 4 3 [] rfl (by omega) (by omega) (by omega)
  rw [Nat.zero_add, List.nil_append] at a0
  rw [List.nil_append] at a1
  rw [Nat.zero_add, ble_true (Nat.le_refl name.size), Bool.and_self, Bool.and_self, cond_t, subI_self _ hnl, a0, bind_s, show ((3 : Int)) = ((3 : Nat) : Int) from rfl, show ((4 : Int)) = ((4 : Nat) : Int) from rfl, a1, bind_s]
  simp only []
  have hf := frame_length (strL name)
  rw [hnl] at hf
  rw [Nat.zero_add, Nat.zero_add, ble_true (Nat.le_refl (4 + name.size)), ble_true (Nat.le_refl 4), Bool.and_self, Bool.and_self, Bool.and_self, cond_t, subI_self _ hf, subI_self _ (be_length 4 3)]
  obtain ⟨B, H, S, c0, R⟩ := f76.spec K [] (4 + name.size) (Sh.frame (strL name)) 4 (be 4 3) hf (frame_octets hno) (by omega) (be_length _ _) (be_octets _ _) (by omega) _ _ _ Sh.rep0 (by omega)
  rw [show f76.F K ([0, 0, 0, 0, 0, 0, 0, 0, 0, 0, 0, 0, 0, 0, 0, 0, 0, 0, 0, 0, 0, 0, 0, 0, 0, 0, 0, 0, 0, 0, 0, 0, 0, 0, 0, 0, 0, 0, 0, 0, 0, 0, 0, 0, 0, 0, 0, 0, 0, 0, 0, 0, 0, 0, 0, 0, 0, 0, 0, 0, 0, 0, 0, 0], 0, 0, 4 + name.size, 4, Sh.init, 4 + name.size, Sh.frame (strL name), 4, be 4 3) = _ from c0, bind_s]
  simp only []
  have g0 : f77.F K (0, n0, 0, [], n0, l0) = some (4 + n0, 0, [], n0, l0, 4 + n0, Sh.frame l0) := by
    have := f77.spec K 0 n0 [] l0 rfl e0 (by omega) (by omega)
    rw [Nat.zero_add, List.nil_append] at this
    exact this
  have f0_ : (Sh.frame l0).length = 4 + n0 := by rw [frame_length, e0]
  rw [Nat.zero_add, ble_true (Nat.le_refl n0), Bool.and_self, Bool.and_self, cond_t, subI_self _ e0, g0, bind_s]
  simp only []
  rw [Nat.zero_add, ble_true (Nat.le_refl (4 + n0)), Bool.and_self, Bool.and_self, cond_t, subI_self _ f0_]
  obtain ⟨B0, H0, S0, c0_, R0⟩ := f76v1.spec K ([] ++ Sh.frame (strL name) ++ be 4 3) (4 + n0) (Sh.frame l0) f0_ (frame_octets o0) (by omega) _ _ _ R (by omega)
  rw [c0_, bind_s]
  simp only []
  have g1 : f77.F K (0, n1, 0, [], n1, l1) = some (4 + n1, 0, [], n1, l1, 4 + n1, Sh.frame l1) := by
    have := f77.spec K 0 n1 [] l1 rfl e1 (by omega) (by omega)
    rw [Nat.zero_add, List.nil_append] at this
    exact this
  have f1_ : (Sh.frame l1).length = 4 + n1 := by rw [frame_length, e1]
  rw [Nat.zero_add, ble_true (Nat.le_refl n1), Bool.and_self, Bool.and_self, cond_t, subI_self _ e1, g1, bind_s]
  simp only []
  rw [Nat.zero_add, ble_true (Nat.le_refl (4 + n1)), Bool.and_self, Bool.and_self, cond_t, subI_self _ f1_]
  obtain ⟨B1, H1, S1, c1_, R1⟩ := f76v1.spec K ([] ++ Sh.frame (strL name) ++ be 4 3 ++ Sh.frame l0) (4 + n1) (Sh.frame l1) f1_ (frame_octets o1) (by omega) _ _ _ R0 (by omega)
  rw [c1_, bind_s]
  simp only []
  have g2 : f77.F K (0, n2, 0, [], n2, l2) = some (4 + n2, 0, [], n2, l2, 4 + n2, Sh.frame l2) := by
    have := f77.spec K 0 n2 [] l2 rfl e2 (by omega) (by omega)
    rw [Nat.zero_add, List.nil_append] at this
    exact this
  have f2_ : (Sh.frame l2).length = 4 + n2 := by rw [frame_length, e2]
  rw [Nat.zero_add, ble_true (Nat.le_refl n2), Bool.and_self, Bool.and_self, cond_t, subI_self _ e2, g2, bind_s]
  simp only []
  rw [Nat.zero_add, ble_true (Nat.le_refl (4 + n2)), Bool.and_self, Bool.and_self, cond_t, subI_self _ f2_]
  obtain ⟨B2, H2, S2, c2_, R2⟩ := f76v1.spec K ([] ++ Sh.frame (strL name) ++ be 4 3 ++ Sh.frame l0 ++ Sh.frame l1) (4 + n2) (Sh.frame l2) f2_ (frame_octets o2) (by omega) _ _ _ R1 (by omega)
  rw [c2_, bind_s]
  simp only []
  rw [f79.spec K _ _ _ _ R2 (by omega), bind_s]
  simp only []
  have hM : [] ++ Sh.frame (strL name) ++ be 4 3 ++ Sh.frame l0 ++ Sh.frame l1 ++ Sh.frame l2 = Sh.cut (strL name) [l0, l1, l2] := by
    simp only [Sh.cut, List.nil_append, List.length_cons, List.length_nil, List.flatMap_cons, List.flatMap_nil, List.append_nil, List.append_assoc]
  rw [hM, ← Sh.sha]
theorem f59v1.spec (K : Nat) (name : ByteArray) (n0 : Nat) (l0 : List Int) (n1 : Nat) (l1 : List Int) (n2 : Nat) (l2 : List Int) (n3 : Nat) (l3 : List Int) (hs : name.size ≤ 1000000000) (e0 : l0.length = n0) (o0 : octets l0) (z0 : n0 ≤ 1000000000) (e1 : l1.length = n1) (o1 : octets l1) (z1 : n1 ≤ 1000000000) (e2 : l2.length = n2) (o2 : octets l2) (z2 : n2 ≤ 1000000000) (e3 : l3.length = n3) (o3 : octets l3) (z3 : n3 ≤ 1000000000) (hK : 200 + name.size < K) (k0 : 68 + n0 < K) (k1 : 68 + n1 < K) (k2 : 68 + n2 < K) (k3 : 68 + n3 < K) :
    f59v1.F K (name, n0, n1, n2, n3, n0, l0, n1, l1, n2, l2, n3, l3) = some (Sh.sha (strL name) [l0, l1, l2, l3], n0, n1, n2, n3, n0, l0, n1, l1, n2, l2, n3, l3) := by
  have hnl := strL_length name
  have hno := strL_octets name
  simp only [f59v1.F, f59v1.T]
  rw [show f75.F K () = some ([0, 0, 0, 0, 0, 0, 0, 0, 0, 0, 0, 0, 0, 0, 0, 0, 0, 0, 0, 0, 0, 0, 0, 0, 0, 0, 0, 0, 0, 0, 0, 0, 0, 0, 0, 0, 0, 0, 0, 0, 0, 0, 0, 0, 0, 0, 0, 0, 0, 0, 0, 0, 0, 0, 0, 0, 0, 0, 0, 0, 0, 0, 0, 0], 0, 0, Sh.init) from rfl, bind_s]
  have a0 : f77.F K (0, name.size, 0, [], name.size, strL name) = some (0 + 4 + name.size, 0, [], name.size, strL name, 0 + 4 + name.size, [] ++ Sh.frame (strL name)) := f77.spec K 0 name.size [] (strL name) rfl hnl (by omega) (by omega)
  have a1 : f78.F K (0, ((4 : Nat) : Int), ((4 : Nat) : Int), 0, []) = some (4, 4, 0, [], 4, [] ++ be 4 4) := f78.spec K 0 4 4 [] rfl (by omega) (by omega) (by omega)
  rw [Nat.zero_add, List.nil_append] at a0
  rw [List.nil_append] at a1
  rw [Nat.zero_add, ble_true (Nat.le_refl name.size), Bool.and_self, Bool.and_self, cond_t, subI_self _ hnl, a0, bind_s, show ((4 : Int)) = ((4 : Nat) : Int) from rfl, a1, bind_s]
  simp only []
  have hf := frame_length (strL name)
  rw [hnl] at hf
  rw [Nat.zero_add, Nat.zero_add, ble_true (Nat.le_refl (4 + name.size)), ble_true (Nat.le_refl 4), Bool.and_self, Bool.and_self, Bool.and_self, cond_t, subI_self _ hf, subI_self _ (be_length 4 4)]
  obtain ⟨B, H, S, c0, R⟩ := f76.spec K [] (4 + name.size) (Sh.frame (strL name)) 4 (be 4 4) hf (frame_octets hno) (by omega) (be_length _ _) (be_octets _ _) (by omega) _ _ _ Sh.rep0 (by omega)
  rw [show f76.F K ([0, 0, 0, 0, 0, 0, 0, 0, 0, 0, 0, 0, 0, 0, 0, 0, 0, 0, 0, 0, 0, 0, 0, 0, 0, 0, 0, 0, 0, 0, 0, 0, 0, 0, 0, 0, 0, 0, 0, 0, 0, 0, 0, 0, 0, 0, 0, 0, 0, 0, 0, 0, 0, 0, 0, 0, 0, 0, 0, 0, 0, 0, 0, 0], 0, 0, 4 + name.size, 4, Sh.init, 4 + name.size, Sh.frame (strL name), 4, be 4 4) = _ from c0, bind_s]
  simp only []
  have g0 : f77.F K (0, n0, 0, [], n0, l0) = some (4 + n0, 0, [], n0, l0, 4 + n0, Sh.frame l0) := by
    have := f77.spec K 0 n0 [] l0 rfl e0 (by omega) (by omega)
    rw [Nat.zero_add, List.nil_append] at this
    exact this
  have f0_ : (Sh.frame l0).length = 4 + n0 := by rw [frame_length, e0]
  rw [Nat.zero_add, ble_true (Nat.le_refl n0), Bool.and_self, Bool.and_self, cond_t, subI_self _ e0, g0, bind_s]
  simp only []
  rw [Nat.zero_add, ble_true (Nat.le_refl (4 + n0)), Bool.and_self, Bool.and_self, cond_t, subI_self _ f0_]
  obtain ⟨B0, H0, S0, c0_, R0⟩ := f76v1.spec K ([] ++ Sh.frame (strL name) ++ be 4 4) (4 + n0) (Sh.frame l0) f0_ (frame_octets o0) (by omega) _ _ _ R (by omega)
  rw [c0_, bind_s]
  simp only []
  have g1 : f77.F K (0, n1, 0, [], n1, l1) = some (4 + n1, 0, [], n1, l1, 4 + n1, Sh.frame l1) := by
    have := f77.spec K 0 n1 [] l1 rfl e1 (by omega) (by omega)
    rw [Nat.zero_add, List.nil_append] at this
    exact this
  have f1_ : (Sh.frame l1).length = 4 + n1 := by rw [frame_length, e1]
  rw [Nat.zero_add, ble_true (Nat.le_refl n1), Bool.and_self, Bool.and_self, cond_t, subI_self _ e1, g1, bind_s]
  simp only []
  rw [Nat.zero_add, ble_true (Nat.le_refl (4 + n1)), Bool.and_self, Bool.and_self, cond_t, subI_self _ f1_]
  obtain ⟨B1, H1, S1, c1_, R1⟩ := f76v1.spec K ([] ++ Sh.frame (strL name) ++ be 4 4 ++ Sh.frame l0) (4 + n1) (Sh.frame l1) f1_ (frame_octets o1) (by omega) _ _ _ R0 (by omega)
  rw [c1_, bind_s]
  simp only []
  have g2 : f77.F K (0, n2, 0, [], n2, l2) = some (4 + n2, 0, [], n2, l2, 4 + n2, Sh.frame l2) := by
    have := f77.spec K 0 n2 [] l2 rfl e2 (by omega) (by omega)
    rw [Nat.zero_add, List.nil_append] at this
    exact this
  have f2_ : (Sh.frame l2).length = 4 + n2 := by rw [frame_length, e2]
  rw [Nat.zero_add, ble_true (Nat.le_refl n2), Bool.and_self, Bool.and_self, cond_t, subI_self _ e2, g2, bind_s]
  simp only []
  rw [Nat.zero_add, ble_true (Nat.le_refl (4 + n2)), Bool.and_self, Bool.and_self, cond_t, subI_self _ f2_]
  obtain ⟨B2, H2, S2, c2_, R2⟩ := f76v1.spec K ([] ++ Sh.frame (strL name) ++ be 4 4 ++ Sh.frame l0 ++ Sh.frame l1) (4 + n2) (Sh.frame l2) f2_ (frame_octets o2) (by omega) _ _ _ R1 (by omega)
  rw [c2_, bind_s]
  simp only []
  have g3 : f77.F K (0, n3, 0, [], n3, l3) = some (4 + n3, 0, [], n3, l3, 4 + n3, Sh.frame l3) := by
    have := f77.spec K 0 n3 [] l3 rfl e3 (by omega) (by omega)
    rw [Nat.zero_add, List.nil_append] at this
    exact this
  have f3_ : (Sh.frame l3).length = 4 + n3 := by rw [frame_length, e3]
  rw [Nat.zero_add, ble_true (Nat.le_refl n3), Bool.and_self, Bool.and_self, cond_t, subI_self _ e3, g3, bind_s]
  simp only []
  rw [Nat.zero_add, ble_true (Nat.le_refl (4 + n3)), Bool.and_self, Bool.and_self, cond_t, subI_self _ f3_]
  obtain ⟨B3, H3, S3, c3_, R3⟩ := f76v1.spec K ([] ++ Sh.frame (strL name) ++ be 4 4 ++ Sh.frame l0 ++ Sh.frame l1 ++ Sh.frame l2) (4 + n3) (Sh.frame l3) f3_ (frame_octets o3) (by omega) _ _ _ R2 (by omega)
  rw [c3_, bind_s]
  simp only []
  rw [f79.spec K _ _ _ _ R3 (by omega), bind_s]
  simp only []
  have hM : [] ++ Sh.frame (strL name) ++ be 4 4 ++ Sh.frame l0 ++ Sh.frame l1 ++ Sh.frame l2 ++ Sh.frame l3 = Sh.cut (strL name) [l0, l1, l2, l3] := by
    simp only [Sh.cut, List.nil_append, List.length_cons, List.length_nil, List.flatMap_cons, List.flatMap_nil, List.append_nil, List.append_assoc]
  rw [hM, ← Sh.sha]
theorem f58.spec (K : Nat) (name : ByteArray) (x : Int) (n0 : Nat) (l0 : List Int) (n1 : Nat) (l1 : List Int)  (hs : name.size ≤ 1000) (hx : 0 ≤ x ∧ x < 256) (e0 : l0.length = n0) (o0 : octets l0) (z0 : n0 ≤ 1000) (e1 : l1.length = n1) (o1 : octets l1) (z1 : n1 ≤ 1000) (hK : 10000 < K) :
    f58.F K (x, name, n0, n1, n0, l0, n1, l1) = some (num (tv (Sh.sha (strL name) [l0, l1, [x]])), name, n0, n1, n0, l0, n1, l1, [x]) := by
  simp only [f58.F, f58.T]
  rw [Nat.zero_add, ble_true (Nat.le_refl n0), Nat.zero_add, ble_true (Nat.le_refl n1), Bool.and_self, Bool.and_self, Bool.and_self, cond_t, subI_self _ e0, subI_self _ e1]
  rw [f59.spec K name n0 l0 n1 l1 1 [x] (by omega) e0 o0 (by omega) e1 o1 (by omega) rfl (by intro y hy; simp only [List.mem_singleton] at hy; omega) (by omega) (by omega) (by omega) (by omega) (by omega), bind_s]
  simp only []
  rw [subI_self _ (sha_length _ _), f60.spec K _ (sha_length _ _) (sha_octets _ _) (by omega), bind_s]
theorem f58v1.spec (K : Nat) (name : ByteArray) (x : Int) (n0 : Nat) (l0 : List Int) (n1 : Nat) (l1 : List Int) (w : List Int) (hs : name.size ≤ 1000) (hx : 0 ≤ x ∧ x < 256) (e0 : l0.length = n0) (o0 : octets l0) (z0 : n0 ≤ 1000) (e1 : l1.length = n1) (o1 : octets l1) (z1 : n1 ≤ 1000) (hK : 10000 < K) :
    f58v1.F K (x, name, n0, n1, n0, l0, n1, l1, w) = some (num (tv (Sh.sha (strL name) [l0, l1, [x]])), name, n0, n1, n0, l0, n1, l1, w, [x]) := by
  simp only [f58v1.F, f58v1.T]
  rw [Nat.zero_add, ble_true (Nat.le_refl n0), Nat.zero_add, ble_true (Nat.le_refl n1), Bool.and_self, Bool.and_self, Bool.and_self, cond_t, subI_self _ e0, subI_self _ e1]
  rw [f59.spec K name n0 l0 n1 l1 1 [x] (by omega) e0 o0 (by omega) e1 o1 (by omega) rfl (by intro y hy; simp only [List.mem_singleton] at hy; omega) (by omega) (by omega) (by omega) (by omega) (by omega), bind_s]
  simp only []
  rw [subI_self _ (sha_length _ _), f60.spec K _ (sha_length _ _) (sha_octets _ _) (by omega), bind_s]
theorem f58v2.spec (K : Nat) (name : ByteArray) (x : Int) (n0 : Nat) (l0 : List Int) (n1 : Nat) (l1 : List Int) (n2 : Nat) (l2 : List Int)  (hs : name.size ≤ 1000) (hx : 0 ≤ x ∧ x < 256) (e0 : l0.length = n0) (o0 : octets l0) (z0 : n0 ≤ 1000) (e1 : l1.length = n1) (o1 : octets l1) (z1 : n1 ≤ 1000) (e2 : l2.length = n2) (o2 : octets l2) (z2 : n2 ≤ 1000) (hK : 10000 < K) :
    f58v2.F K (x, name, n0, n1, n2, n0, l0, n1, l1, n2, l2) = some (num (tv (Sh.sha (strL name) [l0, l1, l2, [x]])), name, n0, n1, n2, n0, l0, n1, l1, n2, l2, [x]) := by
  simp only [f58v2.F, f58v2.T]
  rw [Nat.zero_add, ble_true (Nat.le_refl n0), Nat.zero_add, ble_true (Nat.le_refl n1), Nat.zero_add, ble_true (Nat.le_refl n2), Bool.and_self, Bool.and_self, Bool.and_self, Bool.and_self, cond_t, subI_self _ e0, subI_self _ e1, subI_self _ e2]
  rw [f59v1.spec K name n0 l0 n1 l1 n2 l2 1 [x] (by omega) e0 o0 (by omega) e1 o1 (by omega) e2 o2 (by omega) rfl (by intro y hy; simp only [List.mem_singleton] at hy; omega) (by omega) (by omega) (by omega) (by omega) (by omega) (by omega), bind_s]
  simp only []
  rw [subI_self _ (sha_length _ _), f60.spec K _ (sha_length _ _) (sha_octets _ _) (by omega), bind_s]
theorem f58v3.spec (K : Nat) (name : ByteArray) (x : Int) (n0 : Nat) (l0 : List Int) (n1 : Nat) (l1 : List Int) (n2 : Nat) (l2 : List Int) (w : List Int) (hs : name.size ≤ 1000) (hx : 0 ≤ x ∧ x < 256) (e0 : l0.length = n0) (o0 : octets l0) (z0 : n0 ≤ 1000) (e1 : l1.length = n1) (o1 : octets l1) (z1 : n1 ≤ 1000) (e2 : l2.length = n2) (o2 : octets l2) (z2 : n2 ≤ 1000) (hK : 10000 < K) :
    f58v3.F K (x, name, n0, n1, n2, n0, l0, n1, l1, n2, l2, w) = some (num (tv (Sh.sha (strL name) [l0, l1, l2, [x]])), name, n0, n1, n2, n0, l0, n1, l1, n2, l2, w, [x]) := by
  simp only [f58v3.F, f58v3.T]
  rw [Nat.zero_add, ble_true (Nat.le_refl n0), Nat.zero_add, ble_true (Nat.le_refl n1), Nat.zero_add, ble_true (Nat.le_refl n2), Bool.and_self, Bool.and_self, Bool.and_self, Bool.and_self, cond_t, subI_self _ e0, subI_self _ e1, subI_self _ e2]
  rw [f59v1.spec K name n0 l0 n1 l1 n2 l2 1 [x] (by omega) e0 o0 (by omega) e1 o1 (by omega) e2 o2 (by omega) rfl (by intro y hy; simp only [List.mem_singleton] at hy; omega) (by omega) (by omega) (by omega) (by omega) (by omega) (by omega), bind_s]
  simp only []
  rw [subI_self _ (sha_length _ _), f60.spec K _ (sha_length _ _) (sha_octets _ _) (by omega), bind_s]
def Sh.number (Q : Nat) (name : List Int) (ps : List (List Int)) : Nat := (tv (Sh.sha name (ps ++ [[0]])) * 2 ^ 256 + tv (Sh.sha name (ps ++ [[1]]))) % Q
theorem f40.spec (Q : Nat) (name : ByteArray) (n0 : Nat) (l0 : List Int) (n1 : Nat) (l1 : List Int) (hs : name.size ≤ 1000) (hQ : Q < 2 ^ 256) (h0 : 0 < Q) (e0 : l0.length = n0) (o0 : octets l0) (z0 : n0 ≤ 1000) (e1 : l1.length = n1) (o1 : octets l1) (z1 : n1 ≤ 1000) :
    f40.F 100000 (num Q, name, n0, n1, n0, l0, n1, l1) = some (num (Sh.number Q (strL name) [l0, l1]), 0, n0, n1, n0, l0, n1, l1) := by
  have b1 := tv_lt 32 _ (sha_length (strL name) [l0, l1, [1]]) (sha_octets _ _)
  have b2 := tv_lt 32 _ (sha_length (strL name) [l0, l1, [0]]) (sha_octets _ _)
  simp only [f40.F, f40.T]
  rw [f58.spec 100000 name 1 n0 l0 n1 l1 hs (by omega) e0 o0 z0 e1 o1 z1 (by omega), bind_s]
  simp only []
  rw [f58v1.spec 100000 name 0 n0 l0 n1 l1 _ hs (by omega) e0 o0 z0 e1 o1 z1 (by omega), bind_s]
  simp only []
  rw [f61.spec _ _ Q b1 b2 hQ h0, bind_s]
  simp only [Sh.number, List.cons_append, List.nil_append]
theorem f40v1.spec (Q : Nat) (name : ByteArray) (n0 : Nat) (l0 : List Int) (n1 : Nat) (l1 : List Int) (n2 : Nat) (l2 : List Int) (hs : name.size ≤ 1000) (hQ : Q < 2 ^ 256) (h0 : 0 < Q) (e0 : l0.length = n0) (o0 : octets l0) (z0 : n0 ≤ 1000) (e1 : l1.length = n1) (o1 : octets l1) (z1 : n1 ≤ 1000) (e2 : l2.length = n2) (o2 : octets l2) (z2 : n2 ≤ 1000) :
    f40v1.F 100000 (num Q, name, n0, n1, n2, n0, l0, n1, l1, n2, l2) = some (num (Sh.number Q (strL name) [l0, l1, l2]), 0, n0, n1, n2, n0, l0, n1, l1, n2, l2) := by
  have b1 := tv_lt 32 _ (sha_length (strL name) [l0, l1, l2, [1]]) (sha_octets _ _)
  have b2 := tv_lt 32 _ (sha_length (strL name) [l0, l1, l2, [0]]) (sha_octets _ _)
  simp only [f40v1.F, f40v1.T]
  rw [f58v2.spec 100000 name 1 n0 l0 n1 l1 n2 l2 hs (by omega) e0 o0 z0 e1 o1 z1 e2 o2 z2 (by omega), bind_s]
  simp only []
  rw [f58v3.spec 100000 name 0 n0 l0 n1 l1 n2 l2 _ hs (by omega) e0 o0 z0 e1 o1 z1 e2 o2 z2 (by omega), bind_s]
  simp only []
  rw [f61.spec _ _ Q b1 b2 hQ h0, bind_s]
  simp only [Sh.number, List.cons_append, List.nil_append]
theorem f18.spec (Q A : Nat) (name : ByteArray) (p g s : List Int) (hs : name.size ≤ 1000) (hQ : Q < 2 ^ 256) (h0 : 0 < Q) (hA : A < 2 ^ 256) (hl : s.length = 32) (ho : octets s) :
    f18.F 100000 (p, num Q, g, name, s, num A) = some (num (Sh.number Q (strL name) [be 32 A, s]), num A) := by
  simp only [f18.F, f18.T]
  have a0 : f39.F 100000 (0, num A, 0, []) = some (32, 32, 0, [], 32, be 32 A) := by
    have := f39.spec 100000 0 A [] rfl hA (by omega)
    rw [Nat.zero_add, List.nil_append] at this
    exact this
  rw [List.drop_zero, show List.take 4 (num A) = num A from rfl, a0, bind_s]
  simp only []
  rw [Nat.zero_add, ble_true (Nat.le_refl 32), Bool.and_self, Bool.and_self, cond_t, subI_self _ (be_length _ _), subI_self _ hl, f40.spec Q name 32 _ 32 _ hs hQ h0 (be_length _ _) (be_octets _ _) (by omega) hl ho (by omega), bind_s]
theorem num_two (A B : Nat) : List.take 4 (List.drop 0 (spl (spl [] 0 4 (num A)) 4 4 (num B))) = num A ∧ List.take 4 (List.drop 4 (spl (spl [] 0 4 (num A)) 4 4 (num B))) = num B := by
  have la : (num A).length = 4 := length_vec _ _
  have lb : (num B).length = 4 := length_vec _ _
  have e : spl (spl [] 0 4 (num A)) 4 4 (num B) = num A ++ num B := by
    have e1 : spl [] 0 4 (num A) = num A := by rw [spl, padT_self _ la, List.drop_nil, List.append_nil]; rfl
    rw [e1, spl, padT_self _ la, padT_self _ lb, List.drop_of_length_le (by omega), List.append_nil]
  rw [e, List.drop_zero, List.take_append_of_le_length (by omega), List.take_of_length_le (by omega), List.drop_append_of_le_length (by omega), List.drop_of_length_le (by omega), List.nil_append, List.take_of_length_le (by omega)]
  exact ⟨rfl, rfl⟩
theorem f18v1.spec (Q A B : Nat) (name : ByteArray) (p g s : List Int) (hs : name.size ≤ 1000) (hQ : Q < 2 ^ 256) (h0 : 0 < Q) (hA : A < 2 ^ 256) (hB : B < 2 ^ 256) (hl : s.length = 32) (ho : octets s) :
    f18v1.F 100000 (p, num Q, g, name, s, spl (spl [] 0 4 (num A)) 4 4 (num B)) = some (num (Sh.number Q (strL name) [be 32 A, be 32 B, s]), spl (spl [] 0 4 (num A)) 4 4 (num B)) := by
  simp only [f18v1.F, f18v1.T]
  have a0 : f39.F 100000 (0, num A, 0, []) = some (32, 32, 0, [], 32, be 32 A) := by
    have := f39.spec 100000 0 A [] rfl hA (by omega)
    rw [Nat.zero_add, List.nil_append] at this
    exact this
  have b0 : f39.F 100000 (0, num B, 0, []) = some (32, 32, 0, [], 32, be 32 B) := by
    have := f39.spec 100000 0 B [] rfl hB (by omega)
    rw [Nat.zero_add, List.nil_append] at this
    exact this
  rw [(num_two A B).1, (num_two A B).2, a0, bind_s, b0, bind_s]
  simp only []
  rw [Nat.zero_add, ble_true (Nat.le_refl 32), Bool.and_self, Bool.and_self, Bool.and_self, cond_t, subI_self _ (be_length _ _), subI_self _ (be_length _ _), subI_self _ hl, f40v1.spec Q name 32 _ 32 _ 32 _ hs hQ h0 (be_length _ _) (be_octets _ _) (by omega) (be_length _ _) (be_octets _ _) (by omega) hl ho (by omega), bind_s]
end Go.Proofs

namespace Go.Proofs
open Go.VM
end Go.Proofs

namespace Go.Proofs
open Go.VM
end Go.Proofs

namespace Go.Proofs
open Go.VM
namespace f43
abbrev Ty0 := Nat × Nat × Int × Nat × List Int × List Int × Nat × List Int
abbrev Ty1 := Nat × Nat × Nat × List Int × Nat × List Int
abbrev Ty2 := Nat × Nat × List Int × Nat × List Int
abbrev Ty3 := Nat × List Int × Nat × List Int
noncomputable def c : Code := bodyOf Tryz.f43
def s0t (K : Nat) (rec : Ty0 → Option (Ty1)) (t0 : Nat) (t5 : Nat) (t6 : Int) (b0_0 : Nat) (b0_1 : List Int) (b2 : List Int) (b3_0 : Nat) (b3_1 : List Int) : Option (Ty1) :=
 bif (decide (t6 < 4)) then
 bif decide (0 ≤ t6 ∧ t6 < 4) then
 (f68.F K ((List.getD b2 (Int.toNat t6) 0), 8)).bind fun y4 =>
 alt (fun y5 =>
 bif ((Nat.ble (0 + t5) b3_0 && true) && true) then
 (f67.F K (0, t5, 0, [], t5, (subI b3_1 0 t5))).bind fun y7 =>
 rec (t0, y7.1, (IntKind.wrap .i64 (t6 + 1)), b0_0, b0_1, b2, y7.2.2.2.2.2.1, y7.2.2.2.2.2.2)
 else
 none) (fun y6 =>
 bif ((Nat.ble (0 + y6.1) y6.2.1 && true) && ((Nat.ble (0 + t5) b3_0 && true) && true)) then
 (f67.F K (y6.1, t5, y6.1, (subI y6.2.2 0 y6.1), t5, (subI b3_1 0 t5))).bind fun y9 =>
 rec (t0, y9.1, (IntKind.wrap .i64 (t6 + 1)), b0_0, b0_1, b2, y9.2.2.2.2.2.1, y9.2.2.2.2.2.2)
 else
 none) y4
 else
 none
 else
 some (t0, t5, b0_0, b0_1, b3_0, b3_1)
def s0 (K : Nat) (rec : Ty0 → Option (Ty1)) (x : Ty0) : Option (Ty1) := s0t K rec x.1 x.2.1 x.2.2.1 x.2.2.2.1 x.2.2.2.2.1 x.2.2.2.2.2.1 x.2.2.2.2.2.2.1 x.2.2.2.2.2.2.2
noncomputable def s0.b : Code := (findLoop 0 c).getD .skip
def s0.h : Hint := { lv := [0, 3, 5, 6], co := [(5, 5, [.ints .u8 0 []])] }
def s0.ho : Hint := { lv := [0, 5] }
def s0.shp (x : Ty0) : VS := ⟨[(0, .vw true 0 0 x.1 1), (3, .ptr 2 0), (5, .vec 3 0 x.2.1 4), (6, .int .i64 x.2.2.1)], [(0, ([.ints .u8 x.2.2.2.1 x.2.2.2.2.1], 0, .ro)), (2, ([.ints .u64 4 x.2.2.2.2.2.1], 24, .norm)), (3, ([.ints .u8 x.2.2.2.2.2.2.1 x.2.2.2.2.2.2.2], 5, .vec 4))], 5⟩
def s0.inX : VS → Option (Ty0)
 | ⟨[(0, .vw true 0 0 t0 1), (3, .ptr 2 0), (5, .vec 3 0 t5 4), (6, .int .i64 t6)], [(0, ([.ints .u8 b0_0 b0_1], 0, .ro)), (2, ([.ints .u64 4 b2], 24, .norm)), (3, ([.ints .u8 b3_0 b3_1], 5, .vec 4))], 5⟩ => some (t0, t5, t6, b0_0, b0_1, b2, b3_0, b3_1)
 | _ => none
def s0.o0 (y : Ty1) : VS := ⟨[(0, .vw true 0 0 y.1 1), (5, .vec 2 0 y.2.1 3)], [(0, ([.ints .u8 y.2.2.1 y.2.2.2.1], 0, .ro)), (2, ([.ints .u8 y.2.2.2.2.1 y.2.2.2.2.2], 5, .vec 3))], 4⟩
def s0.des : ∀ α : Type, (Ty1) → (Ex → VS → Option α) → Option α := (des1 (.exit 0) s0.o0)
def s0.out : Ty1 → Ex × VS := (fun y => (.exit 0, s0.o0 y))
theorem s0.desOK : ∀ α y (k : Ex → VS → Option α), s0.des α y k = k (s0.out y).1 (s0.out y).2 := (fun _ _ _ => rfl)
def s0.inY : Ex → VS → Option (Ty1)
 | .exit 0, ⟨[(0, .vw true 0 0 t0 1), (5, .vec 2 0 t5 3)], [(0, ([.ints .u8 b0_0 b0_1], 0, .ro)), (2, ([.ints .u8 b2_0 b2_1], 5, .vec 3))], 4⟩ => some (t0, t5, b0_0, b0_1, b2_0, b2_1)
 | _, _ => none
def lp (K : Nat) : Nat → Option (Hint × Summ) := tabLp [(0, s0.h, summOf (iter (s0 K) K) s0.inX s0.des)]
noncomputable def tab (K : Nat) : List (Nat × Entry) := [(68, (f68.E K)), (67, (viewE [(0, .u8), (1, .u8)] (f67.E K)))]
theorem tabOK (K : Nat) : SpecOK Tryz.prog (tabSp (tab K)) := tab_ok ((tab_cons (f68.ok K) (tab_cons (view_ok (f67.ok K)) tab_nil)))
theorem s0.eq (K : Nat) (rec : Ty0 → Option (Ty1)) (x : Ty0) : s0 K rec x = roundL (getA tys) (tabSp (tab K)) 20 2 (lp K) 400 s0.b s0.h s0.ho s0.shp s0.inX s0.inY rec x := by kernel_rfl
theorem s0.lok (K : Nat) : LoopsOK Tryz.prog 20 2 (lp K) s0.b := loops_ok (by
  have h : loopsIn (lp K) s0.b = [] := by kernel_rfl
  rw [h]; simp)
theorem s0.ok (K : Nat) : SummOK Tryz.prog 20 2 (summOf (iter (s0 K) K) s0.inX s0.des) s0.b :=
  loop_ok mix tys_ok (tabOK K) (h := s0.h) (ho := s0.ho) (shp := s0.shp) (inX := s0.inX) (des := s0.des) (out := s0.out) (inY := s0.inY) (fuel := 400)
    (by intro st x h; unfold s0.inX at h; split at h <;> simp at h; subst h; rfl)
    (by intro e st y h; unfold s0.inY at h; split at h <;> simp at h <;> subst h <;> rfl)
    s0.desOK (s0.lok K) (s0 K) (s0.eq K) K
theorem loops (K : Nat) : LoopsOK Tryz.prog 20 2 (lp K) c := loops_ok (by
  have h : loopsIn (lp K) c = [(0, s0.b)] := by kernel_rfl
  rw [h]
  intro p hp
  simp only [List.mem_cons, List.not_mem_nil, or_false] at hp
  rcases hp with rfl
  · exact ⟨_, rfl, (s0.ok K)⟩)
def T (K : Nat) (a0 : Nat) (a1 : List Int) (m0_0 : Nat) (m0_1 : List Int) : Option (Ty2) :=
 (iter (s0 K) K (a0, 0, 0, m0_0, m0_1, a1, 0, [])).bind fun y11 =>
 bif ((Nat.ble (0 + y11.1) y11.2.2.1 && true) && ((Nat.ble (0 + y11.2.1) y11.2.2.2.2.1 && true) && true)) then
 (f67.F K (y11.1, y11.2.1, y11.1, (subI y11.2.2.2.1 0 y11.1), y11.2.1, (subI y11.2.2.2.2.2 0 y11.2.1))).bind fun y12 =>
 some (y12.1, y11.2.2.1, y11.2.2.2.1, y12.2.2.2.2.2.1, y12.2.2.2.2.2.2)
 else
 none
def F (K : Nat) (x : Ty3) : Option (Ty2) := T K x.1 x.2.1 x.2.2.1 x.2.2.2
def av (x : Ty3) : List VV := [.vw true 0 0 x.1 1, .agg [.ints .u64 4 x.2.1]]
def bl (x : Ty3) : List (Nat × Blk) := [(0, ([.ints .u8 x.2.2.1 x.2.2.2], 0, .ro))]
def inA : VS → Option (Ty3)
 | ⟨[(0, .vw true 0 0 a0 1), (1, .agg [.ints .u64 4 a1])], [(0, ([.ints .u8 m0_0 m0_1], 0, .ro))], 2⟩ => some (a0, a1, m0_0, m0_1)
 | _ => none
def o0 (y : Ty2) : VS := ⟨[(0, .vec 2 0 y.1 3)], [(0, ([.ints .u8 y.2.1 y.2.2.1], 0, .ro)), (2, ([.ints .u8 y.2.2.2.1 y.2.2.2.2], 5, .vec 3))], 4⟩
def des : ∀ α : Type, (Ty2) → (VS → Option α) → Option α := (dv1 o0)
def out : Ty2 → VS := o0
def inR : VS → Option (Ty2)
 | ⟨[(0, .vec 2 0 y 3)], [(0, ([.ints .u8 z0_0 z0_1], 0, .ro)), (2, ([.ints .u8 z2_0 z2_1], 5, .vec 3))], 4⟩ => some (y, z0_0, z0_1, z2_0, z2_1)
 | _ => none
noncomputable def E (K : Nat) : Entry := genE 2 inA (F K) des
theorem eq (K : Nat) (x : Ty3) : F K x = xrun (getA tys) (tabSp (tab K)) Tryz.f43.ntmps 2 (lp K) 400 c ⟨initL 0 (av x), bl x, 2⟩ (contF (getA tys) 2 Tryz.f43.results.toList inR) := by kernel_rfl
theorem ok (K : Nat) : EntryOK Tryz.prog 43 (E K) :=
  gen_ok mix tys_ok (tabOK K) Tryz.func43 (by kernel_rfl : Tryz.f43.body = some c) (by kernel_rfl) (loops K) (av := av) (bl := bl) (out := out) (fuel := 400)
    (by intro s x h; unfold inA at h; split at h <;> simp at h; subst h; rfl) (fun _ => Nat.le_of_ble_eq_true rfl)
    (by intro s y h; unfold inR at h; split at h <;> simp at h <;> subst h <;> rfl) (fun _ _ _ => rfl) (eq K)
end f43
end Go.Proofs

namespace Go.Proofs
open Go.VM
namespace f65
abbrev Ty0 := Nat × Int × Nat × List Int × List Int × List Int
abbrev Ty1 := Nat × List Int × List Int × List Int
abbrev Ty2 := List Int × Int × Nat × List Int
abbrev Ty3 := Nat × Nat × List Int
noncomputable def c : Code := bodyOf Tryz.f65
def s0t (K : Nat) (rec : Ty0 → Option (Ty1)) (t0 : Nat) (t5 : Int) (b0_0 : Nat) (b0_1 : List Int) (b2 : List Int) (b3 : List Int) : Option (Ty1) :=
 bif (decide (t5 < 4)) then
 let v5 := IntKind.wrap .i64 (24 - (IntKind.wrap .i64 (8 * t5)))
 let v7 := IntKind.wrap .i64 (32 - (IntKind.wrap .i64 (8 * t5)))
 bif (decide (0 ≤ v7 ∧ v7 ≤ ((t0 : Nat) : Int)) && (decide (0 ≤ v5 ∧ v5 ≤ ((Int.toNat v7 : Nat) : Int)))) then
 let v8 := 0 + (Int.toNat v5)
 let v9 := (Int.toNat v7) - (Int.toNat v5)
 bif ((Nat.ble (v8 + v9) b0_0 && true) && true) then
 (f93.F K (v9, v9, (subI b0_1 v8 v9))).bind fun y10 =>
 bif decide (0 ≤ t5 ∧ t5 < 4) then
 rec (t0, (IntKind.wrap .i64 (t5 + 1)), b0_0, b0_1, b2, (setD b3 (Int.toNat t5) y10.1))
 else
 none
 else
 none
 else
 none
 else
 some (b0_0, b0_1, b2, b3)
def s0 (K : Nat) (rec : Ty0 → Option (Ty1)) (x : Ty0) : Option (Ty1) := s0t K rec x.1 x.2.1 x.2.2.1 x.2.2.2.1 x.2.2.2.2.1 x.2.2.2.2.2
noncomputable def s0.b : Code := (findLoop 0 c).getD .skip
def s0.h : Hint := { lv := [0, 2, 4, 5] }
def s0.ho : Hint := { lv := [2, 4] }
def s0.shp (x : Ty0) : VS := ⟨[(0, .vw true 0 0 x.1 1), (2, .ptr 2 0), (4, .ptr 3 0), (5, .int .i64 x.2.1)], [(0, ([.ints .u8 x.2.2.1 x.2.2.2.1], 0, .ro)), (2, ([.ints .u64 4 x.2.2.2.2.1], 24, .norm)), (3, ([.ints .u64 4 x.2.2.2.2.2], 24, .norm))], 4⟩
def s0.inX : VS → Option (Ty0)
 | ⟨[(0, .vw true 0 0 t0 1), (2, .ptr 2 0), (4, .ptr 3 0), (5, .int .i64 t5)], [(0, ([.ints .u8 b0_0 b0_1], 0, .ro)), (2, ([.ints .u64 4 b2], 24, .norm)), (3, ([.ints .u64 4 b3], 24, .norm))], 4⟩ => some (t0, t5, b0_0, b0_1, b2, b3)
 | _ => none
def s0.o0 (y : Ty1) : VS := ⟨[(2, .ptr 2 0), (4, .ptr 3 0)], [(0, ([.ints .u8 y.1 y.2.1], 0, .ro)), (2, ([.ints .u64 4 y.2.2.1], 24, .norm)), (3, ([.ints .u64 4 y.2.2.2], 24, .norm))], 4⟩
def s0.des : ∀ α : Type, (Ty1) → (Ex → VS → Option α) → Option α := (des1 (.exit 0) s0.o0)
def s0.out : Ty1 → Ex × VS := (fun y => (.exit 0, s0.o0 y))
theorem s0.desOK : ∀ α y (k : Ex → VS → Option α), s0.des α y k = k (s0.out y).1 (s0.out y).2 := (fun _ _ _ => rfl)
def s0.inY : Ex → VS → Option (Ty1)
 | .exit 0, ⟨[(2, .ptr 2 0), (4, .ptr 3 0)], [(0, ([.ints .u8 b0_0 b0_1], 0, .ro)), (2, ([.ints .u64 4 b2], 24, .norm)), (3, ([.ints .u64 4 b3], 24, .norm))], 4⟩ => some (b0_0, b0_1, b2, b3)
 | _, _ => none
def lp (K : Nat) : Nat → Option (Hint × Summ) := tabLp [(0, s0.h, summOf (iter (s0 K) K) s0.inX s0.des)]
noncomputable def tab (K : Nat) : List (Nat × Entry) := [(93, (viewE [(0, .u8)] (f93.E K)))]
theorem tabOK (K : Nat) : SpecOK Tryz.prog (tabSp (tab K)) := tab_ok ((tab_cons (view_ok (f93.ok K)) tab_nil))
theorem s0.eq (K : Nat) (rec : Ty0 → Option (Ty1)) (x : Ty0) : s0 K rec x = roundL (getA tys) (tabSp (tab K)) 26 2 (lp K) 400 s0.b s0.h s0.ho s0.shp s0.inX s0.inY rec x := by kernel_rfl
theorem s0.lok (K : Nat) : LoopsOK Tryz.prog 26 2 (lp K) s0.b := loops_ok (by
  have h : loopsIn (lp K) s0.b = [] := by kernel_rfl
  rw [h]; simp)
theorem s0.ok (K : Nat) : SummOK Tryz.prog 26 2 (summOf (iter (s0 K) K) s0.inX s0.des) s0.b :=
  loop_ok mix tys_ok (tabOK K) (h := s0.h) (ho := s0.ho) (shp := s0.shp) (inX := s0.inX) (des := s0.des) (out := s0.out) (inY := s0.inY) (fuel := 400)
    (by intro st x h; unfold s0.inX at h; split at h <;> simp at h; subst h; rfl)
    (by intro e st y h; unfold s0.inY at h; split at h <;> simp at h <;> subst h <;> rfl)
    s0.desOK (s0.lok K) (s0 K) (s0.eq K) K
theorem loops (K : Nat) : LoopsOK Tryz.prog 26 2 (lp K) c := loops_ok (by
  have h : loopsIn (lp K) c = [(0, s0.b)] := by kernel_rfl
  rw [h]
  intro p hp
  simp only [List.mem_cons, List.not_mem_nil, or_false] at hp
  rcases hp with rfl
  · exact ⟨_, rfl, (s0.ok K)⟩)
def T (K : Nat) (a0 : Nat) (m0_0 : Nat) (m0_1 : List Int) : Option (Ty2) :=
 bif (decide (((a0 : Nat) : Int) < 32)) then
 some ([0, 0, 0, 0], 5, m0_0, m0_1)
 else
 (iter (s0 K) K (a0, 0, m0_0, m0_1, [0, 0, 0, 0], [0, 0, 0, 0])).bind fun y14 =>
 some (y14.2.2.2, 0, y14.1, y14.2.1)
def F (K : Nat) (x : Ty3) : Option (Ty2) := T K x.1 x.2.1 x.2.2
def av (x : Ty3) : List VV := [.vw true 0 0 x.1 1]
def bl (x : Ty3) : List (Nat × Blk) := [(0, ([.ints .u8 x.2.1 x.2.2], 0, .ro))]
def inA : VS → Option (Ty3)
 | ⟨[(0, .vw true 0 0 a0 1)], [(0, ([.ints .u8 m0_0 m0_1], 0, .ro))], 2⟩ => some (a0, m0_0, m0_1)
 | _ => none
def o0 (y : Ty2) : VS := ⟨[(0, .tup [.agg [.ints .u64 4 y.1], .int .i64 y.2.1])], [(0, ([.ints .u8 y.2.2.1 y.2.2.2], 0, .ro))], 2⟩
def des : ∀ α : Type, (Ty2) → (VS → Option α) → Option α := (dv1 o0)
def out : Ty2 → VS := o0
def inR : VS → Option (Ty2)
 | ⟨[(0, .tup [.agg [.ints .u64 4 y_0], .int .i64 y_1])], [(0, ([.ints .u8 z0_0 z0_1], 0, .ro))], 2⟩ => some (y_0, y_1, z0_0, z0_1)
 | _ => none
noncomputable def E (K : Nat) : Entry := genE 2 inA (F K) des
theorem eq (K : Nat) (x : Ty3) : F K x = xrun (getA tys) (tabSp (tab K)) Tryz.f65.ntmps 2 (lp K) 400 c ⟨initL 0 (av x), bl x, 2⟩ (contF (getA tys) 2 Tryz.f65.results.toList inR) := by kernel_rfl
theorem ok (K : Nat) : EntryOK Tryz.prog 65 (E K) :=
  gen_ok mix tys_ok (tabOK K) Tryz.func65 (by kernel_rfl : Tryz.f65.body = some c) (by kernel_rfl) (loops K) (av := av) (bl := bl) (out := out) (fuel := 400)
    (by intro s x h; unfold inA at h; split at h <;> simp at h; subst h; rfl) (fun _ => Nat.le_of_ble_eq_true rfl)
    (by intro s y h; unfold inR at h; split at h <;> simp at h <;> subst h <;> rfl) (fun _ _ _ => rfl) (eq K)
end f65
end Go.Proofs

namespace Go.Proofs
open Go.VM
namespace f107
abbrev Ty0 := Int × Int × Nat × List Int
abbrev Ty1 := Nat × Int × Nat × List Int
def T (K : Nat) (a0 : Nat) (a1 : Int) (m0_0 : Nat) (m0_1 : List Int) : Option (Ty0) :=
 bif (decide (a1 < 0)) then
 some (0, 1, m0_0, m0_1)
 else
 bif (decide (a1 > 8)) then
 some (0, 1, m0_0, m0_1)
 else
 bif (decide (a1 > ((a0 : Nat) : Int))) then
 some (0, 5, m0_0, m0_1)
 else
 bif (decide (0 ≤ a1 ∧ a1 ≤ ((a0 : Nat) : Int)) && true) then
 let v5 := Int.toNat a1
 bif ((Nat.ble (0 + v5) m0_0 && true) && true) then
 (f93.F K (v5, v5, (subI m0_1 0 v5))).bind fun y6 =>
 some (y6.1, 0, m0_0, m0_1)
 else
 none
 else
 none
def F (K : Nat) (x : Ty1) : Option (Ty0) := T K x.1 x.2.1 x.2.2.1 x.2.2.2
def av (x : Ty1) : List VV := [.vw true 0 0 x.1 1, .int .i64 x.2.1]
def bl (x : Ty1) : List (Nat × Blk) := [(0, ([.ints .u8 x.2.2.1 x.2.2.2], 0, .ro))]
def inA : VS → Option (Ty1)
 | ⟨[(0, .vw true 0 0 a0 1), (1, .int .i64 a1)], [(0, ([.ints .u8 m0_0 m0_1], 0, .ro))], 2⟩ => some (a0, a1, m0_0, m0_1)
 | _ => none
def o0 (y : Ty0) : VS := ⟨[(0, .tup [.int .u64 y.1, .int .i64 y.2.1])], [(0, ([.ints .u8 y.2.2.1 y.2.2.2], 0, .ro))], 2⟩
def inR : VS → Option (Ty0)
 | ⟨[(0, .tup [.int .u64 y_0, .int .i64 y_1])], [(0, ([.ints .u8 z0_0 z0_1], 0, .ro))], 2⟩ => some (y_0, y_1, z0_0, z0_1)
 | _ => none
noncomputable def E (K : Nat) : Entry := genE 2 inA (F K) (dv1 o0)
theorem ok (K : Nat) : EntryOK Tryz.prog 107 (E K) := gen_ok mix tys_ok (sp := tabSp [(93, (viewE [(0, .u8)] (f93.E K)))]) (tab_ok ((tab_cons (view_ok (f93.ok K)) tab_nil))) Tryz.func107 (c := bodyOf Tryz.f107) (by kernel_rfl) (by kernel_rfl) (loops_none (lp := lpNone) (by kernel_rfl)) (av := av) (bl := bl) (inR := inR) (out := o0) (fuel := 400)
  (by intro s x h; unfold inA at h; split at h <;> simp at h; subst h; rfl) (fun _ => Nat.le_of_ble_eq_true rfl)
  (by intro s y h; unfold inR at h; split at h <;> simp at h <;> subst h <;> rfl) (fun _ _ _ => rfl) (fun _ => by kernel_rfl)
end f107
end Go.Proofs

namespace Go.Proofs
open Go.VM
theorem pow_bytes (n : Nat) : (256 : Nat) ^ n = 2 ^ (8 * n) := by
  rw [show (256 : Nat) = 2 ^ 8 from rfl, ← Nat.pow_mul]
theorem f68.eight (K w : Nat) (h : w < 18446744073709551616) (hK : 8 < K) : f68.F K ((w : Int), 8) = some (.inr (8, 8, be 8 w)) := by
  have := f68.spec 8 K w h hK (by decide)
  exact this
theorem f43.loop (a A : Nat) (L : List Int) : iter (f43.s0 100000) 100000 (a, 0, 0, a, L, num A, 0, []) = some (a, 32, a, L, 32, be 32 A) := by
  have key := iter_for (stp := f43.s0 100000) (N := 4) (fun i => (a, 8 * i, (i : Int), a, L, num A, 8 * i, be (8 * i) A)) (y := some (a, 32, a, L, 32, be 32 A)) (fun i hi rec => by
      simp only [f43.s0, f43.s0t]
      have e1 : List.getD (num A) i 0 = ((A / 2 ^ (64 * i) % 18446744073709551616 : Nat) : Int) := getD_words hi
      have w2 : IntKind.wrap .i64 ((i : Int) + 1) = ((i + 1 : Nat) : Int) := by rw [wrap_i _ (by omega) (by omega)]; rfl
      have hl : (be (8 * i) A).length = 8 * i := be_length _ _
      have e2 : be 8 (A / 2 ^ (64 * i) % 18446744073709551616) ++ be (8 * i) A = be (8 * (i + 1)) A := by
        rw [show (18446744073709551616 : Nat) = 256 ^ 8 from rfl, be_mod 8, show 64 * i = 8 * (8 * i) by omega, ← pow_bytes, ← be_add, show 8 + 8 * i = 8 * (i + 1) by omega]
      rw [decide_eq_true (show (i : Int) < 4 by omega), cond_t, decide_eq_true (show 0 ≤ (i : Int) ∧ (i : Int) < 4 by omega), cond_t, Int.toNat_natCast, e1, f68.eight _ _ (Nat.mod_lt _ (by decide)) (by decide), bind_s, altr]
      simp only [Nat.zero_add]
      rw [ble_true (Nat.le_refl 8), ble_true (Nat.le_refl (8 * i))]
      simp only [Bool.true_and]
      rw [cond_t, subI_self _ (be_length 8 _), subI_self _ hl,
        f67.spec _ 8 (8 * i) _ _ (be_length 8 _) hl (by omega), bind_s, e2, w2, show 8 + 8 * i = 8 * (i + 1) by omega])
    (fun rec => by
      simp only [f43.s0, f43.s0t]
      rw [decide_eq_false (show ¬ ((4 : Nat) : Int) < 4 by decide), cond_f]) (show 4 < 100000 by decide)
  exact key
theorem f43.spec (a A : Nat) (L : List Int) (hL : L.length = a) (ha : a < 1000000000) : f43.F 100000 (a, num A, a, L) = some (a + 32, a, L, a + 32, L ++ be 32 A) := by
  simp only [f43.F, f43.T, f43.loop a A L, bind_s, Nat.zero_add]
  rw [ble_true (Nat.le_refl a), ble_true (Nat.le_refl 32)]
  simp only [Bool.true_and]
  rw [cond_t, subI_self L hL, subI_self _ (be_length 32 A), f67.spec _ a 32 _ _ hL (be_length 32 A) (by omega), bind_s]
theorem told_at (l : List Int) (off : Nat) (ho : octets l) (h : off + 8 ≤ l.length) (hl : l.length < 1000000000) :
    f93.F 100000 (8, 8, subI l off 8) = some (((tv ((l.drop off).take 8) : Nat) : Int), 8, (l.drop off).take 8) := by
  rw [subI_cut l off 8 h]
  exact f93.spec 8 100000 _ (by simp; omega) (fun x hx => ho x (List.mem_of_mem_drop (List.mem_of_mem_take hx))) (by decide) (by decide)
theorem tv_word (l : List Int) (off k : Nat) (ho : octets l) (h : off + 8 + k = l.length) : tv ((l.drop off).take 8) = tv l / 256 ^ k % 256 ^ 8 := by
  have e1 : l = l.take off ++ ((l.drop off).take 8 ++ (l.drop off).drop 8) := by rw [List.take_append_drop, List.take_append_drop]
  have l1 : ((l.drop off).take 8).length = 8 := by simp; omega
  have l2 : ((l.drop off).drop 8).length = k := by simp; omega
  have b2 := tv_lt k _ l2 (fun x hx => ho x (List.mem_of_mem_drop (List.mem_of_mem_drop hx)))
  have b1 := tv_lt 8 _ l1 (fun x hx => ho x (List.mem_of_mem_drop (List.mem_of_mem_take hx)))
  conv => rhs; rw [e1]
  rw [tv_append, tv_append, List.length_append, l1, l2, Nat.pow_add, ← Nat.mul_assoc, ← Nat.add_assoc, ← Nat.add_mul, Nat.mul_comm _ (256 ^ k), Nat.mul_add_div (Nat.pow_pos (by decide)), Nat.div_eq_of_lt b2, Nat.add_zero, Nat.mul_comm, Nat.mul_add_mod, Nat.mod_eq_of_lt b1]
theorem f65.spec (l : List Int) (hl : l.length = 32) (ho : octets l) : f65.F 100000 (32, 32, l) = some (num (tv l), 0, 32, l) := by
  have hlt : tv l < 2 ^ 256 := by have := tv_lt 32 l hl ho; rw [pow_bytes] at this; exact this
  have key := iter_for (stp := f65.s0 100000) (N := 4) (fun i => (32, (i : Int), 32, l, [0, 0, 0, 0], num (tv l % 2 ^ (64 * i)))) (y := some (32, l, [0, 0, 0, 0], num (tv l))) (fun i hi rec => by
      simp only [f65.s0, f65.s0t]
      have w0 : IntKind.wrap .i64 (8 * (i : Int)) = ((8 * i : Nat) : Int) := by rw [wrap_i _ (by omega) (by omega)]; omega
      have w1 : IntKind.wrap .i64 (24 - ((8 * i : Nat) : Int)) = ((24 - 8 * i : Nat) : Int) := by rw [wrap_i _ (by omega) (by omega)]; omega
      have w2 : IntKind.wrap .i64 (32 - ((8 * i : Nat) : Int)) = ((32 - 8 * i : Nat) : Int) := by rw [wrap_i _ (by omega) (by omega)]; omega
      have w3 : IntKind.wrap .i64 ((i : Int) + 1) = ((i + 1 : Nat) : Int) := by rw [wrap_i _ (by omega) (by omega)]; rfl
      have ht := told_at l (24 - 8 * i) ho (by omega) (by omega)
      have hw := tv_word l (24 - 8 * i) (8 * i) ho (by omega)
      have hs : setD (num (tv l % 2 ^ (64 * i))) i ((tv l / 2 ^ (64 * i) % 2 ^ 64 : Nat) : Int) = num (tv l % 2 ^ (64 * (i + 1))) := by
        rw [num, words, setD_vec hi, num, words]
        refine congrArg _ (funext fun j => ?_)
        rcases Nat.lt_trichotomy j i with h | h | h
        · rw [if_neg (by omega), word_of_mod _ 64 j i h, word_of_mod _ 64 j (i + 1) (by omega)]
        · subst h
          rw [if_pos rfl, word_of_mod _ 64 j (j + 1) (by omega)]
        · rw [if_neg (by omega)]
          have p1 : tv l % 2 ^ (64 * i) < 2 ^ (64 * j) := Nat.lt_of_lt_of_le (Nat.mod_lt _ (Nat.two_pow_pos _)) (Nat.pow_le_pow_right (by decide) (by omega))
          have p2 : tv l % 2 ^ (64 * (i + 1)) < 2 ^ (64 * j) := Nat.lt_of_lt_of_le (Nat.mod_lt _ (Nat.two_pow_pos _)) (Nat.pow_le_pow_right (by decide) (by omega))
          rw [Nat.div_eq_of_lt p1, Nat.div_eq_of_lt p2]
      rw [decide_eq_true (show (i : Int) < 4 by omega), cond_t, w0, w1, w2, decide_eq_true (show (0 : Int) ≤ ((32 - 8 * i : Nat) : Int) ∧ ((32 - 8 * i : Nat) : Int) ≤ ((32 : Nat) : Int) by omega), Bool.true_and, Int.toNat_natCast,
        decide_eq_true (show (0 : Int) ≤ ((24 - 8 * i : Nat) : Int) ∧ ((24 - 8 * i : Nat) : Int) ≤ ((32 - 8 * i : Nat) : Int) by omega), cond_t, Int.toNat_natCast, Nat.zero_add, show 32 - 8 * i - (24 - 8 * i) = 8 by omega,
        ble_true (show 24 - 8 * i + 8 ≤ 32 by omega), Bool.true_and, Bool.true_and, cond_t, ht, bind_s, decide_eq_true (show 0 ≤ (i : Int) ∧ (i : Int) < 4 by omega), cond_t, Int.toNat_natCast, w3, hw, pow_bytes, pow_bytes, show 8 * (8 * i) = 64 * i by omega, show 8 * 8 = 64 from rfl, hs])
    (fun rec => by
      simp only [f65.s0, f65.s0t]
      rw [decide_eq_false (show ¬ ((4 : Nat) : Int) < 4 by decide), cond_f, Nat.mod_eq_of_lt hlt]) (show 4 < 100000 by decide)
  simp only [f65.F, f65.T]
  rw [decide_eq_false (show ¬ ((32 : Nat) : Int) < 32 by decide), cond_f]
  simp only [Nat.mul_zero, Nat.pow_zero, Nat.mod_one] at key
  have key' : iter (f65.s0 100000) 100000 (32, 0, 32, l, [0, 0, 0, 0], [0, 0, 0, 0]) = some (32, l, [0, 0, 0, 0], num (tv l)) := key
  rw [key', bind_s]
end Go.Proofs

namespace Go.Proofs
open Go.VM
namespace f95
abbrev Ty0 := Nat × Nat × Int × Int × Int × Nat × List Int × List Int × List Int × Nat × List Int × List Int
abbrev Ty1 := Nat × Nat × Int × Int × Nat × List Int × List Int × List Int × Nat × List Int × List Int
abbrev Ty2 := Nat × Nat × Int × Nat × List Int × List Int × List Int × Nat × List Int × List Int
abbrev Ty3 := Nat × Nat × List Int × List Int × Nat × List Int × List Int
abbrev Ty4 := Nat × List Int × Nat × List Int × Nat × List Int
abbrev Ty5 := Nat × List Int × Nat × List Int
noncomputable def c : Code := bodyOf Tryz.f95
def s2t (K : Nat) (rec : Ty0 → Option (Ty1)) (t0 : Nat) (t6 : Nat) (t8 : Int) (t9 : Int) (t10 : Int) (b0_0 : Nat) (b0_1 : List Int) (b2 : List Int) (b3 : List Int) (b4_0 : Nat) (b4_1 : List Int) (b6 : List Int) : Option (Ty1) :=
 bif (decide (t10 ≥ 0)) then
 (f46.F K (b6, b6)).bind fun y4 =>
 bif decide (0 ≤ t8 ∧ t8 < ((t0 : Nat) : Int)) then
 let v5 := 0 + (Int.toNat t8)
 bif Nat.blt v5 b0_0 then
 bif decide (0 ≤ t10) then
 (f53.F K (Int.tmod (IntKind.wrap .u64 (shiftI .shr .u8 (List.getD b0_1 v5 0) t10)) 2)).bind fun y10 =>
 (f46.F K (y4.1, y10)).bind fun y11 =>
 let v12 := IntKind.wrap .i64 (2 * t9)
 bif (y4.2 == 1) then
 (f30.F K (y11.1, b2)).bind fun y13 =>
 rec (t0, t6, t8, (IntKind.wrap .i64 (v12 + 1)), (IntKind.wrap .i64 (t10 - 1)), b0_0, b0_1, b2, b3, b4_0, b4_1, y13.1)
 else
 (f29.F K (y11.1, b2)).bind fun y16 =>
 bif (decide (y16 ≥ 0)) then
 (f30.F K (y11.1, b2)).bind fun y18 =>
 rec (t0, t6, t8, (IntKind.wrap .i64 (v12 + 1)), (IntKind.wrap .i64 (t10 - 1)), b0_0, b0_1, b2, b3, b4_0, b4_1, y18.1)
 else
 rec (t0, t6, t8, v12, (IntKind.wrap .i64 (t10 - 1)), b0_0, b0_1, b2, b3, b4_0, b4_1, y11.1)
 else
 none
 else
 none
 else
 none
 else
 some (t0, t6, t8, t9, b0_0, b0_1, b2, b3, b4_0, b4_1, b6)
def s2 (K : Nat) (rec : Ty0 → Option (Ty1)) (x : Ty0) : Option (Ty1) := s2t K rec x.1 x.2.1 x.2.2.1 x.2.2.2.1 x.2.2.2.2.1 x.2.2.2.2.2.1 x.2.2.2.2.2.2.1 x.2.2.2.2.2.2.2.1 x.2.2.2.2.2.2.2.2.1 x.2.2.2.2.2.2.2.2.2.1 x.2.2.2.2.2.2.2.2.2.2.1 x.2.2.2.2.2.2.2.2.2.2.2
noncomputable def s2.b : Code := (findLoop 2 c).getD .skip
def s2.h : Hint := { lv := [0, 3, 5, 6, 7, 8, 9, 10] }
def s2.ho : Hint := { lv := [0, 3, 5, 6, 7, 8, 9] }
def s2.shp (x : Ty0) : VS := ⟨[(0, .vw true 0 0 x.1 1), (3, .ptr 2 0), (5, .ptr 3 0), (6, .vec 4 0 x.2.1 5), (7, .ptr 6 0), (8, .int .i64 x.2.2.1), (9, .int .i64 x.2.2.2.1), (10, .int .i64 x.2.2.2.2.1)], [(0, ([.ints .u8 x.2.2.2.2.2.1 x.2.2.2.2.2.2.1], 0, .ro)), (2, ([.ints .u64 4 x.2.2.2.2.2.2.2.1], 24, .norm)), (3, ([.ints .u64 4 x.2.2.2.2.2.2.2.2.1], 24, .norm)), (4, ([.ints .u8 x.2.2.2.2.2.2.2.2.2.1 x.2.2.2.2.2.2.2.2.2.2.1], 5, .vec 5)), (6, ([.ints .u64 4 x.2.2.2.2.2.2.2.2.2.2.2], 24, .norm))], 7⟩
def s2.inX : VS → Option (Ty0)
 | ⟨[(0, .vw true 0 0 t0 1), (3, .ptr 2 0), (5, .ptr 3 0), (6, .vec 4 0 t6 5), (7, .ptr 6 0), (8, .int .i64 t8), (9, .int .i64 t9), (10, .int .i64 t10)], [(0, ([.ints .u8 b0_0 b0_1], 0, .ro)), (2, ([.ints .u64 4 b2], 24, .norm)), (3, ([.ints .u64 4 b3], 24, .norm)), (4, ([.ints .u8 b4_0 b4_1], 5, .vec 5)), (6, ([.ints .u64 4 b6], 24, .norm))], 7⟩ => some (t0, t6, t8, t9, t10, b0_0, b0_1, b2, b3, b4_0, b4_1, b6)
 | _ => none
def s2.o0 (y : Ty1) : VS := ⟨[(0, .vw true 0 0 y.1 1), (3, .ptr 2 0), (5, .ptr 3 0), (6, .vec 4 0 y.2.1 5), (7, .ptr 6 0), (8, .int .i64 y.2.2.1), (9, .int .i64 y.2.2.2.1)], [(0, ([.ints .u8 y.2.2.2.2.1 y.2.2.2.2.2.1], 0, .ro)), (2, ([.ints .u64 4 y.2.2.2.2.2.2.1], 24, .norm)), (3, ([.ints .u64 4 y.2.2.2.2.2.2.2.1], 24, .norm)), (4, ([.ints .u8 y.2.2.2.2.2.2.2.2.1 y.2.2.2.2.2.2.2.2.2.1], 5, .vec 5)), (6, ([.ints .u64 4 y.2.2.2.2.2.2.2.2.2.2], 24, .norm))], 7⟩
def s2.des : ∀ α : Type, (Ty1) → (Ex → VS → Option α) → Option α := (des1 (.exit 2) s2.o0)
def s2.out : Ty1 → Ex × VS := (fun y => (.exit 2, s2.o0 y))
theorem s2.desOK : ∀ α y (k : Ex → VS → Option α), s2.des α y k = k (s2.out y).1 (s2.out y).2 := (fun _ _ _ => rfl)
def s2.inY : Ex → VS → Option (Ty1)
 | .exit 2, ⟨[(0, .vw true 0 0 t0 1), (3, .ptr 2 0), (5, .ptr 3 0), (6, .vec 4 0 t6 5), (7, .ptr 6 0), (8, .int .i64 t8), (9, .int .i64 t9)], [(0, ([.ints .u8 b0_0 b0_1], 0, .ro)), (2, ([.ints .u64 4 b2], 24, .norm)), (3, ([.ints .u64 4 b3], 24, .norm)), (4, ([.ints .u8 b4_0 b4_1], 5, .vec 5)), (6, ([.ints .u64 4 b6], 24, .norm))], 7⟩ => some (t0, t6, t8, t9, b0_0, b0_1, b2, b3, b4_0, b4_1, b6)
 | _, _ => none
def s0t (K : Nat) (rec : Ty2 → Option (Ty3)) (t0 : Nat) (t6 : Nat) (t8 : Int) (b0_0 : Nat) (b0_1 : List Int) (b2 : List Int) (b3 : List Int) (b4_0 : Nat) (b4_1 : List Int) (b6 : List Int) : Option (Ty3) :=
 bif (decide (t8 < ((t0 : Nat) : Int))) then
 (iter (s2 K) K (t0, t6, t8, 0, 7, b0_0, b0_1, b2, b3, b4_0, b4_1, b6)).bind fun y22 =>
 bif (Nat.ble y22.2.1 y22.2.2.2.2.2.2.2.2.1 && (fitB ((y22.2.1 + 1) * 1))) then
 rec (y22.1, (y22.2.1 + 1), (IntKind.wrap .i64 (y22.2.2.1 + 1)), y22.2.2.2.2.1, y22.2.2.2.2.2.1, y22.2.2.2.2.2.2.1, y22.2.2.2.2.2.2.2.1, (y22.2.1 + 1), ((padT y22.2.2.2.2.2.2.2.2.2.1 y22.2.1) ++ [(IntKind.wrap .u8 y22.2.2.2.1)]), y22.2.2.2.2.2.2.2.2.2.2)
 else
 none
 else
 some (t6, b0_0, b0_1, b3, b4_0, b4_1, b6)
def s0 (K : Nat) (rec : Ty2 → Option (Ty3)) (x : Ty2) : Option (Ty3) := s0t K rec x.1 x.2.1 x.2.2.1 x.2.2.2.1 x.2.2.2.2.1 x.2.2.2.2.2.1 x.2.2.2.2.2.2.1 x.2.2.2.2.2.2.2.1 x.2.2.2.2.2.2.2.2.1 x.2.2.2.2.2.2.2.2.2
noncomputable def s0.b : Code := (findLoop 0 c).getD .skip
def s0.h : Hint := { lv := [0, 3, 5, 6, 7, 8], co := [(6, 5, [.ints .u8 0 []])] }
def s0.ho : Hint := { lv := [5, 6, 7] }
def s0.shp (x : Ty2) : VS := ⟨[(0, .vw true 0 0 x.1 1), (3, .ptr 2 0), (5, .ptr 3 0), (6, .vec 4 0 x.2.1 5), (7, .ptr 6 0), (8, .int .i64 x.2.2.1)], [(0, ([.ints .u8 x.2.2.2.1 x.2.2.2.2.1], 0, .ro)), (2, ([.ints .u64 4 x.2.2.2.2.2.1], 24, .norm)), (3, ([.ints .u64 4 x.2.2.2.2.2.2.1], 24, .norm)), (4, ([.ints .u8 x.2.2.2.2.2.2.2.1 x.2.2.2.2.2.2.2.2.1], 5, .vec 5)), (6, ([.ints .u64 4 x.2.2.2.2.2.2.2.2.2], 24, .norm))], 7⟩
def s0.inX : VS → Option (Ty2)
 | ⟨[(0, .vw true 0 0 t0 1), (3, .ptr 2 0), (5, .ptr 3 0), (6, .vec 4 0 t6 5), (7, .ptr 6 0), (8, .int .i64 t8)], [(0, ([.ints .u8 b0_0 b0_1], 0, .ro)), (2, ([.ints .u64 4 b2], 24, .norm)), (3, ([.ints .u64 4 b3], 24, .norm)), (4, ([.ints .u8 b4_0 b4_1], 5, .vec 5)), (6, ([.ints .u64 4 b6], 24, .norm))], 7⟩ => some (t0, t6, t8, b0_0, b0_1, b2, b3, b4_0, b4_1, b6)
 | _ => none
def s0.o0 (y : Ty3) : VS := ⟨[(5, .ptr 2 0), (6, .vec 3 0 y.1 4), (7, .ptr 5 0)], [(0, ([.ints .u8 y.2.1 y.2.2.1], 0, .ro)), (2, ([.ints .u64 4 y.2.2.2.1], 24, .norm)), (3, ([.ints .u8 y.2.2.2.2.1 y.2.2.2.2.2.1], 5, .vec 4)), (5, ([.ints .u64 4 y.2.2.2.2.2.2], 24, .norm))], 6⟩
def s0.des : ∀ α : Type, (Ty3) → (Ex → VS → Option α) → Option α := (des1 (.exit 0) s0.o0)
def s0.out : Ty3 → Ex × VS := (fun y => (.exit 0, s0.o0 y))
theorem s0.desOK : ∀ α y (k : Ex → VS → Option α), s0.des α y k = k (s0.out y).1 (s0.out y).2 := (fun _ _ _ => rfl)
def s0.inY : Ex → VS → Option (Ty3)
 | .exit 0, ⟨[(5, .ptr 2 0), (6, .vec 3 0 t6 4), (7, .ptr 5 0)], [(0, ([.ints .u8 b0_0 b0_1], 0, .ro)), (2, ([.ints .u64 4 b2], 24, .norm)), (3, ([.ints .u8 b3_0 b3_1], 5, .vec 4)), (5, ([.ints .u64 4 b5], 24, .norm))], 6⟩ => some (t6, b0_0, b0_1, b2, b3_0, b3_1, b5)
 | _, _ => none
def lp (K : Nat) : Nat → Option (Hint × Summ) := tabLp [(2, s2.h, summOf (iter (s2 K) K) s2.inX s2.des), (0, s0.h, summOf (iter (s0 K) K) s0.inX s0.des)]
noncomputable def tab (K : Nat) : List (Nat × Entry) := [(46, (f46.E K)), (53, (f53.E K)), (30, (f30.E K)), (29, (f29.E K))]
theorem tabOK (K : Nat) : SpecOK Tryz.prog (tabSp (tab K)) := tab_ok ((tab_cons (f46.ok K) (tab_cons (f53.ok K) (tab_cons (f30.ok K) (tab_cons (f29.ok K) tab_nil)))))
theorem s2.eq (K : Nat) (rec : Ty0 → Option (Ty1)) (x : Ty0) : s2 K rec x = roundL (getA tys) (tabSp (tab K)) 69 2 (lp K) 400 s2.b s2.h s2.ho s2.shp s2.inX s2.inY rec x := by kernel_rfl
theorem s2.lok (K : Nat) : LoopsOK Tryz.prog 69 2 (lp K) s2.b := loops_ok (by
  have h : loopsIn (lp K) s2.b = [] := by kernel_rfl
  rw [h]; simp)
theorem s2.ok (K : Nat) : SummOK Tryz.prog 69 2 (summOf (iter (s2 K) K) s2.inX s2.des) s2.b :=
  loop_ok mix tys_ok (tabOK K) (h := s2.h) (ho := s2.ho) (shp := s2.shp) (inX := s2.inX) (des := s2.des) (out := s2.out) (inY := s2.inY) (fuel := 400)
    (by intro st x h; unfold s2.inX at h; split at h <;> simp at h; subst h; rfl)
    (by intro e st y h; unfold s2.inY at h; split at h <;> simp at h <;> subst h <;> rfl)
    s2.desOK (s2.lok K) (s2 K) (s2.eq K) K
theorem s0.eq (K : Nat) (rec : Ty2 → Option (Ty3)) (x : Ty2) : s0 K rec x = roundL (getA tys) (tabSp (tab K)) 69 2 (lp K) 400 s0.b s0.h s0.ho s0.shp s0.inX s0.inY rec x := by kernel_rfl
theorem s0.lok (K : Nat) : LoopsOK Tryz.prog 69 2 (lp K) s0.b := loops_ok (by
  have h : loopsIn (lp K) s0.b = [(2, s2.b)] := by kernel_rfl
  rw [h]
  intro p hp
  simp only [List.mem_cons, List.not_mem_nil, or_false] at hp
  rcases hp with rfl
  · exact ⟨_, rfl, (s2.ok K)⟩)
theorem s0.ok (K : Nat) : SummOK Tryz.prog 69 2 (summOf (iter (s0 K) K) s0.inX s0.des) s0.b :=
  loop_ok mix tys_ok (tabOK K) (h := s0.h) (ho := s0.ho) (shp := s0.shp) (inX := s0.inX) (des := s0.des) (out := s0.out) (inY := s0.inY) (fuel := 400)
    (by intro st x h; unfold s0.inX at h; split at h <;> simp at h; subst h; rfl)
    (by intro e st y h; unfold s0.inY at h; split at h <;> simp at h <;> subst h <;> rfl)
    s0.desOK (s0.lok K) (s0 K) (s0.eq K) K
theorem loops (K : Nat) : LoopsOK Tryz.prog 69 2 (lp K) c := loops_ok (by
  have h : loopsIn (lp K) c = [(0, s0.b), (2, s2.b)] := by kernel_rfl
  rw [h]
  intro p hp
  simp only [List.mem_cons, List.not_mem_nil, or_false] at hp
  rcases hp with rfl | rfl
  · exact ⟨_, rfl, (s0.ok K)⟩
  · exact ⟨_, rfl, (s2.ok K)⟩)
def T (K : Nat) (a0 : Nat) (a1 : List Int) (m0_0 : Nat) (m0_1 : List Int) : Option (Ty4) :=
 (iter (s0 K) K (a0, 0, 0, m0_0, m0_1, a1, [0, 0, 0, 0], 0, [], [0, 0, 0, 0])).bind fun y26 =>
 some (y26.1, y26.2.2.2.2.2.2, y26.2.1, y26.2.2.1, y26.2.2.2.2.1, y26.2.2.2.2.2.1)
def F (K : Nat) (x : Ty5) : Option (Ty4) := T K x.1 x.2.1 x.2.2.1 x.2.2.2
def av (x : Ty5) : List VV := [.vw true 0 0 x.1 1, .agg [.ints .u64 4 x.2.1]]
def bl (x : Ty5) : List (Nat × Blk) := [(0, ([.ints .u8 x.2.2.1 x.2.2.2], 0, .ro))]
def inA : VS → Option (Ty5)
 | ⟨[(0, .vw true 0 0 a0 1), (1, .agg [.ints .u64 4 a1])], [(0, ([.ints .u8 m0_0 m0_1], 0, .ro))], 2⟩ => some (a0, a1, m0_0, m0_1)
 | _ => none
def o0 (y : Ty4) : VS := ⟨[(0, .tup [.vec 2 0 y.1 3, .agg [.ints .u64 4 y.2.1]])], [(0, ([.ints .u8 y.2.2.1 y.2.2.2.1], 0, .ro)), (2, ([.ints .u8 y.2.2.2.2.1 y.2.2.2.2.2], 5, .vec 3))], 4⟩
def des : ∀ α : Type, (Ty4) → (VS → Option α) → Option α := (dv1 o0)
def out : Ty4 → VS := o0
def inR : VS → Option (Ty4)
 | ⟨[(0, .tup [.vec 2 0 y_0 3, .agg [.ints .u64 4 y_1]])], [(0, ([.ints .u8 z0_0 z0_1], 0, .ro)), (2, ([.ints .u8 z2_0 z2_1], 5, .vec 3))], 4⟩ => some (y_0, y_1, z0_0, z0_1, z2_0, z2_1)
 | _ => none
noncomputable def E (K : Nat) : Entry := genE 2 inA (F K) des
theorem eq (K : Nat) (x : Ty5) : F K x = xrun (getA tys) (tabSp (tab K)) Tryz.f95.ntmps 2 (lp K) 400 c ⟨initL 0 (av x), bl x, 2⟩ (contF (getA tys) 2 Tryz.f95.results.toList inR) := by kernel_rfl
theorem ok (K : Nat) : EntryOK Tryz.prog 95 (E K) :=
  gen_ok mix tys_ok (tabOK K) Tryz.func95 (by kernel_rfl : Tryz.f95.body = some c) (by kernel_rfl) (loops K) (av := av) (bl := bl) (out := out) (fuel := 400)
    (by intro s x h; unfold inA at h; split at h <;> simp at h; subst h; rfl) (fun _ => Nat.le_of_ble_eq_true rfl)
    (by intro s y h; unfold inR at h; split at h <;> simp at h <;> subst h <;> rfl) (fun _ _ _ => rfl) (eq K)
end f95
end Go.Proofs

namespace Go.Proofs
open Go.VM
theorem shr_u8 (c k : Nat) (hk : k ≤ 8) : shiftI .shr .u8 (c : Int) (k : Int) = ((c / 2 ^ k : Nat) : Int) := by
  simp only [shiftI, IntKind.bits, Int.toNat_natCast]
  rw [Nat.min_eq_left hk]
  exact fdiv_nat c k
theorem twice_div (V M b : Nat) (hM : 0 < M) (hb : b < 2) : (2 * V + b) / M = 2 * (V / M) + (if M ≤ 2 * (V % M) + b then 1 else 0) ∧ (2 * V + b) % M = if M ≤ 2 * (V % M) + b then 2 * (V % M) + b - M else 2 * (V % M) + b := by
  have h1 := Nat.mod_add_div V M
  have h2 := Nat.mod_lt V hM
  by_cases h : M ≤ 2 * (V % M) + b
  · rw [if_pos h, if_pos h]
    refine div_mod_of ?_ (by omega)
    rw [Nat.mul_add, Nat.mul_one, show M * (2 * (V / M)) = 2 * (M * (V / M)) by rw [Nat.mul_left_comm]]
    omega
  · rw [if_neg h, if_neg h]
    refine div_mod_of ?_ (by omega)
    rw [Nat.add_zero, show M * (2 * (V / M)) = 2 * (M * (V / M)) by rw [Nat.mul_left_comm]]
    omega
theorem f95.bit (n t6 i g k L M c : Nat) (l z4 : List Int) (z3 : List Int) (t4 : Nat) (hM : M < 2 ^ 256) (hL : L < M) (hg : g < 128) (hk : k ≤ 7) (hi : i < n) (hn : n < 1000000000) (hl : l.length = n) (hc : List.getD l i 0 = (c : Int)) (hc8 : c < 256) (rec : _ → _) :
    f95.s2 100000 rec (n, t6, (i : Int), (g : Int), (k : Int), n, l, num M, z3, t4, z4, num L) =
      rec (n, t6, (i : Int), ((2 * g + (if M ≤ 2 * L + c / 2 ^ k % 2 then 1 else 0) : Nat) : Int), (k : Int) - 1, n, l, num M, z3, t4, z4, num (if M ≤ 2 * L + c / 2 ^ k % 2 then 2 * L + c / 2 ^ k % 2 - M else 2 * L + c / 2 ^ k % 2)) := by
  have hL2 : L < 2 ^ 256 := by omega
  have mL := mod_self_of hL2
  have hb : c / 2 ^ k % 2 < 2 := Nat.mod_lt _ (by decide)
  obtain ⟨b, hbe⟩ : ∃ b, b = c / 2 ^ k % 2 := ⟨_, rfl⟩
  have hq : c / 2 ^ k ≤ c := Nat.div_le_self _ _
  simp only [f95.s2, f95.s2t, f46.all, bind_s, mL, Nat.zero_add, Int.toNat_natCast, hc, shr_u8 c k (by omega)]
  have w1 : IntKind.wrap .u64 ((c / 2 ^ k : Nat) : Int) = ((c / 2 ^ k : Nat) : Int) := wrap_u _ (Int.natCast_nonneg _) (by omega)
  have w2 : Int.tmod ((c / 2 ^ k : Nat) : Int) 2 = ((c / 2 ^ k % 2 : Nat) : Int) := rfl
  have w3 : IntKind.wrap .i64 (2 * (g : Int)) = ((2 * g : Nat) : Int) := by rw [wrap_i _ (by omega) (by omega)]; omega
  have w4 : IntKind.wrap .i64 (((2 * g : Nat) : Int) + 1) = ((2 * g + 1 : Nat) : Int) := by rw [wrap_i _ (by omega) (by omega)]; rfl
  have w5 : IntKind.wrap .i64 ((k : Int) - 1) = (k : Int) - 1 := wrap_i _ (by omega) (by omega)
  rw [decide_eq_true (show (k : Int) ≥ 0 by omega), cond_t, decide_eq_true (show 0 ≤ (i : Int) ∧ (i : Int) < (n : Int) by omega), cond_t, show Nat.blt i n = true from by simp [Nat.blt_eq, hi], cond_t, cond_t,
    w1, w2, ← hbe, f53.spec 100000 b (by omega), bind_s, f46.all, bind_s, w3, w4, w5]
  rw [← hbe] at hb
  have hS : num (L + L + b) = num (2 * L + b) := by rw [show L + L = 2 * L by omega]
  simp only []
  rw [hS]
  by_cases hov : 2 ^ 256 ≤ 2 * L
  · have e1 : (L + L) / 2 ^ 256 = 1 := by omega
    have e2 : f30.F 100000 (num (2 * L + b), num M) = some (num (2 * L + b - M), ((if (2 * L + b) % 2 ^ 256 < M then 1 else 0 : Nat) : Int)) := by
      rw [← num_mod (2 * L + b), f30.spec 100000 _ _ (Nat.mod_lt _ (Nat.two_pow_pos 256)) hM (by decide), show (2 * L + b) % 2 ^ 256 + 2 ^ 256 - M = 2 * L + b - M by omega]
    rw [e1, show (((1 : Nat) : Int) == 1) = true from rfl, cond_t, e2, bind_s, if_pos (show M ≤ 2 * L + b by omega), if_pos (show M ≤ 2 * L + b by omega)]
  · have e1 : (L + L) / 2 ^ 256 = 0 := by omega
    have hS2 : 2 * L + b < 2 ^ 256 := by omega
    rw [e1, show (((0 : Nat) : Int) == 1) = false from rfl, cond_f, f29.spec 100000 _ _ hS2 hM (by decide), bind_s, cmp_ge]
    by_cases h : M ≤ 2 * L + b
    · rw [decide_eq_true h, cond_t, f30.spec 100000 _ _ hS2 hM (by decide), bind_s, if_pos h, if_pos h]
      simp only []
      rw [show 2 * L + b + 2 ^ 256 - M = 2 * L + b - M + 2 ^ 256 by omega, num_add_mod]
    · rw [decide_eq_false h, cond_f, if_neg h, if_neg h, Nat.add_zero]
theorem f95.byte (n t6 i M X c : Nat) (l z4 z3 : List Int) (t4 : Nat) (hM : M < 2 ^ 256) (hX : X < M) (hi : i < n) (hn : n < 1000000000) (hl : l.length = n) (hc : List.getD l i 0 = (c : Int)) (hc8 : c < 256) :
    iter (f95.s2 100000) 100000 (n, t6, (i : Int), 0, 7, n, l, num M, z3, t4, z4, num X) = some (n, t6, (i : Int), (((256 * X + c) / M : Nat) : Int), n, l, num M, z3, t4, z4, num ((256 * X + c) % M)) := by
  have hM0 : 0 < M := by omega
  obtain ⟨V, hV⟩ : ∃ V : Nat → Nat, V = fun j => X * 2 ^ j + c / 2 ^ (8 - j) := ⟨_, rfl⟩
  have hstep : ∀ j, j < 8 → V (j + 1) = 2 * V j + c / 2 ^ (7 - j) % 2 := by
    intro j hj
    simp only [hV]
    have h1 : c / 2 ^ (8 - j) = c / 2 ^ (7 - j) / 2 := by rw [Nat.div_div_eq_div_mul, ← Nat.pow_succ]; congr 2; omega
    rw [h1, show 8 - (j + 1) = 7 - j by omega, Nat.pow_succ]
    have := Nat.mod_add_div (c / 2 ^ (7 - j)) 2
    have h2 : X * (2 ^ j * 2) = 2 * (X * 2 ^ j) := by rw [← Nat.mul_assoc, Nat.mul_comm]
    omega
  have hsmall : ∀ j, j ≤ 8 → V j / M < 2 ^ j := by
    intro j hj
    have h1 : c / 2 ^ (8 - j) < 2 ^ j := by
      rw [Nat.div_lt_iff_lt_mul (Nat.two_pow_pos _), ← Nat.pow_add, show j + (8 - j) = 8 by omega]; exact hc8
    rw [Nat.div_lt_iff_lt_mul hM0]
    simp only [hV]
    have h2 : (X + 1) * 2 ^ j ≤ M * 2 ^ j := Nat.mul_le_mul_right _ hX
    rw [Nat.add_mul, Nat.one_mul] at h2
    rw [Nat.mul_comm (2 ^ j) M]
    omega
  have key := iter_for (stp := f95.s2 100000) (N := 8) (fun j => (n, t6, (i : Int), ((V j / M : Nat) : Int), 7 - (j : Int), n, l, num M, z3, t4, z4, num (V j % M)))
    (y := some (n, t6, (i : Int), (((256 * X + c) / M : Nat) : Int), n, l, num M, z3, t4, z4, num ((256 * X + c) % M))) (fun j hj rec => by
      have hg : V j / M < 128 := Nat.lt_of_lt_of_le (hsmall j (by omega)) (Nat.le_trans (Nat.pow_le_pow_right (by decide) (show j ≤ 7 by omega)) (by decide))
      have := f95.bit n t6 i (V j / M) (7 - j) (V j % M) M c l z4 z3 t4 hM (Nat.mod_lt _ hM0) hg (by omega) hi hn hl hc hc8 rec
      obtain ⟨d1, d2⟩ := twice_div (V j) M (c / 2 ^ (7 - j) % 2) hM0 (Nat.mod_lt _ (by decide))
      rw [show ((7 - j : Nat) : Int) = 7 - (j : Int) by omega] at this
      rw [this, hstep j hj, d1, d2, show (7 : Int) - (j : Int) - 1 = 7 - ((j + 1 : Nat) : Int) by omega])
    (fun rec => by
      simp only [f95.s2, f95.s2t]
      rw [decide_eq_false (show ¬ (7 : Int) - ((8 : Nat) : Int) ≥ 0 by decide), cond_f]
      have : V 8 = 256 * X + c := by simp only [hV]; rw [Nat.sub_self, Nat.pow_zero, Nat.div_one, Nat.mul_comm]
      rw [this]) (show 8 < 100000 by decide)
  have v0 : V 0 = X := by
    simp only [hV]
    rw [Nat.pow_zero, Nat.mul_one, Nat.sub_zero, Nat.div_eq_of_lt (show c < 2 ^ 8 from hc8), Nat.add_zero]
  simp only [v0, Nat.div_eq_of_lt hX, Nat.mod_eq_of_lt hX] at key
  exact key
end Go.Proofs

namespace Go.Proofs
open Go.VM
namespace f52
def T (K : Nat) (a0 : List Int) : Option (Bool) :=
 (f53.F K (List.getD a0 0 0)).bind fun y2 =>
 some (eqL 4 a0 y2 && true)
def F (K : Nat) (x : List Int) : Option (Bool) := T K x
def av (x : List Int) : List VV := [.agg [.ints .u64 4 x]]
def bl (_x : List Int) : List (Nat × Blk) := []
def inA : VS → Option (List Int)
 | ⟨[(0, .agg [.ints .u64 4 a0])], [], 0⟩ => some a0
 | _ => none
def o0 (y : Bool) : VS := ⟨[(0, .bool y)], [], 0⟩
def inR : VS → Option (Bool)
 | ⟨[(0, .bool y)], [], 0⟩ => some y
 | _ => none
noncomputable def E (K : Nat) : Entry := genE 0 inA (F K) (dv1 o0)
theorem ok (K : Nat) : EntryOK Tryz.prog 52 (E K) := gen_ok mix tys_ok (tab_ok ((tab_cons (f53.ok K) tab_nil))) Tryz.func52 (c := bodyOf Tryz.f52) (by kernel_rfl) (by kernel_rfl) (loops_none (lp := lpNone) (by kernel_rfl)) (av := av) (bl := bl) (inR := inR) (out := o0) (fuel := 400)
  (by intro s x h; unfold inA at h; split at h <;> simp at h; subst h; rfl) (fun _ => Nat.le_of_ble_eq_true rfl)
  (by intro s y h; unfold inR at h; split at h <;> simp at h <;> subst h <;> rfl) (fun _ _ _ => rfl) (fun _ => by kernel_rfl)
end f52
end Go.Proofs
