/- Plain laws: lemmas that hold with no condition but those that each states. -/
import Derived.Test.YtjkelipglcnpmaaPh
import Derived.Test.YtjkelipglcnpmaaPe
import Derived.Test.YtjkelipglcnpmaaFi
import Derived.Test.YtjkelipglcnpmaaPg
namespace Go.Proofs
open Go.VM
def Sh.cut (name : List Int) (ps : List (List Int)) : List Int := Sh.frame name ++ be 4 ps.length ++ ps.flatMap Sh.frame
def Sh.sha (name : List Int) (ps : List (List Int)) : List Int := Sh.sum (Sh.cut name ps)
theorem Sh.rep0 : Sh.Rep [] [0, 0, 0, 0, 0, 0, 0, 0, 0, 0, 0, 0, 0, 0, 0, 0, 0, 0, 0, 0, 0, 0, 0, 0, 0, 0, 0, 0, 0, 0, 0, 0, 0, 0, 0, 0, 0, 0, 0, 0, 0, 0, 0, 0, 0, 0, 0, 0, 0, 0, 0, 0, 0, 0, 0, 0, 0, 0, 0, 0, 0, 0, 0, 0] 0 Sh.init :=
  ⟨rfl, by intro x hx; simp only [List.mem_cons, List.not_mem_nil, or_false, or_self] at hx; omega, rfl, rfl, rfl⟩
theorem sha_length (name : List Int) (ps : List (List Int)) : (Sh.sha name ps).length = 32 := digest_length _
theorem sha_octets (name : List Int) (ps : List (List Int)) : octets (Sh.sha name ps) := digest_octets _
theorem f138.spec (K : Nat) (name : ByteArray) (n0 : Nat) (l0 : List Int) (n1 : Nat) (l1 : List Int) (n2 : Nat) (l2 : List Int) (hs : name.size ≤ 1000000000) (e0 : l0.length = n0) (o0 : octets l0) (z0 : n0 ≤ 1000000000) (e1 : l1.length = n1) (o1 : octets l1) (z1 : n1 ≤ 1000000000) (e2 : l2.length = n2) (o2 : octets l2) (z2 : n2 ≤ 1000000000) (hK : 200 + name.size < K) (k0 : 68 + n0 < K) (k1 : 68 + n1 < K) (k2 : 68 + n2 < K) :
    f138.F K (name, n0, n1, n2, n0, l0, n1, l1, n2, l2) = some (Sh.sha (strL name) [l0, l1, l2], n0, n1, n2, n0, l0, n1, l1, n2, l2) := by
  have hnl := strL_length name
  have hno := strL_octets name
  simp only [f138.F, f138.T]
  rw [show f141.F K () = some ([0, 0, 0, 0, 0, 0, 0, 0, 0, 0, 0, 0, 0, 0, 0, 0, 0, 0, 0, 0, 0, 0, 0, 0, 0, 0, 0, 0, 0, 0, 0, 0, 0, 0, 0, 0, 0, 0, 0, 0, 0, 0, 0, 0, 0, 0, 0, 0, 0, 0, 0, 0, 0, 0, 0, 0, 0, 0, 0, 0, 0, 0, 0, 0], 0, 0, Sh.init) from rfl, bind_s]
  have a0 : f143.F K (0, name.size, 0, [], name.size, strL name) = some (0 + 4 + name.size, 0, [], name.size, strL name, 0 + 4 + name.size, [] ++ Sh.frame (strL name)) := f143.spec K 0 name.size [] (strL name) rfl hnl (by omega) (by omega)
  have a1 : f144.F K (0, ((3 : Nat) : Int), ((4 : Nat) : Int), 0, []) = some (4, 4, 0, [], 4, [] ++ be 4 3) := f144.spec K 0 4 3 [] rfl (by omega) (by omega) (by omega)
  rw [Nat.zero_add, List.nil_append] at a0
  rw [List.nil_append] at a1
  rw [Nat.zero_add, ble_true (Nat.le_refl name.size), Bool.and_self, Bool.and_self, cond_t, subI_self _ hnl, a0, bind_s, show ((3 : Int)) = ((3 : Nat) : Int) from rfl, show ((4 : Int)) = ((4 : Nat) : Int) from rfl, a1, bind_s]
  simp only []
  have hf := frame_length (strL name)
  rw [hnl] at hf
  rw [Nat.zero_add, Nat.zero_add, ble_true (Nat.le_refl (4 + name.size)), ble_true (Nat.le_refl 4), Bool.and_self, Bool.and_self, Bool.and_self, cond_t, subI_self _ hf, subI_self _ (be_length 4 3)]
  obtain ⟨B, H, S, c0, R⟩ := f142.spec K [] (4 + name.size) (Sh.frame (strL name)) 4 (be 4 3) hf (frame_octets hno) (by omega) (be_length _ _) (be_octets _ _) (by omega) _ _ _ Sh.rep0 (by omega)
  rw [show f142.F K ([0, 0, 0, 0, 0, 0, 0, 0, 0, 0, 0, 0, 0, 0, 0, 0, 0, 0, 0, 0, 0, 0, 0, 0, 0, 0, 0, 0, 0, 0, 0, 0, 0, 0, 0, 0, 0, 0, 0, 0, 0, 0, 0, 0, 0, 0, 0, 0, 0, 0, 0, 0, 0, 0, 0, 0, 0, 0, 0, 0, 0, 0, 0, 0], 0, 0, 4 + name.size, 4, Sh.init, 4 + name.size, Sh.frame (strL name), 4, be 4 3) = _ from c0, bind_s]
  simp only []
  have g0 : f143.F K (0, n0, 0, [], n0, l0) = some (4 + n0, 0, [], n0, l0, 4 + n0, Sh.frame l0) := by
    have := f143.spec K 0 n0 [] l0 rfl e0 (by omega) (by omega)
    rw [Nat.zero_add, List.nil_append] at this
    exact this
  have f0_ : (Sh.frame l0).length = 4 + n0 := by rw [frame_length, e0]
  rw [Nat.zero_add, ble_true (Nat.le_refl n0), Bool.and_self, Bool.and_self, cond_t, subI_self _ e0, g0, bind_s]
  simp only []
  rw [Nat.zero_add, ble_true (Nat.le_refl (4 + n0)), Bool.and_self, Bool.and_self, cond_t, subI_self _ f0_]
  obtain ⟨B0, H0, S0, c0_, R0⟩ := f142v1.spec K ([] ++ Sh.frame (strL name) ++ be 4 3) (4 + n0) (Sh.frame l0) f0_ (frame_octets o0) (by omega) _ _ _ R (by omega)
  rw [c0_, bind_s]
  simp only []
  have g1 : f143.F K (0, n1, 0, [], n1, l1) = some (4 + n1, 0, [], n1, l1, 4 + n1, Sh.frame l1) := by
    have := f143.spec K 0 n1 [] l1 rfl e1 (by omega) (by omega)
    rw [Nat.zero_add, List.nil_append] at this
    exact this
  have f1_ : (Sh.frame l1).length = 4 + n1 := by rw [frame_length, e1]
  rw [Nat.zero_add, ble_true (Nat.le_refl n1), Bool.and_self, Bool.and_self, cond_t, subI_self _ e1, g1, bind_s]
  simp only []
  rw [Nat.zero_add, ble_true (Nat.le_refl (4 + n1)), Bool.and_self, Bool.and_self, cond_t, subI_self _ f1_]
  obtain ⟨B1, H1, S1, c1_, R1⟩ := f142v1.spec K ([] ++ Sh.frame (strL name) ++ be 4 3 ++ Sh.frame l0) (4 + n1) (Sh.frame l1) f1_ (frame_octets o1) (by omega) _ _ _ R0 (by omega)
  rw [c1_, bind_s]
  simp only []
  have g2 : f143.F K (0, n2, 0, [], n2, l2) = some (4 + n2, 0, [], n2, l2, 4 + n2, Sh.frame l2) := by
    have := f143.spec K 0 n2 [] l2 rfl e2 (by omega) (by omega)
    rw [Nat.zero_add, List.nil_append] at this
    exact this
  have f2_ : (Sh.frame l2).length = 4 + n2 := by rw [frame_length, e2]
  rw [Nat.zero_add, ble_true (Nat.le_refl n2), Bool.and_self, Bool.and_self, cond_t, subI_self _ e2, g2, bind_s]
  simp only []
  rw [Nat.zero_add, ble_true (Nat.le_refl (4 + n2)), Bool.and_self, Bool.and_self, cond_t, subI_self _ f2_]
  obtain ⟨B2, H2, S2, c2_, R2⟩ := f142v1.spec K ([] ++ Sh.frame (strL name) ++ be 4 3 ++ Sh.frame l0 ++ Sh.frame l1) (4 + n2) (Sh.frame l2) f2_ (frame_octets o2) (by omega) _ _ _ R1 (by omega)
  rw [c2_, bind_s]
  simp only []
  rw [f145.spec K _ _ _ _ R2 (by omega), bind_s]
  simp only []
  have hM : [] ++ Sh.frame (strL name) ++ be 4 3 ++ Sh.frame l0 ++ Sh.frame l1 ++ Sh.frame l2 = Sh.cut (strL name) [l0, l1, l2] := by
    simp only [Sh.cut, List.nil_append, List.length_cons, List.length_nil, List.flatMap_cons, List.flatMap_nil, List.append_nil, List.append_assoc]
  rw [hM, ← Sh.sha]
theorem f138v1.spec (K : Nat) (name : ByteArray) (n0 : Nat) (l0 : List Int) (n1 : Nat) (l1 : List Int) (n2 : Nat) (l2 : List Int) (n3 : Nat) (l3 : List Int) (hs : name.size ≤ 1000000000) (e0 : l0.length = n0) (o0 : octets l0) (z0 : n0 ≤ 1000000000) (e1 : l1.length = n1) (o1 : octets l1) (z1 : n1 ≤ 1000000000) (e2 : l2.length = n2) (o2 : octets l2) (z2 : n2 ≤ 1000000000) (e3 : l3.length = n3) (o3 : octets l3) (z3 : n3 ≤ 1000000000) (hK : 200 + name.size < K) (k0 : 68 + n0 < K) (k1 : 68 + n1 < K) (k2 : 68 + n2 < K) (k3 : 68 + n3 < K) :
    f138v1.F K (name, n0, n1, n2, n3, n0, l0, n1, l1, n2, l2, n3, l3) = some (Sh.sha (strL name) [l0, l1, l2, l3], n0, n1, n2, n3, n0, l0, n1, l1, n2, l2, n3, l3) := by
  have hnl := strL_length name
  have hno := strL_octets name
  simp only [f138v1.F, f138v1.T]
  rw [show f141.F K () = some ([0, 0, 0, 0, 0, 0, 0, 0, 0, 0, 0, 0, 0, 0, 0, 0, 0, 0, 0, 0, 0, 0, 0, 0, 0, 0, 0, 0, 0, 0, 0, 0, 0, 0, 0, 0, 0, 0, 0, 0, 0, 0, 0, 0, 0, 0, 0, 0, 0, 0, 0, 0, 0, 0, 0, 0, 0, 0, 0, 0, 0, 0, 0, 0], 0, 0, Sh.init) from rfl, bind_s]
  have a0 : f143.F K (0, name.size, 0, [], name.size, strL name) = some (0 + 4 + name.size, 0, [], name.size, strL name, 0 + 4 + name.size, [] ++ Sh.frame (strL name)) := f143.spec K 0 name.size [] (strL name) rfl hnl (by omega) (by omega)
  have a1 : f144.F K (0, ((4 : Nat) : Int), ((4 : Nat) : Int), 0, []) = some (4, 4, 0, [], 4, [] ++ be 4 4) := f144.spec K 0 4 4 [] rfl (by omega) (by omega) (by omega)
  rw [Nat.zero_add, List.nil_append] at a0
  rw [List.nil_append] at a1
  rw [Nat.zero_add, ble_true (Nat.le_refl name.size), Bool.and_self, Bool.and_self, cond_t, subI_self _ hnl, a0, bind_s, show ((4 : Int)) = ((4 : Nat) : Int) from rfl, a1, bind_s]
  simp only []
  have hf := frame_length (strL name)
  rw [hnl] at hf
  rw [Nat.zero_add, Nat.zero_add, ble_true (Nat.le_refl (4 + name.size)), ble_true (Nat.le_refl 4), Bool.and_self, Bool.and_self, Bool.and_self, cond_t, subI_self _ hf, subI_self _ (be_length 4 4)]
  obtain ⟨B, H, S, c0, R⟩ := f142.spec K [] (4 + name.size) (Sh.frame (strL name)) 4 (be 4 4) hf (frame_octets hno) (by omega) (be_length _ _) (be_octets _ _) (by omega) _ _ _ Sh.rep0 (by omega)
  rw [show f142.F K ([0, 0, 0, 0, 0, 0, 0, 0, 0, 0, 0, 0, 0, 0, 0, 0, 0, 0, 0, 0, 0, 0, 0, 0, 0, 0, 0, 0, 0, 0, 0, 0, 0, 0, 0, 0, 0, 0, 0, 0, 0, 0, 0, 0, 0, 0, 0, 0, 0, 0, 0, 0, 0, 0, 0, 0, 0, 0, 0, 0, 0, 0, 0, 0], 0, 0, 4 + name.size, 4, Sh.init, 4 + name.size, Sh.frame (strL name), 4, be 4 4) = _ from c0, bind_s]
  simp only []
  have g0 : f143.F K (0, n0, 0, [], n0, l0) = some (4 + n0, 0, [], n0, l0, 4 + n0, Sh.frame l0) := by
    have := f143.spec K 0 n0 [] l0 rfl e0 (by omega) (by omega)
    rw [Nat.zero_add, List.nil_append] at this
    exact this
  have f0_ : (Sh.frame l0).length = 4 + n0 := by rw [frame_length, e0]
  rw [Nat.zero_add, ble_true (Nat.le_refl n0), Bool.and_self, Bool.and_self, cond_t, subI_self _ e0, g0, bind_s]
  simp only []
  rw [Nat.zero_add, ble_true (Nat.le_refl (4 + n0)), Bool.and_self, Bool.and_self, cond_t, subI_self _ f0_]
  obtain ⟨B0, H0, S0, c0_, R0⟩ := f142v1.spec K ([] ++ Sh.frame (strL name) ++ be 4 4) (4 + n0) (Sh.frame l0) f0_ (frame_octets o0) (by omega) _ _ _ R (by omega)
  rw [c0_, bind_s]
  simp only []
  have g1 : f143.F K (0, n1, 0, [], n1, l1) = some (4 + n1, 0, [], n1, l1, 4 + n1, Sh.frame l1) := by
    have := f143.spec K 0 n1 [] l1 rfl e1 (by omega) (by omega)
    rw [Nat.zero_add, List.nil_append] at this
    exact this
  have f1_ : (Sh.frame l1).length = 4 + n1 := by rw [frame_length, e1]
  rw [Nat.zero_add, ble_true (Nat.le_refl n1), Bool.and_self, Bool.and_self, cond_t, subI_self _ e1, g1, bind_s]
  simp only []
  rw [Nat.zero_add, ble_true (Nat.le_refl (4 + n1)), Bool.and_self, Bool.and_self, cond_t, subI_self _ f1_]
  obtain ⟨B1, H1, S1, c1_, R1⟩ := f142v1.spec K ([] ++ Sh.frame (strL name) ++ be 4 4 ++ Sh.frame l0) (4 + n1) (Sh.frame l1) f1_ (frame_octets o1) (by omega) _ _ _ R0 (by omega)
  rw [c1_, bind_s]
  simp only []
  have g2 : f143.F K (0, n2, 0, [], n2, l2) = some (4 + n2, 0, [], n2, l2, 4 + n2, Sh.frame l2) := by
    have := f143.spec K 0 n2 [] l2 rfl e2 (by omega) (by omega)
    rw [Nat.zero_add, List.nil_append] at this
    exact this
  have f2_ : (Sh.frame l2).length = 4 + n2 := by rw [frame_length, e2]
  rw [Nat.zero_add, ble_true (Nat.le_refl n2), Bool.and_self, Bool.and_self, cond_t, subI_self _ e2, g2, bind_s]
  simp only []
  rw [Nat.zero_add, ble_true (Nat.le_refl (4 + n2)), Bool.and_self, Bool.and_self, cond_t, subI_self _ f2_]
  obtain ⟨B2, H2, S2, c2_, R2⟩ := f142v1.spec K ([] ++ Sh.frame (strL name) ++ be 4 4 ++ Sh.frame l0 ++ Sh.frame l1) (4 + n2) (Sh.frame l2) f2_ (frame_octets o2) (by omega) _ _ _ R1 (by omega)
  rw [c2_, bind_s]
  simp only []
  have g3 : f143.F K (0, n3, 0, [], n3, l3) = some (4 + n3, 0, [], n3, l3, 4 + n3, Sh.frame l3) := by
    have := f143.spec K 0 n3 [] l3 rfl e3 (by omega) (by omega)
    rw [Nat.zero_add, List.nil_append] at this
    exact this
  have f3_ : (Sh.frame l3).length = 4 + n3 := by rw [frame_length, e3]
  rw [Nat.zero_add, ble_true (Nat.le_refl n3), Bool.and_self, Bool.and_self, cond_t, subI_self _ e3, g3, bind_s]
  simp only []
  rw [Nat.zero_add, ble_true (Nat.le_refl (4 + n3)), Bool.and_self, Bool.and_self, cond_t, subI_self _ f3_]
  obtain ⟨B3, H3, S3, c3_, R3⟩ := f142v1.spec K ([] ++ Sh.frame (strL name) ++ be 4 4 ++ Sh.frame l0 ++ Sh.frame l1 ++ Sh.frame l2) (4 + n3) (Sh.frame l3) f3_ (frame_octets o3) (by omega) _ _ _ R2 (by omega)
  rw [c3_, bind_s]
  simp only []
  rw [f145.spec K _ _ _ _ R3 (by omega), bind_s]
  simp only []
  have hM : [] ++ Sh.frame (strL name) ++ be 4 4 ++ Sh.frame l0 ++ Sh.frame l1 ++ Sh.frame l2 ++ Sh.frame l3 = Sh.cut (strL name) [l0, l1, l2, l3] := by
    simp only [Sh.cut, List.nil_append, List.length_cons, List.length_nil, List.flatMap_cons, List.flatMap_nil, List.append_nil, List.append_assoc]
  rw [hM, ← Sh.sha]
theorem f137.spec (K : Nat) (name : ByteArray) (x : Int) (n0 : Nat) (l0 : List Int) (n1 : Nat) (l1 : List Int)  (hs : name.size ≤ 1000) (hx : 0 ≤ x ∧ x < 256) (e0 : l0.length = n0) (o0 : octets l0) (z0 : n0 ≤ 1000) (e1 : l1.length = n1) (o1 : octets l1) (z1 : n1 ≤ 1000) (hK : 10000 < K) :
    f137.F K (x, name, n0, n1, n0, l0, n1, l1) = some (num (tv (Sh.sha (strL name) [l0, l1, [x]])), name, n0, n1, n0, l0, n1, l1, [x]) := by
  simp only [f137.F, f137.T]
  rw [Nat.zero_add, ble_true (Nat.le_refl n0), Nat.zero_add, ble_true (Nat.le_refl n1), Bool.and_self, Bool.and_self, Bool.and_self, cond_t, subI_self _ e0, subI_self _ e1]
  rw [f138.spec K name n0 l0 n1 l1 1 [x] (by omega) e0 o0 (by omega) e1 o1 (by omega) rfl (by intro y hy; simp only [List.mem_singleton] at hy; omega) (by omega) (by omega) (by omega) (by omega) (by omega), bind_s]
  simp only []
  rw [subI_self _ (sha_length _ _), f139.spec K _ (sha_length _ _) (sha_octets _ _) (by omega), bind_s]
theorem f137v1.spec (K : Nat) (name : ByteArray) (x : Int) (n0 : Nat) (l0 : List Int) (n1 : Nat) (l1 : List Int) (w : List Int) (hs : name.size ≤ 1000) (hx : 0 ≤ x ∧ x < 256) (e0 : l0.length = n0) (o0 : octets l0) (z0 : n0 ≤ 1000) (e1 : l1.length = n1) (o1 : octets l1) (z1 : n1 ≤ 1000) (hK : 10000 < K) :
    f137v1.F K (x, name, n0, n1, n0, l0, n1, l1, w) = some (num (tv (Sh.sha (strL name) [l0, l1, [x]])), name, n0, n1, n0, l0, n1, l1, w, [x]) := by
  simp only [f137v1.F, f137v1.T]
  rw [Nat.zero_add, ble_true (Nat.le_refl n0), Nat.zero_add, ble_true (Nat.le_refl n1), Bool.and_self, Bool.and_self, Bool.and_self, cond_t, subI_self _ e0, subI_self _ e1]
  rw [f138.spec K name n0 l0 n1 l1 1 [x] (by omega) e0 o0 (by omega) e1 o1 (by omega) rfl (by intro y hy; simp only [List.mem_singleton] at hy; omega) (by omega) (by omega) (by omega) (by omega) (by omega), bind_s]
  simp only []
  rw [subI_self _ (sha_length _ _), f139.spec K _ (sha_length _ _) (sha_octets _ _) (by omega), bind_s]
theorem f137v2.spec (K : Nat) (name : ByteArray) (x : Int) (n0 : Nat) (l0 : List Int) (n1 : Nat) (l1 : List Int) (n2 : Nat) (l2 : List Int)  (hs : name.size ≤ 1000) (hx : 0 ≤ x ∧ x < 256) (e0 : l0.length = n0) (o0 : octets l0) (z0 : n0 ≤ 1000) (e1 : l1.length = n1) (o1 : octets l1) (z1 : n1 ≤ 1000) (e2 : l2.length = n2) (o2 : octets l2) (z2 : n2 ≤ 1000) (hK : 10000 < K) :
    f137v2.F K (x, name, n0, n1, n2, n0, l0, n1, l1, n2, l2) = some (num (tv (Sh.sha (strL name) [l0, l1, l2, [x]])), name, n0, n1, n2, n0, l0, n1, l1, n2, l2, [x]) := by
  simp only [f137v2.F, f137v2.T]
  rw [Nat.zero_add, ble_true (Nat.le_refl n0), Nat.zero_add, ble_true (Nat.le_refl n1), Nat.zero_add, ble_true (Nat.le_refl n2), Bool.and_self, Bool.and_self, Bool.and_self, Bool.and_self, cond_t, subI_self _ e0, subI_self _ e1, subI_self _ e2]
  rw [f138v1.spec K name n0 l0 n1 l1 n2 l2 1 [x] (by omega) e0 o0 (by omega) e1 o1 (by omega) e2 o2 (by omega) rfl (by intro y hy; simp only [List.mem_singleton] at hy; omega) (by omega) (by omega) (by omega) (by omega) (by omega) (by omega), bind_s]
  simp only []
  rw [subI_self _ (sha_length _ _), f139.spec K _ (sha_length _ _) (sha_octets _ _) (by omega), bind_s]
theorem f137v3.spec (K : Nat) (name : ByteArray) (x : Int) (n0 : Nat) (l0 : List Int) (n1 : Nat) (l1 : List Int) (n2 : Nat) (l2 : List Int) (w : List Int) (hs : name.size ≤ 1000) (hx : 0 ≤ x ∧ x < 256) (e0 : l0.length = n0) (o0 : octets l0) (z0 : n0 ≤ 1000) (e1 : l1.length = n1) (o1 : octets l1) (z1 : n1 ≤ 1000) (e2 : l2.length = n2) (o2 : octets l2) (z2 : n2 ≤ 1000) (hK : 10000 < K) :
    f137v3.F K (x, name, n0, n1, n2, n0, l0, n1, l1, n2, l2, w) = some (num (tv (Sh.sha (strL name) [l0, l1, l2, [x]])), name, n0, n1, n2, n0, l0, n1, l1, n2, l2, w, [x]) := by
  simp only [f137v3.F, f137v3.T]
  rw [Nat.zero_add, ble_true (Nat.le_refl n0), Nat.zero_add, ble_true (Nat.le_refl n1), Nat.zero_add, ble_true (Nat.le_refl n2), Bool.and_self, Bool.and_self, Bool.and_self, Bool.and_self, cond_t, subI_self _ e0, subI_self _ e1, subI_self _ e2]
  rw [f138v1.spec K name n0 l0 n1 l1 n2 l2 1 [x] (by omega) e0 o0 (by omega) e1 o1 (by omega) e2 o2 (by omega) rfl (by intro y hy; simp only [List.mem_singleton] at hy; omega) (by omega) (by omega) (by omega) (by omega) (by omega) (by omega), bind_s]
  simp only []
  rw [subI_self _ (sha_length _ _), f139.spec K _ (sha_length _ _) (sha_octets _ _) (by omega), bind_s]
def Sh.number (Q : Nat) (name : List Int) (ps : List (List Int)) : Nat := (tv (Sh.sha name (ps ++ [[0]])) * 2 ^ 256 + tv (Sh.sha name (ps ++ [[1]]))) % Q
theorem f129.spec (Q : Nat) (name : ByteArray) (n0 : Nat) (l0 : List Int) (n1 : Nat) (l1 : List Int) (hs : name.size ≤ 1000) (hQ : Q < 2 ^ 256) (h0 : 0 < Q) (e0 : l0.length = n0) (o0 : octets l0) (z0 : n0 ≤ 1000) (e1 : l1.length = n1) (o1 : octets l1) (z1 : n1 ≤ 1000) :
    f129.F 100000 (num Q, name, n0, n1, n0, l0, n1, l1) = some (num (Sh.number Q (strL name) [l0, l1]), 0, n0, n1, n0, l0, n1, l1) := by
  have b1 := tv_lt 32 _ (sha_length (strL name) [l0, l1, [1]]) (sha_octets _ _)
  have b2 := tv_lt 32 _ (sha_length (strL name) [l0, l1, [0]]) (sha_octets _ _)
  simp only [f129.F, f129.T]
  rw [f137.spec 100000 name 1 n0 l0 n1 l1 hs (by omega) e0 o0 z0 e1 o1 z1 (by omega), bind_s]
  simp only []
  rw [f137v1.spec 100000 name 0 n0 l0 n1 l1 _ hs (by omega) e0 o0 z0 e1 o1 z1 (by omega), bind_s]
  simp only []
  rw [f54.spec _ _ Q b1 b2 hQ h0, bind_s]
  simp only [Sh.number, List.cons_append, List.nil_append]
theorem f129v1.spec (Q : Nat) (name : ByteArray) (n0 : Nat) (l0 : List Int) (n1 : Nat) (l1 : List Int) (n2 : Nat) (l2 : List Int) (hs : name.size ≤ 1000) (hQ : Q < 2 ^ 256) (h0 : 0 < Q) (e0 : l0.length = n0) (o0 : octets l0) (z0 : n0 ≤ 1000) (e1 : l1.length = n1) (o1 : octets l1) (z1 : n1 ≤ 1000) (e2 : l2.length = n2) (o2 : octets l2) (z2 : n2 ≤ 1000) :
    f129v1.F 100000 (num Q, name, n0, n1, n2, n0, l0, n1, l1, n2, l2) = some (num (Sh.number Q (strL name) [l0, l1, l2]), 0, n0, n1, n2, n0, l0, n1, l1, n2, l2) := by
  have b1 := tv_lt 32 _ (sha_length (strL name) [l0, l1, l2, [1]]) (sha_octets _ _)
  have b2 := tv_lt 32 _ (sha_length (strL name) [l0, l1, l2, [0]]) (sha_octets _ _)
  simp only [f129v1.F, f129v1.T]
  rw [f137v2.spec 100000 name 1 n0 l0 n1 l1 n2 l2 hs (by omega) e0 o0 z0 e1 o1 z1 e2 o2 z2 (by omega), bind_s]
  simp only []
  rw [f137v3.spec 100000 name 0 n0 l0 n1 l1 n2 l2 _ hs (by omega) e0 o0 z0 e1 o1 z1 e2 o2 z2 (by omega), bind_s]
  simp only []
  rw [f54.spec _ _ Q b1 b2 hQ h0, bind_s]
  simp only [Sh.number, List.cons_append, List.nil_append]
theorem f118.spec (Q A : Nat) (name : ByteArray) (p g s : List Int) (hs : name.size ≤ 1000) (hQ : Q < 2 ^ 256) (h0 : 0 < Q) (hA : A < 2 ^ 256) (hl : s.length = 32) (ho : octets s) :
    f118.F 100000 (p, num Q, g, name, s, num A) = some (num (Sh.number Q (strL name) [be 32 A, s]), num A) := by
  simp only [f118.F, f118.T]
  have a0 : f128.F 100000 (0, num A, 0, []) = some (32, 32, 0, [], 32, be 32 A) := by
    have := f128.spec 100000 0 A [] rfl hA (by omega)
    rw [Nat.zero_add, List.nil_append] at this
    exact this
  rw [List.drop_zero, show List.take 4 (num A) = num A from rfl, a0, bind_s]
  simp only []
  rw [Nat.zero_add, ble_true (Nat.le_refl 32), Bool.and_self, Bool.and_self, cond_t, subI_self _ (be_length _ _), subI_self _ hl, f129.spec Q name 32 _ 32 _ hs hQ h0 (be_length _ _) (be_octets _ _) (by omega) hl ho (by omega), bind_s]
theorem num_two (A B : Nat) : List.take 4 (List.drop 0 (spl (spl [] 0 4 (num A)) 4 4 (num B))) = num A ∧ List.take 4 (List.drop 4 (spl (spl [] 0 4 (num A)) 4 4 (num B))) = num B := by
  have la : (num A).length = 4 := length_vec _ _
  have lb : (num B).length = 4 := length_vec _ _
  have e : spl (spl [] 0 4 (num A)) 4 4 (num B) = num A ++ num B := by
    have e1 : spl [] 0 4 (num A) = num A := by rw [spl, padT_self _ la, List.drop_nil, List.append_nil]; rfl
    rw [e1, spl, padT_self _ la, padT_self _ lb, List.drop_of_length_le (by omega), List.append_nil]
  rw [e, List.drop_zero, List.take_append_of_le_length (by omega), List.take_of_length_le (by omega), List.drop_append_of_le_length (by omega), List.drop_of_length_le (by omega), List.nil_append, List.take_of_length_le (by omega)]
  exact ⟨rfl, rfl⟩
theorem f118v1.spec (Q A B : Nat) (name : ByteArray) (p g s : List Int) (hs : name.size ≤ 1000) (hQ : Q < 2 ^ 256) (h0 : 0 < Q) (hA : A < 2 ^ 256) (hB : B < 2 ^ 256) (hl : s.length = 32) (ho : octets s) :
    f118v1.F 100000 (p, num Q, g, name, s, spl (spl [] 0 4 (num A)) 4 4 (num B)) = some (num (Sh.number Q (strL name) [be 32 A, be 32 B, s]), spl (spl [] 0 4 (num A)) 4 4 (num B)) := by
  simp only [f118v1.F, f118v1.T]
  have a0 : f128.F 100000 (0, num A, 0, []) = some (32, 32, 0, [], 32, be 32 A) := by
    have := f128.spec 100000 0 A [] rfl hA (by omega)
    rw [Nat.zero_add, List.nil_append] at this
    exact this
  have b0 : f128.F 100000 (0, num B, 0, []) = some (32, 32, 0, [], 32, be 32 B) := by
    have := f128.spec 100000 0 B [] rfl hB (by omega)
    rw [Nat.zero_add, List.nil_append] at this
    exact this
  rw [(num_two A B).1, (num_two A B).2, a0, bind_s, b0, bind_s]
  simp only []
  rw [Nat.zero_add, ble_true (Nat.le_refl 32), Bool.and_self, Bool.and_self, Bool.and_self, cond_t, subI_self _ (be_length _ _), subI_self _ (be_length _ _), subI_self _ hl, f129v1.spec Q name 32 _ 32 _ 32 _ hs hQ h0 (be_length _ _) (be_octets _ _) (by omega) (be_length _ _) (be_octets _ _) (by omega) hl ho (by omega), bind_s]
end Go.Proofs

namespace Go.Proofs
open Go.VM
theorem f126v1.spec (A B Q : Nat) (hA : A < 2 ^ 256) (hB : B < 2 ^ 256) (hQ : Q < 2 ^ 256) : f126v1.F 100000 (spl (spl [] 0 4 (num A)) 4 4 (num B), num Q) = some (decide (A < Q) && decide (B < Q), num A ++ num B, num Q) := by
  simp only [f126v1.F, f126v1.T, sp2]
  rw [show (100000 : Nat) = 99997 + 1 + 1 + 1 from rfl, iter]
  simp only [f126v1.s0, f126v1.s0t]
  rw [decide_eq_true (show (0 : Int) < 2 by decide), cond_t, decide_eq_true (show (0 : Int) ≤ 0 ∧ (0 : Int) < 2 by decide), cond_t, rd20, f44.all, bind_s, mod_self_of hA, mod_self_of hQ, cmp_ge, w01]
  by_cases h : Q ≤ A
  · rw [decide_eq_true h, cond_t, bind_s, alt_l, decide_eq_false (by omega), Bool.false_and]
  · rw [decide_eq_false h, cond_f, iter]
    simp only [f126v1.s0, f126v1.s0t]
    rw [decide_eq_true (show (1 : Int) < 2 by decide), cond_t, decide_eq_true (show (0 : Int) ≤ 1 ∧ (1 : Int) < 2 by decide), cond_t, rd21, f44.all, bind_s, mod_self_of hB, mod_self_of hQ, cmp_ge, w12, decide_eq_true (show A < Q by omega), Bool.true_and]
    by_cases h2 : Q ≤ B
    · rw [decide_eq_true h2, cond_t, bind_s, alt_l, decide_eq_false (by omega)]
    · rw [decide_eq_false h2, cond_f, iter]
      simp only [f126v1.s0, f126v1.s0t]
      rw [decide_eq_false (show ¬ (2 : Int) < 2 by decide), cond_f, bind_s, alt_r, decide_eq_true (show B < Q by omega)]
theorem number_lt {Q : Nat} (name : List Int) (ps : List (List Int)) (h : 0 < Q) : Sh.number Q name ps < Q := Nat.mod_lt _ h
def Sg.draw (Q M : Nat) (s : List Int) : Nat := if Sh.number Q (strL f90.k0) [be 32 M, s] = 0 then 1 else Sh.number Q (strL f90.k0) [be 32 M, s]
def Sg.c (P Q G M : Nat) (s : List Int) : Nat := Sh.number Q (strL f90.k1) [be 32 (G ^ M % P), be 32 (G ^ Sg.draw Q M s % P), s]
def Sg.y (P Q G M : Nat) (s : List Int) : Nat := (Sg.draw Q M s + M * Sg.c P Q G M s % Q) % Q
theorem gsec_iff {P Q G N : Nat} : gsec P Q G N = true ↔ gfine P Q G = true ∧ N ≠ 0 ∧ N < Q := by simp [gsec]
theorem gfine_iff {P Q G : Nat} : gfine P Q G = true ↔ 1 < Q ∧ G ≠ 1 ∧ gmem P Q G = true := by simp [gfine]
theorem f90.spec (P Q G M : Nat) (s : List Int) (hP : P < 2 ^ 256) (hQ : Q < 2 ^ 256) (hG : G < 2 ^ 256) (hM : M < 2 ^ 256) (hl : s.length = 32) (ho : octets s) :
    f90.F 100000 (num P, num Q, num G, num M, s) = some (if gsec P Q G M = true then (num (Sg.c P Q G M s), num (Sg.y P Q G M s), 0) else (num 0, num 0, 1)) := by
  simp only [f90.F, f90.T]
  rw [f77.spec P Q G M hP hQ hG hM, bind_s]
  by_cases h : gsec P Q G M = true
  · obtain ⟨hf, hm0, hmQ⟩ := gsec_iff.1 h
    obtain ⟨hq1, _, hg⟩ := gfine_iff.1 hf
    obtain ⟨hin, _⟩ := gmem_iff.1 hg
    obtain ⟨hp1, _, _⟩ := gin_iff.1 hin
    rw [if_pos h, if_pos h]
    simp only []
    have hkey : G ^ M % P < 2 ^ 256 := Nat.lt_trans (Nat.mod_lt _ (by omega)) hP
    have hn := number_lt (Q := Q) (strL f90.k0) [be 32 M, s] (by omega)
    rw [show ((0 : Int) != 0) = false from rfl, cond_f, f118.spec Q M f90.k0 _ _ s (by decide) hQ (by omega) hM hl ho, bind_s, f46.zero, bind_s]
    simp only []
    rw [eqN _ 0 (by omega) (by decide), Bool.and_true]
    have rest : ∀ d, d < Q → (f80.F 100000 (num P, num Q, num G, num G, num d)).bind (fun y11 =>
      (f118v1.F 100000 (num P, num Q, num G, f90.k1, s, (spl (spl [] 0 4 (num (G ^ M % P))) 4 4 y11.1))).bind fun y13 =>
      (f63.F 100000 (num M, y13.1, num Q)).bind fun y14 =>
      (f61.F 100000 (num d, y14.1, num Q)).bind fun y15 =>
      some (y13.1, y15.1, (0 : Int))) = some (num (Sh.number Q (strL f90.k1) [be 32 (G ^ M % P), be 32 (G ^ d % P), s]), num ((d + M * Sh.number Q (strL f90.k1) [be 32 (G ^ M % P), be 32 (G ^ d % P), s] % Q) % Q), 0) := by
      intro d hd
      have hgd : G ^ d % P < 2 ^ 256 := Nat.lt_trans (Nat.mod_lt _ (by omega)) hP
      rw [f80.spec P G d _ _ hP hG (by omega), if_pos hin, bind_s, f118v1.spec Q _ _ f90.k1 _ _ s (by decide) hQ (by omega) hkey hgd hl ho, bind_s]
      have hc := number_lt (Q := Q) (strL f90.k1) [be 32 (G ^ M % P), be 32 (G ^ d % P), s] (by omega)
      rw [f63.good hq1 hmQ hc hQ, bind_s, f61.good hq1 hd (Nat.mod_lt _ (by omega)) hQ, bind_s]
    by_cases h0 : Sh.number Q (strL f90.k0) [be 32 M, s] = 0
    · rw [decide_eq_true h0, cond_t, f46.one, bind_s, rest 1 hq1, Sg.y, Sg.c, Sg.draw, if_pos h0]
    · rw [decide_eq_false h0, cond_f, rest _ hn, Sg.y, Sg.c, Sg.draw, if_neg h0]
  · rw [if_neg h, if_neg h]
    rfl
def Sg.back (P Q G A C Y : Nat) : Nat := if (gin P (if gin P G = true then G ^ Y % P else 0) && gin P (if gin P A = true then A ^ (Q - C) % P else 0)) = true then (G ^ Y % P) * (A ^ (Q - C) % P) % P else 0
def Sg.check (P Q G A : Nat) (s : List Int) (C Y : Nat) : Bool :=
  gfine P Q G && (gmem P Q A && (decide (A ≠ 1) && (decide (C < Q) && (decide (Y < Q) && decide (Sh.number Q (strL f91.k0) [be 32 A, be 32 (Sg.back P Q G A C Y), s] = C)))))
theorem f91.spec (P Q G A C Y : Nat) (s : List Int) (hP : P < 2 ^ 256) (hQ : Q < 2 ^ 256) (hG : G < 2 ^ 256) (hA : A < 2 ^ 256) (hC : C < 2 ^ 256) (hY : Y < 2 ^ 256) (hl : s.length = 32) (ho : octets s) :
    f91.F 100000 (num P, num Q, num G, num A, s, num C, num Y) = some (Sg.check P Q G A s C Y) := by
  simp only [f91.F, f91.T]
  rw [f85.spec P Q G hP hQ hG, bind_s]
  unfold Sg.check
  by_cases h1 : gfine P Q G = true
  case neg => rw [Bool.not_eq_true] at h1; rw [h1, Bool.not_false, cond_t, Bool.false_and]
  obtain ⟨hq1, _, hg⟩ := gfine_iff.1 h1
  obtain ⟨hin, _⟩ := gmem_iff.1 hg
  obtain ⟨hp1, _, _⟩ := gin_iff.1 hin
  rw [h1, Bool.not_true, cond_f, f87.spec P Q A _ hP hQ hA, bind_s, Bool.true_and]
  by_cases h2 : gmem P Q A = true
  case neg => rw [Bool.not_eq_true] at h2; rw [h2, Bool.not_false, cond_t, Bool.false_and]
  have hinA := (gmem_iff.1 h2).1
  rw [h2, Bool.not_true, cond_f, f46.one, bind_s, Bool.true_and, eqN A 1 hA (by decide), Bool.and_true]
  by_cases h3 : A = 1
  · rw [decide_eq_true h3, cond_t, decide_eq_false (by omega), Bool.false_and]
  rw [decide_eq_false h3, cond_f, decide_eq_true h3, Bool.true_and, show f110.F 100000 (num Q) = some (num Q) from rfl, bind_s, f126v1.spec C Y Q hC hY hQ, bind_s]
  simp only []
  by_cases h4 : C < Q
  case neg => rw [decide_eq_false h4, Bool.false_and, Bool.not_false, cond_t, Bool.false_and]
  by_cases h5 : Y < Q
  case neg => rw [decide_eq_false h5, Bool.and_false, Bool.not_false, cond_t, Bool.false_and, Bool.and_false]
  rw [decide_eq_true h4, decide_eq_true h5, Bool.and_self, Bool.not_true, cond_f, Bool.true_and, Bool.true_and]
  have m : ∀ X, X % P < 2 ^ 256 := fun X => Nat.lt_trans (Nat.mod_lt _ (by omega)) hP
  have eq : num (Q + 2 ^ 256 - C) = num (Q - C) := by
    show words 64 4 _ = words 64 4 _
    rw [← words_mod 64 4 (Q + 2 ^ 256 - C), show (2 : Nat) ^ (64 * 4) = 2 ^ 256 from rfl, show Q + 2 ^ 256 - C = Q - C + 2 ^ 256 by omega, Nat.add_mod_right, Nat.mod_eq_of_lt (by omega)]
  rw [f34.spec 100000 Q C hQ hC (by omega), bind_s, f80.spec P G Y _ _ hP hG hY, bind_s]
  simp only []
  rw [eq, f80.spec P A (Q - C) _ _ hP hA (by omega), bind_s, if_pos hin, if_pos hinA]
  simp only []
  rw [f79.spec P _ _ _ _ hP (m _) (m _), bind_s]
  have eb : (if (gin P (G ^ Y % P) && gin P (A ^ (Q - C) % P)) = true then (num (G ^ Y % P * (A ^ (Q - C) % P) % P), (0 : Int)) else (num 0, 1)).1 = num (Sg.back P Q G A C Y) := by
    rw [Sg.back, if_pos hin, if_pos hinA]
    split <;> rfl
  have hb : Sg.back P Q G A C Y < 2 ^ 256 := by
    rw [Sg.back, if_pos hin, if_pos hinA]
    split
    · exact m _
    · decide
  rw [eb, f118v1.spec Q A _ f91.k0 _ _ s (by decide) hQ (by omega) hA hb hl ho, bind_s]
  simp only []
  rw [eqN _ C (Nat.lt_trans (number_lt _ _ (by omega)) hQ) hC, Bool.and_true]
theorem sg_lt {P Q G M : Nat} (s : List Int) (h : gsec P Q G M = true) : Sg.c P Q G M s < Q ∧ Sg.y P Q G M s < Q := by
  obtain ⟨hf, hm0, hmQ⟩ := gsec_iff.1 h
  obtain ⟨hq1, _, hg⟩ := gfine_iff.1 hf
  exact ⟨number_lt _ _ (by omega), Nat.mod_lt _ (by omega)⟩
theorem check_c {P Q G A C Y : Nat} {s : List Int} (h : Q ≤ C) : Sg.check P Q G A s C Y = false := by
  rw [Sg.check, decide_eq_false (show ¬ C < Q by omega), Bool.false_and, Bool.and_false, Bool.and_false, Bool.and_false]
theorem check_y {P Q G A C Y : Nat} {s : List Int} (h : Q ≤ Y) : Sg.check P Q G A s C Y = false := by
  rw [Sg.check, decide_eq_false (show ¬ Y < Q by omega), Bool.false_and, Bool.and_false, Bool.and_false, Bool.and_false, Bool.and_false]
theorem check_one {P Q G C Y : Nat} {s : List Int} : Sg.check P Q G 1 s C Y = false := by
  rw [Sg.check, decide_eq_false (show ¬ (1 : Nat) ≠ 1 by omega), Bool.false_and, Bool.and_false, Bool.and_false]
theorem check_in {P Q G A C Y : Nat} {s : List Int} (h : gin P A = false) : Sg.check P Q G A s C Y = false := by
  rw [Sg.check, gmem, h, Bool.false_and, Bool.false_and, Bool.and_false]
theorem carry_eq (S : Nat) (h : S < 2 ^ 257) : (((S / 2 ^ 256 : Nat) : Int) == 0) = decide (S < 2 ^ 256) := by
  by_cases e : S < 2 ^ 256
  · rw [decide_eq_true e, Nat.div_eq_of_lt e]; rfl
  · rw [decide_eq_false e]
    have : 0 < S / 2 ^ 256 := Nat.div_pos (by omega) (by decide)
    exact beq_eq_false_iff_ne.2 (by omega)
theorem f31.holds (P Q G M : Nat) (s : List Int) (hP : P < 2 ^ 256) (hQ : Q < 2 ^ 256) (hG : G < 2 ^ 256) (hM : M < 2 ^ 256) (hs : s.length = 32 ∧ octets s) : f31.F 100000 (num P, num Q, num G, num M, s) = some true := by
  simp only [f31.F, f31.T]
  rw [f77.spec P Q G M hP hQ hG hM, bind_s, f90.spec P Q G M s hP hQ hG hM hs.1 hs.2, bind_s, f78.spec]
  by_cases h : gsec P Q G M = true
  · obtain ⟨hc, hy⟩ := sg_lt s h
    have hk : G ^ M % P < P := by
      obtain ⟨hf, _⟩ := gsec_iff.1 h
      obtain ⟨_, _, hg⟩ := gfine_iff.1 hf
      obtain ⟨hp1, _, _⟩ := gin_iff.1 (gmem_iff.1 hg).1
      exact Nat.mod_lt _ (by omega)
    rw [if_pos h, if_pos h]
    generalize Sg.c P Q G M s = c at hc
    generalize Sg.y P Q G M s = y at hy
    generalize G ^ M % P = k at hk
    have q := fun A C Y hA hC hY => f91.spec P Q G A C Y s hP hQ hG hA hC hY hs.1 hs.2
    have q1 := q 1 c y (by decide) (by omega) (by omega)
    have q0 := q 0 c y (by decide) (by omega) (by omega)
    rw [check_one] at q1
    rw [check_in (by rw [gin, decide_eq_false (show ¬ (0 : Nat) ≠ 0 by omega), Bool.false_and, Bool.and_false])] at q0
    have n0 : ([0, 0, 0, 0] : List Int) = num 0 := rfl
    simp only []
    rw [show ((0 : Int) != 0) = false from rfl]
    simp only [cond_f, f32.num c Q (by omega) hQ, f32.num y Q (by omega) hQ, f32.num k P (by omega) hP, bind_s, carry_eq (c + Q) (by omega), carry_eq (y + Q) (by omega), carry_ne (k + P) (by omega), f46.one, n0, q1, q0, Bool.not_false, cond_t]
    have d1 : ∀ h : c + Q < 2 ^ 256, f91.F 100000 (num P, num Q, num G, num k, s, num (c + Q), num y) = some false := fun h => by
      rw [q k (c + Q) y (by omega) h (by omega), check_c (by omega)]
    have d2 : ∀ h : y + Q < 2 ^ 256, f91.F 100000 (num P, num Q, num G, num k, s, num c, num (y + Q)) = some false := fun h => by
      rw [q k c (y + Q) (by omega) (by omega) h, check_y (by omega)]
    have d3 : ∀ h : ¬ 2 ^ 256 ≤ k + P, f91.F 100000 (num P, num Q, num G, num (k + P), s, num c, num y) = some false := fun h => by
      rw [q (k + P) c y (by omega) (by omega) (by omega), check_in (by rw [gin, decide_eq_false (show ¬ k + P < P by omega), Bool.and_false, Bool.and_false])]
    have D1 : (decide (c + Q < 2 ^ 256) = true ∧ f91.F 100000 (num P, num Q, num G, num k, s, num (c + Q), num y) = some false) ∨ decide (c + Q < 2 ^ 256) = false := (Nat.lt_or_ge (c + Q) (2 ^ 256)).imp (fun h => ⟨decide_eq_true h, d1 h⟩) fun h => decide_eq_false (by omega)
    have D2 : (decide (y + Q < 2 ^ 256) = true ∧ f91.F 100000 (num P, num Q, num G, num k, s, num c, num (y + Q)) = some false) ∨ decide (y + Q < 2 ^ 256) = false := (Nat.lt_or_ge (y + Q) (2 ^ 256)).imp (fun h => ⟨decide_eq_true h, d2 h⟩) fun h => decide_eq_false (by omega)
    have D3 : (decide (2 ^ 256 ≤ k + P) = false ∧ f91.F 100000 (num P, num Q, num G, num (k + P), s, num c, num y) = some false) ∨ decide (2 ^ 256 ≤ k + P) = true := (Nat.lt_or_ge (k + P) (2 ^ 256)).imp (fun h => ⟨decide_eq_false (by omega), d3 (by omega)⟩) fun h => decide_eq_true h
    rcases D1 with ⟨a1, a2⟩ | a1 <;> rcases D2 with ⟨b1, b2⟩ | b1 <;> rcases D3 with ⟨c1, c2⟩ | c1 <;> simp only [*, cond_t, cond_f, bind_s, Bool.not_false]
  · rw [if_neg h, if_neg h]
    rfl
end Go.Proofs
