/- Plain laws: lemmas that hold with no condition but those that each states. -/
import Derived.Test.YtmbbkmljmienjaaQ2
import Derived.Test.YtmbbkmljmienjaaProg
import Derived.KernelRfl
namespace Go.VM
def Does (P : Program) (f : FuncId) (m : Nat) (vs : List VV) (M0 : List (Nat × Blk)) (t : VS) : Prop :=
  m ≤ t.n ∧ (∀ b x, getA t.M b = some x → b < t.n ∧ ∀ i ∈ bids x, i < t.n) ∧ ∀ v, getA t.L 0 = some v → v.okL ∧ (∀ i ∈ v.ids, i < t.n) ∧ ∀ (ρ : Nat → Nat) (w : World), (∀ u ∈ vs, u.okL ∧ ∀ i ∈ u.ids, i < m) →
    (∀ b x, getA M0 b = some x → Holds ρ w b x ∧ VV.mems x.1 = true ∧ (∀ i ∈ bids x, i < m) ∧ b < m) → (∀ b d, b ≠ d → Parted ρ (getA M0) b d) → (GL w ∧ ∀ b x, getA M0 b = some x → ∀ k, own ρ b x k → ∀ g ∈ globs, g.1 ≠ k) →
    Calls P f (vs.map (VV.den ρ)).toArray w fun e w' => ∃ ρ', e = .returned (v.den ρ') ∧ Left m M0 t ρ ρ' w w'
theorem hand_ok {P : Program} {f : FuncId} {fn : Func} {c : Code} (hf : P.funcs[f]? = some fn) (hb : fn.body = some c) (hname : (fn.name == "runtime.NumGoroutine") = false) {m : Nat}
    {X Y : Type} {av : X → List VV} {bl : X → List (Nat × Blk)} {inA : VS → Option X} {F : X → Option Y} {out : Y → VS} {des : ∀ α : Type, Y → (VS → Option α) → Option α}
    (hA : ∀ s x, inA s = some x → s = ⟨initL 0 (av x), bl x, m⟩) (hdes : ∀ α y k, des α y k = k (out y))
    (hF : ∀ x y, F x = some y → Does P f m (av x) (bl x) (out y)) : EntryOK P f (genE m inA F des) := by
  intro α vs M n k r h
  simp only [genE, genE.genW] at h
  generalize hord : orderOf 0 M (VV.idss vs) = ord at h
  cases hlen : Nat.beq ord.length m with
  | false => simp [hlen] at h
  | true =>
  have hlen' : ord.length = m := by simpa using hlen
  simp only [hlen, cond_true] at h
  obtain ⟨s, hs, h⟩ := Option.bind_eq_some_iff.1 h
  obtain ⟨x, hx, h⟩ := Option.bind_eq_some_iff.1 h
  obtain ⟨y, hy, h⟩ := Option.bind_eq_some_iff.1 h
  rw [hdes] at h
  have hren := canonW_spec hs
  have hsx := hA s x hx
  obtain ⟨hmt, hstat, ht2⟩ := hF x y hy
  generalize out y = t at *

  unfold finE at h
  split at h
  case h_2 => cases h
  rename_i v hL
  have hv : getA t.L 0 = some v := by rw [hL]; simp [getA]
  obtain ⟨hok, hvi, hcall⟩ := ht2 v hv
  cases hkeys : (keysIn (renM (outR ord m n) (noRo t.M t.M)) (ownL M (hasM M ord)) && oldIn (hasM M ord) ord m t.M && memsM t.M) with
  | false => simp [hkeys] at h
  | true =>
  simp only [hkeys, cond_true] at h
  simp only [Bool.and_eq_true] at hkeys
  obtain ⟨⟨hk1, hk2⟩, hk3⟩ := hkeys

  obtain ⟨τ, hτ1, hτ2⟩ := hren.Lre
  have hav : av x = vs.map (VV.ren τ) := by
    rw [hsx, initL_ren] at hτ1
    exact initL_inj hτ1
  have hvids : ∀ u ∈ vs, ∀ i ∈ u.ids, ord.getD (τ i) 0 = i ∧ τ i < ord.length := fun u hu i hi => by
    obtain ⟨t, ht⟩ := initL_mem (i := 0) hu
    exact hτ2 (t, u) ht i hi
  have hM : s.M = bl x := by rw [hsx]
  refine ⟨_, _, h, ⟨fn, hf, hname, by rw [hb]; rfl⟩, fun b hb => (hasM_iff.1 hb).2, fun ρ p w hu hmm hinj hpn hgd => ?_⟩
  have hordp : ∀ i ∈ ord, p i := by
    rw [← hord]
    refine reach_p (fun j hj => ?_) fun b hb x hx j hj => ?_
    · rcases insNew_mem.1 hj with hj | hj
      · simp at hj
      · obtain ⟨u, hu1, hu2⟩ := mem_idss.1 hj
        exact (hu u hu1).2 j hu2
    · refine (hmm b (hasM_iff.2 ⟨?_, by simp [hx]⟩) x hx).2.2 j hj
      rw [← hord]; exact hb
  have hσp : ∀ i, i < m → p (ord.getD i 0) := fun i hi => hordp _ (by
    rw [List.getD_eq_getElem?_getD, List.getElem?_eq_getElem (by omega)]; exact List.getElem_mem _)
  have hRp : ∀ j, j < t.n → p (outR ord m n j) ∨ (n ≤ outR ord m n j ∧ outR ord m n j < n + (t.n - m)) := by
    intro j hj
    unfold outR
    cases hb : Nat.blt j m with
    | true => simp only [cond_true]; exact .inl (hσp j (by simpa [Nat.blt_eq] using hb))
    | false =>
      simp only [cond_false]
      have : ¬ j < m := by intro hlt; have : Nat.blt j m = true := by simpa [Nat.blt_eq] using hlt
                           rw [hb] at this; cases this
      exact .inr ⟨by omega, by omega⟩
  have hkey := hcall (fun i => ρ (ord.getD i 0)) w (fun u hu' => by
      rw [hav] at hu'
      obtain ⟨u0, hu0, rfl⟩ := List.mem_map.1 hu'
      refine ⟨okL_ren.2 (hu u0 hu0).1, fun i hi => ?_⟩
      rw [ids_ren] at hi
      obtain ⟨j, hj, rfl⟩ := List.mem_map.1 hi
      have := (hvids u0 hu0 j hj).2
      omega)
    (fun b z hz => by
      rw [← hM] at hz
      obtain ⟨z0, e1, e2, e3, e4⟩ := hren.M b z hz
      obtain ⟨m1, m2, _⟩ := hmm (ord.getD b 0) (hasM_iff.2 ⟨by rw [List.getD_eq_getElem?_getD, List.getElem?_eq_getElem e3]; exact List.getElem_mem _, by rw [e1]; rfl⟩) z0 e1
      subst e2
      exact ⟨Holds_ren.1 m1, by simpa [renB, mems_ren] using m2, fun i hi => by have := e4 i hi; omega, by omega⟩)
    (fun b d hbd z z' hz hz' q hq ho => by
      rw [← hM] at hz hz'
      obtain ⟨z0, e1, e2, e3, _⟩ := hren.M b z hz
      obtain ⟨z1, f1, f2, f3, _⟩ := hren.M d z' hz'
      subst e2; subst f2
      have in1 : ord.getD b 0 ∈ hasM M ord := hasM_iff.2 ⟨by rw [List.getD_eq_getElem?_getD, List.getElem?_eq_getElem e3]; exact List.getElem_mem _, by rw [e1]; rfl⟩
      have in2 : ord.getD d 0 ∈ hasM M ord := hasM_iff.2 ⟨by rw [List.getD_eq_getElem?_getD, List.getElem?_eq_getElem f3]; exact List.getElem_mem _, by rw [f1]; rfl⟩
      exact hinj _ _ in1 in2 (fun e => hbd (hren.inj b d e3 f3 e)) _ _ e1 f1 q (own_ren.2 hq) (occ_ren.2 ho))
    ⟨hgd.1, fun b z hz q hq g hg => by
      rw [← hM] at hz
      obtain ⟨z0, e1, e2, e3, _⟩ := hren.M b z hz
      subst e2
      exact hgd.2 (ord.getD b 0) (hasM_iff.2 ⟨by rw [List.getD_eq_getElem?_getD, List.getElem?_eq_getElem e3]; exact List.getElem_mem _, by rw [e1]; rfl⟩) _ e1 q (own_ren.2 hq) g hg⟩
  have hvs' : ((av x).map (VV.den fun i => ρ (ord.getD i 0))).toArray = (vs.map (VV.den ρ)).toArray := by
    rw [hav, List.map_map]
    congr 1
    refine List.map_congr_left fun u hu' => ?_
    rw [Function.comp, den_ren]
    refine den_congr u fun i hi => ?_
    rw [(hvids u hu' i hi).1]
  rw [hvs'] at hkey
  refine ⟨⟨okL_ren.2 hok, fun i hi => ?_, fun b blk hg => ?_, fun b hb => hordp b (hasM_iff.1 hb).1⟩, hkey.mono fun e w' ⟨ρ1, he, hleft⟩ => ?_⟩
  · rw [ids_ren] at hi
    obtain ⟨j, hj, rfl⟩ := List.mem_map.1 hi
    exact hRp j (hvi j hj)
  · obtain ⟨j, z, e1, _, rfl, rfl⟩ := renM_noRo_get hg
    obtain ⟨j1, j2⟩ := hstat j z e1
    refine ⟨?_, by simpa [renB, mems_ren] using memsM_spec hk3 e1, fun i hi => ?_⟩
    · by_cases hjm : j < m
      · left
        have hb : Nat.blt j m = true := by simpa [Nat.blt_eq] using hjm
        simp only [outR, hb, cond_true]
        exact oldIn_spec hk2 e1 hjm
      · right
        have hb : Nat.blt j m = false := by
          cases hb : Nat.blt j m with
          | false => rfl
          | true => exact absurd (by simpa [Nat.blt_eq] using hb) hjm
        simp only [outR, hb, cond_false]
        exact ⟨by omega, by omega⟩
    · rw [bids_ren] at hi
      obtain ⟨q, hq, rfl⟩ := List.mem_map.1 hi
      exact hRp q (j2 q hq)
  · let ρ' : Nat → Nat := fun j => if n ≤ j ∧ j < n + (t.n - m) then ρ1 (m + (j - n)) else ρ j
    have hag : ∀ i, ¬ (n ≤ i ∧ i < n + (t.n - m)) → ρ' i = ρ i := fun i hi => if_neg hi
    have hpρ : ∀ i, p i → ρ' i = ρ i := fun i hi => hag i (hpn i hi)
    have hR' : ∀ j, j < t.n → ρ' (outR ord m n j) = ρ1 j := by
      intro j hj
      unfold outR
      cases hb : Nat.blt j m with
      | true =>
        have hjm : j < m := by simpa [Nat.blt_eq] using hb
        simp only [cond_true]
        rw [hpρ _ (hσp j hjm), hleft.base j hjm]
      | false =>
        have hjm : ¬ j < m := by intro hlt; have : Nat.blt j m = true := by simpa [Nat.blt_eq] using hlt
                                 rw [hb] at this; cases this
        simp only [cond_false]
        show (if n ≤ n + (j - m) ∧ n + (j - m) < n + (t.n - m) then ρ1 (m + (n + (j - m) - n)) else ρ (n + (j - m))) = ρ1 j
        rw [if_pos ⟨by omega, by omega⟩]
        congr 1; omega
    have hown : ∀ j x, getA t.M j = some x → ∀ k, own ρ' (outR ord m n j) (renB (outR ord m n) x) k ↔ own ρ1 j x k := fun j x hx k => by
      obtain ⟨j1, j2⟩ := hstat j x hx
      rw [own_ren]
      exact own_congr (hR' j j1) fun i hi => hR' i (j2 i hi)
    have hocc : ∀ j x, getA t.M j = some x → ∀ k, occ ρ' (outR ord m n j) (renB (outR ord m n) x) k ↔ occ ρ1 j x k := fun j x hx k => by
      obtain ⟨j1, j2⟩ := hstat j x hx
      rw [occ_ren]
      exact occ_congr (hR' j j1) fun i hi => hR' i (j2 i hi)

    have hin : ∀ d z, getA (bl x) d = some z → ∀ k, own (fun i => ρ (ord.getD i 0)) d z k → ord.getD d 0 ∈ hasM M ord ∧ ∃ z0, getA M (ord.getD d 0) = some z0 ∧ own ρ' (ord.getD d 0) z0 k := by
      intro d z hz k hk
      rw [← hM] at hz
      obtain ⟨z0, e1, e2, e3, e4⟩ := hren.M d z hz
      have hin : ord.getD d 0 ∈ ord := by rw [List.getD_eq_getElem?_getD, List.getElem?_eq_getElem e3]; exact List.getElem_mem _
      have hin2 : ord.getD d 0 ∈ hasM M ord := hasM_iff.2 ⟨hin, by rw [e1]; rfl⟩
      refine ⟨hin2, z0, e1, ?_⟩
      have h3 : own ρ (ord.getD d 0) z0 k := by rw [e2]; exact own_ren.2 hk
      exact (own_congr (hpρ _ (hordp _ hin)) fun i hi => hpρ i ((hmm _ hin2 z0 e1).2.2 i hi)).2 h3
    have hino : ∀ d z, getA (bl x) d = some z → ∀ k, occ (fun i => ρ (ord.getD i 0)) d z k → ord.getD d 0 ∈ hasM M ord ∧ ∃ z0, getA M (ord.getD d 0) = some z0 ∧ occ ρ' (ord.getD d 0) z0 k := by
      intro d z hz k hk
      rw [← hM] at hz
      obtain ⟨z0, e1, e2, e3, e4⟩ := hren.M d z hz
      have hin : ord.getD d 0 ∈ ord := by rw [List.getD_eq_getElem?_getD, List.getElem?_eq_getElem e3]; exact List.getElem_mem _
      have hin2 : ord.getD d 0 ∈ hasM M ord := hasM_iff.2 ⟨hin, by rw [e1]; rfl⟩
      refine ⟨hin2, z0, e1, ?_⟩
      have h3 : occ ρ (ord.getD d 0) z0 k := by rw [e2]; exact occ_ren.2 hk
      exact (occ_congr (hpρ _ (hordp _ hin)) fun i hi => hpρ i ((hmm _ hin2 z0 e1).2.2 i hi)).2 h3
    refine ⟨ρ', ?_, hag, ⟨hleft.os, hleft.tape, hleft.output, hleft.size, fun b z hz => ?_, fun b z hz k hk => ?_, fun b d hbd z z' hz hz' k hk ho => ?_, fun k hk h1 h2 => ?_⟩⟩
    · rw [he, den_ren]
      congr 1
      exact den_congr v fun i hi => (hR' i (hvi i hi)).symm
    · obtain ⟨j, z, e1, _, rfl, rfl⟩ := renM_noRo_get hz
      obtain ⟨j1, j2⟩ := hstat j z e1
      exact Holds_ren.2 ((hleft.mm j z e1).congr (hR' j j1) (fun i hi => hR' i (j2 i hi)) fun _ _ => rfl)
    · obtain ⟨j, z, e1, e0, rfl, rfl⟩ := renM_noRo_get hz
      by_cases hko : own ρ' (outR ord m n j) (renB (outR ord m n) z) k
      · rcases hleft.src j z e1 k ((hown j z e1 k).1 hko) with hs | ⟨d, y', hd, hdo⟩
        · exact .inl hs
        · obtain ⟨g1, z0, g2, g3⟩ := hin d y' hd k hdo
          exact .inr ⟨_, g1, z0, g2, occ_of_own g3, fun _ => g3, fun _ => keysIn_spec hk1 _ (ownL_mem g1 (own_not_ro g2 g3))⟩
      · rcases hleft.occs j z e1 k ((hocc j z e1 k).1 hk) with hs | ⟨d, y', hd, hdo⟩
        · exact .inl hs
        · obtain ⟨g1, z0, g2, g3⟩ := hino d y' hd k hdo
          exact .inr ⟨_, g1, z0, g2, g3, fun h => absurd h hko, fun h => keysIn_spec hk1 _ (ownL_mem g1 (own_not_ro g2 h))⟩
    · obtain ⟨j, z, e1, _, rfl, rfl⟩ := renM_noRo_get hz
      obtain ⟨j', z', f1, _, rfl, rfl⟩ := renM_noRo_get hz'
      exact hleft.inj j j' (fun e => hbd (by rw [e])) z z' e1 f1 k ((hown j z e1 k).1 hk) ((hocc j' z' f1 k).1 ho)
    · refine hleft.kept k hk fun d y' hd hdo => ?_
      obtain ⟨g1, z0, g2, g3⟩ := hin d y' hd k hdo
      exact h2 _ g1 z0 g2 (keysIn_spec hk1 _ (ownL_mem g1 (own_not_ro g2 g3))) g3
end Go.VM

namespace Go.Proofs
open Go.VM
theorem mix : Try.prog.follows .mixedOrders = true := by kernel_rfl
noncomputable def bodyOf (f : Func) : Code := f.body.getD .skip
def ti3 : TI := ⟨1, (Go.TypeDesc.int Go.IntKind.i64), [.int .i64 0], 0, [], false, 0⟩
theorem ty3 : TyOK Try.prog 3 ti3 := ⟨by kernel_rfl, by kernel_rfl, rfl, rfl, rfl, rfl, trivial, trivial, fun h => absurd rfl h, fun h => by cases h⟩
def ti4 : TI := ⟨1, Go.TypeDesc.bool, [.bool false], 0, [], false, 0⟩
theorem ty4 : TyOK Try.prog 4 ti4 := ⟨by kernel_rfl, by kernel_rfl, rfl, rfl, rfl, rfl, trivial, trivial, fun h => absurd rfl h, fun h => by cases h⟩
def ti5 : TI := ⟨1, (Go.TypeDesc.int Go.IntKind.u8), [.int .u8 0], 0, [], false, 1⟩
theorem ty5 : TyOK Try.prog 5 ti5 := ⟨by kernel_rfl, by kernel_rfl, rfl, rfl, rfl, rfl, trivial, trivial, fun _ => by kernel_rfl, fun h => by cases h⟩
def ti9 : TI := ⟨1, Go.TypeDesc.string, [.str ByteArray.empty], 0, [], false, 0⟩
theorem ty9 : TyOK Try.prog 9 ti9 := ⟨by kernel_rfl, by kernel_rfl, rfl, rfl, rfl, rfl, trivial, trivial, fun h => absurd rfl h, fun h => by cases h⟩
def ti22 : TI := ⟨1, .slice 5, [.raw (.slice none 0 0)], 1, [], false, 24⟩
theorem ty22 : TyOK Try.prog 22 ti22 := ⟨by kernel_rfl, by kernel_rfl, rfl, rfl, rfl, rfl, by show _ = _; kernel_rfl, trivial, fun _ => by kernel_rfl, fun h => by cases h⟩
def ti23 : TI := ⟨1, .slice 22, [.raw (.slice none 0 0)], 1, [], false, 0⟩
theorem ty23 : TyOK Try.prog 23 ti23 := ⟨by kernel_rfl, by kernel_rfl, rfl, rfl, rfl, rfl, by show _ = _; kernel_rfl, trivial, fun h => absurd rfl h, fun h => by cases h⟩
def ti29 : TI := ⟨32, .array 32 5, [.ints .u8 32 [0, 0, 0, 0, 0, 0, 0, 0, 0, 0, 0, 0, 0, 0, 0, 0, 0, 0, 0, 0, 0, 0, 0, 0, 0, 0, 0, 0, 0, 0, 0, 0]], 1, [], true, 0⟩
theorem ty29 : TyOK Try.prog 29 ti29 := ⟨by kernel_rfl, by kernel_rfl, rfl, rfl, rfl, rfl, by show _ = _; kernel_rfl, trivial, fun h => absurd rfl h, fun _ => eqs_arr (e := 5) (by kernel_rfl) (by kernel_rfl) ⟨.u8, by kernel_rfl⟩ (by kernel_rfl)⟩
def ti34 : TI := ⟨1, .slice 35, [.raw (.slice none 0 0)], 1, [], false, 0⟩
theorem ty34 : TyOK Try.prog 34 ti34 := ⟨by kernel_rfl, by kernel_rfl, rfl, rfl, rfl, rfl, by show _ = _; kernel_rfl, trivial, fun h => absurd rfl h, fun h => by cases h⟩
def ti35 : TI := ⟨1, (Go.TypeDesc.int Go.IntKind.u16), [.int .u16 0], 0, [], false, 0⟩
theorem ty35 : TyOK Try.prog 35 ti35 := ⟨by kernel_rfl, by kernel_rfl, rfl, rfl, rfl, rfl, trivial, trivial, fun h => absurd rfl h, fun h => by cases h⟩
def ti37 : TI := ⟨1, (Go.TypeDesc.int Go.IntKind.u64), [.int .u64 0], 0, [], false, 0⟩
theorem ty37 : TyOK Try.prog 37 ti37 := ⟨by kernel_rfl, by kernel_rfl, rfl, rfl, rfl, rfl, trivial, trivial, fun h => absurd rfl h, fun h => by cases h⟩
def ti39 : TI := ⟨4, .array 4 37, [.ints .u64 4 [0, 0, 0, 0]], 1, [], true, 0⟩
theorem ty39 : TyOK Try.prog 39 ti39 := ⟨by kernel_rfl, by kernel_rfl, rfl, rfl, rfl, rfl, by show _ = _; kernel_rfl, trivial, fun h => absurd rfl h, fun _ => eqs_arr (e := 37) (by kernel_rfl) (by kernel_rfl) ⟨.u64, by kernel_rfl⟩ (by kernel_rfl)⟩
def ti46 : TI := ⟨2, .array 2 9, [.str ByteArray.empty, .str ByteArray.empty], 1, [], false, 0⟩
theorem ty46 : TyOK Try.prog 46 ti46 := ⟨by kernel_rfl, by kernel_rfl, rfl, rfl, rfl, rfl, by show _ = _; kernel_rfl, trivial, fun h => absurd rfl h, fun h => by cases h⟩
def ti55 : TI := ⟨5, (Go.TypeDesc.struct #[{ name := "M", type := 39, offset := 0, embedded := false, tag := "", pkgPath := "", byteOffset := 0 }, { name := "By", type := 35, offset := 4, embedded := false, tag := "", pkgPath := "", byteOffset := 32 }]), [.ints .u64 4 [0, 0, 0, 0], .int .u16 0], 0, [4, 1], false, 0⟩
theorem ty55 : TyOK Try.prog 55 ti55 := ⟨by kernel_rfl, by kernel_rfl, rfl, rfl, rfl, rfl, trivial, by show _ = _; kernel_rfl, fun h => absurd rfl h, fun h => by cases h⟩
def ti75 : TI := ⟨64, .array 64 5, [.ints .u8 64 [0, 0, 0, 0, 0, 0, 0, 0, 0, 0, 0, 0, 0, 0, 0, 0, 0, 0, 0, 0, 0, 0, 0, 0, 0, 0, 0, 0, 0, 0, 0, 0, 0, 0, 0, 0, 0, 0, 0, 0, 0, 0, 0, 0, 0, 0, 0, 0, 0, 0, 0, 0, 0, 0, 0, 0, 0, 0, 0, 0, 0, 0, 0, 0]], 1, [], true, 0⟩
theorem ty75 : TyOK Try.prog 75 ti75 := ⟨by kernel_rfl, by kernel_rfl, rfl, rfl, rfl, rfl, by show _ = _; kernel_rfl, trivial, fun h => absurd rfl h, fun _ => eqs_arr (e := 5) (by kernel_rfl) (by kernel_rfl) ⟨.u8, by kernel_rfl⟩ (by kernel_rfl)⟩
def ti77 : TI := ⟨1, (Go.TypeDesc.pointer 117), [.raw (.pointer none)], 0, [], false, 0⟩
theorem ty77 : TyOK Try.prog 77 ti77 := ⟨by kernel_rfl, by kernel_rfl, rfl, rfl, rfl, rfl, trivial, trivial, fun h => absurd rfl h, fun h => by cases h⟩
def ti88 : TI := ⟨8, .array 8 37, [.ints .u64 8 [0, 0, 0, 0, 0, 0, 0, 0]], 1, [], true, 0⟩
theorem ty88 : TyOK Try.prog 88 ti88 := ⟨by kernel_rfl, by kernel_rfl, rfl, rfl, rfl, rfl, by show _ = _; kernel_rfl, trivial, fun h => absurd rfl h, fun _ => eqs_arr (e := 37) (by kernel_rfl) (by kernel_rfl) ⟨.u64, by kernel_rfl⟩ (by kernel_rfl)⟩
def ti91 : TI := ⟨1, (Go.TypeDesc.int Go.IntKind.u64), [.int .u64 0], 0, [], false, 0⟩
theorem ty91 : TyOK Try.prog 91 ti91 := ⟨by kernel_rfl, by kernel_rfl, rfl, rfl, rfl, rfl, trivial, trivial, fun h => absurd rfl h, fun h => by cases h⟩
def ti92 : TI := ⟨2, .array 2 37, [.ints .u64 2 [0, 0]], 1, [], true, 0⟩
theorem ty92 : TyOK Try.prog 92 ti92 := ⟨by kernel_rfl, by kernel_rfl, rfl, rfl, rfl, rfl, by show _ = _; kernel_rfl, trivial, fun h => absurd rfl h, fun _ => eqs_arr (e := 37) (by kernel_rfl) (by kernel_rfl) ⟨.u64, by kernel_rfl⟩ (by kernel_rfl)⟩
def ti93 : TI := ⟨16, .array 2 88, [.ints .u64 16 [0, 0, 0, 0, 0, 0, 0, 0, 0, 0, 0, 0, 0, 0, 0, 0]], 8, [], false, 0⟩
theorem ty93 : TyOK Try.prog 93 ti93 := ⟨by kernel_rfl, by kernel_rfl, rfl, rfl, rfl, rfl, by show _ = _; kernel_rfl, trivial, fun h => absurd rfl h, fun h => by cases h⟩
def ti110 : TI := ⟨1, (Go.TypeDesc.pointer 113), [.raw (.pointer none)], 0, [], false, 0⟩
theorem ty110 : TyOK Try.prog 110 ti110 := ⟨by kernel_rfl, by kernel_rfl, rfl, rfl, rfl, rfl, trivial, trivial, fun h => absurd rfl h, fun h => by cases h⟩
def ti111 : TI := ⟨1, (Go.TypeDesc.int Go.IntKind.u32), [.int .u32 0], 0, [], false, 0⟩
theorem ty111 : TyOK Try.prog 111 ti111 := ⟨by kernel_rfl, by kernel_rfl, rfl, rfl, rfl, rfl, trivial, trivial, fun h => absurd rfl h, fun h => by cases h⟩
def ti112 : TI := ⟨8, .array 8 111, [.ints .u32 8 [0, 0, 0, 0, 0, 0, 0, 0]], 1, [], true, 0⟩
theorem ty112 : TyOK Try.prog 112 ti112 := ⟨by kernel_rfl, by kernel_rfl, rfl, rfl, rfl, rfl, by show _ = _; kernel_rfl, trivial, fun h => absurd rfl h, fun _ => eqs_arr (e := 111) (by kernel_rfl) (by kernel_rfl) ⟨.u32, by kernel_rfl⟩ (by kernel_rfl)⟩
def ti113 : TI := ⟨8, .array 8 111, [.ints .u32 8 [0, 0, 0, 0, 0, 0, 0, 0]], 1, [], true, 0⟩
theorem ty113 : TyOK Try.prog 113 ti113 := ⟨by kernel_rfl, by kernel_rfl, rfl, rfl, rfl, rfl, by show _ = _; kernel_rfl, trivial, fun h => absurd rfl h, fun _ => eqs_arr (e := 111) (by kernel_rfl) (by kernel_rfl) ⟨.u32, by kernel_rfl⟩ (by kernel_rfl)⟩
def ti115 : TI := ⟨65, (Go.TypeDesc.struct #[{ name := "b", type := 75, offset := 0, embedded := false, tag := "", pkgPath := "burrow/shas", byteOffset := 0 }, { name := "many", type := 3, offset := 64, embedded := false, tag := "", pkgPath := "burrow/shas", byteOffset := 64 }]), [.ints .u8 64 [0, 0, 0, 0, 0, 0, 0, 0, 0, 0, 0, 0, 0, 0, 0, 0, 0, 0, 0, 0, 0, 0, 0, 0, 0, 0, 0, 0, 0, 0, 0, 0, 0, 0, 0, 0, 0, 0, 0, 0, 0, 0, 0, 0, 0, 0, 0, 0, 0, 0, 0, 0, 0, 0, 0, 0, 0, 0, 0, 0, 0, 0, 0, 0], .int .i64 0], 0, [64, 1], false, 0⟩
theorem ty115 : TyOK Try.prog 115 ti115 := ⟨by kernel_rfl, by kernel_rfl, rfl, rfl, rfl, rfl, trivial, by show _ = _; kernel_rfl, fun h => absurd rfl h, fun h => by cases h⟩
def ti117 : TI := ⟨67, (Go.TypeDesc.struct #[{ name := "s", type := 110, offset := 0, embedded := false, tag := "", pkgPath := "burrow/shas", byteOffset := 0 }, { name := "x", type := 115, offset := 1, embedded := false, tag := "", pkgPath := "burrow/shas", byteOffset := 8 }, { name := "many", type := 37, offset := 66, embedded := false, tag := "", pkgPath := "burrow/shas", byteOffset := 80 }]), [.raw (.pointer none), .ints .u8 64 [0, 0, 0, 0, 0, 0, 0, 0, 0, 0, 0, 0, 0, 0, 0, 0, 0, 0, 0, 0, 0, 0, 0, 0, 0, 0, 0, 0, 0, 0, 0, 0, 0, 0, 0, 0, 0, 0, 0, 0, 0, 0, 0, 0, 0, 0, 0, 0, 0, 0, 0, 0, 0, 0, 0, 0, 0, 0, 0, 0, 0, 0, 0, 0], .int .i64 0, .int .u64 0], 0, [1, 65, 1], false, 0⟩
theorem ty117 : TyOK Try.prog 117 ti117 := ⟨by kernel_rfl, by kernel_rfl, rfl, rfl, rfl, rfl, trivial, by show _ = _; kernel_rfl, fun h => absurd rfl h, fun h => by cases h⟩
def ti118 : TI := ⟨1, .slice 111, [.raw (.slice none 0 0)], 1, [], false, 0⟩
theorem ty118 : TyOK Try.prog 118 ti118 := ⟨by kernel_rfl, by kernel_rfl, rfl, rfl, rfl, rfl, by show _ = _; kernel_rfl, trivial, fun h => absurd rfl h, fun h => by cases h⟩
def ti121 : TI := ⟨1, .slice 39, [.raw (.slice none 0 0)], 4, [], false, 0⟩
theorem ty121 : TyOK Try.prog 121 ti121 := ⟨by kernel_rfl, by kernel_rfl, rfl, rfl, rfl, rfl, by show _ = _; kernel_rfl, trivial, fun h => absurd rfl h, fun h => by cases h⟩
def ti133 : TI := ⟨1, (Go.TypeDesc.pointer 115), [.raw (.pointer none)], 0, [], false, 0⟩
theorem ty133 : TyOK Try.prog 133 ti133 := ⟨by kernel_rfl, by kernel_rfl, rfl, rfl, rfl, rfl, trivial, trivial, fun h => absurd rfl h, fun h => by cases h⟩
def ti136 : TI := ⟨8, .array 8 5, [.ints .u8 8 [0, 0, 0, 0, 0, 0, 0, 0]], 1, [], true, 0⟩
theorem ty136 : TyOK Try.prog 136 ti136 := ⟨by kernel_rfl, by kernel_rfl, rfl, rfl, rfl, rfl, by show _ = _; kernel_rfl, trivial, fun h => absurd rfl h, fun _ => eqs_arr (e := 5) (by kernel_rfl) (by kernel_rfl) ⟨.u8, by kernel_rfl⟩ (by kernel_rfl)⟩
def ti139 : TI := ⟨64, .array 64 111, [.ints .u32 64 [0, 0, 0, 0, 0, 0, 0, 0, 0, 0, 0, 0, 0, 0, 0, 0, 0, 0, 0, 0, 0, 0, 0, 0, 0, 0, 0, 0, 0, 0, 0, 0, 0, 0, 0, 0, 0, 0, 0, 0, 0, 0, 0, 0, 0, 0, 0, 0, 0, 0, 0, 0, 0, 0, 0, 0, 0, 0, 0, 0, 0, 0, 0, 0]], 1, [], true, 0⟩
theorem ty139 : TyOK Try.prog 139 ti139 := ⟨by kernel_rfl, by kernel_rfl, rfl, rfl, rfl, rfl, by show _ = _; kernel_rfl, trivial, fun h => absurd rfl h, fun _ => eqs_arr (e := 111) (by kernel_rfl) (by kernel_rfl) ⟨.u32, by kernel_rfl⟩ (by kernel_rfl)⟩
def ti142 : TI := ⟨1, (Go.TypeDesc.interface #[("Error", 158)]), [.raw .nilIface], 0, [], false, 0⟩
theorem ty142 : TyOK Try.prog 142 ti142 := ⟨by kernel_rfl, by kernel_rfl, rfl, rfl, rfl, rfl, trivial, trivial, fun h => absurd rfl h, fun h => by cases h⟩
def ti148 : TI := ⟨1, .slice 37, [.raw (.slice none 0 0)], 1, [], false, 0⟩
theorem ty148 : TyOK Try.prog 148 ti148 := ⟨by kernel_rfl, by kernel_rfl, rfl, rfl, rfl, rfl, by show _ = _; kernel_rfl, trivial, fun h => absurd rfl h, fun h => by cases h⟩
def ti152 : TI := ⟨16, .array 16 111, [.ints .u32 16 [0, 0, 0, 0, 0, 0, 0, 0, 0, 0, 0, 0, 0, 0, 0, 0]], 1, [], true, 0⟩
theorem ty152 : TyOK Try.prog 152 ti152 := ⟨by kernel_rfl, by kernel_rfl, rfl, rfl, rfl, rfl, by show _ = _; kernel_rfl, trivial, fun h => absurd rfl h, fun _ => eqs_arr (e := 111) (by kernel_rfl) (by kernel_rfl) ⟨.u32, by kernel_rfl⟩ (by kernel_rfl)⟩
def ti154 : TI := ⟨1, .slice 3, [.raw (.slice none 0 0)], 1, [], false, 0⟩
theorem ty154 : TyOK Try.prog 154 ti154 := ⟨by kernel_rfl, by kernel_rfl, rfl, rfl, rfl, rfl, by show _ = _; kernel_rfl, trivial, fun h => absurd rfl h, fun h => by cases h⟩
def tys : Tab := [(3, ti3), (4, ti4), (5, ti5), (9, ti9), (22, ti22), (23, ti23), (29, ti29), (34, ti34), (35, ti35), (37, ti37), (39, ti39), (46, ti46), (55, ti55), (75, ti75), (77, ti77), (88, ti88), (91, ti91), (92, ti92), (93, ti93), (110, ti110), (111, ti111), (112, ti112), (113, ti113), (115, ti115), (117, ti117), (118, ti118), (121, ti121), (133, ti133), (136, ti136), (139, ti139), (142, ti142), (148, ti148), (152, ti152), (154, ti154)]
theorem tys_ok : TyAll Try.prog (getA tys) := tyAll_of (by
  intro p hp
  simp only [tys, List.mem_cons, List.not_mem_nil, or_false] at hp
  rcases hp with rfl | rfl | rfl | rfl | rfl | rfl | rfl | rfl | rfl | rfl | rfl | rfl | rfl | rfl | rfl | rfl | rfl | rfl | rfl | rfl | rfl | rfl | rfl | rfl | rfl | rfl | rfl | rfl | rfl | rfl | rfl | rfl | rfl | rfl
  · exact ty3
  · exact ty4
  · exact ty5
  · exact ty9
  · exact ty22
  · exact ty23
  · exact ty29
  · exact ty34
  · exact ty35
  · exact ty37
  · exact ty39
  · exact ty46
  · exact ty55
  · exact ty75
  · exact ty77
  · exact ty88
  · exact ty91
  · exact ty92
  · exact ty93
  · exact ty110
  · exact ty111
  · exact ty112
  · exact ty113
  · exact ty115
  · exact ty117
  · exact ty118
  · exact ty121
  · exact ty133
  · exact ty136
  · exact ty139
  · exact ty142
  · exact ty148
  · exact ty152
  · exact ty154)
end Go.Proofs

namespace Go.Proofs
open Go.VM
end Go.Proofs

namespace Go.Proofs
open Go.VM
end Go.Proofs

namespace Go.Proofs
open Go.VM
end Go.Proofs

namespace Go.Proofs
open Go.VM
end Go.Proofs

namespace Go.Proofs
open Go.VM
end Go.Proofs

namespace Go.Proofs
open Go.VM
end Go.Proofs

namespace Go.Proofs
open Go.VM
end Go.Proofs

namespace Go.Proofs
open Go.VM
end Go.Proofs

namespace Go.Proofs
open Go.VM
end Go.Proofs

namespace Go.Proofs
open Go.VM
end Go.Proofs

namespace Go.Proofs
open Go.VM
end Go.Proofs

namespace Go.VM
theorem iter_inv {X Y : Type} {stp : (X → Option Y) → X → Option Y} (I : Nat → X → Prop) (Q : Y → Prop) (h : ∀ m x, I m x → (∃ y, Q y ∧ ∀ rec, stp rec x = some y) ∨ (∃ x' m', m' < m ∧ I m' x' ∧ ∀ rec, stp rec x = rec x')) :
    ∀ m x, I m x → ∀ K, m < K → ∃ y, Q y ∧ iter stp K x = some y := by
  intro m
  induction m using Nat.strongRecOn with
  | _ m ih =>
    intro x hx K hK
    obtain ⟨k, rfl⟩ : ∃ k, K = k + 1 := ⟨K - 1, by omega⟩
    rcases h m x hx with ⟨y, hy, hs⟩ | ⟨x', m', hm, hi, hs⟩
    · exact ⟨y, hy, hs _⟩
    · obtain ⟨y, h1, h2⟩ := ih m' hm x' hi k (by omega)
      exact ⟨y, h1, by rw [iter, hs]; exact h2⟩
end Go.VM
namespace Go.Proofs
open Go.VM
end Go.Proofs

namespace Go.VM
end Go.VM
namespace Go.Proofs
open Go.VM
end Go.Proofs

namespace Go.Proofs
open Go.VM
end Go.Proofs

namespace Go.Proofs
open Go.VM
end Go.Proofs

namespace Go.Proofs
open Go.VM
end Go.Proofs

namespace Go.Proofs
open Go.VM
end Go.Proofs

namespace Go.Proofs
open Go.VM
theorem wf_u8 {z : Int} (h : (Lit.int .u8 z).wf = true) : ∃ n : Nat, n < 256 ∧ z = (n : Int) := by
  simp [Lit.wf, IntKind.min, IntKind.max, IntKind.signed, IntKind.bits] at h
  exact ⟨z.toNat, by omega, by omega⟩
end Go.Proofs

namespace Go.Proofs
open Go.VM
end Go.Proofs

namespace Go.Proofs
open Go.VM
end Go.Proofs

namespace Go.Proofs
open Go.VM
end Go.Proofs

namespace Go.Proofs
open Go.VM
end Go.Proofs

namespace Go.Proofs
open Go.VM
end Go.Proofs

namespace Go.Proofs
open Go.VM
end Go.Proofs

namespace Go.Proofs
open Go.VM
end Go.Proofs

namespace Go.Proofs
open Go.VM
end Go.Proofs

namespace Go.Proofs
open Go.VM
end Go.Proofs

namespace Go.Proofs
open Go.VM
end Go.Proofs

namespace Go.Proofs
open Go.VM
end Go.Proofs

namespace Go.Proofs
open Go.VM
end Go.Proofs

namespace Go.Proofs
open Go.VM
end Go.Proofs

namespace Go.Proofs
open Go.VM
end Go.Proofs

namespace Go.Proofs
open Go.VM
end Go.Proofs

namespace Go.Proofs
open Go.VM
def be : Nat → Nat → List Int
  | 0, _ => []
  | n + 1, x => be n (x / 256) ++ [((x % 256 : Nat) : Int)]
theorem be_length : ∀ n x : Nat, (be n x).length = n
  | 0, _ => rfl
  | n + 1, x => by rw [be, List.length_append, be_length n]; rfl
def octets (l : List Int) : Prop := ∀ x ∈ l, 0 ≤ x ∧ x < 256
theorem be_octets : ∀ n x : Nat, octets (be n x)
  | 0, _ => fun _ h => by cases h
  | n + 1, x => fun y h => by
    rw [be, List.mem_append] at h
    rcases h with h | h
    · exact be_octets n _ y h
    · simp only [List.mem_singleton] at h
      subst h
      omega
def tv (l : List Int) : Nat := l.foldl (fun a x => 256 * a + x.toNat) 0
theorem tv_snoc (l : List Int) (x : Int) : tv (l ++ [x]) = 256 * tv l + x.toNat := by simp [tv]
theorem tv_lt : ∀ (n : Nat) (l : List Int), l.length = n → octets l → tv l < 256 ^ n
  | 0, l, h, _ => by
    have : l = [] := List.length_eq_zero_iff.1 h
    subst this; simp [tv]
  | n + 1, l, h, ho => by
    have hne : l ≠ [] := by intro e; subst e; cases h
    rw [← List.dropLast_concat_getLast hne, tv_snoc]
    have h1 := tv_lt n l.dropLast (by simp [h]) (fun x hx => ho x (List.dropLast_subset l hx))
    have h2 := ho _ (List.getLast_mem hne)
    rw [Nat.pow_succ]
    omega
theorem padT_self (l : List Int) {n : Nat} (h : l.length = n) : padT l n = l := by
  subst h
  refine List.ext_getElem? fun i => ?_
  by_cases hi : i < l.length
  · simp [padT, hi]
  · rw [List.getElem?_eq_none (by simpa [padT] using hi), List.getElem?_eq_none (by omega)]
theorem subI_cut (l : List Int) (off m : Nat) (h : off + m ≤ l.length) : subI l off m = (l.drop off).take m := by
  refine List.ext_getElem? fun i => ?_
  rw [List.getElem?_take, List.getElem?_drop]
  by_cases hi : i < m
  · rw [if_pos hi]
    have : off + i < l.length := by omega
    simp [subI, hi, this]
  · rw [if_neg hi, List.getElem?_eq_none (by simpa [subI] using hi)]
theorem subI_self (l : List Int) {n : Nat} (h : l.length = n) : subI l 0 n = l := by
  rw [subI_cut l 0 n (by omega), List.drop_zero, List.take_of_length_le (by omega)]
theorem fitB_true {x : Nat} (h : x ≤ 140737488355328) : fitB x = true := by simp only [fitB, Nat.ble_eq]; exact h
theorem ble_true {x y : Nat} (h : x ≤ y) : Nat.ble x y = true := by simp only [Nat.ble_eq]; exact h
theorem be_mod : ∀ (n x : Nat), be n (x % 256 ^ n) = be n x
  | 0, _ => rfl
  | n + 1, x => by
    rw [be, be]
    have h1 : x % 256 ^ (n + 1) / 256 = x / 256 % 256 ^ n := by rw [Nat.pow_succ', Nat.mod_mul_right_div_self]
    have h2 : x % 256 ^ (n + 1) % 256 = x % 256 := by rw [Nat.pow_succ', Nat.mod_mul_right_mod]
    rw [h1, h2, be_mod n]
theorem tv_append (a b : List Int) : tv (a ++ b) = tv a * 256 ^ b.length + tv b := by
  have key : ∀ (b : List Int) (x : Nat), b.foldl (fun a x => 256 * a + x.toNat) x = x * 256 ^ b.length + b.foldl (fun a x => 256 * a + x.toNat) 0 := by
    intro b
    induction b with
    | nil => intro x; simp
    | cons y b ih =>
      intro x
      rw [List.foldl_cons, ih, List.foldl_cons, ih (256 * 0 + y.toNat), List.length_cons, Nat.pow_succ']
      have : (256 * x + y.toNat) * 256 ^ b.length = x * (256 * 256 ^ b.length) + y.toNat * 256 ^ b.length := by
        rw [Nat.add_mul, Nat.mul_comm 256 x, Nat.mul_assoc]
      rw [this, Nat.mul_zero, Nat.zero_add]; omega
  show (a ++ b).foldl _ 0 = _
  rw [List.foldl_append, key]
  rfl
theorem octets_append {a b : List Int} (ha : octets a) (hb : octets b) : octets (a ++ b) := fun x hx => (List.mem_append.1 hx).elim (ha x) (hb x)
end Go.Proofs
