/- Plain laws: lemmas that hold with no condition but those that each states. -/
import Derived.Test.YtlncodfolaoilaaQ4
namespace Go.VM
def Does (P : Program) (f : FuncId) (m : Nat) (vs : List VV) (M0 : List (Nat × Blk)) (t : VS) : Prop :=
  m ≤ t.n ∧ (∀ b x, getA t.M b = some x → b < t.n ∧ ∀ i ∈ bids x, i < t.n) ∧ ∀ v, getA t.L 0 = some v → v.okL ∧ (∀ i ∈ v.ids, i < t.n) ∧ ∀ (ρ : Nat → Nat) (w : World), (∀ u ∈ vs, u.okL ∧ ∀ i ∈ u.ids, i < m) →
    (∀ b x, getA M0 b = some x → Holds ρ w b x ∧ VV.mems x.1 = true ∧ (∀ i ∈ bids x, i < m) ∧ b < m) → (∀ b d, b ≠ d → Parted ρ (getA M0) b d) → (GL w ∧ ∀ b x, getA M0 b = some x → ∀ k, own ρ b x k → ∀ g ∈ globs, g.1 ≠ k) →
    Calls P f (vs.map (VV.den ρ)).toArray w fun e w' => ∃ ρ', e = .returned (v.den ρ') ∧ Left m M0 t ρ ρ' w w'
theorem hand_ok {P : Program} {f : FuncId} {fn : Func} {c : Code} (hf : P.funcs[f]? = some fn) (hb : fn.body = some c) (hname : (fn.name == "runtime.NumGoroutine") = false) {m : Nat}
    {X Y : Type} {av : X → List VV} {bl : X → List (Nat × Blk)} {inA : VS → Option X} {F : X → Option Y} {out : Y → VS} {des : ∀ α : Type, Y → (VS → Option α) → Option α}
    (hA : ∀ s x, inA s = some x → s = ⟨initL 0 (av x), bl x, m⟩) (hdes : ∀ α y k, des α y k = k (out y))
    (hF : ∀ x y, F x = some y → Does P f m (av x) (bl x) (out y)) : EntryOK P f (genE m inA F des) := by
  intro α vs M n k r h
  simp only [genE, genE.genW] at h
  generalize hord : orderOf 0 M (VV.idss vs) = ord at h
  cases hlen : Nat.beq ord.length m with
  | false => simp [hlen] at h
  | true =>
  have hlen' : ord.length = m := by simpa using hlen
  simp only [hlen, cond_true] at h
  obtain ⟨s, hs, h⟩ := Option.bind_eq_some_iff.1 h
  obtain ⟨x, hx, h⟩ := Option.bind_eq_some_iff.1 h
  obtain ⟨y, hy, h⟩ := Option.bind_eq_some_iff.1 h
  rw [hdes] at h
  have hren := canonW_spec hs
  have hsx := hA s x hx
  obtain ⟨hmt, hstat, ht2⟩ := hF x y hy
  generalize out y = t at *

  unfold finE at h
  split at h
  case h_2 => cases h
  rename_i v hL
  have hv : getA t.L 0 = some v := by rw [hL]; simp [getA]
  obtain ⟨hok, hvi, hcall⟩ := ht2 v hv
  cases hkeys : (keysIn (renM (outR ord m n) (noRo t.M t.M)) (ownL M (hasM M ord)) && oldIn (hasM M ord) ord m t.M && memsM t.M) with
  | false => simp [hkeys] at h
  | true =>
  simp only [hkeys, cond_true] at h
  simp only [Bool.and_eq_true] at hkeys
  obtain ⟨⟨hk1, hk2⟩, hk3⟩ := hkeys

  obtain ⟨τ, hτ1, hτ2⟩ := hren.Lre
  have hav : av x = vs.map (VV.ren τ) := by
    rw [hsx, initL_ren] at hτ1
    exact initL_inj hτ1
  have hvids : ∀ u ∈ vs, ∀ i ∈ u.ids, ord.getD (τ i) 0 = i ∧ τ i < ord.length := fun u hu i hi => by
    obtain ⟨t, ht⟩ := initL_mem (i := 0) hu
    exact hτ2 (t, u) ht i hi
  have hM : s.M = bl x := by rw [hsx]
  refine ⟨_, _, h, ⟨fn, hf, hname, by rw [hb]; rfl⟩, fun b hb => (hasM_iff.1 hb).2, fun ρ p w hu hmm hinj hpn hgd => ?_⟩
  have hordp : ∀ i ∈ ord, p i := by
    rw [← hord]
    refine reach_p (fun j hj => ?_) fun b hb x hx j hj => ?_
    · rcases insNew_mem.1 hj with hj | hj
      · simp at hj
      · obtain ⟨u, hu1, hu2⟩ := mem_idss.1 hj
        exact (hu u hu1).2 j hu2
    · refine (hmm b (hasM_iff.2 ⟨?_, by simp [hx]⟩) x hx).2.2 j hj
      rw [← hord]; exact hb
  have hσp : ∀ i, i < m → p (ord.getD i 0) := fun i hi => hordp _ (by
    rw [List.getD_eq_getElem?_getD, List.getElem?_eq_getElem (by omega)]; exact List.getElem_mem _)
  have hRp : ∀ j, j < t.n → p (outR ord m n j) ∨ (n ≤ outR ord m n j ∧ outR ord m n j < n + (t.n - m)) := by
    intro j hj
    unfold outR
    cases hb : Nat.blt j m with
    | true => simp only [cond_true]; exact .inl (hσp j (by simpa [Nat.blt_eq] using hb))
    | false =>
      simp only [cond_false]
      have : ¬ j < m := by intro hlt; have : Nat.blt j m = true := by simpa [Nat.blt_eq] using hlt
                           rw [hb] at this; cases this
      exact .inr ⟨by omega, by omega⟩
  have hkey := hcall (fun i => ρ (ord.getD i 0)) w (fun u hu' => by
      rw [hav] at hu'
      obtain ⟨u0, hu0, rfl⟩ := List.mem_map.1 hu'
      refine ⟨okL_ren.2 (hu u0 hu0).1, fun i hi => ?_⟩
      rw [ids_ren] at hi
      obtain ⟨j, hj, rfl⟩ := List.mem_map.1 hi
      have := (hvids u0 hu0 j hj).2
      omega)
    (fun b z hz => by
      rw [← hM] at hz
      obtain ⟨z0, e1, e2, e3, e4⟩ := hren.M b z hz
      obtain ⟨m1, m2, _⟩ := hmm (ord.getD b 0) (hasM_iff.2 ⟨by rw [List.getD_eq_getElem?_getD, List.getElem?_eq_getElem e3]; exact List.getElem_mem _, by rw [e1]; rfl⟩) z0 e1
      subst e2
      exact ⟨Holds_ren.1 m1, by simpa [renB, mems_ren] using m2, fun i hi => by have := e4 i hi; omega, by omega⟩)
    (fun b d hbd z z' hz hz' q hq ho => by
      rw [← hM] at hz hz'
      obtain ⟨z0, e1, e2, e3, _⟩ := hren.M b z hz
      obtain ⟨z1, f1, f2, f3, _⟩ := hren.M d z' hz'
      subst e2; subst f2
      have in1 : ord.getD b 0 ∈ hasM M ord := hasM_iff.2 ⟨by rw [List.getD_eq_getElem?_getD, List.getElem?_eq_getElem e3]; exact List.getElem_mem _, by rw [e1]; rfl⟩
      have in2 : ord.getD d 0 ∈ hasM M ord := hasM_iff.2 ⟨by rw [List.getD_eq_getElem?_getD, List.getElem?_eq_getElem f3]; exact List.getElem_mem _, by rw [f1]; rfl⟩
      exact hinj _ _ in1 in2 (fun e => hbd (hren.inj b d e3 f3 e)) _ _ e1 f1 q (own_ren.2 hq) (occ_ren.2 ho))
    ⟨hgd.1, fun b z hz q hq g hg => by
      rw [← hM] at hz
      obtain ⟨z0, e1, e2, e3, _⟩ := hren.M b z hz
      subst e2
      exact hgd.2 (ord.getD b 0) (hasM_iff.2 ⟨by rw [List.getD_eq_getElem?_getD, List.getElem?_eq_getElem e3]; exact List.getElem_mem _, by rw [e1]; rfl⟩) _ e1 q (own_ren.2 hq) g hg⟩
  have hvs' : ((av x).map (VV.den fun i => ρ (ord.getD i 0))).toArray = (vs.map (VV.den ρ)).toArray := by
    rw [hav, List.map_map]
    congr 1
    refine List.map_congr_left fun u hu' => ?_
    rw [Function.comp, den_ren]
    refine den_congr u fun i hi => ?_
    rw [(hvids u hu' i hi).1]
  rw [hvs'] at hkey
  refine ⟨⟨okL_ren.2 hok, fun i hi => ?_, fun b blk hg => ?_, fun b hb => hordp b (hasM_iff.1 hb).1⟩, hkey.mono fun e w' ⟨ρ1, he, hleft⟩ => ?_⟩
  · rw [ids_ren] at hi
    obtain ⟨j, hj, rfl⟩ := List.mem_map.1 hi
    exact hRp j (hvi j hj)
  · obtain ⟨j, z, e1, _, rfl, rfl⟩ := renM_noRo_get hg
    obtain ⟨j1, j2⟩ := hstat j z e1
    refine ⟨?_, by simpa [renB, mems_ren] using memsM_spec hk3 e1, fun i hi => ?_⟩
    · by_cases hjm : j < m
      · left
        have hb : Nat.blt j m = true := by simpa [Nat.blt_eq] using hjm
        simp only [outR, hb, cond_true]
        exact oldIn_spec hk2 e1 hjm
      · right
        have hb : Nat.blt j m = false := by
          cases hb : Nat.blt j m with
          | false => rfl
          | true => exact absurd (by simpa [Nat.blt_eq] using hb) hjm
        simp only [outR, hb, cond_false]
        exact ⟨by omega, by omega⟩
    · rw [bids_ren] at hi
      obtain ⟨q, hq, rfl⟩ := List.mem_map.1 hi
      exact hRp q (j2 q hq)
  · let ρ' : Nat → Nat := fun j => if n ≤ j ∧ j < n + (t.n - m) then ρ1 (m + (j - n)) else ρ j
    have hag : ∀ i, ¬ (n ≤ i ∧ i < n + (t.n - m)) → ρ' i = ρ i := fun i hi => if_neg hi
    have hpρ : ∀ i, p i → ρ' i = ρ i := fun i hi => hag i (hpn i hi)
    have hR' : ∀ j, j < t.n → ρ' (outR ord m n j) = ρ1 j := by
      intro j hj
      unfold outR
      cases hb : Nat.blt j m with
      | true =>
        have hjm : j < m := by simpa [Nat.blt_eq] using hb
        simp only [cond_true]
        rw [hpρ _ (hσp j hjm), hleft.base j hjm]
      | false =>
        have hjm : ¬ j < m := by intro hlt; have : Nat.blt j m = true := by simpa [Nat.blt_eq] using hlt
                                 rw [hb] at this; cases this
        simp only [cond_false]
        show (if n ≤ n + (j - m) ∧ n + (j - m) < n + (t.n - m) then ρ1 (m + (n + (j - m) - n)) else ρ (n + (j - m))) = ρ1 j
        rw [if_pos ⟨by omega, by omega⟩]
        congr 1; omega
    have hown : ∀ j x, getA t.M j = some x → ∀ k, own ρ' (outR ord m n j) (renB (outR ord m n) x) k ↔ own ρ1 j x k := fun j x hx k => by
      obtain ⟨j1, j2⟩ := hstat j x hx
      rw [own_ren]
      exact own_congr (hR' j j1) fun i hi => hR' i (j2 i hi)
    have hocc : ∀ j x, getA t.M j = some x → ∀ k, occ ρ' (outR ord m n j) (renB (outR ord m n) x) k ↔ occ ρ1 j x k := fun j x hx k => by
      obtain ⟨j1, j2⟩ := hstat j x hx
      rw [occ_ren]
      exact occ_congr (hR' j j1) fun i hi => hR' i (j2 i hi)

    have hin : ∀ d z, getA (bl x) d = some z → ∀ k, own (fun i => ρ (ord.getD i 0)) d z k → ord.getD d 0 ∈ hasM M ord ∧ ∃ z0, getA M (ord.getD d 0) = some z0 ∧ own ρ' (ord.getD d 0) z0 k := by
      intro d z hz k hk
      rw [← hM] at hz
      obtain ⟨z0, e1, e2, e3, e4⟩ := hren.M d z hz
      have hin : ord.getD d 0 ∈ ord := by rw [List.getD_eq_getElem?_getD, List.getElem?_eq_getElem e3]; exact List.getElem_mem _
      have hin2 : ord.getD d 0 ∈ hasM M ord := hasM_iff.2 ⟨hin, by rw [e1]; rfl⟩
      refine ⟨hin2, z0, e1, ?_⟩
      have h3 : own ρ (ord.getD d 0) z0 k := by rw [e2]; exact own_ren.2 hk
      exact (own_congr (hpρ _ (hordp _ hin)) fun i hi => hpρ i ((hmm _ hin2 z0 e1).2.2 i hi)).2 h3
    refine ⟨ρ', ?_, hag, ⟨hleft.os, hleft.tape, hleft.output, hleft.size, fun b z hz => ?_, fun b z hz k hk => ?_, fun b d hbd z z' hz hz' k hk ho => ?_, fun k hk h1 h2 => ?_⟩⟩
    · rw [he, den_ren]
      congr 1
      exact den_congr v fun i hi => (hR' i (hvi i hi)).symm
    · obtain ⟨j, z, e1, _, rfl, rfl⟩ := renM_noRo_get hz
      obtain ⟨j1, j2⟩ := hstat j z e1
      exact Holds_ren.2 ((hleft.mm j z e1).congr (hR' j j1) (fun i hi => hR' i (j2 i hi)) fun _ _ => rfl)
    · obtain ⟨j, z, e1, e0, rfl, rfl⟩ := renM_noRo_get hz
      rcases hleft.src j z e1 k ((hown j z e1 k).1 (occ_not_ro (by rw [isRo_ren]; exact e0) hk)) with hs | ⟨d, y', hd, hdo⟩
      · exact .inl hs
      · obtain ⟨g1, z0, g2, g3⟩ := hin d y' hd k hdo
        exact .inr ⟨_, g1, z0, g2, occ_of_own g3, fun _ => g3, fun _ => keysIn_spec hk1 _ (ownL_mem g1 (own_not_ro g2 g3))⟩
    · obtain ⟨j, z, e1, _, rfl, rfl⟩ := renM_noRo_get hz
      obtain ⟨j', z', f1, _, rfl, rfl⟩ := renM_noRo_get hz'
      exact hleft.inj j j' (fun e => hbd (by rw [e])) z z' e1 f1 k ((hown j z e1 k).1 hk) ((hocc j' z' f1 k).1 ho)
    · refine hleft.kept k hk fun d y' hd hdo => ?_
      obtain ⟨g1, z0, g2, g3⟩ := hin d y' hd k hdo
      exact h2 _ g1 z0 g2 (keysIn_spec hk1 _ (ownL_mem g1 (own_not_ro g2 g3))) g3
end Go.VM
