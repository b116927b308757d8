/- Plain laws: lemmas that hold with no condition but those that each states. -/
import Derived.Test.YtlncodfolaoilaaQ2
namespace Go.VM
section
variable {P : Program} {ρ : Nat → Nat} {p : Nat → Prop} {M : List (Nat × Blk)} {w : World}
def ViewOK (P : Program) (M : List (Nat × Blk)) (ρ : Nat → Nat) (p : Nat → Prop) (w : World) (n n1 : Nat) (vs vs1 : List VV) (B : List (Nat × Blk)) (rds : List Nat) : Prop :=
  ∃ ρ1 : Nat → Nat, (∀ i, ¬ (n ≤ i ∧ i < n1) → ρ1 i = ρ i) ∧ vs1.map (VV.den ρ1) = vs.map (VV.den ρ) ∧ (∀ u ∈ vs1, u.okL ∧ ∀ i ∈ u.ids, p i ∨ (n ≤ i ∧ i < n1)) ∧
    (∀ b x, getA B b = some x → Holds ρ1 w b x ∧ VV.mems x.1 = true ∧ (∀ i ∈ bids x, p i ∨ (n ≤ i ∧ i < n1)) ∧ isRo x.2.2 = true ∧ ∀ k, occ ρ1 b x k → ∃ d ∈ rds, ∃ y, getA M d = some y ∧ occ ρ d y k) ∧
    (∀ b ∈ rds, p b)
theorem view_core {f : FuncId} {E : Entry} (hE : EntryOK P f E) {α : Type} {vs vs1 : List VV} {B : List (Nat × Blk)} {rds : List Nat} {n n1 : Nat} {k : VV → ME → Option α} {r : α}
    (h2 : E α vs1 (B ++ hideM M rds M) n1 (fun v me => bif clean n n1 rds me.up && rdB n n1 B me.rd then k v { rd := rds ++ outside n n1 me.rd, up := me.up, nn := (n1 - n) + me.nn } else none) = some r)
    (hle : n ≤ n1) (hkeys : ∀ b x, getA B b = some x → n ≤ b ∧ b < n1) (hrds : ∀ b ∈ rds, (getA M b).isSome)
    (hV : ∀ ρ p w, (∀ u ∈ vs, u.okL ∧ ∀ i ∈ u.ids, p i) → (∀ b ∈ rds, MmOK ρ p M w b) → (∀ i, p i → ¬ (n ≤ i ∧ i < n1)) → ViewOK P M ρ p w n n1 vs vs1 B rds) :
    ∃ v me, k v me = some r ∧ CallOK P f vs M n v me := by
  obtain ⟨v, me1, h3, hcall⟩ := hE α vs1 _ n1 _ r h2
  cases hcl : (clean n n1 rds me1.up && rdB n n1 B me1.rd) with
  | false => simp [hcl] at h3
  | true =>
  simp only [hcl, cond_true] at h3
  simp only [Bool.and_eq_true] at hcl
  obtain ⟨hcl, hrdB⟩ := hcl
  obtain ⟨c1, c2, c3⟩ := hcall
  have hM1 : ∀ b x, getA (B ++ hideM M rds M) b = some x → getA B b = some x ∨ (getA B b = none ∧ x = ([], 0, .dead) ∧ b ∈ rds) ∨ (getA B b = none ∧ getA M b = some x ∧ (b ∈ rds → roAt M b = true)) := by
    intro b x hx
    rw [getA_append] at hx
    cases hb : getA B b with
    | some z => rw [hb] at hx; simp only [Option.some_or, Option.some.injEq] at hx; subst hx; exact .inl rfl
    | none =>
      rw [hb] at hx
      simp only [Option.none_or] at hx
      rcases hideM_get hx with ⟨a1, a2⟩ | ⟨a1, a2⟩
      · exact .inr (.inl ⟨rfl, a1, a2⟩)
      · exact .inr (.inr ⟨rfl, a1, a2⟩)
  refine ⟨v, _, h3, c1, fun b hb => ?_, fun ρ p w hu hmm hpart hpn hgd => ?_⟩
  · rcases List.mem_append.1 hb with hb | hb
    · exact hrds b hb
    · obtain ⟨hb1, hb2⟩ := outside_iff.1 hb
      obtain ⟨x, hx⟩ := Option.isSome_iff_exists.1 (c2 b hb1)
      rcases hM1 b x hx with h | ⟨_, _, h⟩ | ⟨_, h, _⟩
      · exact absurd (hkeys b x h) hb2
      · exact hrds b h
      · rw [h]; rfl
  · have hmmR : ∀ b ∈ rds, MmOK ρ p M w b := fun b hb => hmm b (List.mem_append.2 (.inl hb))
    have hpn0 : ∀ i, p i → ¬ (n ≤ i ∧ i < n1) := fun i hi h => hpn i hi ⟨h.1, by simp only; omega⟩
    obtain ⟨ρ1, k2, k3, k4, k5, k6⟩ := hV ρ p w hu hmmR hpn0
    have hρ1 : ∀ i, p i → ρ1 i = ρ i := fun i hi => k2 i (hpn0 i hi)
    have memO : ∀ {b}, b ∈ me1.rd → getA B b = none → b ∈ rds ++ outside n n1 me1.rd ∧ ¬ (n ≤ b ∧ b < n1) := fun hb hB =>
      have h := rdB_spec hrdB hb hB
      ⟨List.mem_append.2 (.inr (outside_iff.2 ⟨hb, h⟩)), h⟩
    have ownO : ∀ {b x}, b ∈ me1.rd → getA B b = none → getA M b = some x → ∀ k, own ρ1 b x k ↔ own ρ b x k := fun {b x} hb hB hx k =>
      own_congr (k2 b (memO hb hB).2) fun i hi => hρ1 i ((hmm b (memO hb hB).1 x hx).2.2 i hi)
    have occO : ∀ {b x}, b ∈ me1.rd → getA B b = none → getA M b = some x → ∀ k, occ ρ1 b x k ↔ occ ρ b x k := fun {b x} hb hB hx k =>
      occ_congr (k2 b (memO hb hB).2) fun i hi => hρ1 i ((hmm b (memO hb hB).1 x hx).2.2 i hi)
    obtain ⟨rs1, calls⟩ := c3 ρ1 (fun i => p i ∨ (n ≤ i ∧ i < n1)) w k4 (fun b hb blk hblk => by
        rcases hM1 b blk hblk with h | ⟨_, rfl, _⟩ | ⟨hB, h, _⟩
        · obtain ⟨a2, a3, a4, _⟩ := k5 b blk h
          exact ⟨a2, a3, a4⟩
        · exact ⟨rfl, rfl, fun i hi => by simp [bids, VV.idss] at hi⟩
        · obtain ⟨m1, m2, m3⟩ := hmm b (memO hb hB).1 blk h
          exact ⟨m1.congr (k2 b (memO hb hB).2) (fun i hi => hρ1 i (m3 i hi)) fun _ _ => rfl, m2, fun i hi => .inl (m3 i hi)⟩)
      (fun b c hb hc hbc x y hx hy q ho hoc => by
        rcases hM1 b x hx with h | ⟨_, rfl, _⟩ | ⟨hB, h, hr⟩
        · exact own_no_ro (k5 b x h).2.2.2.1 ho
        · simp [own] at ho
        · have ho' := (ownO hb hB h q).1 ho
          rcases hM1 c y hy with h' | ⟨_, rfl, _⟩ | ⟨hB', h', _⟩
          · obtain ⟨d, hd, z, hz, hoz⟩ := (k5 c y h').2.2.2.2 q hoc
            have hbd : b ≠ d := by
              rintro rfl
              have := hr hd
              simp only [roAt, h] at this
              exact own_no_ro this ho
            exact hpart b d (memO hb hB).1 (List.mem_append.2 (.inl hd)) hbd x z h hz q ho' hoz
          · simp [occ, own] at hoc
          · exact hpart b c (memO hb hB).1 (memO hc hB').1 hbc x y h h' q ho' ((occO hc hB' h' q).1 hoc))
      (fun i hi => by
        rcases hi with hi | hi
        · intro hin; exact hpn i hi ⟨by omega, by simp only; omega⟩
        · omega)
      ⟨hgd.1, fun b hb x hx q ho g hg => by
        rcases hM1 b x hx with h | ⟨_, rfl, _⟩ | ⟨hB, h, _⟩
        · exact absurd ho (own_no_ro (k5 b x h).2.2.2.1)
        · simp [own] at ho
        · exact hgd.2 b (memO hb hB).1 x h q ((ownO hb hB h q).1 ho) g hg⟩
    have hids : ∀ i, (p i ∨ (n ≤ i ∧ i < n1)) ∨ (n1 ≤ i ∧ i < n1 + me1.nn) → p i ∨ (n ≤ i ∧ i < n + (n1 - n + me1.nn)) := by
      rintro i ((h | h) | h)
      · exact .inl h
      · exact .inr ⟨h.1, by omega⟩
      · exact .inr ⟨by omega, by omega⟩
    refine ⟨⟨rs1.ok, fun i hi => hids i (rs1.ids i hi), fun b blk hb => ?_, fun b hb => ?_⟩, ?_⟩
    · obtain ⟨u1, u2, u3⟩ := rs1.up b blk hb
      refine ⟨?_, u2, fun i hi => hids i (u3 i hi)⟩
      rcases u1 with u1 | u1
      · exact .inl (List.mem_append.2 (.inr (outside_iff.2 ⟨u1, (clean_get hcl hb).2.2⟩)))
      · exact .inr ⟨by omega, by simp only; omega⟩
    · rcases List.mem_append.1 hb with hb | hb
      · exact k6 b hb
      · obtain ⟨hb1, hb2⟩ := outside_iff.1 hb
        rcases rs1.rd b hb1 with h | h
        · exact h
        · exact absurd h hb2
    · rw [k3] at calls
      refine calls.mono fun e w' ⟨ρ', he, hag, hms⟩ => ⟨ρ', he, fun i hi => by
        rw [hag i (fun h => hi ⟨by omega, by simp only; omega⟩), k2 i (fun h => hi ⟨h.1, by simp only; omega⟩)], ⟨hms.os, hms.tape, hms.output, hms.size, hms.at', fun b x hx q hq => ?_, hms.cross, fun q hq g1 g2 => ?_⟩⟩
      · rcases hms.src b x hx q hq with h | ⟨d, hd, y, hy, o1, o2, o3⟩
        · exact .inl h
        · have ho := o2 (occ_not_ro (clean_get hcl hx).1 hq)
          rcases hM1 d y hy with h | ⟨_, rfl, _⟩ | ⟨hB, h, _⟩
          · exact absurd ho (own_no_ro (k5 d y h).2.2.2.1)
          · simp [own] at ho
          · exact .inr ⟨d, (memO hd hB).1, y, h, o1, o2, o3⟩
      · refine hms.kept q hq g1 fun d hd y hy hs ho => ?_
        rcases hM1 d y hy with h | ⟨_, rfl, _⟩ | ⟨hB, h, _⟩
        · exact own_no_ro (k5 d y h).2.2.2.1 ho
        · simp [own] at ho
        · exact g2 d (memO hd hB).1 y h hs ho
theorem view_at {v : VV} {rs : List VV} {m : Nat} {rd : List Nat} (h : srcS M v = some (true, rs, m, rd)) (hs : isStr v = false) (hroom : roomy v = true) (hmm : ∀ b ∈ rd, MmOK ρ p M w b) :
    ∃ q g, (VV.den ρ v = vwV (dec q) g 0 m) ∧ (m ≠ 0 → ∃ pre tail t fz, w.heap[(dec q).1]? = some (.cells (pre ++ VV.cellss ρ rs ++ tail).toArray t fz) ∧ pre.length = (dec q).2 ∧ ∃ d ∈ rd, ∃ y, getA M d = some y ∧ occ ρ d y (dec q).1) := by
  obtain ⟨ad, cap, t1, t2, t3, t4, t5, t6⟩ := srcS_at (w := w) h hs hroom hmm
  cases had : ad with
  | none =>
    obtain ⟨g, hg⟩ := view_onto (q := dec 0) (ad := none) (off := 0) (len := m) (cap := cap) t2 (fun _ => t3 had) (fun x hx => by cases hx)
    refine ⟨0, g, by rw [t1, had]; exact hg, fun h0 => ?_⟩
    have := t3 had
    omega
  | some x =>
    obtain ⟨gb, o, rfl⟩ := t4 x had
    obtain ⟨q, hq⟩ := dec_onto gb o
    obtain ⟨g, hg⟩ := view_onto (q := dec q) (ad := some ⟨gb, o, none⟩) (off := 0) (len := m) (cap := cap) t2 (fun h => by cases h) (fun x hx => by
      simp only [Option.some.injEq] at hx
      refine ⟨o, by rw [hq]; exact hx.symm, fun _ => by rw [hq]; rfl⟩)
    refine ⟨q, g, by rw [t1, had]; exact hg, fun h0 => ?_⟩
    obtain ⟨g', o', pre, tail, t, fz, e1, e2, e3, e4⟩ := t6 h0
    rw [had] at e1
    simp only [Option.some.injEq, Addr.mk.injEq, and_true] at e1
    obtain ⟨rfl, rfl⟩ := e1
    rw [hq]
    exact ⟨pre, tail, t, fz, e2, e3, e4⟩
def viewR (k : IntKind) (M : List (Nat × Blk)) : List VV → Nat → Option (Bool × List VV × List (Nat × Blk) × List Nat × Nat)
  | [], n => some (true, [], [], [], n)
  | v :: l, n => bif isStr v then none else (srcS M v).bind fun q => (viewR k M l (n + 2)).map fun r =>
      (q.1 && roomy v && r.1, .vw true n 0 q.2.2.1 (n + 1) :: r.2.1, (n, (fixR k q.2.1, 0, .ro)) :: r.2.2.1, q.2.2.2 ++ r.2.2.2.1, r.2.2.2.2)
def rowsE (i : Nat) (kd : IntKind) (E : Entry) : Entry := fun α vs M n k =>
  (vs[i]?).bind fun v => bif isStr v then none else (srcS M v).bind fun q => (viewR kd M q.2.1 (n + 2)).bind fun r => bif q.1 && roomy v && r.1 then
    E α (vs.set i (.vw true n 0 q.2.2.1 (n + 1))) (((n, (r.2.1, 0, .ro)) :: r.2.2.1) ++ hideM M (q.2.2.2 ++ r.2.2.2.1) M) r.2.2.2.2
      (fun v me => bif clean n r.2.2.2.2 (q.2.2.2 ++ r.2.2.2.1) me.up && rdB n r.2.2.2.2 ((n, (r.2.1, 0, .ro)) :: r.2.2.1) me.rd then
        k v { rd := (q.2.2.2 ++ r.2.2.2.1) ++ outside n r.2.2.2.2 me.rd, up := me.up, nn := (r.2.2.2.2 - n) + me.nn } else none) else none
theorem viewR_le {k : IntKind} : ∀ (l : List VV) (n : Nat) r, viewR k M l n = some r → n ≤ r.2.2.2.2 := by
  intro l
  induction l with
  | nil => intro n r h; simp only [viewR, Option.some.injEq] at h; subst h; exact Nat.le_refl _
  | cons v l ih =>
    intro n r h
    simp only [viewR] at h
    cases hs : isStr v with
    | true => simp [hs] at h
    | false =>
      rw [hs] at h
      simp only [cond_false] at h
      obtain ⟨q, _, h4⟩ := Option.bind_eq_some_iff.1 h
      obtain ⟨r', h5, h6⟩ := Option.map_eq_some_iff.1 h4
      have := ih _ _ h5
      subst h6
      show n ≤ r'.2.2.2.2
      omega
theorem viewR_rds {k : IntKind} : ∀ (l : List VV) (n : Nat) r, viewR k M l n = some r → ∀ b ∈ r.2.2.2.1, (getA M b).isSome := by
  intro l
  induction l with
  | nil => intro n r h; simp only [viewR, Option.some.injEq] at h; subst h; simp
  | cons v l ih =>
    intro n r h
    simp only [viewR] at h
    cases hs : isStr v with
    | true => simp [hs] at h
    | false =>
      rw [hs] at h
      simp only [cond_false] at h
      obtain ⟨q, h3, h4⟩ := Option.bind_eq_some_iff.1 h
      obtain ⟨r', h5, h6⟩ := Option.map_eq_some_iff.1 h4
      subst h6
      intro b hb
      rcases List.mem_append.1 hb with hb | hb
      · exact (srcS_rd h3 b hb).1
      · exact ih _ _ h5 b hb
theorem viewR_keys {k : IntKind} : ∀ (l : List VV) (n : Nat) r, viewR k M l n = some r → ∀ b x, getA r.2.2.1 b = some x → n ≤ b ∧ b < r.2.2.2.2 := by
  intro l
  induction l with
  | nil => intro n r h; simp only [viewR, Option.some.injEq] at h; subst h; intro b x hx; simp [getA] at hx
  | cons v l ih =>
    intro n r h
    have hle := viewR_le _ _ _ h
    simp only [viewR] at h
    cases hs : isStr v with
    | true => simp [hs] at h
    | false =>
      rw [hs] at h
      simp only [cond_false] at h
      obtain ⟨q, h3, h4⟩ := Option.bind_eq_some_iff.1 h
      obtain ⟨r', h5, h6⟩ := Option.map_eq_some_iff.1 h4
      have hle' := viewR_le _ _ _ h5
      have := ih _ _ h5
      subst h6
      intro b x hx
      simp only [getA] at hx
      cases hb : Nat.beq n b with
      | true =>
        have : n = b := by simpa using hb
        subst this
        exact ⟨Nat.le_refl _, by show n < r'.2.2.2.2; omega⟩
      | false =>
        simp only [hb, cond_false] at hx
        obtain ⟨a1, a2⟩ := this b x hx
        exact ⟨by omega, a2⟩
theorem viewR_spec (P : Program) {k : IntKind} {ρ0 : Nat → Nat} {p : Nat → Prop} {n0 : Nat} : ∀ (l : List VV) (n : Nat) (ρ : Nat → Nat) {vs1 : List VV} {B : List (Nat × Blk)} {rds : List Nat} {n1 : Nat},
    viewR k M l n = some (true, vs1, B, rds, n1) → n0 ≤ n → (∀ i, p i → ρ i = ρ0 i) → (∀ u ∈ l, u.one = true ∧ ∀ i ∈ u.ids, p i) → (∀ b ∈ rds, MmOK ρ0 p M w b) → (∀ i, p i → ¬ (n0 ≤ i ∧ i < n1)) →
    ∃ ρ1, (∀ i, ¬ (n ≤ i ∧ i < n1) → ρ1 i = ρ i) ∧ VV.cellss ρ1 vs1 = VV.cellss ρ0 l ∧ VV.mems vs1 = true ∧ (∀ i ∈ VV.idss vs1, n ≤ i ∧ i < n1) ∧
      (∀ b x, getA B b = some x → (n ≤ b ∧ b < n1) ∧ Holds ρ1 w b x ∧ VV.mems x.1 = true ∧ (∀ i ∈ bids x, p i) ∧ isRo x.2.2 = true ∧ ∀ k, occ ρ1 b x k → ∃ d ∈ rds, ∃ y, getA M d = some y ∧ occ ρ0 d y k) ∧
      (∀ b ∈ rds, p b)
  | [], n, ρ, vs1, B, rds, n1, h, _, _, _, _, _ => by
    simp only [viewR, Option.some.injEq, Prod.mk.injEq, true_and] at h
    obtain ⟨rfl, rfl, rfl, rfl⟩ := h
    exact ⟨ρ, fun _ _ => rfl, rfl, rfl, by simp [VV.idss], fun _ _ h => by simp [getA] at h, by simp⟩
  | v :: l, n, ρ, vs1, B, rds, n1, h, hn0, hρ, hu, hmm, hpn => by
    simp only [viewR] at h
    cases hs : isStr v with
    | true => simp [hs] at h
    | false =>
    rw [hs] at h
    simp only [cond_false] at h
    obtain ⟨⟨f, rs, m, rd⟩, h3, h4⟩ := Option.bind_eq_some_iff.1 h
    obtain ⟨⟨f', vs', B', rds', n'⟩, h5, h6⟩ := Option.map_eq_some_iff.1 h4
    simp only [Prod.mk.injEq, Bool.and_eq_true] at h6
    obtain ⟨⟨⟨rfl, hroom⟩, rfl⟩, rfl, rfl, rfl, rfl⟩ := h6
    obtain ⟨v1, v2⟩ := hu v (by simp)
    obtain ⟨s1, s2, s3, s4, s5⟩ := srcS_spec (P := P) (w := w) h3 (fun b hb => hmm b (List.mem_append.2 (.inl hb))) v2
    obtain ⟨q, g, hden, hat⟩ := view_at (w := w) h3 hs hroom (fun b hb => hmm b (List.mem_append.2 (.inl hb)))
    have hle : n + 2 ≤ n' := viewR_le _ _ _ h5
    let ρ' : Nat → Nat := fun j => if j = n then q else if j = n + 1 then g else ρ j
    have hag : ∀ j, ¬ (n ≤ j ∧ j < n + 2) → ρ' j = ρ j := fun j hj => by
      show (if j = n then _ else if j = n + 1 then _ else ρ j) = ρ j
      rw [if_neg (by omega), if_neg (by omega)]
    have r0 : ρ' n = q := by show (if n = n then _ else _) = _; simp
    have r1 : ρ' (n + 1) = g := by show (if n + 1 = n then _ else if n + 1 = n + 1 then _ else _) = _; simp
    have hpn' : ∀ j, p j → ¬ (n ≤ j ∧ j < n') := fun j hj h => hpn j hj ⟨by omega, h.2⟩
    have hpρ : ∀ j, p j → ρ' j = ρ j := fun j hj => hag j (fun ⟨a1, a2⟩ => hpn' j hj ⟨a1, by omega⟩)
    obtain ⟨ρ1, k2, k3, k3m, k4, k5, k6⟩ := viewR_spec P l (n + 2) ρ' h5 (by omega) (fun j hj => (hpρ j hj).trans (hρ j hj)) (fun u hu' => hu u (List.mem_cons_of_mem _ hu')) (fun b hb => hmm b (List.mem_append.2 (.inr hb))) hpn
    have e0 : ρ1 n = q := by rw [k2 n (by omega), r0]
    have e1 : ρ1 (n + 1) = g := by rw [k2 (n + 1) (by omega), r1]
    refine ⟨ρ1, fun j hj => by rw [k2 j (fun h => hj ⟨by omega, h.2⟩)]; exact hag j (fun h => hj ⟨h.1, by omega⟩), ?_, ?_, ?_, fun b x hx => ?_, fun b hb => ?_⟩
    · simp only [VV.cellss, k3]
      rw [one_cells (ρ := ρ0) v1, hden]
      simp only [VV.cells, e0, e1, baseOf, cond_true]
    · simp only [VV.mems, VV.mem, k3m, Bool.true_and]
    · intro i hi
      simp only [VV.idss, VV.ids, List.mem_append, List.mem_cons, List.not_mem_nil, or_false] at hi
      rcases hi with (rfl | rfl) | hi
      · omega
      · omega
      · have := k4 i hi; omega
    · simp only [getA] at hx
      cases hb : Nat.beq n b with
      | true =>
        have : n = b := by simpa using hb
        subst this
        simp only [hb, cond_true, Option.some.injEq] at hx
        subst hx
        have ec : VV.cellss ρ1 (fixR k rs) = VV.cellss ρ0 rs := by
          rw [(fixR_spec k rs ρ1).1]
          exact cellss_congr rs fun j hj => by
            have hpj := s4 j hj
            rw [k2 j (fun h => hpn' j hpj ⟨by omega, h.2⟩), hpρ j hpj, hρ j hpj]
        have hwf := (fixR_spec k rs ρ1).2.1
        refine ⟨⟨Nat.le_refl _, by omega⟩, ?_, by rw [(fixR_spec k rs ρ1).2.2.1]; exact s3, fun j hj => s4 j (by rw [← (fixR_spec k rs ρ1).2.2.2]; simpa [bids] using hj), rfl, fun k' hk => ?_⟩
        · simp only [Holds]
          intro h0
          obtain ⟨pre, tail, t, fz, g1, g2, _⟩ := hat (by omega)
          exact ⟨pre, tail, t, fz, by rw [e0, ec]; exact g1, by rw [e0]; exact g2⟩
        · simp only [occ, e0] at hk
          obtain ⟨pre, tail, t, fz, _, _, d, hd, y, hy, ho⟩ := hat (by omega)
          exact ⟨d, List.mem_append.2 (.inl hd), y, hy, by rw [hk.2]; exact ho⟩
      | false =>
        simp only [hb, cond_false] at hx
        obtain ⟨a1, a2, a3, a4, a5, a6⟩ := k5 b x hx
        refine ⟨⟨by omega, a1.2⟩, a2, a3, a4, a5, fun k' hk => ?_⟩
        obtain ⟨d, hd, y, hy, ho⟩ := a6 k' hk
        exact ⟨d, List.mem_append.2 (.inr hd), y, hy, ho⟩
    · rcases List.mem_append.1 hb with hb | hb
      · exact s5 b hb
      · exact k6 b hb
theorem viewR_one {k : IntKind} : ∀ (l : List VV) (n : Nat) r, viewR k M l n = some r → ∀ u ∈ l, u.one = true := by
  intro l
  induction l with
  | nil => intro n r _; simp
  | cons v l ih =>
    intro n r h
    simp only [viewR] at h
    cases hs : isStr v with
    | true => simp [hs] at h
    | false =>
      rw [hs] at h
      simp only [cond_false] at h
      obtain ⟨q, h3, h4⟩ := Option.bind_eq_some_iff.1 h
      obtain ⟨r', h5, _⟩ := Option.map_eq_some_iff.1 h4
      intro u hu
      rcases List.mem_cons.1 hu with rfl | hu
      · cases u <;> first | rfl | (simp [srcS] at h3)
      · exact ih _ _ h5 u hu
theorem rows_ok {f : FuncId} {i : Nat} {kd : IntKind} {E : Entry} (hE : EntryOK P f E) : EntryOK P f (rowsE i kd E) := by
  intro α vs M n k r h
  simp only [rowsE] at h
  obtain ⟨v, h1, h2⟩ := Option.bind_eq_some_iff.1 h
  cases hs : isStr v with
  | true => simp [hs] at h2
  | false =>
  rw [hs] at h2
  simp only [cond_false] at h2
  obtain ⟨⟨f0, rs, m, rd⟩, h3, h4⟩ := Option.bind_eq_some_iff.1 h2
  obtain ⟨⟨f1, vs1, B, rds, n1⟩, h5, h6⟩ := Option.bind_eq_some_iff.1 h4
  cases hb : (f0 && roomy v && f1) with
  | false => simp [hb] at h6
  | true =>
  simp only [hb, cond_true] at h6
  simp only [Bool.and_eq_true] at hb
  obtain ⟨⟨rfl, hroom⟩, rfl⟩ := hb
  have hle : n + 2 ≤ n1 := viewR_le _ _ _ h5
  refine view_core hE h6 (by omega) (fun b x hx => ?_) (fun b hb => ?_) fun ρ p w hu hmm hpn => ?_
  · simp only [getA] at hx
    cases hb : Nat.beq n b with
    | true => have : n = b := by simpa using hb
              omega
    | false =>
      simp only [hb, cond_false] at hx
      have := viewR_keys _ _ _ h5 b x hx
      simp only at this
      omega
  · rcases List.mem_append.1 hb with hb | hb
    · exact (srcS_rd h3 b hb).1
    · exact viewR_rds _ _ _ h5 b hb
  · have hv := List.mem_of_getElem? h1
    obtain ⟨v1, v2⟩ := hu v hv
    have hmm1 : ∀ b ∈ rd, MmOK ρ p M w b := fun b hb => hmm b (List.mem_append.2 (.inl hb))
    obtain ⟨s1, s2, s3, s4, s5⟩ := srcS_spec (P := P) (w := w) h3 hmm1 v2
    obtain ⟨q, g, hden, hat⟩ := view_at (w := w) h3 hs hroom hmm1
    have hone := viewR_one _ _ _ h5
    let ρ' : Nat → Nat := fun j => if j = n then q else if j = n + 1 then g else ρ j
    have hag : ∀ j, ¬ (n ≤ j ∧ j < n + 2) → ρ' j = ρ j := fun j hj => by
      show (if j = n then _ else if j = n + 1 then _ else ρ j) = ρ j
      rw [if_neg (by omega), if_neg (by omega)]
    have r0 : ρ' n = q := by show (if n = n then _ else _) = _; simp
    have r1 : ρ' (n + 1) = g := by show (if n + 1 = n then _ else if n + 1 = n + 1 then _ else _) = _; simp
    have hpρ : ∀ j, p j → ρ' j = ρ j := fun j hj => hag j (fun ⟨a1, a2⟩ => hpn j hj ⟨a1, by omega⟩)
    obtain ⟨ρ1, k2, k3, k3m, k4, k5, k6⟩ := viewR_spec P (w := w) (n0 := n) (ρ0 := ρ) (p := p) rs (n + 2) ρ' h5 (by omega) hpρ (fun u hu' => ⟨hone u hu', fun i hi => s4 i (mem_idss.2 ⟨u, hu', hi⟩)⟩) (fun b hb => hmm b (List.mem_append.2 (.inr hb))) hpn
    have e0 : ρ1 n = q := by rw [k2 n (by omega), r0]
    have e1 : ρ1 (n + 1) = g := by rw [k2 (n + 1) (by omega), r1]
    have hpρ1 : ∀ j, p j → ρ1 j = ρ j := fun j hj => by rw [k2 j (fun h => hpn j hj ⟨by omega, h.2⟩), hpρ j hj]
    refine ⟨ρ1, fun j hj => by rw [k2 j (fun h => hj ⟨by omega, h.2⟩)]; exact hag j (fun h => hj ⟨h.1, by omega⟩), ?_, fun u hu' => ?_, fun b x hx => ?_, fun b hb => ?_⟩
    · refine List.ext_getElem? fun j => ?_
      simp only [List.getElem?_map, List.getElem?_set]
      by_cases hj : i = j
      · subst hj
        have hlt := (List.getElem?_eq_some_iff.1 h1).1
        simp only [if_true, hlt, h1, Option.map_some]
        congr 1
        rw [hden]
        simp only [VV.den, VV.den0, VV.cells, List.headD_cons, e0, e1, baseOf, cond_true]
      · rw [if_neg hj]
        cases hq : vs[j]? with
        | none => rfl
        | some u =>
          simp only [Option.map_some, Option.some.injEq]
          exact den_congr u fun y hy => hpρ1 y ((hu u (List.mem_of_getElem? hq)).2 y hy)
    · rcases List.mem_or_eq_of_mem_set hu' with h | rfl
      · exact ⟨(hu u h).1, fun j hj => .inl ((hu u h).2 j hj)⟩
      · refine ⟨rfl, fun j hj => .inr ?_⟩
        simp only [VV.ids, List.mem_cons, List.not_mem_nil, or_false] at hj
        omega
    · simp only [getA] at hx
      cases hb : Nat.beq n b with
      | true =>
        have : n = b := by simpa using hb
        subst this
        simp only [hb, cond_true, Option.some.injEq] at hx
        subst hx
        have hwr : VV.ws vs1 = VV.ws rs := by rw [← cellss_length ρ1, k3, cellss_length]
        refine ⟨?_, k3m, fun j hj => .inr ?_, rfl, fun k' hk => ?_⟩
        · simp only [Holds]
          intro h0
          obtain ⟨pre, tail, t, fz, g1, g2, _⟩ := hat (by omega)
          exact ⟨pre, tail, t, fz, by rw [e0, k3]; exact g1, by rw [e0]; exact g2⟩
        · have := k4 j (by simpa [bids] using hj)
          omega
        · simp only [occ, e0] at hk
          obtain ⟨pre, tail, t, fz, _, _, d, hd, y, hy, ho⟩ := hat (by omega)
          exact ⟨d, List.mem_append.2 (.inl hd), y, hy, by rw [hk.2]; exact ho⟩
      | false =>
        simp only [hb, cond_false] at hx
        obtain ⟨a1, a2, a3, a4, a5, a6⟩ := k5 b x hx
        refine ⟨a2, a3, fun j hj => .inl (a4 j hj), a5, fun k' hk => ?_⟩
        obtain ⟨d, hd, y, hy, ho⟩ := a6 k' hk
        exact ⟨d, List.mem_append.2 (.inr hd), y, hy, ho⟩
    · rcases List.mem_append.1 hb with hb | hb
      · exact s5 b hb
      · exact k6 b hb
end
end Go.VM
