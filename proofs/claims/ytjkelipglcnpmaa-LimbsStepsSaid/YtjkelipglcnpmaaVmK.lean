/- The machine on virtual values: a part of its definition or of its soundness proof. -/
import Derived.Test.YtjkelipglcnpmaaVmJ
import Derived.LoopN
import Derived.Scope
namespace Go.VM

/-! ### Code -/

inductive Ex where
  | normal
  | exit (id : Nat)
  | ret

/-- An exit to block id ends there. -/
def Ex.at' (id : Nat) : Ex → Ex
  | .exit j => if j = id then .normal else .exit j
  | e => e

def Ex.out : Ex → Exit
  | .normal => .normal
  | .exit id => .exit id
  | .ret => .ret

/-- What is kept ahead of a loop: these temporaries, these blocks, this many numbers. -/
structure Hint where
  lv : List Nat
  bl : List Nat
  n : Nat

def pickA {α : Type} (l : List (Nat × α)) : List Nat → List (Nat × α)
  | [] => []
  | t :: ts => match getA l t with
    | some v => (t, v) :: pickA l ts
    | none => pickA l ts

def restr (h : Hint) (st : VS) : VS := ⟨pickA st.L h.lv, pickA st.M h.bl, h.n⟩

def restrOK (st : VS) : Bool :=
  (st.L.all fun p => p.2.ids.all fun i => Nat.blt i st.n) && st.M.all fun p => Nat.blt p.1 st.n && (VV.idss p.2.1).all fun i => Nat.blt i st.n

/-- A loop's summary. -/
abbrev Summ := ∀ α : Type, VS → (Ex → VS → Option α) → Option α

section
variable (ty : TypeId → Option TI) (sp : Spec) (sz n0 : Nat) (lp : Nat → Option (Hint × Summ))

def inBlk {α : Type} (id : Nat) (k : Ex → VS → Option α) : Ex → VS → Option α
  | .exit j, st => bif Nat.beq j id then k .normal st else k (.exit j) st
  | e, st => k e st

def litCond (L : List (Nat × VV)) (c : Operand) (b : Bool) : List (Nat × VV) := match c with
  | .tmp t => setA L t (.bool b)
  | _ => L

def xrun {α : Type} : Nat → Code → VS → (Ex → VS → Option α) → Option α
  | 0, _, _, _ => none
  | fuel + 1, c, st, k => match c with
    | .skip => k .normal st
    | .label _ => k .normal st
    | .region _ ops draw => xops ty sp sz ops ops.toList st [] fun st' tr => bif draw then (bif ordFrom ops [] 0 ops.toList tr.reverse then k .normal st' else none) else k .normal st'
    | .seq a b => xrun fuel a st fun e st' => match e with
      | .normal => xrun fuel b st' k
      | e => k e st'
    | .cond c a b => (ev st.L c).bind fun v => match v with
      | .bool t => bif t then xrun fuel a ⟨litCond st.L c true, st.M, st.n⟩ k else xrun fuel b ⟨litCond st.L c false, st.M, st.n⟩ k
      | _ => none
    | .block id (.loop c) => match lp id with
      | some hs => bif restrOK (restr hs.1 st) && Nat.ble n0 hs.1.n then hs.2 α (restr hs.1 st) (inBlk id k) else none
      | none => xrun fuel (.loop c) st (inBlk id k)
    | .block id c => xrun fuel c st (inBlk id k)
    | .loop c => xrun fuel c st fun e st' => match e with
      | .normal => xrun fuel (.loop c) st' k
      | e => k e st'
    | .scope c => xrun fuel c st k
    | .exit id => k (.exit id) st
    | .ret => k .ret st
    | _ => none

end

/-- Code leads from a state to an exit and a state. -/
def Leads (P : Program) (sz n0 : Nat) (c : Code) (st : VS) (e : Ex) (st' : VS) : Prop :=
  n0 ≤ st.n → n0 ≤ st'.n ∧ ∀ (C : Ctx), C.sz = sz → C.n0 = n0 → ∀ ρ a w, Rel C ρ st a w → ∀ Q : Exit → Act → World → Prop, (∀ ρ' a' w', Rel C ρ' st' a' w' → Q e.out a' w') → c.wp P Q a w

/-- Within so many rounds. -/
def LeadsN (P : Program) (sz n0 : Nat) (c : Code) (n : Nat) (st : VS) (e : Ex) (st' : VS) : Prop :=
  n0 ≤ st.n → n0 ≤ st'.n ∧ ∀ (C : Ctx), C.sz = sz → C.n0 = n0 → ∀ ρ a w, Rel C ρ st a w → ∀ Q : Exit → Act → World → Prop, (∀ ρ' a' w', Rel C ρ' st' a' w' → Q e.out a' w') → Code.rounds P c Q n a w

section
variable {P : Program} {sz n0 : Nat}

theorem Leads.seq {a b : Code} {st st1 st' : VS} {e : Ex} (h1 : Leads P sz n0 a st .normal st1) (h2 : Leads P sz n0 b st1 e st') : Leads P sz n0 (.seq a b) st e st' := fun h0 =>
  let ⟨g1, g2⟩ := h1 h0
  let ⟨g3, g4⟩ := h2 g1
  ⟨g3, fun C hs hn ρ a w hr Q hQ => wp_seq (g2 C hs hn ρ a w hr _ fun ρ' a' w' hr' => g4 C hs hn ρ' a' w' hr' Q hQ)⟩

theorem Leads.seq_out {a b : Code} {st st' : VS} {e : Ex} (h1 : Leads P sz n0 a st e st') (he : e ≠ .normal) : Leads P sz n0 (.seq a b) st e st' := fun h0 =>
  let ⟨g1, g2⟩ := h1 h0
  ⟨g1, fun C hs hn ρ a w hr Q hQ => wp_seq (g2 C hs hn ρ a w hr _ fun ρ' a' w' hr' => by cases e <;> first | exact absurd rfl he | exact hQ ρ' a' w' hr')⟩

theorem Leads.block {c : Code} {id : Nat} {st st' : VS} {e : Ex} (h : Leads P sz n0 c st e st') : Leads P sz n0 (.block id c) st (e.at' id) st' := fun h0 =>
  let ⟨g1, g2⟩ := h h0
  ⟨g1, fun C hs hn ρ a w hr Q hQ => wp_block (g2 C hs hn ρ a w hr _ fun ρ' a' w' hr' => by
    have := hQ ρ' a' w' hr'
    cases e with
    | exit j =>
      show if j = id then Q .normal a' w' else Q (.exit j) a' w'
      by_cases hj : j = id
      · rw [if_pos hj]; simp only [Ex.at', hj, if_true] at this; exact this
      · rw [if_neg hj]; simp only [Ex.at', hj, if_false] at this; exact this
    | _ => exact this)⟩

theorem LeadsN.loop {c : Code} {n : Nat} {st st' : VS} {e : Ex} (h : LeadsN P sz n0 c n st e st') : Leads P sz n0 (.loop c) st e st' := fun h0 =>
  let ⟨g1, g2⟩ := h h0
  ⟨g1, fun C hs hn ρ a w hr Q hQ => wp_loop_rounds n (g2 C hs hn ρ a w hr Q hQ)⟩

theorem LeadsN.more {c : Code} {n : Nat} {st st1 st' : VS} {e : Ex} (h1 : Leads P sz n0 c st .normal st1) (h2 : LeadsN P sz n0 c n st1 e st') : LeadsN P sz n0 c (n + 1) st e st' := fun h0 =>
  let ⟨g1, g2⟩ := h1 h0
  let ⟨g3, g4⟩ := h2 g1
  ⟨g3, fun C hs hn ρ a w hr Q hQ => g2 C hs hn ρ a w hr _ fun ρ' a' w' hr' => g4 C hs hn ρ' a' w' hr' Q hQ⟩

theorem LeadsN.last {c : Code} {n : Nat} {st st' : VS} {e : Ex} (h1 : Leads P sz n0 c st e st') (he : e ≠ .normal) : LeadsN P sz n0 c (n + 1) st e st' := fun h0 =>
  let ⟨g1, g2⟩ := h1 h0
  ⟨g1, fun C hs hn ρ a w hr Q hQ => g2 C hs hn ρ a w hr _ fun ρ' a' w' hr' => by cases e <;> first | exact absurd rfl he | exact hQ ρ' a' w' hr'⟩

/-- Less is known. -/
def Weak (st st' : VS) : Prop :=
  (∀ t v, getA st'.L t = some v → getA st.L t = some v ∧ ∀ i ∈ v.ids, i < st'.n) ∧ ∀ b x, getA st'.M b = some x → getA st.M b = some x ∧ b < st'.n ∧ ∀ i ∈ VV.idss x.1, i < st'.n

theorem Weak.rel {st st' : VS} (h : Weak st st') {C : Ctx} {ρ : Nat → Nat} {a : Act} {w : World} (hr : Rel C ρ st a w) : Rel C ρ st' a w := by
  refine ⟨hr.size, hr.defers, fun t v hv => ?_, fun b x hx => ?_, fun b c hb hc he => ?_, hr.keeps, hr.base⟩
  · obtain ⟨g1, g2⟩ := h.1 t v hv
    obtain ⟨a1, a2, _⟩ := hr.tm t v g1
    exact ⟨a1, a2, g2⟩
  · obtain ⟨g1, g2, g3⟩ := h.2 b x hx
    obtain ⟨a1, a2, _, _, a5⟩ := hr.mm b x g1
    exact ⟨a1, a2, g3, g2, a5⟩
  · obtain ⟨x, hx⟩ := Option.isSome_iff_exists.1 hb
    obtain ⟨y, hy⟩ := Option.isSome_iff_exists.1 hc
    exact hr.inj b c (by rw [(h.2 b x hx).1]; rfl) (by rw [(h.2 c y hy).1]; rfl) he

theorem Leads.weak {c : Code} {st st0 st' : VS} {e : Ex} (h : Leads P sz n0 c st0 e st') (hw : Weak st st0) (hn : n0 ≤ st0.n) : Leads P sz n0 c st e st' := fun _ =>
  let ⟨g1, g2⟩ := h hn
  ⟨g1, fun C hs hn ρ a w hr Q hQ => g2 C hs hn ρ a w (hw.rel hr) Q hQ⟩

theorem LeadsN.weak {c : Code} {n : Nat} {st st0 st' : VS} {e : Ex} (h : LeadsN P sz n0 c n st0 e st') (hw : Weak st st0) (hn : n0 ≤ st0.n) : LeadsN P sz n0 c n st e st' := fun _ =>
  let ⟨g1, g2⟩ := h hn
  ⟨g1, fun C hs hn ρ a w hr Q hQ => g2 C hs hn ρ a w (hw.rel hr) Q hQ⟩

theorem Leads.weak_out {c : Code} {st st0 st' : VS} {e : Ex} (h : Leads P sz n0 c st e st0) (hw : Weak st0 st') (hn : n0 ≤ st'.n) : Leads P sz n0 c st e st' := fun h0 =>
  let ⟨_, g2⟩ := h h0
  ⟨hn, fun C hs hn ρ a w hr Q hQ => g2 C hs hn ρ a w hr Q fun ρ' a' w' hr' => hQ ρ' a' w' (hw.rel hr')⟩

theorem getA_pickA {α : Type} {l : List (Nat × α)} {ts : List Nat} {t : Nat} {v : α} (h : getA (pickA l ts) t = some v) : getA l t = some v := by
  induction ts with
  | nil => simp [pickA, getA] at h
  | cons x ts ih =>
    simp only [pickA] at h
    cases hx : getA l x with
    | none => rw [hx] at h; exact ih h
    | some u =>
      rw [hx] at h
      simp only [getA] at h
      cases hb : Nat.beq x t with
      | true =>
        have : x = t := by simpa using hb
        subst this
        rw [hb] at h
        simpa [hx] using h
      | false => rw [hb] at h; exact ih h

theorem getA_mem {α : Type} {l : List (Nat × α)} {t : Nat} {v : α} (h : getA l t = some v) : (t, v) ∈ l := by
  induction l with
  | nil => simp [getA] at h
  | cons p l ih =>
    obtain ⟨a, u⟩ := p
    simp only [getA] at h
    cases hb : Nat.beq a t with
    | true =>
      have : a = t := by simpa using hb
      subst this
      simp at h
      subst h; simp
    | false => simp only [hb, cond_false] at h; simp [ih h]

theorem restr_weak {h : Hint} {st : VS} (hok : restrOK (restr h st) = true) : Weak st (restr h st) := by
  simp only [restrOK, Bool.and_eq_true, List.all_eq_true, Nat.blt_eq] at hok
  exact ⟨fun t v hv => ⟨getA_pickA hv, hok.1 (t, v) (getA_mem hv)⟩, fun b x hx => ⟨getA_pickA hx, (hok.2 (b, x) (getA_mem hx)).1, (hok.2 (b, x) (getA_mem hx)).2⟩⟩

/-- A summary is sound for a loop. -/
def SummOK (P : Program) (sz n0 : Nat) (s : Summ) (h : Hint) (c : Code) : Prop :=
  ∀ (α : Type) (st : VS) (k : Ex → VS → Option α) (r : α), st.n = h.n → s α st k = some r → ∃ e st', k e st' = some r ∧ Leads P sz n0 (.loop c) st e st'

/-- The loops' table. -/
def tabLp : List (Nat × Hint × Summ) → Nat → Option (Hint × Summ)
  | [], _ => none
  | (i, hs) :: l, id => bif Nat.beq i id then some hs else tabLp l id

/-- All loops that have a summary are sound. -/
def LoopsOK (P : Program) (sz n0 : Nat) (lp : Nat → Option (Hint × Summ)) : Code → Prop
  | .seq a b => LoopsOK P sz n0 lp a ∧ LoopsOK P sz n0 lp b
  | .cond _ a b => LoopsOK P sz n0 lp a ∧ LoopsOK P sz n0 lp b
  | .block id (.loop c) => match lp id with
    | some hs => SummOK P sz n0 hs.2 hs.1 c
    | none => LoopsOK P sz n0 lp c
  | .block _ c => LoopsOK P sz n0 lp c
  | .loop c => LoopsOK P sz n0 lp c
  | .scope c => LoopsOK P sz n0 lp c
  | _ => True

/-- The loops that have a summary, the outer ones. -/
def loopsIn (lp : Nat → Option (Hint × Summ)) : Code → List (Nat × Code)
  | .seq a b => loopsIn lp a ++ loopsIn lp b
  | .cond _ a b => loopsIn lp a ++ loopsIn lp b
  | .block id (.loop c) => match lp id with
    | some _ => [(id, c)]
    | none => loopsIn lp c
  | .block _ c => loopsIn lp c
  | .loop c => loopsIn lp c
  | .scope c => loopsIn lp c
  | _ => []

theorem loops_ok {lp : Nat → Option (Hint × Summ)} : ∀ {c : Code}, (∀ p ∈ loopsIn lp c, ∃ hs, lp p.1 = some hs ∧ SummOK P sz n0 hs.2 hs.1 p.2) → LoopsOK P sz n0 lp c
  | .seq a b, h => ⟨loops_ok fun p hp => h p (by simp [loopsIn, hp]), loops_ok fun p hp => h p (by simp [loopsIn, hp])⟩
  | .cond _ a b, h => ⟨loops_ok fun p hp => h p (by simp [loopsIn, hp]), loops_ok fun p hp => h p (by simp [loopsIn, hp])⟩
  | .block id (.loop c), h => by
    simp only [LoopsOK]
    cases hlp : lp id with
    | some hs =>
      obtain ⟨hs', h1, h2⟩ := h (id, c) (by simp [loopsIn, hlp])
      rw [hlp] at h1
      simp only [Option.some.injEq] at h1
      subst h1
      exact h2
    | none => exact loops_ok (c := c) fun p hp => h p (by simp [loopsIn, hlp, hp])
  | .loop c, h => loops_ok (c := c) fun p hp => h p (by simp [loopsIn, hp])
  | .scope c, h => loops_ok (c := c) fun p hp => h p (by simp [loopsIn, hp])
  | .block _ .skip, _ | .block _ (.region ..), _ | .block _ (.rangeFunc ..), _ | .block _ (.exit _), _ | .block _ (.label _), _ | .block _ (.goto _), _ | .block _ .ret, _ | .block _ (.refuse _), _ => trivial
  | .block _ (.seq a b), h => loops_ok (c := .seq a b) fun p hp => h p (by simpa [loopsIn] using hp)
  | .block _ (.cond x a b), h => loops_ok (c := .cond x a b) fun p hp => h p (by simpa [loopsIn] using hp)
  | .block _ (.block i c), h => loops_ok (c := .block i c) fun p hp => h p (by simpa [loopsIn] using hp)
  | .block _ (.scope c), h => loops_ok (c := .scope c) fun p hp => h p (by simpa [loopsIn] using hp)
  | .skip, _ | .region .., _ | .rangeFunc .., _ | .exit _, _ | .label _, _ | .goto _, _ | .ret, _ | .refuse _, _ => trivial

/-- A loop's body. -/
def findLoop (i : Nat) : Code → Option Code
  | .seq a b => (findLoop i a).or (findLoop i b)
  | .cond _ a b => (findLoop i a).or (findLoop i b)
  | .block id (.loop c) => bif Nat.beq i id then some c else findLoop i c
  | .block _ c => findLoop i c
  | .loop c => findLoop i c
  | .scope c => findLoop i c
  | _ => none

theorem inBlk_some {α : Type} {id : Nat} {k : Ex → VS → Option α} {e : Ex} {st : VS} {r : α} (h : inBlk id k e st = some r) : k (e.at' id) st = some r := by
  cases e with
  | exit j =>
    simp only [inBlk] at h
    cases hb : Nat.beq j id with
    | true =>
      have : j = id := by simpa using hb
      subst this
      rw [hb] at h
      simpa [Ex.at'] using h
    | false =>
      have : ¬ j = id := by rw [← Nat.beq_eq, hb]; simp
      rw [hb] at h
      simpa [Ex.at', this] using h
  | _ => exact h

theorem cond_state {C : Ctx} {ρ : Nat → Nat} {st : VS} {a : Act} {w : World} (hr : Rel C ρ st a w) {c : Operand} {b : Bool} (hc : ev st.L c = some (.bool b)) : Rel C ρ ⟨litCond st.L c b, st.M, st.n⟩ a w := by
  refine hr.congr (fun t => ?_) (fun _ => rfl) (fun _ => Iff.rfl)
  cases c with
  | tmp x =>
    simp only [litCond, getA_setA]
    by_cases h : t = x
    · subst h; rw [if_pos rfl]; exact hc
    · rw [if_neg h]
  | _ => rfl

theorem cond_eval {C : Ctx} {ρ : Nat → Nat} {st : VS} {a : Act} {w : World} (hr : Rel C ρ st a w) {c : Operand} {b : Bool} (hc : ev st.L c = some (.bool b)) : a.eval c = .bool b := by
  cases c with
  | tmp x =>
    obtain ⟨a1, _, _⟩ := hr.tm x _ hc
    simp [Act.eval, a1]; rfl
  | const v => exact (ofConst_spec (ρ := ρ) hc).1
  | global g => simp [ev] at hc
  | func f => simp [ev] at hc

theorem xrun_sound {ty : TypeId → Option TI} {sp : Spec} {lp : Nat → Option (Hint × Summ)} (hmix : P.follows .mixedOrders = true) (hty : TyAll P ty) (hsp : SpecOK P sp) {α : Type} :
    ∀ (fuel : Nat), (∀ (c : Code) (st : VS) (k : Ex → VS → Option α) (r : α), LoopsOK P sz n0 lp c → xrun ty sp sz n0 lp fuel c st k = some r → ∃ e st', k e st' = some r ∧ Leads P sz n0 c st e st') ∧
      ∀ (c : Code) (st : VS) (k : Ex → VS → Option α) (r : α), LoopsOK P sz n0 lp c → xrun ty sp sz n0 lp fuel (.loop c) st k = some r → ∃ e st' n, k e st' = some r ∧ LeadsN P sz n0 c n st e st' := by
  intro fuel
  induction fuel with
  | zero => exact ⟨fun c st k r _ h => by cases c <;> simp [xrun] at h, fun c st k r _ h => by simp [xrun] at h⟩
  | succ fuel ih0 =>
    obtain ⟨ih, ihl⟩ := ih0
    have loop : ∀ (c : Code) (st : VS) (k : Ex → VS → Option α) (r : α), LoopsOK P sz n0 lp c → xrun ty sp sz n0 lp (fuel + 1) (.loop c) st k = some r → ∃ e st' n, k e st' = some r ∧ LeadsN P sz n0 c n st e st' := by
      intro c st k r hl h
      simp only [xrun] at h
      obtain ⟨e, st1, h1, h2⟩ := ih c st _ r hl h
      cases e with
      | normal =>
        obtain ⟨e, st', n, h3, h4⟩ := ihl c st1 k r hl h1
        exact ⟨e, st', n + 1, h3, LeadsN.more h2 h4⟩
      | exit j => exact ⟨_, st1, 1, h1, LeadsN.last h2 (by simp)⟩
      | ret => exact ⟨_, st1, 1, h1, LeadsN.last h2 (by simp)⟩
    refine ⟨?_, loop⟩
    intro c st k r hl h
    have blk : ∀ id c, LoopsOK P sz n0 lp c → xrun ty sp sz n0 lp fuel c st (inBlk id k) = some r → ∃ e st', k e st' = some r ∧ Leads P sz n0 (.block id c) st e st' := by
      intro id c hl h
      obtain ⟨e, st', h1, h2⟩ := ih c st (inBlk id k) r hl h
      exact ⟨_, st', inBlk_some h1, h2.block⟩
    cases c with
    | skip => exact ⟨.normal, st, by simpa [xrun] using h, fun h0 => ⟨h0, fun C _ _ ρ a w hr Q hQ => wp_skip (hQ ρ a w hr)⟩⟩
    | label l => exact ⟨.normal, st, by simpa [xrun] using h, fun h0 => ⟨h0, fun C _ _ ρ a w hr Q hQ => wp_label (hQ ρ a w hr)⟩⟩
    | region id ops draw =>
      simp only [xrun] at h
      obtain ⟨st', tr, hrun, hk⟩ := xops_ok hty hsp h
      simp only [List.append_nil, List.reverse_reverse] at hk
      have hn : st.n ≤ st'.n := by
        obtain ⟨env, V, E, R, e0, e1, _, e3, _⟩ := hrun
        have : ∀ j, j ≤ ops.toList.length → (env 0).n ≤ (env j).n := by
          intro j
          induction j with
          | zero => intro _; exact Nat.le_refl _
          | succ j ih =>
            intro hj
            have hs := e3 j (ops.toList[j]'(by omega)) (by simp)
            have := ih (by omega)
            have := hs.n
            omega
        have := this _ (Nat.le_refl _)
        rw [e0, e1] at this
        exact this
      cases draw with
      | false =>
        simp only [cond_false] at hk
        refine ⟨.normal, st', hk, fun h0 => ⟨by omega, fun C hs hn ρ a w hr Q hQ => ?_⟩⟩
        subst hs; subst hn
        exact wp_region_vm hrun h0 hr hQ
      | true =>
        simp only [cond_true] at hk
        cases ho : ordFrom ops [] 0 ops.toList tr with
        | false => simp [ho] at hk
        | true =>
          simp only [ho, cond_true] at hk
          refine ⟨.normal, st', hk, fun h0 => ⟨by omega, fun C hs hn ρ a w hr Q hQ => ?_⟩⟩
          subst hs; subst hn
          exact region_any hmix hrun ho h0 hr hQ
    | seq a b =>
      simp only [xrun] at h
      simp only [LoopsOK] at hl
      obtain ⟨e, st1, h1, h2⟩ := ih a st _ r hl.1 h
      cases e with
      | normal =>
        obtain ⟨e, st', h3, h4⟩ := ih b st1 k r hl.2 h1
        exact ⟨e, st', h3, h2.seq h4⟩
      | exit j => exact ⟨_, st1, h1, h2.seq_out (by simp)⟩
      | ret => exact ⟨_, st1, h1, h2.seq_out (by simp)⟩
    | cond c x y =>
      simp only [xrun] at h
      simp only [LoopsOK] at hl
      obtain ⟨v, h1, h2⟩ := Option.bind_eq_some_iff.1 h
      cases v <;> simp only [reduceCtorEq] at h2
      rename_i t
      cases t with
      | true =>
        simp only [cond_true] at h2
        obtain ⟨e, st', h3, h4⟩ := ih x _ k r hl.1 h2
        exact ⟨e, st', h3, fun h0 => let ⟨g1, g2⟩ := h4 h0; ⟨g1, fun C hs hn ρ a w hr Q hQ => wp_cond_true (cond_eval hr h1) (g2 C hs hn ρ a w (cond_state hr h1) Q hQ)⟩⟩
      | false =>
        simp only [cond_false] at h2
        obtain ⟨e, st', h3, h4⟩ := ih y _ k r hl.2 h2
        exact ⟨e, st', h3, fun h0 => let ⟨g1, g2⟩ := h4 h0; ⟨g1, fun C hs hn ρ a w hr Q hQ => wp_cond_false (cond_eval hr h1) (g2 C hs hn ρ a w (cond_state hr h1) Q hQ)⟩⟩
    | block id c =>
      cases c with
      | loop c =>
        simp only [xrun] at h
        simp only [LoopsOK] at hl
        cases hlp : lp id with
        | none =>
          rw [hlp] at h hl
          exact blk id (.loop c) (by simpa [LoopsOK] using hl) h
        | some hs =>
          rw [hlp] at h hl
          simp only at h hl
          cases hb : (restrOK (restr hs.1 st) && Nat.ble n0 hs.1.n) with
          | false => simp [hb] at h
          | true =>
            simp only [hb, cond_true] at h
            simp only [Bool.and_eq_true, Nat.ble_eq] at hb
            obtain ⟨e, st', h1, h2⟩ := hl α _ _ r rfl h
            exact ⟨_, st', inBlk_some h1, (h2.weak (restr_weak hb.1) hb.2).block⟩
      | _ => exact blk id _ (by first | exact hl | simp [LoopsOK]) (by first | exact h | simpa only [xrun] using h)
    | loop c =>
      obtain ⟨e, st', n, h1, h2⟩ := loop c st k r (by simpa [LoopsOK] using hl) h
      exact ⟨e, st', h1, h2.loop⟩
    | scope c =>
      simp only [xrun] at h
      obtain ⟨e, st', h1, h2⟩ := ih c st k r (by simpa [LoopsOK] using hl) h
      exact ⟨e, st', h1, fun h0 => let ⟨g1, g2⟩ := h2 h0; ⟨g1, fun C hs hn ρ a w hr Q hQ => wp_scope_straight (g2 C hs hn ρ a w hr _ fun ρ' a' w' hr' => by
        have := hQ ρ' a' w' hr'
        cases e <;> exact this)⟩⟩
    | exit id => exact ⟨.exit id, st, by simpa [xrun] using h, fun h0 => ⟨h0, fun C _ _ ρ a w hr Q hQ => wp_exit (hQ ρ a w hr)⟩⟩
    | ret => exact ⟨.ret, st, by simpa [xrun] using h, fun h0 => ⟨h0, fun C _ _ ρ a w hr Q hQ => wp_ret (hQ ρ a w hr)⟩⟩
    | _ => simp [xrun] at h

end
end Go.VM
