/- Go functions: for each a Lean function with the same answers, and the proof that the call comes to them, with no condition. -/
import Derived.Test.YtjkelipglcnpmaaDoorPa
import Derived.WalkKit
import Derived.ProofKit
import Derived.OpenShut
import Derived.LaidMore
import Derived.Stop.Joined
namespace Go.VM
open Go Go.ChangeShapes Go.WideShapes Go.ChangeAt Go.RowKit
def flat (P : Program) : Nat → TypeId → Bool
  | 0, _ => false
  | n + 1, t => match P.underlying t with
    | some .bool => true
    | some (.int _) => true
    | some .string => true
    | some (.struct fs) => fs.toList.all fun f => flat P n f.type
    | some (.array _ e) => flat P n e
    | _ => false
theorem mapM_same {α β : Type} {f g : α → Option β} {q : β → Prop} : ∀ {l : List α} {r : List β}, l.mapM f = some r → (∀ a ∈ l, ∀ y, f a = some y → q y ∧ g a = some y) → l.mapM g = some r ∧ ∀ y ∈ r, q y := by
  intro l
  induction l with
  | nil => intro r h _; simp at h; subst h; simp
  | cons a l ih =>
    intro r h hq
    rw [List.mapM_cons] at h
    cases ha : f a with
    | none => simp [ha] at h
    | some y =>
      cases hl : l.mapM f with
      | none => simp [ha, hl] at h
      | some ys =>
        simp [ha, hl] at h
        subst h
        obtain ⟨h1, h2⟩ := ih hl fun b hb => hq b (by simp [hb])
        obtain ⟨h3, h4⟩ := hq a (by simp) y ha
        refine ⟨by rw [List.mapM_cons, h4, h1]; rfl, fun z hz => ?_⟩
        rcases List.mem_cons.1 hz with rfl | hz
        · exact h3
        · exact h2 z hz
theorem flatMap_nil {H : Type} {xs : List (DataW H × List MemPlace)} (h : ∀ y ∈ xs, y.2 = []) : xs.flatMap (·.2) = [] := by
  induction xs with
  | nil => rfl
  | cons a l ih => rw [List.flatMap_cons, h a (by simp), ih fun y hy => h y (by simp [hy])]; rfl
section
variable {H : Type} {enc : TypeId × Value → H} {P : Program}
theorem flat_trod {w w' : World} {b b' : Nat} {sp sp' : Nat → Bool} {hd hd' : Bool} : ∀ (n : Nat) (t : TypeId), flat P n t = true → ∀ fuel cs x, DataW.trod enc P w b sp hd fuel t cs = some x → x.2 = [] ∧ DataW.trod enc P w' b' sp' hd' fuel t cs = some x := by
  intro n
  induction n with
  | zero => intro t h; simp [flat] at h
  | succ n ih =>
    intro t h fuel cs x hx
    cases fuel with
    | zero => simp [DataW.trod] at hx
    | succ m =>
      simp only [flat] at h
      split at h
      · rename_i hu
        simp only [DataW.trod, hu] at hx ⊢
        split at hx <;> first | (simp at hx; subst hx; simp_all) | simp_all
      · rename_i k hu
        simp only [DataW.trod, hu] at hx ⊢
        split at hx <;> try simp_all
        obtain ⟨_, rfl⟩ := hx
        simp_all
      · rename_i hu
        obtain ⟨s, rfl, rfl, hsz⟩ := DataW.trod_string hu hx
        exact ⟨rfl, by simp [DataW.trod, hu, hsz]⟩
      · rename_i fs hu
        simp only [List.all_eq_true] at h
        unfold DataW.trod at hx ⊢
        simp only [hu] at hx ⊢
        split at hx
        · rename_i hl
          rw [if_pos hl]
          obtain ⟨xs, h1, h2⟩ := Option.map_eq_some_iff.1 hx
          obtain ⟨h3, h4⟩ := mapM_same (q := fun y => y.2 = []) h1 fun f hf y hy => ih f.type (h f hf) m _ y hy
          subst h2
          exact ⟨flatMap_nil h4, by rw [h3]; rfl⟩
        · cases hx
      · rename_i k e hu
        unfold DataW.trod at hx ⊢
        simp only [hu] at hx ⊢
        split at hx
        · rename_i hl
          rw [if_pos hl]
          obtain ⟨xs, h1, h2⟩ := Option.map_eq_some_iff.1 hx
          obtain ⟨h3, h4⟩ := mapM_same (q := fun y => y.2 = []) h1 fun i _ y hy => ih e h m _ y hy
          subst h2
          exact ⟨flatMap_nil h4, by rw [h3]; rfl⟩
        · cases hx
      · cases h
def Reads (P : Program) (t : TypeId) (v : Value) : Prop :=
  (∃ (H : Type) (enc : TypeId × Value → H) (w : World) (b : Nat) (sp : Nat → Bool) (hd : Bool) (fuel : Nat) (x : DataW H × List MemPlace), DataW.trod enc P w b sp hd fuel t v.cells.toList = some x) ∧ ∃ (w : World) (b : Nat), Value.okWide P w .any b t v
theorem flat_trodAll {w : World} {n : Nat} : ∀ (ts : List TypeId) (vs : List Value) (ds : List (DataW H)) (ps : List MemPlace), (∀ t ∈ ts, flat P n t = true) → DataW.TrodAll enc P w 0 (fun _ => true) true ts vs ds ps →
    ps = [] ∧ ds.length = ts.length ∧ vs.length = ts.length ∧ (∀ w' sp, DataW.TrodAll enc P w' 0 sp true ts vs ds []) ∧
    ∀ (j : Nat) t v, ts[j]? = some t → vs[j]? = some v → ∃ (H : Type) (enc : TypeId × Value → H) (w : World) (b : Nat) (sp : Nat → Bool) (hd : Bool) (fuel : Nat) (x : DataW H × List MemPlace), DataW.trod enc P w b sp hd fuel t v.cells.toList = some x := by
  intro ts
  induction ts with
  | nil =>
    intro vs ds ps _ h
    cases vs <;> cases ds <;> simp only [DataW.TrodAll] at h
    subst h
    exact ⟨rfl, rfl, rfl, fun _ _ => rfl, fun j t v h => by simp at h⟩
  | cons t ts ih =>
    intro vs ds ps hf h
    cases vs with
    | nil => cases ds <;> simp only [DataW.TrodAll] at h
    | cons v vs =>
      cases ds with
      | nil => simp only [DataW.TrodAll] at h
      | cons d ds =>
        simp only [DataW.TrodAll] at h
        obtain ⟨p, q, ⟨fuel, h1⟩, h2, rfl⟩ := h
        obtain ⟨g1, g2, g3, g4, g5⟩ := ih vs ds q (fun t ht => hf t (by simp [ht])) h2
        subst g1
        have hp := (flat_trod (w' := w) (b' := 0) (sp' := fun _ => true) (hd' := true) n t (hf t (by simp)) fuel _ _ h1).1
        simp only at hp
        subst hp
        refine ⟨rfl, by simp [g2], by simp [g3], fun w' sp => ⟨[], [], ⟨fuel, (flat_trod n t (hf t (by simp)) fuel _ _ h1).2⟩, g4 w' sp, rfl⟩, fun j t' v' hj hv => ?_⟩
        cases j with
        | zero =>
          simp only [List.getElem?_cons_zero, Option.some.injEq] at hj hv
          subst hj; subst hv
          exact ⟨H, enc, w, 0, _, _, fuel, _, h1⟩
        | succ j => exact g5 j t' v' (by simpa using hj) (by simpa using hv)
def Same (W W' : World) : Prop := W'.os = W.os ∧ W'.output = W.output ∧ W.heap.size ≤ W'.heap.size ∧ (∀ ad : Addr, ad.block < W.heap.size → W'.frozen? ad = W.frozen? ad) ∧ ∀ j, j < W.heap.size → W'.heap[j]? = W.heap[j]?
theorem Same.kept {W W' : World} (h : Same W W') (may : MemPlace → Prop) : W.keptBut W' may := by
  refine ⟨h.1, h.2.1, fun i hi => ?_⟩
  rw [h.2.2.2.2 i hi]
  cases W.heap[i]? with
  | none => rfl
  | some o => cases o with
    | cells c t fr => exact ⟨rfl, rfl, rfl, fun _ _ => rfl⟩
    | map es clock => exact .inr ⟨rfl, rfl⟩
    | _ => rfl
theorem law_calls {P : Program} {f : FuncId} {X : Type} {inA : VS → Option X} {F : X → Option Bool} {des : ∀ α : Type, Bool → (VS → Option α) → Option α} (h : EntryOK P f (genE 0 inA F des)) {vs : List VV} {x : X} (hF : F x = some true)
    (hin : ∀ F : X → Option Bool, genE 0 inA F des (VV × ME) vs [] 0 (fun v me => some (v, me)) = (F x).bind fun y => some (.bool y, {})) (hok : VV.mems vs = true) (W : World) (hg : GL W) :
    Calls P f (vs.map (VV.den id)).toArray W fun e W' => e = .returned (.bool true) ∧ Same W W' := by
  obtain ⟨v, me, h1, h2⟩ := h (VV × ME) vs [] 0 (fun v me => some (v, me)) (.bool true, {}) (by rw [hin F, hF]; rfl)
  simp only [Option.some.injEq, Prod.mk.injEq] at h1
  obtain ⟨rfl, rfl⟩ := h1
  obtain ⟨_, _, h3⟩ := h2
  obtain ⟨_, h4⟩ := h3 id (fun _ => True) W (fun u hu => ⟨okL_of_mem (mems_iff.1 hok u hu), fun i _ => trivial⟩) (fun b hb => by cases hb) (fun b c hb => by cases hb) (fun i _ hi => by simp at hi) ⟨hg, fun b hb => by cases hb⟩
  exact h4.mono fun e W' ⟨ρ', he, _, hm⟩ => ⟨he, hm.os, hm.output, hm.size, hm.frz, fun j hj => hm.kept j hj (fun b x hb => by simp [getA] at hb) fun d hd => by cases hd⟩
theorem post_same {H : Type} {enc : TypeId × Value → H} {P : Program} {f : Func} {s : ChangeSpec} {apart fresh handsOn again : Bool} {W W' : World} {args : Array Value} {v : Value} {ds gs : List (DataW H)} {before pa pv : List MemPlace}
    (hW : DataW.Whole enc P f.params.toList s.vars apart W args.toList ds gs before)
    (hres : ∀ (b : Nat) (sp : Nat → Bool) (hd : Bool), DataW.TrodAll enc P W' b sp hd f.resultTypes.toList (v.resultList f.resultTypes.size) (s.fn H (ds ++ gs)).results [])
    (hargs : ∀ sp : Nat → Bool, (∀ p ∈ before, sp p.block = true) → DataW.TrodAll enc P W' 0 sp true f.params.toList args.toList (s.fn H (ds ++ gs)).args pa)
    (hvars : ∀ sp : Nat → Bool, (∀ p ∈ before, sp p.block = true) → DataW.TrodVars enc P W' sp s.vars (s.fn H (ds ++ gs)).vars pv)
    (hps : before = pa ++ pv) (hk : W.keptBut W' (· ∈ before)) (hfz : ∀ a : Addr, a.block < W.heap.size → W'.frozen? a = W.frozen? a)
    (hok : ∀ (j : Nat) (t : TypeId) (r : Value), f.resultTypes[j]? = some t → (v.resultList f.resultTypes.size)[j]? = some r → Value.okWide P W' .any 0 t r) :
    s.post enc P f apart fresh handsOn again W args v W' := by
  have hlt : ∀ p ∈ before, p.block < W.heap.size := fun p hp => hW.lt p hp
  refine ⟨ds, gs, before, [], pa, pv, hW, hres _ _ _, hargs (fun b => decide (b < W.heap.size)) (fun p hp => by simpa using hlt p hp), hvars (fun b => decide (b < W.heap.size)) (fun p hp => by simpa using hlt p hp), World.keptBut_mono (fun p hp => ⟨hp, ?_⟩) hk, fun _ => ?_⟩
  · rw [hps, List.mem_append] at hp; exact .inr hp
  · obtain ⟨_, _, _, _, _, hz, hn⟩ := hW
    refine ⟨hok, _, _, ([] ++ pa) ++ pv, ⟨[] ++ pa, pv, trodAll_append (hargs _ (fun _ _ => rfl)) (hres _ _ _), hvars _ (fun _ _ => rfl), rfl, fun b off hp => ?_, fun ha => ?_⟩, fun p hp _ => ?_⟩
    · have hp' : MemPlace.cell b off ∈ before := by rw [hps]; simpa using hp
      rw [hfz _ (hlt _ hp')]
      exact hz b off hp'
    · have := hn ha
      rw [hps] at this
      simpa using this
    · rw [hps]; simpa using hp
theorem reads_int {t : TypeId} {k : IntKind} (ht : P.underlying t = some (.int k)) {v : Value} (h : Reads P t v) : ∃ z, (Lit.int k z).wf = true ∧ v = (VV.int k z).den id := by
  obtain ⟨⟨H, enc, w, b, sp, hd, fuel, x, h1⟩, w', b', h2⟩ := h
  obtain ⟨z, rfl, _, _, hw⟩ := open_int (d := x.1) (ps := x.2) (enc := enc) (base := b) (spare := sp) (held := hd) ht h2 ⟨fuel, (flat_trod 1 t (by simp [flat, ht]) fuel _ _ h1).2⟩
  exact ⟨z, hw, rfl⟩
theorem reads_str {t : TypeId} (ht : P.underlying t = some .string) {v : Value} (h : Reads P t v) : ∃ s : ByteArray, s.size ≤ maxLen ∧ v = (VV.str s).den id := by
  obtain ⟨⟨H, enc, w, b, sp, hd, fuel, x, h1⟩, w', b', h2⟩ := h
  obtain ⟨s, rfl, _, _, hs⟩ := Go.ChangeMaps.open_string (d := x.1) (ps := x.2) (enc := enc) (base := b) (sp := sp) (held := hd) ht h2 ⟨fuel, (flat_trod 1 t (by simp [flat, ht]) fuel _ _ h1).2⟩
  exact ⟨s, hs, rfl⟩
theorem args3 {args : Array Value} (h : args.size = 3) : ∃ a b c, args = #[a, b, c] := by
  obtain ⟨l⟩ := args
  match l, h with
  | [a, b, c], _ => exact ⟨a, b, c, rfl⟩
theorem list3 {α : Type} {l : List α} (h : l.length = 3) : ∃ a b c, l = [a, b, c] := by
  match l, h with
  | [a, b, c], _ => exact ⟨a, b, c, rfl⟩
end
end Go.VM

namespace Go.VM
open Go Go.ChangeShapes Go.WideShapes Go.ChangeAt Go.RowKit
section
variable {H : Type} {enc : TypeId × Value → H} {P : Program}
theorem trod_laid {w : World} {b : Nat} {sp : Nat → Bool} {hd : Bool} {t e : TypeId} {n : Nat} {k : IntKind} (ht : P.underlying t = some (.array n e)) (he : P.underlying e = some (.int k)) (hc : P.cellsOf e = 1) (hct : P.cellsOf t = n)
    {fuel : Nat} {cs : List Value} {l : List Int} {ps : List MemPlace} (h : DataW.trod enc P w b sp hd fuel t cs = some (.agg (l.map fun z => .lit (.int k z)), ps)) : cs = l.map (Value.int k) := by
  obtain ⟨xs, m, _, hx1, hl, hx, hi⟩ := DataW.trod_array ht h
  rw [hct] at hl
  rw [hc] at hi
  simp only [Prod.mk.injEq, DataW.agg.injEq] at hx1
  obtain ⟨hx1, _⟩ := hx1
  have hll : l.length = n := by have := congrArg List.length hx1; simp at this; omega
  refine List.ext_getElem? fun i => ?_
  by_cases hin : i < n
  · have h1 := hi i hin
    rw [List.getElem?_eq_getElem (by omega)] at h1
    obtain ⟨z, h2, h3, _⟩ := DataW.trod_int he h1
    have e1 : cs[i]? = some (.int k z) := by
      have : ((cs.drop (i * 1)).take 1)[0]? = some (.int k z) := by rw [h2]; rfl
      simpa [List.getElem?_take, List.getElem?_drop] using this
    have e2 : (l.map fun z => (DataW.lit (.int k z) : DataW H))[i]? = some (.lit (.int k z)) := by
      rw [hx1, List.getElem?_map, List.getElem?_eq_getElem (by omega), Option.map_some, h3]
    rw [List.getElem?_map] at e2
    cases hz : l[i]? with
    | none => rw [hz] at e2; simp at e2
    | some y =>
      rw [hz] at e2
      simp only [Option.map_some, Option.some.injEq, DataW.lit.injEq, Lit.int.injEq, true_and] at e2
      subst e2
      rw [e1, List.getElem?_map, hz]; rfl
  · rw [List.getElem?_eq_none (by omega), List.getElem?_eq_none (by simp; omega)]
theorem heap_of_laid {W : World} {nm : String} {d : DataW Unit} (hpl : ([(nm, d)].all fun x => x.2.handleName?.isNone) = true) (h : laidMetH P [(nm, d)] W) {g : Nat} (hg : P.globalNamed nm = some g) {t e : TypeId} {n : Nat} {k : IntKind} {l : List Int}
    (hd : d = .agg (l.map fun z => .lit (.int k z))) (hgt : (P.globals[g]?).map (·.type) = some t) (ht : P.underlying t = some (.array n e)) (he : P.underlying e = some (.int k)) (hc : P.cellsOf e = 1) (hct : P.cellsOf t = n) :
    ∃ t fz, W.heap[g]? = some (.cells (l.map (Value.int k)).toArray t fz) := by
  rw [MakeChecks.laidMetH_plain _ _ _ hpl] at h
  obtain ⟨ps, ⟨g0, t0, cs0, f0, p0, q0, hg0, ht0, hv0, hd0, _⟩, _⟩ := h
  obtain rfl := Option.some.inj (hg.symm.trans hg0)
  obtain rfl := Option.some.inj (hgt.symm.trans ht0)
  subst hd
  have hcs := trod_laid ht he hc hct hd0
  unfold World.var? at hv0
  rw [hg] at hv0
  simp only [Option.bind_some] at hv0
  split at hv0
  · rename_i cs t' fz hh
    simp only [Option.some.injEq] at hv0
    subst hv0
    exact ⟨t', fz, by rw [hh, ← hcs]⟩
  · cases hv0
theorem law_lifted_laid {C : Checked} {os : Os} {f : FuncId} {fn : Func} {s : ChangeSpec} {conds : List PathCond} {apart fresh handsOn again : Bool} {n : Nat} {tb : TypeId} {X : World → Prop}
    (hX : ∀ (w w' : World), w.heap = w'.heap → X w → X w')
    (own : ownKnob C.prog.godebug = none) (started : os.Started) (noInit : C.prog.inits.idxOf? f = none) (hfn : C.prog.funcs[f]? = some fn)
    (witness : ∃ (w : World) (tape : Tape) (i : Input), w.os = os ∧ (w.forCall tape i).Shaped C.prog ∧ i.vars = [] ∧ Input.okWide C.prog (w.forCall tape i) .any w.heap.size f i ∧
      ((s.pre enc C.prog fn conds apart (w.forCall tape i).memory i.args ∧ X (w.forCall tape i).memory) ∧ sizedMet enc C.prog fn (OpenSpec.ofChange s) apart (w.forCall tape i).memory i.args) ∧ Assume.holds {} C.prog (lone (Frame.enter C.prog f i.args .normal) [] (w.forCall tape i)))
    (hflat : ∀ t ∈ fn.params.toList, flat C.prog n t = true) (hvars : s.vars = []) (hres : fn.resultTypes = #[tb]) (htb : C.prog.underlying tb = some .bool)
    (hspec : ∀ ds : List (DataW H), ds.length = fn.params.size → s.fn H ds = { results := [.lit (.bool true)], args := ds })
    (walk : ∀ (W : World) (args : Array Value), X W → args.size = fn.params.size → (∀ (j : Nat) t v, fn.params[j]? = some t → args[j]? = some v → Reads C.prog t v) → Calls C.prog f args W fun e W' => e = .returned (.bool true) ∧ Same W W') :
    ReturnsInHanded {} C os f .any (fun w args => (s.pre enc C.prog fn conds apart w args ∧ X w) ∧ sizedMet enc C.prog fn (OpenSpec.ofChange s) apart w args) (s.post enc C.prog fn apart fresh handsOn again) := by
  refine returnsInHanded_of_change_and (X := fun w _ => X w) (fun w w' _ hh h => hX w w' hh h) own started noInit hfn witness ?_
  intro W base args ds gs before hval hW _ _ hXW _
  have hW' := hW
  obtain ⟨p, q, hA, hV, rfl, _, _⟩ := hW
  rw [hvars] at hV
  obtain ⟨rfl, rfl⟩ := trodVars_none hV
  obtain ⟨rfl, g2, g3, g4, g5⟩ := flat_trodAll _ _ _ _ hflat hA
  have hsp := hspec ds (by simpa using g2)
  refine (walk W args hXW (by simpa using g3) fun j t v hj hv => ⟨g5 j t v (by simpa using hj) (by simpa using hv), W, base, hval j t v hj hv⟩).mono fun e W' ⟨he, hs⟩ => ⟨.bool true, he, ?_⟩
  have hsp' : s.fn H (ds ++ []) = { results := [.lit (.bool true)], args := ds } := by rw [List.append_nil]; exact hsp
  refine post_same (pa := []) (pv := []) hW' (fun b sp hd => ?_) (fun sp _ => ?_) (fun sp _ => ?_) rfl (hs.kept _) hs.2.2.2.1 ?_
  · rw [hsp', hres]; exact trodAll_mk1 (shut_bool htb true)
  · rw [hsp']; exact g4 W' sp
  · rw [hsp', hvars]; rfl
  · exact ok_one hres rfl (okWide_bool_mk htb true)
end
end Go.VM

namespace Go.VM
open Go Go.ChangeShapes Go.WideShapes Go.ChangeAt Go.RowKit
section
variable {P : Program}
theorem wf_u8 {z : Int} (h : (Lit.int .u8 z).wf = true) : 0 ≤ z ∧ z < 256 := by
  simp [Lit.wf, IntKind.min, IntKind.max, IntKind.signed, IntKind.bits] at h
  omega
end
end Go.VM
