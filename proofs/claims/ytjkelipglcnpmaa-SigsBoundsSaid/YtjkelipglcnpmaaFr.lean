/- Go functions: for each a Lean function with the same answers, and the proof that the call comes to them, with no condition. -/
import Derived.Test.YtjkelipglcnpmaaPl
import Derived.WalkKit
import Derived.ProofKit
import Derived.OpenShut
import Derived.Test.YtjkelipglcnpmaaRows
import Derived.JoinedOf
namespace Go.VM
open Go Go.ChangeShapes Go.WideShapes Go.ChangeAt Go.RowKit
def flat (P : Program) : Nat → TypeId → Bool
  | 0, _ => false
  | n + 1, t => match P.underlying t with
    | some .bool => true
    | some (.int _) => true
    | some (.struct fs) => fs.toList.all fun f => flat P n f.type
    | some (.array _ e) => flat P n e
    | _ => false
theorem mapM_same {α β : Type} {f g : α → Option β} {q : β → Prop} : ∀ {l : List α} {r : List β}, l.mapM f = some r → (∀ a ∈ l, ∀ y, f a = some y → q y ∧ g a = some y) → l.mapM g = some r ∧ ∀ y ∈ r, q y := by
  intro l
  induction l with
  | nil => intro r h _; simp at h; subst h; simp
  | cons a l ih =>
    intro r h hq
    rw [List.mapM_cons] at h
    cases ha : f a with
    | none => simp [ha] at h
    | some y =>
      cases hl : l.mapM f with
      | none => simp [ha, hl] at h
      | some ys =>
        simp [ha, hl] at h
        subst h
        obtain ⟨h1, h2⟩ := ih hl fun b hb => hq b (by simp [hb])
        obtain ⟨h3, h4⟩ := hq a (by simp) y ha
        refine ⟨by rw [List.mapM_cons, h4, h1]; rfl, fun z hz => ?_⟩
        rcases List.mem_cons.1 hz with rfl | hz
        · exact h3
        · exact h2 z hz
theorem flatMap_nil {H : Type} {xs : List (DataW H × List MemPlace)} (h : ∀ y ∈ xs, y.2 = []) : xs.flatMap (·.2) = [] := by
  induction xs with
  | nil => rfl
  | cons a l ih => rw [List.flatMap_cons, h a (by simp), ih fun y hy => h y (by simp [hy])]; rfl
section
variable {H : Type} {enc : TypeId × Value → H} {P : Program}
theorem flat_trod {w w' : World} {b b' : Nat} {sp sp' : Nat → Bool} {hd hd' : Bool} : ∀ (n : Nat) (t : TypeId), flat P n t = true → ∀ fuel cs x, DataW.trod enc P w b sp hd fuel t cs = some x → x.2 = [] ∧ DataW.trod enc P w' b' sp' hd' fuel t cs = some x := by
  intro n
  induction n with
  | zero => intro t h; simp [flat] at h
  | succ n ih =>
    intro t h fuel cs x hx
    cases fuel with
    | zero => simp [DataW.trod] at hx
    | succ m =>
      simp only [flat] at h
      split at h
      · rename_i hu
        simp only [DataW.trod, hu] at hx ⊢
        split at hx <;> first | (simp at hx; subst hx; simp_all) | simp_all
      · rename_i k hu
        simp only [DataW.trod, hu] at hx ⊢
        split at hx <;> try simp_all
        obtain ⟨_, rfl⟩ := hx
        simp_all
      · rename_i fs hu
        simp only [List.all_eq_true] at h
        unfold DataW.trod at hx ⊢
        simp only [hu] at hx ⊢
        split at hx
        · rename_i hl
          rw [if_pos hl]
          obtain ⟨xs, h1, h2⟩ := Option.map_eq_some_iff.1 hx
          obtain ⟨h3, h4⟩ := mapM_same (q := fun y => y.2 = []) h1 fun f hf y hy => ih f.type (h f hf) m _ y hy
          subst h2
          exact ⟨flatMap_nil h4, by rw [h3]; rfl⟩
        · cases hx
      · rename_i k e hu
        unfold DataW.trod at hx ⊢
        simp only [hu] at hx ⊢
        split at hx
        · rename_i hl
          rw [if_pos hl]
          obtain ⟨xs, h1, h2⟩ := Option.map_eq_some_iff.1 hx
          obtain ⟨h3, h4⟩ := mapM_same (q := fun y => y.2 = []) h1 fun i _ y hy => ih e h m _ y hy
          subst h2
          exact ⟨flatMap_nil h4, by rw [h3]; rfl⟩
        · cases hx
      · cases h
def Reads (P : Program) (t : TypeId) (v : Value) : Prop :=
  (∃ (H : Type) (enc : TypeId × Value → H) (w : World) (b : Nat) (sp : Nat → Bool) (hd : Bool) (fuel : Nat) (x : DataW H × List MemPlace), DataW.trod enc P w b sp hd fuel t v.cells.toList = some x) ∧ ∃ (w : World) (b : Nat), Value.okWide P w .any b t v
theorem flat_trodAll {w : World} {n : Nat} : ∀ (ts : List TypeId) (vs : List Value) (ds : List (DataW H)) (ps : List MemPlace), (∀ t ∈ ts, flat P n t = true) → DataW.TrodAll enc P w 0 (fun _ => true) true ts vs ds ps →
    ps = [] ∧ ds.length = ts.length ∧ vs.length = ts.length ∧ (∀ w' sp, DataW.TrodAll enc P w' 0 sp true ts vs ds []) ∧
    ∀ (j : Nat) t v, ts[j]? = some t → vs[j]? = some v → ∃ (H : Type) (enc : TypeId × Value → H) (w : World) (b : Nat) (sp : Nat → Bool) (hd : Bool) (fuel : Nat) (x : DataW H × List MemPlace), DataW.trod enc P w b sp hd fuel t v.cells.toList = some x := by
  intro ts
  induction ts with
  | nil =>
    intro vs ds ps _ h
    cases vs <;> cases ds <;> simp only [DataW.TrodAll] at h
    subst h
    exact ⟨rfl, rfl, rfl, fun _ _ => rfl, fun j t v h => by simp at h⟩
  | cons t ts ih =>
    intro vs ds ps hf h
    cases vs with
    | nil => cases ds <;> simp only [DataW.TrodAll] at h
    | cons v vs =>
      cases ds with
      | nil => simp only [DataW.TrodAll] at h
      | cons d ds =>
        simp only [DataW.TrodAll] at h
        obtain ⟨p, q, ⟨fuel, h1⟩, h2, rfl⟩ := h
        obtain ⟨g1, g2, g3, g4, g5⟩ := ih vs ds q (fun t ht => hf t (by simp [ht])) h2
        subst g1
        have hp := (flat_trod (w' := w) (b' := 0) (sp' := fun _ => true) (hd' := true) n t (hf t (by simp)) fuel _ _ h1).1
        simp only at hp
        subst hp
        refine ⟨rfl, by simp [g2], by simp [g3], fun w' sp => ⟨[], [], ⟨fuel, (flat_trod n t (hf t (by simp)) fuel _ _ h1).2⟩, g4 w' sp, rfl⟩, fun j t' v' hj hv => ?_⟩
        cases j with
        | zero =>
          simp only [List.getElem?_cons_zero, Option.some.injEq] at hj hv
          subst hj; subst hv
          exact ⟨H, enc, w, 0, _, _, fuel, _, h1⟩
        | succ j => exact g5 j t' v' (by simpa using hj) (by simpa using hv)
def Same (W W' : World) : Prop := W'.os = W.os ∧ W'.output = W.output ∧ W.heap.size ≤ W'.heap.size ∧ (∀ ad : Addr, ad.block < W.heap.size → W'.frozen? ad = W.frozen? ad) ∧ ∀ j, j < W.heap.size → W'.heap[j]? = W.heap[j]?
theorem Same.kept {W W' : World} (h : Same W W') (may : MemPlace → Prop) : W.keptBut W' may := by
  refine ⟨h.1, h.2.1, fun i hi => ?_⟩
  rw [h.2.2.2.2 i hi]
  cases W.heap[i]? with
  | none => rfl
  | some o => cases o with
    | cells c t fr => exact ⟨rfl, rfl, rfl, fun _ _ => rfl⟩
    | map es clock => exact .inr ⟨rfl, rfl⟩
    | _ => rfl
theorem law_calls {P : Program} {f : FuncId} {X : Type} {inA : VS → Option X} {F : X → Option Bool} {des : ∀ α : Type, Bool → (VS → Option α) → Option α} (h : EntryOK P f (genE 0 inA F des)) {vs : List VV} {x : X} (hF : F x = some true)
    (hin : ∀ F : X → Option Bool, genE 0 inA F des (VV × ME) vs [] 0 (fun v me => some (v, me)) = (F x).bind fun y => some (.bool y, {})) (hok : VV.mems vs = true) (W : World) :
    Calls P f (vs.map (VV.den id)).toArray W fun e W' => e = .returned (.bool true) ∧ Same W W' := by
  obtain ⟨v, me, h1, h2⟩ := h (VV × ME) vs [] 0 (fun v me => some (v, me)) (.bool true, {}) (by rw [hin F, hF]; rfl)
  simp only [Option.some.injEq, Prod.mk.injEq] at h1
  obtain ⟨rfl, rfl⟩ := h1
  obtain ⟨_, _, h3⟩ := h2
  obtain ⟨_, h4⟩ := h3 id (fun _ => True) W (fun u hu => ⟨okL_of_mem (mems_iff.1 hok u hu), fun i _ => trivial⟩) (fun b hb => by cases hb) (fun b c hb => by cases hb) (fun i _ hi => by simp at hi)
  exact h4.mono fun e W' ⟨ρ', he, _, hm⟩ => ⟨he, hm.os, hm.output, hm.size, hm.frz, fun j hj => hm.kept j hj (fun b x hb => by simp [getA] at hb) fun d hd => by cases hd⟩
theorem post_same {H : Type} {enc : TypeId × Value → H} {P : Program} {f : Func} {s : ChangeSpec} {apart fresh handsOn again : Bool} {W W' : World} {args : Array Value} {v : Value} {ds gs : List (DataW H)} {before pa pv : List MemPlace}
    (hW : DataW.Whole enc P f.params.toList s.vars apart W args.toList ds gs before)
    (hres : ∀ (b : Nat) (sp : Nat → Bool) (hd : Bool), DataW.TrodAll enc P W' b sp hd f.resultTypes.toList (v.resultList f.resultTypes.size) (s.fn H (ds ++ gs)).results [])
    (hargs : ∀ sp : Nat → Bool, (∀ p ∈ before, sp p.block = true) → DataW.TrodAll enc P W' 0 sp true f.params.toList args.toList (s.fn H (ds ++ gs)).args pa)
    (hvars : ∀ sp : Nat → Bool, (∀ p ∈ before, sp p.block = true) → DataW.TrodVars enc P W' sp s.vars (s.fn H (ds ++ gs)).vars pv)
    (hps : before = pa ++ pv) (hk : W.keptBut W' (· ∈ before)) (hfz : ∀ a : Addr, a.block < W.heap.size → W'.frozen? a = W.frozen? a)
    (hok : ∀ (j : Nat) (t : TypeId) (r : Value), f.resultTypes[j]? = some t → (v.resultList f.resultTypes.size)[j]? = some r → Value.okWide P W' .any 0 t r) :
    s.post enc P f apart fresh handsOn again W args v W' := by
  have hlt : ∀ p ∈ before, p.block < W.heap.size := fun p hp => hW.lt p hp
  refine ⟨ds, gs, before, [], pa, pv, hW, hres _ _ _, hargs (fun b => decide (b < W.heap.size)) (fun p hp => by simpa using hlt p hp), hvars (fun b => decide (b < W.heap.size)) (fun p hp => by simpa using hlt p hp), World.keptBut_mono (fun p hp => ⟨hp, ?_⟩) hk, fun _ => ?_⟩
  · rw [hps, List.mem_append] at hp; exact .inr hp
  · obtain ⟨_, _, _, _, _, hz, hn⟩ := hW
    refine ⟨hok, _, _, ([] ++ pa) ++ pv, ⟨[] ++ pa, pv, trodAll_append (hargs _ (fun _ _ => rfl)) (hres _ _ _), hvars _ (fun _ _ => rfl), rfl, fun b off hp => ?_, fun ha => ?_⟩, fun p hp _ => ?_⟩
    · have hp' : MemPlace.cell b off ∈ before := by rw [hps]; simpa using hp
      rw [hfz _ (hlt _ hp')]
      exact hz b off hp'
    · have := hn ha
      rw [hps] at this
      simpa using this
    · rw [hps]; simpa using hp
theorem law_lifted {C : Checked} {os : Os} {f : FuncId} {fn : Func} {s : ChangeSpec} {conds : List PathCond} {apart fresh handsOn again : Bool} {n : Nat} {tb : TypeId}
    (own : ownKnob C.prog.godebug = none) (started : os.Started) (noInit : C.prog.inits.idxOf? f = none) (hfn : C.prog.funcs[f]? = some fn)
    (witness : ∃ (w : World) (tape : Tape) (i : Input), w.os = os ∧ (w.forCall tape i).Shaped C.prog ∧ i.vars = [] ∧ Input.okWide C.prog (w.forCall tape i) .any w.heap.size f i ∧
      s.pre6 enc C.prog fn conds apart (w.forCall tape i).memory i.args ∧ Assume.holds {} C.prog (lone (Frame.enter C.prog f i.args .normal) [] (w.forCall tape i)))
    (hflat : ∀ t ∈ fn.params.toList, flat C.prog n t = true) (hvars : s.vars = []) (hres : fn.resultTypes = #[tb]) (htb : C.prog.underlying tb = some .bool)
    (hspec : ∀ ds : List (DataW H), ds.length = fn.params.size → s.fn H ds = { results := [.lit (.bool true)], args := ds })
    (walk : ∀ (W : World) (args : Array Value), args.size = fn.params.size → (∀ (j : Nat) t v, fn.params[j]? = some t → args[j]? = some v → Reads C.prog t v) → Calls C.prog f args W fun e W' => e = .returned (.bool true) ∧ Same W W') :
    ReturnsInHanded {} C os f .any (s.pre6 enc C.prog fn conds apart) (s.post enc C.prog fn apart fresh handsOn again) := by
  refine returnsInHanded_of_change own started noInit hfn witness ?_
  intro W base args ds gs before hval hW _ _
  have hW' := hW
  obtain ⟨p, q, hA, hV, rfl, _, _⟩ := hW
  rw [hvars] at hV
  obtain ⟨rfl, rfl⟩ := trodVars_none hV
  obtain ⟨rfl, g2, g3, g4, g5⟩ := flat_trodAll _ _ _ _ hflat hA
  have hsp := hspec ds (by simpa using g2)
  refine (walk W args (by simpa using g3) fun j t v hj hv => ⟨g5 j t v (by simpa using hj) (by simpa using hv), W, base, hval j t v hj hv⟩).mono fun e W' ⟨he, hs⟩ => ⟨.bool true, he, ?_⟩
  have hsp' : s.fn H (ds ++ []) = { results := [.lit (.bool true)], args := ds } := by rw [List.append_nil]; exact hsp
  refine post_same (pa := []) (pv := []) hW' (fun b sp hd => ?_) (fun sp _ => ?_) (fun sp _ => ?_) rfl (hs.kept _) hs.2.2.2.1 ?_
  · rw [hsp', hres]; exact trodAll_mk1 (shut_bool htb true)
  · rw [hsp']; exact g4 W' sp
  · rw [hsp', hvars]; rfl
  · exact ok_one hres rfl (okWide_bool_mk htb true)
theorem range_get {l : List Value} {n : Nat} (hl : l.length = n) (g : Nat → Int) (k : IntKind) (h : ∀ i, i < n → l[i]? = some (.int k (g i))) : l = (List.range n).map fun i => .int k (g i) := by
  refine List.ext_getElem? fun i => ?_
  by_cases hi : i < n
  · rw [h i hi]; simp [hi]
  · rw [List.getElem?_eq_none (by omega), List.getElem?_eq_none (by simp; omega)]
theorem trod_ints {w : World} {b : Nat} {sp : Nat → Bool} {hd : Bool} {t e : TypeId} {n : Nat} {k : IntKind} (ht : P.underlying t = some (.array n e)) (he : P.underlying e = some (.int k)) (hc : P.cellsOf e = 1) (hct : P.cellsOf t = n)
    {fuel : Nat} {cs : List Value} {x : DataW H × List MemPlace} (h : DataW.trod enc P w b sp hd fuel t cs = some x) : ∃ g : Nat → Int, (∀ i, i < n → (Lit.int k (g i)).wf = true) ∧ cs = (List.range n).map fun i => .int k (g i) := by
  obtain ⟨xs, m, _, _, hl, hx, hi⟩ := DataW.trod_array ht h
  rw [hct] at hl
  rw [hc] at hi
  have key : ∀ i, i < n → ∃ z, (Lit.int k z).wf = true ∧ cs[i]? = some (.int k z) := by
    intro i hin
    have h1 := hi i hin
    rw [List.getElem?_eq_getElem (by omega)] at h1
    obtain ⟨z, h2, _, h3⟩ := DataW.trod_int he h1
    refine ⟨z, h3, ?_⟩
    have : ((cs.drop (i * 1)).take 1)[0]? = some (.int k z) := by rw [h2]; rfl
    simpa [List.getElem?_take, List.getElem?_drop] using this
  refine ⟨fun i => if h : i < n then (key i h).choose else 0, fun i hin => ?_, range_get hl _ k fun i hin => ?_⟩
  · simp only [hin, dite_true]; exact (key i hin).choose_spec.1
  · simp only [hin, dite_true]; exact (key i hin).choose_spec.2
theorem wf_u64 {z : Int} (h : (Lit.int .u64 z).wf = true) : 0 ≤ z ∧ z < 18446744073709551616 := by
  simp [Lit.wf, IntKind.min, IntKind.max, IntKind.signed, IntKind.bits] at h
  omega
theorem num_of {g : Nat → Int} (h : ∀ i, i < 4 → (Lit.int .u64 (g i)).wf = true) : ∃ A, A < 2 ^ 256 ∧ (List.range 4).map (fun i => Value.int .u64 (g i)) = (VV.ints .u64 4 (num A)).cells id := by
  refine ⟨ofWords 64 (fun i => (g i).toNat) 4, ?_, ?_⟩
  · exact ofWords_lt (w := 64) (n := 4) fun i hi => by have := wf_u64 (h i hi); omega
  · rw [num, ← words_of (fun i hi => by have := wf_u64 (h i hi); omega)]
    simp only [VV.cells]
    refine List.map_congr_left fun i hi => ?_
    have hi' : i < 4 := by simpa using hi
    rw [getD_vec hi']
    have := wf_u64 (h i hi')
    congr 1
    omega
theorem reads_num {t e : TypeId} (ht : P.underlying t = some (.array 4 e)) (he : P.underlying e = some (.int .u64)) (hc : P.cellsOf e = 1) (hct : P.cellsOf t = 4) {v : Value} (h : Reads P t v) : ∃ A, A < 2 ^ 256 ∧ v = (VV.agg [.ints .u64 4 (num A)]).den id := by
  obtain ⟨⟨H, enc, w, b, sp, hd, fuel, x, h1⟩, w', b', h2⟩ := h
  obtain ⟨g, g1, g2⟩ := trod_ints ht he hc hct h1
  obtain ⟨A, hA, e1⟩ := num_of g1
  refine ⟨A, hA, ?_⟩
  unfold Value.okWide at h2
  rw [ht] at h2
  obtain ⟨cs, rfl, _⟩ := h2
  have : cs.toList = (VV.ints .u64 4 (num A)).cells id := by rw [← e1, ← g2]; rfl
  show Value.agg cs = Value.agg (VV.cellss id [.ints .u64 4 (num A)]).toArray
  simp only [VV.cellss, List.append_nil]
  rw [← this]
theorem args3 {args : Array Value} (h : args.size = 3) : ∃ a b c, args = #[a, b, c] := by
  obtain ⟨l⟩ := args
  match l, h with
  | [a, b, c], _ => exact ⟨a, b, c, rfl⟩
theorem list3 {α : Type} {l : List α} (h : l.length = 3) : ∃ a b c, l = [a, b, c] := by
  match l, h with
  | [a, b, c], _ => exact ⟨a, b, c, rfl⟩
end
end Go.VM

namespace Go.VM
open Go
theorem and2 {a b : Bool} (ha : a = true) (hb : b = true) : (a && b) = true := by rw [ha, hb]; rfl
theorem beq_of {α : Type} [BEq α] [LawfulBEq α] {a b : α} (h : b = a) : (a == b) = true := by rw [h]; exact beq_self_eq_true a
def chars (l : List Nat) : List Char := l.map Char.ofNat
theorem words_ahead : ∀ (w r : List Char), (w.all fun c => !(c == Char.ofNat 32)) = true → wordsSigns (w ++ Char.ofNat 32 :: r) = w :: wordsSigns r := by
  intro w
  induction w with
  | nil => intro r _; rfl
  | cons c w ih =>
    intro r h
    simp only [List.all_cons, Bool.and_eq_true] at h
    have hc : c ≠ Char.ofNat 32 := by intro e; subst e; simp at h
    have := ih r h.2
    rw [List.cons_append]
    conv => lhs; unfold wordsSigns
    split
    · rename_i h'; cases h'
    · rename_i h'; simp only [List.cons.injEq] at h'; exact absurd h'.1 hc
    · rename_i h'
      simp only [List.cons.injEq] at h'
      obtain ⟨rfl, rfl⟩ := h'
      rw [this]
end Go.VM
namespace Go.Proofs
open Go Go.VM
def headRest : List Char := (chars [97, 116, 32, 98, 117, 114, 114, 111, 119, 47, 98, 117, 114, 114, 111, 119, 108, 97, 119, 48, 50, 46, 76, 105, 109, 98, 115, 82, 101, 99, 107, 111, 110, 101, 100, 32, 98, 117, 114, 114, 111, 119, 47, 98, 117, 114, 114, 111, 119, 108, 97, 119, 48, 50, 46, 76, 105, 109, 98, 115, 84, 117, 114, 110, 101, 100, 32, 98, 117, 114, 114, 111, 119, 47, 98, 117, 114, 114, 111, 119, 108, 97, 119, 48, 50, 46, 76, 105, 109, 98, 115, 83, 116, 101, 112, 115, 32, 98, 117, 114, 114, 111, 119, 47, 98, 117, 114, 114, 111, 119, 108, 97, 119, 48, 50, 46, 76, 105, 109, 98, 115, 65, 112, 97, 114, 116, 32, 98, 117, 114, 114, 111, 119, 47, 98, 117, 114, 114, 111, 119, 108, 97, 119, 48, 50, 46, 76, 105, 109, 98, 115, 83, 113, 117, 97, 114, 101, 115, 32, 98, 117, 114, 114, 111, 119, 47, 98, 117, 114, 114, 111, 119, 108, 97, 119, 48, 50, 46, 76, 105, 109, 98, 115, 84, 111, 112, 32, 98, 117, 114, 114, 111, 119, 47, 98, 117, 114, 114, 111, 119, 108, 97, 119, 48, 50, 46, 76, 105, 109, 98, 115, 77, 111, 118, 101, 115, 32, 98, 117, 114, 114, 111, 119, 47, 98, 117, 114, 114, 111, 119, 108, 97, 119, 48, 51, 46, 68, 105, 118, 105, 100, 101, 115, 82, 101, 99, 107, 111, 110, 101, 100, 32, 98, 117, 114, 114, 111, 119, 47, 98, 117, 114, 114, 111, 119, 108, 97, 119, 48, 51, 46, 68, 105, 118, 105, 100, 101, 115, 78, 101, 120, 116, 32, 98, 117, 114, 114, 111, 119, 47, 98, 117, 114, 114, 111, 119, 108, 97, 119, 48, 51, 46, 68, 105, 118, 105, 100, 101, 115, 72, 97, 108, 118, 101, 100, 32, 98, 117, 114, 114, 111, 119, 47, 98, 117, 114, 114, 111, 119, 108, 97, 119, 48, 51, 46, 68, 105, 118, 105, 100, 101, 115, 87, 104, 111, 108, 101, 32, 98, 117, 114, 114, 111, 119, 47, 98, 117, 114, 114, 111, 119, 108, 97, 119, 48, 51, 46, 68, 105, 118, 105, 100, 101, 115, 67, 117, 116, 115, 32, 98, 117, 114, 114, 111, 119, 47, 98, 117, 114, 114, 111, 119, 108, 97, 119, 48, 51, 46, 68, 105, 118, 105, 100, 101, 115, 83, 104, 97, 114, 101, 100, 32, 98, 117, 114, 114, 111, 119, 47, 98, 117, 114, 114, 111, 119, 108, 97, 119, 48, 51, 46, 68, 105, 118, 105, 100, 101, 115, 66, 101, 116, 119, 101, 101, 110, 32, 98, 117, 114, 114, 111, 119, 47, 98, 117, 114, 114, 111, 119, 108, 97, 119, 48, 52, 46, 77, 111, 100, 115, 82, 101, 99, 107, 111, 110, 101, 100, 32, 98, 117, 114, 114, 111, 119, 47, 98, 117, 114, 114, 111, 119, 108, 97, 119, 48, 52, 46, 77, 111, 100, 115, 82, 111, 117, 110, 100, 32, 98, 117, 114, 114, 111, 119, 47, 98, 117, 114, 114, 111, 119, 108, 97, 119, 48, 52, 46, 77, 111, 100, 115, 76, 97, 115, 116, 32, 98, 117, 114, 114, 111, 119, 47, 98, 117, 114, 114, 111, 119, 108, 97, 119, 48, 52, 46, 77, 111, 100, 115, 83, 116, 101, 112, 115, 32, 98, 117, 114, 114, 111, 119, 47, 98, 117, 114, 114, 111, 119, 108, 97, 119, 48, 52, 46, 77, 111, 100, 115, 80, 114, 105, 109, 101, 32, 98, 117, 114, 114, 111, 119, 47, 98, 117, 114, 114, 111, 119, 108, 97, 119, 48, 52, 46, 77, 111, 100, 115, 66, 101, 121, 111, 110, 100, 32, 98, 117, 114, 114, 111, 119, 47, 98, 117, 114, 114, 111, 119, 108, 97, 119, 48, 55, 46, 83, 105, 103, 115, 75, 101, 121, 115, 32, 98, 117, 114, 114, 111, 119, 47, 98, 117, 114, 114, 111, 119, 108, 97, 119, 48, 54, 46, 71, 114, 111, 117, 112, 115, 79, 102, 32, 98, 117, 114, 114, 111, 119, 47, 98, 117, 114, 114, 111, 119, 108, 97, 119, 48, 54, 46, 71, 114, 111, 117, 112, 115, 67, 108, 111, 115, 101, 100, 32, 98, 117, 114, 114, 111, 119, 47, 98, 117, 114, 114, 111, 119, 108, 97, 119, 48, 54, 46, 71, 114, 111, 117, 112, 115, 82, 111, 117, 110, 100, 32, 98, 117, 114, 114, 111, 119, 47, 98, 117, 114, 114, 111, 119, 108, 97, 119, 48, 54, 46, 71, 114, 111, 117, 112, 115, 83, 104, 97, 114, 101, 32, 98, 117, 114, 114, 111, 119, 47, 98, 117, 114, 114, 111, 119, 108, 97, 119, 48, 54, 46, 71, 114, 111, 117, 112, 115, 87, 104, 111, 108, 101, 32, 98, 117, 114, 114, 111, 119, 47, 98, 117, 114, 114, 111, 119, 108, 97, 119, 48, 52, 46, 77, 111, 100, 115, 79, 118, 101, 114, 32, 98, 117, 114, 114, 111, 119, 47, 98, 117, 114, 114, 111, 119, 108, 97, 119, 48, 55, 46, 83, 105, 103, 115, 66, 97, 99, 107, 32, 98, 117, 114, 114, 111, 119, 47, 98, 117, 114, 114, 111, 119, 108, 97, 119, 48, 55, 46, 83, 105, 103, 115, 66, 111, 117, 110, 100, 115])
theorem headSigns : ∃ R, wordsSigns Try.prog.initOrder.toList = (chars [104, 97, 114, 110, 101, 115, 115]) :: (chars [50, 54, 98, 52, 54, 102, 99, 52, 52, 54, 101, 52, 57, 52, 49, 101, 100, 56, 56, 101, 57, 101, 53, 56, 48, 50, 49, 53, 101, 55, 49, 102, 49, 48, 54, 97, 50, 57, 99, 100, 53, 97, 101, 100, 98, 97, 98, 102, 50, 57, 56, 57, 97, 102, 98, 56, 53, 52, 57, 57, 57, 54, 48, 55]) :: (chars [99, 117, 116]) :: wordsSigns R := by
  refine ⟨headRest, ?_⟩
  have h : Try.prog.initOrder = String.ofList ((chars [104, 97, 114, 110, 101, 115, 115]) ++ Char.ofNat 32 :: ((chars [50, 54, 98, 52, 54, 102, 99, 52, 52, 54, 101, 52, 57, 52, 49, 101, 100, 56, 56, 101, 57, 101, 53, 56, 48, 50, 49, 53, 101, 55, 49, 102, 49, 48, 54, 97, 50, 57, 99, 100, 53, 97, 101, 100, 98, 97, 98, 102, 50, 57, 56, 57, 97, 102, 98, 56, 53, 52, 57, 57, 57, 54, 48, 55]) ++ Char.ofNat 32 :: ((chars [99, 117, 116]) ++ Char.ofNat 32 :: headRest))) := by kernel_rfl
  rw [h, String.toList_ofList, words_ahead _ _ (by decide +kernel), words_ahead _ _ (by decide +kernel), words_ahead _ _ (by decide +kernel)]
theorem cutSigns (ws : List (List Char)) : behindMainWord ((chars [104, 97, 114, 110, 101, 115, 115]) :: (chars [50, 54, 98, 52, 54, 102, 99, 52, 52, 54, 101, 52, 57, 52, 49, 101, 100, 56, 56, 101, 57, 101, 53, 56, 48, 50, 49, 53, 101, 55, 49, 102, 49, 48, 54, 97, 50, 57, 99, 100, 53, 97, 101, 100, 98, 97, 98, 102, 50, 57, 56, 57, 97, 102, 98, 56, 53, 52, 57, 57, 57, 54, 48, 55]) :: (chars [99, 117, 116]) :: ws) = (chars [99, 117, 116]) :: ws := by kernel_rfl
theorem headWords : ∃ ws, behindMainWord (wordsSigns Try.prog.initOrder.toList) = (chars [99, 117, 116]) :: ws := by
  obtain ⟨R, hR⟩ := headSigns
  refine ⟨wordsSigns R, ?_⟩
  rw [hR]
  exact cutSigns (wordsSigns R)
theorem cutNot1 : ((chars [99, 117, 116]) == "gc".toList || (chars [99, 117, 116]) == "spec".toList) = false := by kernel_rfl
theorem cutNot2 : ((chars [99, 117, 116]) == "carried".toList) = false := by kernel_rfl
theorem cutIs : ((chars [99, 117, 116]) == "cut".toList) = true := by kernel_rfl
theorem cutHead (ws : List (List Char)) : (((chars [99, 117, 116]) :: ws).head? == some "cut".toList) = true := by kernel_rfl
theorem cutHead2 (ws : List (List Char)) : (((chars [99, 117, 116]) :: ws).head? == some "carried".toList) = false := by kernel_rfl
theorem cutStrip (ws : List (List Char)) : stripLifts liftWords ((chars [99, 117, 116]) :: ws) = ([], (chars [99, 117, 116]) :: ws) := by kernel_rfl
theorem noneLater : Try.prog.laysLater = false := by kernel_rfl
theorem noneReflect : Try.prog.bearsReflect = false := by kernel_rfl
theorem doorOK : Try.prog.doorFits [] = true := by kernel_rfl
theorem notFinals : ([] : List String).contains "finals" = false := rfl
theorem make_of {P : Program} {ws : List (List Char)} (h : behindMainWord (wordsSigns P.initOrder.toList) = (chars [99, 117, 116]) :: ws) : P.make = some .cut := by
  unfold Program.make
  rw [h]
  simp only [cutNot1, cutIs, Bool.false_eq_true, if_false, Bool.true_or, if_true]
theorem liftsFinal_of {P : Program} {ws : List (List Char)} (h : behindMainWord (wordsSigns P.initOrder.toList) = (chars [99, 117, 116]) :: ws) : P.liftsFinal = false := by
  unfold Program.liftsFinal Program.headLifts
  rw [h]
  simp only [cutHead, cutHead2, cutStrip, Bool.false_and, Bool.false_or, if_true, notFinals]
theorem mayEnter_of {P : Program} {ws : List (List Char)} (h : behindMainWord (wordsSigns P.initOrder.toList) = (chars [99, 117, 116]) :: ws) (h1 : P.laysLater = false) (h2 : P.bearsReflect = false) (h3 : P.doorFits [] = true) : P.mayEnter = true := by
  unfold Program.mayEnter
  rw [h]
  simp only [cutNot1, cutNot2, cutStrip, cutHead, h1, h2, h3, Bool.false_and, Bool.false_or, Bool.true_and, Bool.not_false, Bool.or_true, Bool.and_true]
  rfl
theorem make_ok : Try.prog.make = some .cut := by
  obtain ⟨ws, h⟩ := headWords
  exact make_of h
theorem liftsFinal_ok : Try.prog.liftsFinal = false := by
  obtain ⟨ws, h⟩ := headWords
  exact liftsFinal_of h
theorem mayEnter_ok : Try.prog.mayEnter = true := by
  obtain ⟨ws, h⟩ := headWords
  exact mayEnter_of h noneLater noneReflect doorOK
theorem laidOut_ok : laidOutB Try.prog = true := by kernel_rfl
theorem mapsRowed_ok : mapsRowed Try.prog = true := by kernel_rfl
theorem plainKeys_ok : Try.prog.plainKeys = true := by kernel_rfl
theorem stopsHeard_ok : Try.prog.stopsHeard = true := by kernel_rfl
end Go.Proofs
