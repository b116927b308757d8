/- Plain laws: lemmas that hold with no condition but those that each states. -/
import Derived.Test.YtmbbkmljmienjaaQ2
import Derived.SizedLaws
import Derived.Test.YtmbbkmljmienjaaProg
import Derived.KernelRfl
namespace Go.VM
open Go Go.ChangeShapes Go.WideShapes Go.ChangeAt Go.RowKit Go.Deep
theorem cells_of {W : World} {a : Addr} {len : Nat} {c : Nat → Value} (h : ∀ i, i < len → W.cell? (a.add i) = some (c i)) (h0 : len ≠ 0) :
    a.spot = none ∧ ∃ pre tail t fz, W.heap[a.block]? = some (.cells (pre ++ (List.range len).map c ++ tail).toArray t fz) ∧ pre.length = a.off := by
  obtain ⟨ab, ao, ax⟩ := a
  have hadd0 : (⟨ab, ao, ax⟩ : Addr).add 0 = ⟨ab, ao, ax⟩ := rfl
  have hspot : ax = none := by
    have := h 0 (by omega)
    rw [hadd0] at this
    unfold World.cell? at this
    split at this
    · cases ax with
      | none => rfl
      | some s => simp at this
    · cases this
  subst hspot
  have hcell : ∀ i, i < len → W.cell? ⟨ab, ao + i, none⟩ = some (c i) := fun i hi => by
    have := h i hi
    rw [addr_add] at this
    exact this
  have hh : ∃ cs t fz, W.heap[ab]? = some (.cells cs t fz) := by
    have := hcell 0 (by omega)
    unfold World.cell? at this
    split at this
    · exact ⟨_, _, _, by assumption⟩
    · cases this
  obtain ⟨cs, t', fz, hh⟩ := hh
  have hci : ∀ i, i < len → cs[ao + i]? = some (c i) := fun i hi => by
    have := hcell i hi
    simpa [World.cell?, hh] using this
  refine ⟨rfl, cs.toList.take ao, cs.toList.drop (ao + len), t', fz, ?_, ?_⟩
  · rw [hh]
    congr 2
    apply Array.ext'
    have hmid : (cs.toList.drop ao).take len = (List.range len).map c := by
      apply List.ext_getElem?
      intro i
      by_cases hi : i < len
      · have := hci i hi
        rw [List.getElem?_take_of_lt hi, List.getElem?_drop]
        simp [hi]
        simpa using this
      · rw [List.getElem?_eq_none (by simp; omega), List.getElem?_eq_none (by simp; omega)]
    rw [← hmid]
    show cs.toList = _
    conv => lhs; rw [← List.take_append_drop ao cs.toList, ← List.take_append_drop len (cs.toList.drop ao), List.drop_drop]
    rw [List.append_assoc]
  · have := hci 0 (by omega)
    simp only [Nat.add_zero] at this
    have hlt := (Array.getElem?_eq_some_iff.1 this).1
    simp; omega
theorem law_lifted_sized {H : Type} {enc : TypeId × Value → H} {C : Checked} {os : Os} {f : FuncId} {fn : Func} {s : ChangeSpec} {conds : List PathCond} {apart fresh handsOn again : Bool} {tb : TypeId}
    (own : ownKnob C.prog.godebug = none) (started : os.Started) (noInit : C.prog.inits.idxOf? f = none) (hfn : C.prog.funcs[f]? = some fn)
    (witness : ∃ (w : World) (tape : Tape) (i : Input), w.os = os ∧ (w.forCall tape i).Shaped C.prog ∧ i.vars = [] ∧ Input.okWide C.prog (w.forCall tape i) .any w.heap.size f i ∧
      s.pre6 enc C.prog fn conds apart (w.forCall tape i).memory i.args ∧ Assume.holds {} C.prog (lone (Frame.enter C.prog f i.args .normal) [] (w.forCall tape i)))
    (hlaid : laidOutB C.prog = true) (hmaps : mapsRowed C.prog = true) (hfull : ((List.range C.prog.types.size).all fun t => match C.prog.underlying t with | some (.slice e) => decide (0 < C.prog.cellsOf e) | _ => true) = true)
    (hts : ∀ t ∈ fn.params.toList, t < C.prog.types.size) (hvars : s.vars = []) (hres : fn.resultTypes = #[tb]) (htb : C.prog.underlying tb = some .bool)
    (hspec : ∀ ds : List (DataW H), ds.length = fn.params.size → s.fn H ds = { results := [.lit (.bool true)], args := ds })
    (walk : ∀ (W : World) (base : Nat) (args : Array Value) (ds : List (DataW H)) (ps : List MemPlace), DataW.TrodAll enc C.prog W 0 (fun _ => true) true fn.params.toList args.toList ds ps →
      (∀ (j : Nat) t v, fn.params[j]? = some t → args[j]? = some v → Value.okWide C.prog W .any base t v) → (DataW.weightsEach C.prog fn.params.toList ds).all (· ≤ reachBytes) = true → Calls C.prog f args W fun e W' => e = .returned (.bool true) ∧ Same W W') :
    ReturnsInHanded {} C os f .any (s.pre6 enc C.prog fn conds apart) (s.post enc C.prog fn apart fresh handsOn again) := by
  refine returnsInHanded_of_change_sized own started noInit hfn witness ?_
  intro W base args ds gs before hval hW _ hsz _
  have hW' := hW
  have hlt := hW.lt
  obtain ⟨p, q, hA, hV, rfl, _, _⟩ := hW
  rw [hvars] at hV
  obtain ⟨rfl, rfl⟩ := trodVars_none hV
  have hsp := hspec ds (by simpa using (trodAll_len hA).1)
  refine (walk W base args ds p hA hval (by
    have hv : s.plain.varTypes C.prog = [] := by simp [ChangeSpec.plain, DataSpec.varTypes, hvars]
    rw [hv, List.append_nil, List.append_nil] at hsz
    exact hsz)).mono fun e W' ⟨he, hs⟩ => ⟨.bool true, he, ?_⟩
  have hsp' : s.fn H (ds ++ []) = { results := [.lit (.bool true)], args := ds } := by rw [List.append_nil]; exact hsp
  refine post_same (pa := p) (pv := []) hW' (fun b sp hd => ?_) (fun sp hb => ?_) (fun sp _ => ?_) rfl (hs.kept _) hs.2.2.2.1 ?_
  · rw [hsp', hres]; exact trodAll_mk1 (shut_bool htb true)
  · rw [hsp']
    exact trodAll_carry (DataW.TrodAll.respare (kids_rows hlaid hmaps) (slices_full_of _ hfull) hts hA (fun x hx => hb x (by simpa using hx))) (fun x hx => same_at hs (hlt x (by simpa using hx)))
  · rw [hsp', hvars]; rfl
  · exact ok_one hres rfl (okWide_bool_mk htb true)
theorem weights_le {H : Type} {P : Program} {ts : List TypeId} {ds : List (DataW H)} (h : (DataW.weightsEach P ts ds).all (· ≤ reachBytes) = true) {j : Nat} {t : TypeId} {d : DataW H} (ht : ts[j]? = some t) (hd : ds[j]? = some d) : ∀ n ∈ d.weights P t, n ≤ 140737488351232 := fun n hn => by
  have := List.all_eq_true.1 h n (DataW.weights_mem_each ht hd n hn)
  exact of_decide_eq_true this
section
variable {H : Type} {enc : TypeId × Value → H} {P : Program}
theorem slice_in {W : World} {t e : TypeId} (ht : P.underlying t = some (.slice e)) (he : P.underlying e = some (.int .u8)) (hc : P.cellsOf e = 1) {n : Nat} {v : Value} {x : DataW H × List MemPlace}
    (h : DataW.trod enc P W 0 (fun _ => true) true n t [v] = some x) (hby : P.bytesOf e = 1) (hw : ∀ n ∈ x.1.weights P t, n ≤ 140737488351232) :
    ∃ (l : List Int) (b g : Nat), v = vwV (dec b) g 0 l.length ∧ (∀ z ∈ l, 0 ≤ z ∧ z < 256) ∧ l.length ≤ 140737488351232 ∧
      (l.length ≠ 0 → ∃ pre tail t fz, W.heap[(dec b).1]? = some (.cells (pre ++ l.map (Value.int .u8) ++ tail).toArray t fz) ∧ pre.length = (dec b).2) := by
  rcases open_slice1 ht hc h with ⟨h0, _⟩ | ⟨a', len', cap', m, n', V, D, Pl, h0, _, hl, hm, hmm, hx, hV⟩
  · simp at h0
    subst h0
    exact ⟨[], 0, 0, by simp [vwV, roomOf], by simp, by simp, by simp⟩
  · simp at h0
    subst h0
    have hmm' : m = cap' := by simpa using hmm
    subst hmm'
    have hz : ∀ i, i < m → ∃ z, V i = .int .u8 z ∧ (Lit.int .u8 z).wf = true := fun i hi => trod_int1 he (hV i hi).2
    obtain ⟨z, hz⟩ := choose_lt hz
    obtain ⟨b, hb⟩ := dec_onto a'.block a'.off
    obtain ⟨g, hg⟩ := view_onto (q := dec b) (ad := some a') (off := 0) (len := len') (cap := m) hl (fun h => by cases h) (fun y hy => by
      simp only [Option.some.injEq] at hy
      subst hy
      refine ⟨a'.off, a'.spot, by rw [hb], fun h0 => ⟨by rw [hb]; rfl, ?_⟩⟩
      exact (cells_of (fun i hi => (hV i hi).1) h0).1)
    have hle : len' ≤ 140737488351232 := by
      have := hw _ (show (((List.range len').map D).length + ((List.range (m - len')).map fun j => D (len' + j)).length) * P.bytesOf e ∈ x.1.weights P t by rw [hx]; simp [DataW.weights, ht])
      rw [hby] at this
      simp at this
      omega
    refine ⟨(List.range len').map z, b, g, by rw [hg]; simp, fun y hy => ?_, by simpa using hle, fun h0 => ?_⟩
    · obtain ⟨i, hi, rfl⟩ := List.mem_map.1 hy
      exact wf_u8 (hz i (by have := List.mem_range.1 hi; omega)).2
    · simp only [List.length_map, List.length_range] at h0
      obtain ⟨_, pre, tail, t', fz, e1, e2⟩ := cells_of (W := W) (a := a') (len := len') (c := V) (fun i hi => (hV i (by omega)).1) h0
      refine ⟨pre, tail, t', fz, ?_, by rw [hb]; exact e2⟩
      rw [hb]
      have hm2 : (List.range len').map V = ((List.range len').map z).map (Value.int .u8) := by
        rw [List.map_map]
        exact List.map_congr_left fun i hi => (hz i (by have hi' : i < len' := List.mem_range.1 hi; omega)).1
      rw [← hm2]
      exact e1
def entsL (ps : List (List Int)) : List Ent := ps.map fun l => (l.length, l.length, l)
theorem padV_self (l : List Int) : padV l.length l = l.map (Value.int .u8) := by
  rw [← cells_padV id, cells_full]
theorem rows_view {W : World} {base : Nat} {t s e : TypeId} (ht : P.underlying t = some (.slice s)) (hs : P.underlying s = some (.slice e)) (hcs : P.cellsOf s = 1) (he : P.underlying e = some (.int .u8)) (hc : P.cellsOf e = 1) {v : Value} {d : DataW H} {ps : List MemPlace}
    (h : DataW.Trod enc P W 0 (fun _ => true) true t v d ps) (hok : Value.okWide P W .any base t v) (hby : P.bytesOf e = 1) (hw : ∀ n ∈ d.weights P t, n ≤ 140737488351232) :
    ∃ (ls : List (List Int)) (b g q : Nat), v = vwV (dec b) g 0 ls.length ∧ (∀ l ∈ ls, ∀ z ∈ l, 0 ≤ z ∧ z < 256) ∧ (∀ l ∈ ls, l.length ≤ 140737488351232) ∧ ls.length ≤ maxLen ∧ EntsOK W.heap false q (entsL ls) ∧
      (ls.length ≠ 0 → ∃ pre tail t fz, W.heap[(dec b).1]? = some (.cells (pre ++ hdrs false q (entsL ls) ++ tail).toArray t fz) ∧ pre.length = (dec b).2) := by
  obtain ⟨a, len, cap, rfl⟩ := okWide_slice ht hok
  obtain ⟨fuel, hf⟩ := h
  rcases open_slice1 ht hcs hf with ⟨h0, _⟩ | ⟨a', len', cap', m, n, V, D, Pl, h0, _, hl, hm, hmm, hx, hV⟩
  · simp [Value.cells] at h0
    obtain ⟨rfl, rfl, rfl⟩ := h0
    exact ⟨[], 0, 0, 0, by simp [vwV, roomOf], by simp, by simp, by simp, trivial, by simp⟩
  · simp [Value.cells] at h0
    obtain ⟨rfl, rfl, rfl⟩ := h0
    have hmm' : m = cap := by simpa using hmm
    subst hmm'
    have hz : ∀ i, i < m → ∃ p : List Int × Nat × Nat, V i = vwV (dec p.2.1) p.2.2 0 p.1.length ∧ (∀ z ∈ p.1, 0 ≤ z ∧ z < 256) ∧ p.1.length ≤ 140737488351232 ∧
        (p.1.length ≠ 0 → ∃ pre tail t fz, W.heap[(dec p.2.1).1]? = some (.cells (pre ++ p.1.map (Value.int .u8) ++ tail).toArray t fz) ∧ pre.length = (dec p.2.1).2) := fun i hi => by
      obtain ⟨l, b, g, h⟩ := slice_in hs he hc (hV i hi).2 hby (fun n hn => hw n (by
        have hd : d = .slice ((List.range len).map D) ((List.range (m - len)).map fun j => D (len + j)) := congrArg Prod.fst hx
        have hall : ∀ (l : List (DataW H)) (y : DataW H), y ∈ l → n ∈ y.weights P s → n ∈ DataW.weightsAll P s l := by
          intro l
          induction l with
          | nil => intro y hy; cases hy
          | cons a l ih =>
            intro y hy hn
            simp only [DataW.weightsAll, List.mem_append]
            rcases List.mem_cons.1 hy with rfl | hy
            · exact .inl hn
            · exact .inr (ih y hy hn)
        rw [hd]
        simp only [DataW.weights, ht, List.mem_cons, List.mem_append]
        by_cases hil : i < len
        · exact .inr (.inl (hall _ _ (List.mem_map.2 ⟨i, by simpa using hil, rfl⟩) hn))
        · refine .inr (.inr (hall _ _ (List.mem_map.2 ⟨i - len, by simp; omega, ?_⟩) hn))
          rw [show len + (i - len) = i by omega]))
      exact ⟨(l, b, g), h⟩
    obtain ⟨z, hz⟩ := choose_lt hz
    obtain ⟨b, hb⟩ := dec_onto a'.block a'.off
    obtain ⟨g, hg⟩ := view_onto (q := dec b) (ad := some a') (off := 0) (len := len) (cap := m) hl (fun h => by cases h) (fun y hy => by
      simp only [Option.some.injEq] at hy
      subst hy
      refine ⟨a'.off, a'.spot, by rw [hb], fun h0 => ⟨by rw [hb]; rfl, ?_⟩⟩
      exact (cells_of (fun i hi => (hV i hi).1) h0).1)
    have hE : ∀ x : List Int × Nat × Nat, ∃ e, dec e = (x.2.1, x.2.2) := fun x => dec_onto _ _
    have hrow := row_of (hp := W.heap) (x := false) ((List.range len).map fun i => (Classical.choose (hE (z i)), ((z i).1.length, (z i).1.length, (z i).1))) (fun p hp => by
      obtain ⟨i, hi, rfl⟩ := List.mem_map.1 hp
      have hi' : i < len := by simpa using hi
      have he' := Classical.choose_spec (hE (z i))
      intro h0
      obtain ⟨pre, tail, t', fz, e1, e2⟩ := (hz i (by omega)).2.2.2 h0
      rw [he']
      exact ⟨pre, tail, t', fz, by rw [padV_self]; exact e1, e2⟩)
    obtain ⟨q, r1, r2, _⟩ := hrow
    have hmap : ((List.range len).map fun i => (Classical.choose (hE (z i)), (((z i).1.length, (z i).1.length, (z i).1) : Ent))).map (·.2) = entsL ((List.range len).map fun i => (z i).1) := by
      simp [entsL, List.map_map, Function.comp_def]
    rw [hmap] at r1 r2
    refine ⟨(List.range len).map fun i => (z i).1, b, g, q, by rw [hg]; simp, fun l hl' => ?_, fun l hl' => ?_, by simp; omega, r2, fun h0 => ?_⟩
    · obtain ⟨i, hi, rfl⟩ := List.mem_map.1 hl'
      exact (hz i (by have := List.mem_range.1 hi; omega)).2.1
    · obtain ⟨i, hi, rfl⟩ := List.mem_map.1 hl'
      exact (hz i (by have := List.mem_range.1 hi; omega)).2.2.1
    · simp only [List.length_map, List.length_range] at h0
      obtain ⟨_, pre, tail, t', fz, e1, e2⟩ := cells_of (W := W) (a := a') (len := len) (c := V) (fun i hi => (hV i (by omega)).1) h0
      refine ⟨pre, tail, t', fz, ?_, by rw [hb]; exact e2⟩
      rw [hb, r1]
      have hm2 : (List.range len).map V = ((List.range len).map fun i => (Classical.choose (hE (z i)), (((z i).1.length, (z i).1.length, (z i).1) : Ent))).map fun p => hdr false p.1 p.2 := by
        rw [List.map_map]
        refine List.map_congr_left fun i hi => ?_
        have hi' : i < len := List.mem_range.1 hi
        rw [(hz i (by omega)).1]
        simp only [Function.comp, hdr, cond_false, Classical.choose_spec (hE (z i))]
      rw [← hm2]
      exact e1
end
theorem law_calls_any {P : Program} {f : FuncId} {X Y : Type} {m : Nat} {inA : VS → Option X} {F : X → Option Y} {des : ∀ α : Type, Y → (VS → Option α) → Option α} (h : EntryOK P f (genE m inA F des)) {vs : List VV} {M : List (Nat × Blk)} {n : Nat} {me : ME}
    (hk : genE m inA F des (VV × ME) vs M n (fun v me => some (v, me)) = some (.bool true, me)) (hup : me.up = []) (hok : ∀ u ∈ vs, u.okL ∧ ∀ i ∈ u.ids, i < n) (ρ : Nat → Nat) (W : World)
    (hM : ∀ q ∈ M, isRo q.2.2.2 = true ∧ VV.mems q.2.1 = true ∧ (∀ i ∈ bids q.2, i < n) ∧ Holds ρ W q.1 q.2) (hg : GL W) :
    Calls P f (vs.map (VV.den ρ)).toArray W fun e W' => e = .returned (.bool true) ∧ Same W W' := by
  have hM' : ∀ b x, getA M b = some x → isRo x.2.2 = true ∧ VV.mems x.1 = true ∧ (∀ i ∈ bids x, i < n) ∧ Holds ρ W b x := fun b x hx => hM (b, x) (getA_mem hx)
  obtain ⟨v, me', h1, h2⟩ := h (VV × ME) vs M n (fun v me => some (v, me)) (.bool true, me) hk
  simp only [Option.some.injEq, Prod.mk.injEq] at h1
  obtain ⟨rfl, rfl⟩ := h1
  obtain ⟨_, _, h3⟩ := h2
  obtain ⟨_, h4⟩ := h3 ρ (· < n) W hok (fun b _ blk hb => ⟨(hM' b blk hb).2.2.2, (hM' b blk hb).2.1, (hM' b blk hb).2.2.1⟩)
    (fun b c _ _ _ x y hx _ k ho => absurd ho (own_no_ro (hM' b x hx).1)) (fun i hi => by omega) ⟨hg, fun b _ x hx k ho => absurd ho (own_no_ro (hM' b x hx).1)⟩
  refine h4.mono fun e W' ⟨ρ', he, _, hm⟩ => by
    have hk : ∀ j, j < W.heap.size → W'.heap[j]? = W.heap[j]? := fun j hj => hm.kept j hj (fun b x hb => by rw [hup] at hb; simp [getA] at hb) fun d _ y hy _ => own_no_ro (hM' d y hy).1
    exact ⟨he, hm.os, hm.output, hm.size, fun ad had => frozen_kept (hk _ had), hk⟩
theorem rr_holds {W : World} {ρ : Nat → Nat} {i j : Nat} {ls : List (List Int)} {b q : Nat} (hb : ρ i = b) (hq : ρ j = q) (h1 : EntsOK W.heap false q (entsL ls))
    (h : ls.length ≠ 0 → ∃ pre tail t fz, W.heap[(dec b).1]? = some (.cells (pre ++ hdrs false q (entsL ls) ++ tail).toArray t fz) ∧ pre.length = (dec b).2) :
    Holds ρ W i ([], 0, .rr false j (entsL ls)) := by
  simp only [Holds, hb, hq]
  exact ⟨trivial, h1, fun hn => h (by simpa [entsL] using hn)⟩
end Go.VM

namespace Go.VM
open Go Go.ChangeShapes Go.WideShapes Go.ChangeAt Go.RowKit
section
variable {H : Type} {enc : TypeId × Value → H} {P : Program} {W : World} {base : Nat}
theorem strs_view {t s : TypeId} (hs : P.underlying s = some .string) (hc : P.cellsOf s = 1 ∧ P.cellsOf t = 2) (ht : P.underlying t = some (.array 2 s)) {v : Value} {d : DataW H} {ps : List MemPlace}
    (h : DataW.Trod enc P W 0 (fun _ => true) true t v d ps) (hok : Value.okWide P W .any base t v) : ∃ s r : ByteArray, s.size ≤ maxLen ∧ r.size ≤ maxLen ∧ v = (VV.agg [.str s, .str r]).den id := by
  obtain ⟨fuel, h1⟩ := h
  unfold Value.okWide at hok
  rw [ht] at hok
  obtain ⟨cs, rfl, _⟩ := hok
  obtain ⟨xs, m, _, _, hl, hlen, hf⟩ := DataW.trod_array ht h1
  match xs, hlen with
  | [y0, y1], _ =>
    have q0 := hf 0 (by omega)
    have q1 := hf 1 (by omega)
    simp only [hc.1] at q0 q1
    obtain ⟨a, e0, _, w0⟩ := DataW.trod_string hs (show _ = some y0 from q0)
    obtain ⟨b, e1, _, w1⟩ := DataW.trod_string hs (show _ = some y1 from q1)
    refine ⟨a, b, w0, w1, ?_⟩
    show Value.agg cs = Value.agg (VV.cellss id _).toArray
    simp only [VV.cellss, List.append_nil, VV.cells]
    obtain ⟨L, hL⟩ : ∃ L, L = (Value.agg cs).cells.toList := ⟨_, rfl⟩
    rw [← hL] at e0 e1 hl
    rw [hc.2] at hl
    have hend : (L.drop 1).take 1 = L.drop 1 := List.take_of_length_le (by simp; omega)
    have e : L = (L.drop 0).take 1 ++ (L.drop 1).take 1 := by
      rw [hend, ← cut_at _ 0 1]; rfl
    rw [show 0 * 1 = 0 from rfl] at e0
    rw [show 1 * 1 = 1 from rfl] at e1
    rw [e0, e1] at e
    rw [← show L = [Value.string a] ++ [Value.string b] from e, hL]; rfl
end
end Go.VM

namespace Go.VM
def Does (P : Program) (f : FuncId) (m : Nat) (vs : List VV) (M0 : List (Nat × Blk)) (t : VS) : Prop :=
  m ≤ t.n ∧ (∀ b x, getA t.M b = some x → b < t.n ∧ ∀ i ∈ bids x, i < t.n) ∧ ∀ v, getA t.L 0 = some v → v.okL ∧ (∀ i ∈ v.ids, i < t.n) ∧ ∀ (ρ : Nat → Nat) (w : World), (∀ u ∈ vs, u.okL ∧ ∀ i ∈ u.ids, i < m) →
    (∀ b x, getA M0 b = some x → Holds ρ w b x ∧ VV.mems x.1 = true ∧ (∀ i ∈ bids x, i < m) ∧ b < m) → (∀ b d, b ≠ d → Parted ρ (getA M0) b d) → (GL w ∧ ∀ b x, getA M0 b = some x → ∀ k, own ρ b x k → ∀ g ∈ globs, g.1 ≠ k) →
    Calls P f (vs.map (VV.den ρ)).toArray w fun e w' => ∃ ρ', e = .returned (v.den ρ') ∧ Left m M0 t ρ ρ' w w'
theorem hand_ok {P : Program} {f : FuncId} {fn : Func} {c : Code} (hf : P.funcs[f]? = some fn) (hb : fn.body = some c) (hname : (fn.name == "runtime.NumGoroutine") = false) {m : Nat}
    {X Y : Type} {av : X → List VV} {bl : X → List (Nat × Blk)} {inA : VS → Option X} {F : X → Option Y} {out : Y → VS} {des : ∀ α : Type, Y → (VS → Option α) → Option α}
    (hA : ∀ s x, inA s = some x → s = ⟨initL 0 (av x), bl x, m⟩) (hdes : ∀ α y k, des α y k = k (out y))
    (hF : ∀ x y, F x = some y → Does P f m (av x) (bl x) (out y)) : EntryOK P f (genE m inA F des) := by
  intro α vs M n k r h
  simp only [genE, genE.genW] at h
  generalize hord : orderOf 0 M (VV.idss vs) = ord at h
  cases hlen : Nat.beq ord.length m with
  | false => simp [hlen] at h
  | true =>
  have hlen' : ord.length = m := by simpa using hlen
  simp only [hlen, cond_true] at h
  obtain ⟨s, hs, h⟩ := Option.bind_eq_some_iff.1 h
  obtain ⟨x, hx, h⟩ := Option.bind_eq_some_iff.1 h
  obtain ⟨y, hy, h⟩ := Option.bind_eq_some_iff.1 h
  rw [hdes] at h
  have hren := canonW_spec hs
  have hsx := hA s x hx
  obtain ⟨hmt, hstat, ht2⟩ := hF x y hy
  generalize out y = t at *

  unfold finE at h
  split at h
  case h_2 => cases h
  rename_i v hL
  have hv : getA t.L 0 = some v := by rw [hL]; simp [getA]
  obtain ⟨hok, hvi, hcall⟩ := ht2 v hv
  cases hkeys : (keysIn (renM (outR ord m n) (noRo t.M t.M)) (ownL M (hasM M ord)) && oldIn (hasM M ord) ord m t.M && memsM t.M) with
  | false => simp [hkeys] at h
  | true =>
  simp only [hkeys, cond_true] at h
  simp only [Bool.and_eq_true] at hkeys
  obtain ⟨⟨hk1, hk2⟩, hk3⟩ := hkeys

  obtain ⟨τ, hτ1, hτ2⟩ := hren.Lre
  have hav : av x = vs.map (VV.ren τ) := by
    rw [hsx, initL_ren] at hτ1
    exact initL_inj hτ1
  have hvids : ∀ u ∈ vs, ∀ i ∈ u.ids, ord.getD (τ i) 0 = i ∧ τ i < ord.length := fun u hu i hi => by
    obtain ⟨t, ht⟩ := initL_mem (i := 0) hu
    exact hτ2 (t, u) ht i hi
  have hM : s.M = bl x := by rw [hsx]
  refine ⟨_, _, h, ⟨fn, hf, hname, by rw [hb]; rfl⟩, fun b hb => (hasM_iff.1 hb).2, fun ρ p w hu hmm hinj hpn hgd => ?_⟩
  have hordp : ∀ i ∈ ord, p i := by
    rw [← hord]
    refine reach_p (fun j hj => ?_) fun b hb x hx j hj => ?_
    · rcases insNew_mem.1 hj with hj | hj
      · simp at hj
      · obtain ⟨u, hu1, hu2⟩ := mem_idss.1 hj
        exact (hu u hu1).2 j hu2
    · refine (hmm b (hasM_iff.2 ⟨?_, by simp [hx]⟩) x hx).2.2 j hj
      rw [← hord]; exact hb
  have hσp : ∀ i, i < m → p (ord.getD i 0) := fun i hi => hordp _ (by
    rw [List.getD_eq_getElem?_getD, List.getElem?_eq_getElem (by omega)]; exact List.getElem_mem _)
  have hRp : ∀ j, j < t.n → p (outR ord m n j) ∨ (n ≤ outR ord m n j ∧ outR ord m n j < n + (t.n - m)) := by
    intro j hj
    unfold outR
    cases hb : Nat.blt j m with
    | true => simp only [cond_true]; exact .inl (hσp j (by simpa [Nat.blt_eq] using hb))
    | false =>
      simp only [cond_false]
      have : ¬ j < m := by intro hlt; have : Nat.blt j m = true := by simpa [Nat.blt_eq] using hlt
                           rw [hb] at this; cases this
      exact .inr ⟨by omega, by omega⟩
  have hkey := hcall (fun i => ρ (ord.getD i 0)) w (fun u hu' => by
      rw [hav] at hu'
      obtain ⟨u0, hu0, rfl⟩ := List.mem_map.1 hu'
      refine ⟨okL_ren.2 (hu u0 hu0).1, fun i hi => ?_⟩
      rw [ids_ren] at hi
      obtain ⟨j, hj, rfl⟩ := List.mem_map.1 hi
      have := (hvids u0 hu0 j hj).2
      omega)
    (fun b z hz => by
      rw [← hM] at hz
      obtain ⟨z0, e1, e2, e3, e4⟩ := hren.M b z hz
      obtain ⟨m1, m2, _⟩ := hmm (ord.getD b 0) (hasM_iff.2 ⟨by rw [List.getD_eq_getElem?_getD, List.getElem?_eq_getElem e3]; exact List.getElem_mem _, by rw [e1]; rfl⟩) z0 e1
      subst e2
      exact ⟨Holds_ren.1 m1, by simpa [renB, mems_ren] using m2, fun i hi => by have := e4 i hi; omega, by omega⟩)
    (fun b d hbd z z' hz hz' q hq ho => by
      rw [← hM] at hz hz'
      obtain ⟨z0, e1, e2, e3, _⟩ := hren.M b z hz
      obtain ⟨z1, f1, f2, f3, _⟩ := hren.M d z' hz'
      subst e2; subst f2
      have in1 : ord.getD b 0 ∈ hasM M ord := hasM_iff.2 ⟨by rw [List.getD_eq_getElem?_getD, List.getElem?_eq_getElem e3]; exact List.getElem_mem _, by rw [e1]; rfl⟩
      have in2 : ord.getD d 0 ∈ hasM M ord := hasM_iff.2 ⟨by rw [List.getD_eq_getElem?_getD, List.getElem?_eq_getElem f3]; exact List.getElem_mem _, by rw [f1]; rfl⟩
      exact hinj _ _ in1 in2 (fun e => hbd (hren.inj b d e3 f3 e)) _ _ e1 f1 q (own_ren.2 hq) (occ_ren.2 ho))
    ⟨hgd.1, fun b z hz q hq g hg => by
      rw [← hM] at hz
      obtain ⟨z0, e1, e2, e3, _⟩ := hren.M b z hz
      subst e2
      exact hgd.2 (ord.getD b 0) (hasM_iff.2 ⟨by rw [List.getD_eq_getElem?_getD, List.getElem?_eq_getElem e3]; exact List.getElem_mem _, by rw [e1]; rfl⟩) _ e1 q (own_ren.2 hq) g hg⟩
  have hvs' : ((av x).map (VV.den fun i => ρ (ord.getD i 0))).toArray = (vs.map (VV.den ρ)).toArray := by
    rw [hav, List.map_map]
    congr 1
    refine List.map_congr_left fun u hu' => ?_
    rw [Function.comp, den_ren]
    refine den_congr u fun i hi => ?_
    rw [(hvids u hu' i hi).1]
  rw [hvs'] at hkey
  refine ⟨⟨okL_ren.2 hok, fun i hi => ?_, fun b blk hg => ?_, fun b hb => hordp b (hasM_iff.1 hb).1⟩, hkey.mono fun e w' ⟨ρ1, he, hleft⟩ => ?_⟩
  · rw [ids_ren] at hi
    obtain ⟨j, hj, rfl⟩ := List.mem_map.1 hi
    exact hRp j (hvi j hj)
  · obtain ⟨j, z, e1, _, rfl, rfl⟩ := renM_noRo_get hg
    obtain ⟨j1, j2⟩ := hstat j z e1
    refine ⟨?_, by simpa [renB, mems_ren] using memsM_spec hk3 e1, fun i hi => ?_⟩
    · by_cases hjm : j < m
      · left
        have hb : Nat.blt j m = true := by simpa [Nat.blt_eq] using hjm
        simp only [outR, hb, cond_true]
        exact oldIn_spec hk2 e1 hjm
      · right
        have hb : Nat.blt j m = false := by
          cases hb : Nat.blt j m with
          | false => rfl
          | true => exact absurd (by simpa [Nat.blt_eq] using hb) hjm
        simp only [outR, hb, cond_false]
        exact ⟨by omega, by omega⟩
    · rw [bids_ren] at hi
      obtain ⟨q, hq, rfl⟩ := List.mem_map.1 hi
      exact hRp q (j2 q hq)
  · let ρ' : Nat → Nat := fun j => if n ≤ j ∧ j < n + (t.n - m) then ρ1 (m + (j - n)) else ρ j
    have hag : ∀ i, ¬ (n ≤ i ∧ i < n + (t.n - m)) → ρ' i = ρ i := fun i hi => if_neg hi
    have hpρ : ∀ i, p i → ρ' i = ρ i := fun i hi => hag i (hpn i hi)
    have hR' : ∀ j, j < t.n → ρ' (outR ord m n j) = ρ1 j := by
      intro j hj
      unfold outR
      cases hb : Nat.blt j m with
      | true =>
        have hjm : j < m := by simpa [Nat.blt_eq] using hb
        simp only [cond_true]
        rw [hpρ _ (hσp j hjm), hleft.base j hjm]
      | false =>
        have hjm : ¬ j < m := by intro hlt; have : Nat.blt j m = true := by simpa [Nat.blt_eq] using hlt
                                 rw [hb] at this; cases this
        simp only [cond_false]
        show (if n ≤ n + (j - m) ∧ n + (j - m) < n + (t.n - m) then ρ1 (m + (n + (j - m) - n)) else ρ (n + (j - m))) = ρ1 j
        rw [if_pos ⟨by omega, by omega⟩]
        congr 1; omega
    have hown : ∀ j x, getA t.M j = some x → ∀ k, own ρ' (outR ord m n j) (renB (outR ord m n) x) k ↔ own ρ1 j x k := fun j x hx k => by
      obtain ⟨j1, j2⟩ := hstat j x hx
      rw [own_ren]
      exact own_congr (hR' j j1) fun i hi => hR' i (j2 i hi)
    have hocc : ∀ j x, getA t.M j = some x → ∀ k, occ ρ' (outR ord m n j) (renB (outR ord m n) x) k ↔ occ ρ1 j x k := fun j x hx k => by
      obtain ⟨j1, j2⟩ := hstat j x hx
      rw [occ_ren]
      exact occ_congr (hR' j j1) fun i hi => hR' i (j2 i hi)

    have hin : ∀ d z, getA (bl x) d = some z → ∀ k, own (fun i => ρ (ord.getD i 0)) d z k → ord.getD d 0 ∈ hasM M ord ∧ ∃ z0, getA M (ord.getD d 0) = some z0 ∧ own ρ' (ord.getD d 0) z0 k := by
      intro d z hz k hk
      rw [← hM] at hz
      obtain ⟨z0, e1, e2, e3, e4⟩ := hren.M d z hz
      have hin : ord.getD d 0 ∈ ord := by rw [List.getD_eq_getElem?_getD, List.getElem?_eq_getElem e3]; exact List.getElem_mem _
      have hin2 : ord.getD d 0 ∈ hasM M ord := hasM_iff.2 ⟨hin, by rw [e1]; rfl⟩
      refine ⟨hin2, z0, e1, ?_⟩
      have h3 : own ρ (ord.getD d 0) z0 k := by rw [e2]; exact own_ren.2 hk
      exact (own_congr (hpρ _ (hordp _ hin)) fun i hi => hpρ i ((hmm _ hin2 z0 e1).2.2 i hi)).2 h3
    have hino : ∀ d z, getA (bl x) d = some z → ∀ k, occ (fun i => ρ (ord.getD i 0)) d z k → ord.getD d 0 ∈ hasM M ord ∧ ∃ z0, getA M (ord.getD d 0) = some z0 ∧ occ ρ' (ord.getD d 0) z0 k := by
      intro d z hz k hk
      rw [← hM] at hz
      obtain ⟨z0, e1, e2, e3, e4⟩ := hren.M d z hz
      have hin : ord.getD d 0 ∈ ord := by rw [List.getD_eq_getElem?_getD, List.getElem?_eq_getElem e3]; exact List.getElem_mem _
      have hin2 : ord.getD d 0 ∈ hasM M ord := hasM_iff.2 ⟨hin, by rw [e1]; rfl⟩
      refine ⟨hin2, z0, e1, ?_⟩
      have h3 : occ ρ (ord.getD d 0) z0 k := by rw [e2]; exact occ_ren.2 hk
      exact (occ_congr (hpρ _ (hordp _ hin)) fun i hi => hpρ i ((hmm _ hin2 z0 e1).2.2 i hi)).2 h3
    refine ⟨ρ', ?_, hag, ⟨hleft.os, hleft.tape, hleft.output, hleft.size, fun b z hz => ?_, fun b z hz k hk => ?_, fun b d hbd z z' hz hz' k hk ho => ?_, fun k hk h1 h2 => ?_⟩⟩
    · rw [he, den_ren]
      congr 1
      exact den_congr v fun i hi => (hR' i (hvi i hi)).symm
    · obtain ⟨j, z, e1, _, rfl, rfl⟩ := renM_noRo_get hz
      obtain ⟨j1, j2⟩ := hstat j z e1
      exact Holds_ren.2 ((hleft.mm j z e1).congr (hR' j j1) (fun i hi => hR' i (j2 i hi)) fun _ _ => rfl)
    · obtain ⟨j, z, e1, e0, rfl, rfl⟩ := renM_noRo_get hz
      by_cases hko : own ρ' (outR ord m n j) (renB (outR ord m n) z) k
      · rcases hleft.src j z e1 k ((hown j z e1 k).1 hko) with hs | ⟨d, y', hd, hdo⟩
        · exact .inl hs
        · obtain ⟨g1, z0, g2, g3⟩ := hin d y' hd k hdo
          exact .inr ⟨_, g1, z0, g2, occ_of_own g3, fun _ => g3, fun _ => keysIn_spec hk1 _ (ownL_mem g1 (own_not_ro g2 g3))⟩
      · rcases hleft.occs j z e1 k ((hocc j z e1 k).1 hk) with hs | ⟨d, y', hd, hdo⟩
        · exact .inl hs
        · obtain ⟨g1, z0, g2, g3⟩ := hino d y' hd k hdo
          exact .inr ⟨_, g1, z0, g2, g3, fun h => absurd h hko, fun h => keysIn_spec hk1 _ (ownL_mem g1 (own_not_ro g2 h))⟩
    · obtain ⟨j, z, e1, _, rfl, rfl⟩ := renM_noRo_get hz
      obtain ⟨j', z', f1, _, rfl, rfl⟩ := renM_noRo_get hz'
      exact hleft.inj j j' (fun e => hbd (by rw [e])) z z' e1 f1 k ((hown j z e1 k).1 hk) ((hocc j' z' f1 k).1 ho)
    · refine hleft.kept k hk fun d y' hd hdo => ?_
      obtain ⟨g1, z0, g2, g3⟩ := hin d y' hd k hdo
      exact h2 _ g1 z0 g2 (keysIn_spec hk1 _ (ownL_mem g1 (own_not_ro g2 g3))) g3
end Go.VM

namespace Go.Proofs
open Go.VM
theorem mix : Try.prog.follows .mixedOrders = true := by kernel_rfl
noncomputable def bodyOf (f : Func) : Code := f.body.getD .skip
def ti3 : TI := ⟨1, (Go.TypeDesc.int Go.IntKind.i64), [.int .i64 0], 0, [], false, 0⟩
theorem ty3 : TyOK Try.prog 3 ti3 := ⟨by kernel_rfl, by kernel_rfl, rfl, rfl, rfl, rfl, trivial, trivial, fun h => absurd rfl h, fun h => by cases h⟩
def ti4 : TI := ⟨1, Go.TypeDesc.bool, [.bool false], 0, [], false, 0⟩
theorem ty4 : TyOK Try.prog 4 ti4 := ⟨by kernel_rfl, by kernel_rfl, rfl, rfl, rfl, rfl, trivial, trivial, fun h => absurd rfl h, fun h => by cases h⟩
def ti5 : TI := ⟨1, (Go.TypeDesc.int Go.IntKind.u8), [.int .u8 0], 0, [], false, 1⟩
theorem ty5 : TyOK Try.prog 5 ti5 := ⟨by kernel_rfl, by kernel_rfl, rfl, rfl, rfl, rfl, trivial, trivial, fun _ => by kernel_rfl, fun h => by cases h⟩
def ti9 : TI := ⟨1, Go.TypeDesc.string, [.str ByteArray.empty], 0, [], false, 0⟩
theorem ty9 : TyOK Try.prog 9 ti9 := ⟨by kernel_rfl, by kernel_rfl, rfl, rfl, rfl, rfl, trivial, trivial, fun h => absurd rfl h, fun h => by cases h⟩
def ti22 : TI := ⟨1, .slice 5, [.raw (.slice none 0 0)], 1, [], false, 24⟩
theorem ty22 : TyOK Try.prog 22 ti22 := ⟨by kernel_rfl, by kernel_rfl, rfl, rfl, rfl, rfl, by show _ = _; kernel_rfl, trivial, fun _ => by kernel_rfl, fun h => by cases h⟩
def ti23 : TI := ⟨1, .slice 22, [.raw (.slice none 0 0)], 1, [], false, 0⟩
theorem ty23 : TyOK Try.prog 23 ti23 := ⟨by kernel_rfl, by kernel_rfl, rfl, rfl, rfl, rfl, by show _ = _; kernel_rfl, trivial, fun h => absurd rfl h, fun h => by cases h⟩
def ti29 : TI := ⟨32, .array 32 5, [.ints .u8 32 [0, 0, 0, 0, 0, 0, 0, 0, 0, 0, 0, 0, 0, 0, 0, 0, 0, 0, 0, 0, 0, 0, 0, 0, 0, 0, 0, 0, 0, 0, 0, 0]], 1, [], true, 0⟩
theorem ty29 : TyOK Try.prog 29 ti29 := ⟨by kernel_rfl, by kernel_rfl, rfl, rfl, rfl, rfl, by show _ = _; kernel_rfl, trivial, fun h => absurd rfl h, fun _ => eqs_arr (e := 5) (by kernel_rfl) (by kernel_rfl) ⟨.u8, by kernel_rfl⟩ (by kernel_rfl)⟩
def ti34 : TI := ⟨1, .slice 35, [.raw (.slice none 0 0)], 1, [], false, 0⟩
theorem ty34 : TyOK Try.prog 34 ti34 := ⟨by kernel_rfl, by kernel_rfl, rfl, rfl, rfl, rfl, by show _ = _; kernel_rfl, trivial, fun h => absurd rfl h, fun h => by cases h⟩
def ti35 : TI := ⟨1, (Go.TypeDesc.int Go.IntKind.u16), [.int .u16 0], 0, [], false, 0⟩
theorem ty35 : TyOK Try.prog 35 ti35 := ⟨by kernel_rfl, by kernel_rfl, rfl, rfl, rfl, rfl, trivial, trivial, fun h => absurd rfl h, fun h => by cases h⟩
def ti37 : TI := ⟨1, (Go.TypeDesc.int Go.IntKind.u64), [.int .u64 0], 0, [], false, 0⟩
theorem ty37 : TyOK Try.prog 37 ti37 := ⟨by kernel_rfl, by kernel_rfl, rfl, rfl, rfl, rfl, trivial, trivial, fun h => absurd rfl h, fun h => by cases h⟩
def ti39 : TI := ⟨4, .array 4 37, [.ints .u64 4 [0, 0, 0, 0]], 1, [], true, 0⟩
theorem ty39 : TyOK Try.prog 39 ti39 := ⟨by kernel_rfl, by kernel_rfl, rfl, rfl, rfl, rfl, by show _ = _; kernel_rfl, trivial, fun h => absurd rfl h, fun _ => eqs_arr (e := 37) (by kernel_rfl) (by kernel_rfl) ⟨.u64, by kernel_rfl⟩ (by kernel_rfl)⟩
def ti46 : TI := ⟨2, .array 2 9, [.str ByteArray.empty, .str ByteArray.empty], 1, [], false, 0⟩
theorem ty46 : TyOK Try.prog 46 ti46 := ⟨by kernel_rfl, by kernel_rfl, rfl, rfl, rfl, rfl, by show _ = _; kernel_rfl, trivial, fun h => absurd rfl h, fun h => by cases h⟩
def ti55 : TI := ⟨5, (Go.TypeDesc.struct #[{ name := "M", type := 39, offset := 0, embedded := false, tag := "", pkgPath := "", byteOffset := 0 }, { name := "By", type := 35, offset := 4, embedded := false, tag := "", pkgPath := "", byteOffset := 32 }]), [.ints .u64 4 [0, 0, 0, 0], .int .u16 0], 0, [4, 1], false, 0⟩
theorem ty55 : TyOK Try.prog 55 ti55 := ⟨by kernel_rfl, by kernel_rfl, rfl, rfl, rfl, rfl, trivial, by show _ = _; kernel_rfl, fun h => absurd rfl h, fun h => by cases h⟩
def ti75 : TI := ⟨64, .array 64 5, [.ints .u8 64 [0, 0, 0, 0, 0, 0, 0, 0, 0, 0, 0, 0, 0, 0, 0, 0, 0, 0, 0, 0, 0, 0, 0, 0, 0, 0, 0, 0, 0, 0, 0, 0, 0, 0, 0, 0, 0, 0, 0, 0, 0, 0, 0, 0, 0, 0, 0, 0, 0, 0, 0, 0, 0, 0, 0, 0, 0, 0, 0, 0, 0, 0, 0, 0]], 1, [], true, 0⟩
theorem ty75 : TyOK Try.prog 75 ti75 := ⟨by kernel_rfl, by kernel_rfl, rfl, rfl, rfl, rfl, by show _ = _; kernel_rfl, trivial, fun h => absurd rfl h, fun _ => eqs_arr (e := 5) (by kernel_rfl) (by kernel_rfl) ⟨.u8, by kernel_rfl⟩ (by kernel_rfl)⟩
def ti77 : TI := ⟨1, (Go.TypeDesc.pointer 117), [.raw (.pointer none)], 0, [], false, 0⟩
theorem ty77 : TyOK Try.prog 77 ti77 := ⟨by kernel_rfl, by kernel_rfl, rfl, rfl, rfl, rfl, trivial, trivial, fun h => absurd rfl h, fun h => by cases h⟩
def ti88 : TI := ⟨8, .array 8 37, [.ints .u64 8 [0, 0, 0, 0, 0, 0, 0, 0]], 1, [], true, 0⟩
theorem ty88 : TyOK Try.prog 88 ti88 := ⟨by kernel_rfl, by kernel_rfl, rfl, rfl, rfl, rfl, by show _ = _; kernel_rfl, trivial, fun h => absurd rfl h, fun _ => eqs_arr (e := 37) (by kernel_rfl) (by kernel_rfl) ⟨.u64, by kernel_rfl⟩ (by kernel_rfl)⟩
def ti91 : TI := ⟨1, (Go.TypeDesc.int Go.IntKind.u64), [.int .u64 0], 0, [], false, 0⟩
theorem ty91 : TyOK Try.prog 91 ti91 := ⟨by kernel_rfl, by kernel_rfl, rfl, rfl, rfl, rfl, trivial, trivial, fun h => absurd rfl h, fun h => by cases h⟩
def ti92 : TI := ⟨2, .array 2 37, [.ints .u64 2 [0, 0]], 1, [], true, 0⟩
theorem ty92 : TyOK Try.prog 92 ti92 := ⟨by kernel_rfl, by kernel_rfl, rfl, rfl, rfl, rfl, by show _ = _; kernel_rfl, trivial, fun h => absurd rfl h, fun _ => eqs_arr (e := 37) (by kernel_rfl) (by kernel_rfl) ⟨.u64, by kernel_rfl⟩ (by kernel_rfl)⟩
def ti93 : TI := ⟨16, .array 2 88, [.ints .u64 16 [0, 0, 0, 0, 0, 0, 0, 0, 0, 0, 0, 0, 0, 0, 0, 0]], 8, [], false, 0⟩
theorem ty93 : TyOK Try.prog 93 ti93 := ⟨by kernel_rfl, by kernel_rfl, rfl, rfl, rfl, rfl, by show _ = _; kernel_rfl, trivial, fun h => absurd rfl h, fun h => by cases h⟩
def ti110 : TI := ⟨1, (Go.TypeDesc.pointer 113), [.raw (.pointer none)], 0, [], false, 0⟩
theorem ty110 : TyOK Try.prog 110 ti110 := ⟨by kernel_rfl, by kernel_rfl, rfl, rfl, rfl, rfl, trivial, trivial, fun h => absurd rfl h, fun h => by cases h⟩
def ti111 : TI := ⟨1, (Go.TypeDesc.int Go.IntKind.u32), [.int .u32 0], 0, [], false, 0⟩
theorem ty111 : TyOK Try.prog 111 ti111 := ⟨by kernel_rfl, by kernel_rfl, rfl, rfl, rfl, rfl, trivial, trivial, fun h => absurd rfl h, fun h => by cases h⟩
def ti112 : TI := ⟨8, .array 8 111, [.ints .u32 8 [0, 0, 0, 0, 0, 0, 0, 0]], 1, [], true, 0⟩
theorem ty112 : TyOK Try.prog 112 ti112 := ⟨by kernel_rfl, by kernel_rfl, rfl, rfl, rfl, rfl, by show _ = _; kernel_rfl, trivial, fun h => absurd rfl h, fun _ => eqs_arr (e := 111) (by kernel_rfl) (by kernel_rfl) ⟨.u32, by kernel_rfl⟩ (by kernel_rfl)⟩
def ti113 : TI := ⟨8, .array 8 111, [.ints .u32 8 [0, 0, 0, 0, 0, 0, 0, 0]], 1, [], true, 0⟩
theorem ty113 : TyOK Try.prog 113 ti113 := ⟨by kernel_rfl, by kernel_rfl, rfl, rfl, rfl, rfl, by show _ = _; kernel_rfl, trivial, fun h => absurd rfl h, fun _ => eqs_arr (e := 111) (by kernel_rfl) (by kernel_rfl) ⟨.u32, by kernel_rfl⟩ (by kernel_rfl)⟩
def ti115 : TI := ⟨65, (Go.TypeDesc.struct #[{ name := "b", type := 75, offset := 0, embedded := false, tag := "", pkgPath := "burrow/shas", byteOffset := 0 }, { name := "many", type := 3, offset := 64, embedded := false, tag := "", pkgPath := "burrow/shas", byteOffset := 64 }]), [.ints .u8 64 [0, 0, 0, 0, 0, 0, 0, 0, 0, 0, 0, 0, 0, 0, 0, 0, 0, 0, 0, 0, 0, 0, 0, 0, 0, 0, 0, 0, 0, 0, 0, 0, 0, 0, 0, 0, 0, 0, 0, 0, 0, 0, 0, 0, 0, 0, 0, 0, 0, 0, 0, 0, 0, 0, 0, 0, 0, 0, 0, 0, 0, 0, 0, 0], .int .i64 0], 0, [64, 1], false, 0⟩
theorem ty115 : TyOK Try.prog 115 ti115 := ⟨by kernel_rfl, by kernel_rfl, rfl, rfl, rfl, rfl, trivial, by show _ = _; kernel_rfl, fun h => absurd rfl h, fun h => by cases h⟩
def ti117 : TI := ⟨67, (Go.TypeDesc.struct #[{ name := "s", type := 110, offset := 0, embedded := false, tag := "", pkgPath := "burrow/shas", byteOffset := 0 }, { name := "x", type := 115, offset := 1, embedded := false, tag := "", pkgPath := "burrow/shas", byteOffset := 8 }, { name := "many", type := 37, offset := 66, embedded := false, tag := "", pkgPath := "burrow/shas", byteOffset := 80 }]), [.raw (.pointer none), .ints .u8 64 [0, 0, 0, 0, 0, 0, 0, 0, 0, 0, 0, 0, 0, 0, 0, 0, 0, 0, 0, 0, 0, 0, 0, 0, 0, 0, 0, 0, 0, 0, 0, 0, 0, 0, 0, 0, 0, 0, 0, 0, 0, 0, 0, 0, 0, 0, 0, 0, 0, 0, 0, 0, 0, 0, 0, 0, 0, 0, 0, 0, 0, 0, 0, 0], .int .i64 0, .int .u64 0], 0, [1, 65, 1], false, 0⟩
theorem ty117 : TyOK Try.prog 117 ti117 := ⟨by kernel_rfl, by kernel_rfl, rfl, rfl, rfl, rfl, trivial, by show _ = _; kernel_rfl, fun h => absurd rfl h, fun h => by cases h⟩
def ti118 : TI := ⟨1, .slice 111, [.raw (.slice none 0 0)], 1, [], false, 0⟩
theorem ty118 : TyOK Try.prog 118 ti118 := ⟨by kernel_rfl, by kernel_rfl, rfl, rfl, rfl, rfl, by show _ = _; kernel_rfl, trivial, fun h => absurd rfl h, fun h => by cases h⟩
def ti121 : TI := ⟨1, .slice 39, [.raw (.slice none 0 0)], 4, [], false, 0⟩
theorem ty121 : TyOK Try.prog 121 ti121 := ⟨by kernel_rfl, by kernel_rfl, rfl, rfl, rfl, rfl, by show _ = _; kernel_rfl, trivial, fun h => absurd rfl h, fun h => by cases h⟩
def ti133 : TI := ⟨1, (Go.TypeDesc.pointer 115), [.raw (.pointer none)], 0, [], false, 0⟩
theorem ty133 : TyOK Try.prog 133 ti133 := ⟨by kernel_rfl, by kernel_rfl, rfl, rfl, rfl, rfl, trivial, trivial, fun h => absurd rfl h, fun h => by cases h⟩
def ti136 : TI := ⟨8, .array 8 5, [.ints .u8 8 [0, 0, 0, 0, 0, 0, 0, 0]], 1, [], true, 0⟩
theorem ty136 : TyOK Try.prog 136 ti136 := ⟨by kernel_rfl, by kernel_rfl, rfl, rfl, rfl, rfl, by show _ = _; kernel_rfl, trivial, fun h => absurd rfl h, fun _ => eqs_arr (e := 5) (by kernel_rfl) (by kernel_rfl) ⟨.u8, by kernel_rfl⟩ (by kernel_rfl)⟩
def ti139 : TI := ⟨64, .array 64 111, [.ints .u32 64 [0, 0, 0, 0, 0, 0, 0, 0, 0, 0, 0, 0, 0, 0, 0, 0, 0, 0, 0, 0, 0, 0, 0, 0, 0, 0, 0, 0, 0, 0, 0, 0, 0, 0, 0, 0, 0, 0, 0, 0, 0, 0, 0, 0, 0, 0, 0, 0, 0, 0, 0, 0, 0, 0, 0, 0, 0, 0, 0, 0, 0, 0, 0, 0]], 1, [], true, 0⟩
theorem ty139 : TyOK Try.prog 139 ti139 := ⟨by kernel_rfl, by kernel_rfl, rfl, rfl, rfl, rfl, by show _ = _; kernel_rfl, trivial, fun h => absurd rfl h, fun _ => eqs_arr (e := 111) (by kernel_rfl) (by kernel_rfl) ⟨.u32, by kernel_rfl⟩ (by kernel_rfl)⟩
def ti142 : TI := ⟨1, (Go.TypeDesc.interface #[("Error", 158)]), [.raw .nilIface], 0, [], false, 0⟩
theorem ty142 : TyOK Try.prog 142 ti142 := ⟨by kernel_rfl, by kernel_rfl, rfl, rfl, rfl, rfl, trivial, trivial, fun h => absurd rfl h, fun h => by cases h⟩
def ti148 : TI := ⟨1, .slice 37, [.raw (.slice none 0 0)], 1, [], false, 0⟩
theorem ty148 : TyOK Try.prog 148 ti148 := ⟨by kernel_rfl, by kernel_rfl, rfl, rfl, rfl, rfl, by show _ = _; kernel_rfl, trivial, fun h => absurd rfl h, fun h => by cases h⟩
def ti152 : TI := ⟨16, .array 16 111, [.ints .u32 16 [0, 0, 0, 0, 0, 0, 0, 0, 0, 0, 0, 0, 0, 0, 0, 0]], 1, [], true, 0⟩
theorem ty152 : TyOK Try.prog 152 ti152 := ⟨by kernel_rfl, by kernel_rfl, rfl, rfl, rfl, rfl, by show _ = _; kernel_rfl, trivial, fun h => absurd rfl h, fun _ => eqs_arr (e := 111) (by kernel_rfl) (by kernel_rfl) ⟨.u32, by kernel_rfl⟩ (by kernel_rfl)⟩
def ti154 : TI := ⟨1, .slice 3, [.raw (.slice none 0 0)], 1, [], false, 0⟩
theorem ty154 : TyOK Try.prog 154 ti154 := ⟨by kernel_rfl, by kernel_rfl, rfl, rfl, rfl, rfl, by show _ = _; kernel_rfl, trivial, fun h => absurd rfl h, fun h => by cases h⟩
def tys : Tab := [(3, ti3), (4, ti4), (5, ti5), (9, ti9), (22, ti22), (23, ti23), (29, ti29), (34, ti34), (35, ti35), (37, ti37), (39, ti39), (46, ti46), (55, ti55), (75, ti75), (77, ti77), (88, ti88), (91, ti91), (92, ti92), (93, ti93), (110, ti110), (111, ti111), (112, ti112), (113, ti113), (115, ti115), (117, ti117), (118, ti118), (121, ti121), (133, ti133), (136, ti136), (139, ti139), (142, ti142), (148, ti148), (152, ti152), (154, ti154)]
theorem tys_ok : TyAll Try.prog (getA tys) := tyAll_of (by
  intro p hp
  simp only [tys, List.mem_cons, List.not_mem_nil, or_false] at hp
  rcases hp with rfl | rfl | rfl | rfl | rfl | rfl | rfl | rfl | rfl | rfl | rfl | rfl | rfl | rfl | rfl | rfl | rfl | rfl | rfl | rfl | rfl | rfl | rfl | rfl | rfl | rfl | rfl | rfl | rfl | rfl | rfl | rfl | rfl | rfl
  · exact ty3
  · exact ty4
  · exact ty5
  · exact ty9
  · exact ty22
  · exact ty23
  · exact ty29
  · exact ty34
  · exact ty35
  · exact ty37
  · exact ty39
  · exact ty46
  · exact ty55
  · exact ty75
  · exact ty77
  · exact ty88
  · exact ty91
  · exact ty92
  · exact ty93
  · exact ty110
  · exact ty111
  · exact ty112
  · exact ty113
  · exact ty115
  · exact ty117
  · exact ty118
  · exact ty121
  · exact ty133
  · exact ty136
  · exact ty139
  · exact ty142
  · exact ty148
  · exact ty152
  · exact ty154)
end Go.Proofs

namespace Go.Proofs
open Go.VM
end Go.Proofs

namespace Go.Proofs
open Go.VM
def f62.T (_K : Nat) (a0 : List Int) : Option (List Int) :=
  some ([(bits .and .u64 (Int.fdiv (List.getD a0 0 0) (2 ^ 0)) 4294967295), (bits .and .u64 (Int.fdiv (List.getD a0 0 0) (2 ^ 32)) 4294967295), (bits .and .u64 (Int.fdiv (List.getD a0 1 0) (2 ^ 0)) 4294967295), (bits .and .u64 (Int.fdiv (List.getD a0 1 0) (2 ^ 32)) 4294967295), (bits .and .u64 (Int.fdiv (List.getD a0 2 0) (2 ^ 0)) 4294967295), (bits .and .u64 (Int.fdiv (List.getD a0 2 0) (2 ^ 32)) 4294967295), (bits .and .u64 (Int.fdiv (List.getD a0 3 0) (2 ^ 0)) 4294967295), (bits .and .u64 (Int.fdiv (List.getD a0 3 0) (2 ^ 32)) 4294967295)])
def f62.F (K : Nat) (x : List Int) : Option (List Int) := f62.T K x
def f62.av (x : List Int) : List VV := [.agg [.ints .u64 4 x]]
def f62.bl (_x : List Int) : List (Nat × Blk) := []
def f62.inA : VS → Option (List Int)
  | ⟨[(0, .agg [.ints .u64 4 a0])], [], 0⟩ => some a0
  | _ => none
def f62.o0 (y : List Int) : VS := ⟨[(0, .agg [.ints .u64 8 y])], [], 0⟩
def f62.inR : VS → Option (List Int)
  | ⟨[(0, .agg [.ints .u64 8 y])], [], 0⟩ => some y
  | _ => none
noncomputable def f62.E (K : Nat) : Entry := genE 0 f62.inA (f62.F K) (dv1 f62.o0)
theorem f62.ok (K : Nat) : EntryOK Try.prog 62 (f62.E K) := gen_ok mix tys_ok (tab_ok ( tab_nil)) Try.func62 (c := bodyOf Try.f62) (by kernel_rfl) (by kernel_rfl) (loops_none (lp := lpNone) (by kernel_rfl)) (av := f62.av) (bl := f62.bl) (inR := f62.inR) (out := f62.o0) (fuel := 400)
  (by intro s x h; unfold f62.inA at h; split at h <;> simp at h; subst h; rfl) (fun _ => Nat.le_of_ble_eq_true rfl)
  (by intro s y h; unfold f62.inR at h; split at h <;> simp at h <;> subst h <;> rfl) (fun _ _ _ => rfl) (fun _ => by kernel_rfl)
end Go.Proofs

namespace Go.Proofs
open Go.VM
def f63.T (_K : Nat) (a0 : List Int) : Option (List Int) :=
  some ([(bits .or .u64 (IntKind.wrap .u64 ((List.getD a0 1 0) * 2 ^ 32)) (List.getD a0 0 0)), (bits .or .u64 (IntKind.wrap .u64 ((List.getD a0 3 0) * 2 ^ 32)) (List.getD a0 2 0)), (bits .or .u64 (IntKind.wrap .u64 ((List.getD a0 5 0) * 2 ^ 32)) (List.getD a0 4 0)), (bits .or .u64 (IntKind.wrap .u64 ((List.getD a0 7 0) * 2 ^ 32)) (List.getD a0 6 0))])
def f63.F (K : Nat) (x : List Int) : Option (List Int) := f63.T K x
def f63.av (x : List Int) : List VV := [.agg [.ints .u64 8 x]]
def f63.bl (_x : List Int) : List (Nat × Blk) := []
def f63.inA : VS → Option (List Int)
  | ⟨[(0, .agg [.ints .u64 8 a0])], [], 0⟩ => some a0
  | _ => none
def f63.o0 (y : List Int) : VS := ⟨[(0, .agg [.ints .u64 4 y])], [], 0⟩
def f63.inR : VS → Option (List Int)
  | ⟨[(0, .agg [.ints .u64 4 y])], [], 0⟩ => some y
  | _ => none
noncomputable def f63.E (K : Nat) : Entry := genE 0 f63.inA (f63.F K) (dv1 f63.o0)
theorem f63.ok (K : Nat) : EntryOK Try.prog 63 (f63.E K) := gen_ok mix tys_ok (tab_ok ( tab_nil)) Try.func63 (c := bodyOf Try.f63) (by kernel_rfl) (by kernel_rfl) (loops_none (lp := lpNone) (by kernel_rfl)) (av := f63.av) (bl := f63.bl) (inR := f63.inR) (out := f63.o0) (fuel := 400)
  (by intro s x h; unfold f63.inA at h; split at h <;> simp at h; subst h; rfl) (fun _ => Nat.le_of_ble_eq_true rfl)
  (by intro s y h; unfold f63.inR at h; split at h <;> simp at h <;> subst h <;> rfl) (fun _ _ _ => rfl) (fun _ => by kernel_rfl)
end Go.Proofs

namespace Go.Proofs
open Go.VM
abbrev f70.Ty0 := Int × Int × List Int × List Int × List Int
abbrev f70.Ty1 := Int × List Int × List Int
abbrev f70.Ty2 := List Int × List Int
abbrev f70.Ty3 := List Int × Int
noncomputable def f70.c : Code := bodyOf Try.f70
def f70.s0t (_K : Nat) (rec : f70.Ty0 → Option (f70.Ty1)) (t8 : Int) (t14 : Int) (b0 : List Int) (b1 : List Int) (b2 : List Int) : Option (f70.Ty1) :=
  bif (decide (t14 < 8)) then
    bif decide (0 ≤ t14 ∧ t14 < 8) then
      bif decide (0 ≤ t14 ∧ t14 < 8) then
        let v9 := IntKind.wrap .u64 (t8 + (IntKind.wrap .u64 ((List.getD b1 (Int.toNat t14) 0) + (List.getD b2 (Int.toNat t14) 0))))
        bif decide (0 ≤ t14 ∧ t14 < 8) then
          rec ((Int.fdiv v9 (2 ^ 32)), (IntKind.wrap .i64 (t14 + 1)), b0, (setD b1 (Int.toNat t14) (bits .and .u64 v9 4294967295)), b2)
        else
          none
      else
        none
    else
      none
  else
    some (t8, b0, b1)
def f70.s0 (K : Nat) (rec : f70.Ty0 → Option (f70.Ty1)) (x : f70.Ty0) : Option (f70.Ty1) := f70.s0t K rec x.1 x.2.1 x.2.2.1 x.2.2.2.1 x.2.2.2.2
noncomputable def f70.s0.b : Code := (findLoop 0 f70.c).getD .skip
def f70.s0.h : Hint := { lv := [4, 6, 7, 8, 14] }
def f70.s0.ho : Hint := { lv := [4, 6, 8] }
def f70.s0.shp (x : f70.Ty0) : VS := ⟨[(4, .ptr 0 0), (6, .ptr 1 0), (7, .ptr 2 0), (8, .int .u64 x.1), (14, .int .i64 x.2.1)], [(0, ([.ints .u64 4 x.2.2.1], 39, .norm)), (1, ([.ints .u64 8 x.2.2.2.1], 88, .norm)), (2, ([.ints .u64 8 x.2.2.2.2], 88, .norm))], 3⟩
def f70.s0.inX : VS → Option (f70.Ty0)
  | ⟨[(4, .ptr 0 0), (6, .ptr 1 0), (7, .ptr 2 0), (8, .int .u64 t8), (14, .int .i64 t14)], [(0, ([.ints .u64 4 b0], 39, .norm)), (1, ([.ints .u64 8 b1], 88, .norm)), (2, ([.ints .u64 8 b2], 88, .norm))], 3⟩ => some (t8, t14, b0, b1, b2)
  | _ => none
def f70.s0.o0 (y : f70.Ty1) : VS := ⟨[(4, .ptr 0 0), (6, .ptr 1 0), (8, .int .u64 y.1)], [(0, ([.ints .u64 4 y.2.1], 39, .norm)), (1, ([.ints .u64 8 y.2.2], 88, .norm))], 2⟩
def f70.s0.des : ∀ α : Type, (f70.Ty1) → (Ex → VS → Option α) → Option α := (des1 (.exit 0) f70.s0.o0)
def f70.s0.out : f70.Ty1 → Ex × VS := (fun y => (.exit 0, f70.s0.o0 y))
theorem f70.s0.desOK : ∀ α y (k : Ex → VS → Option α), f70.s0.des α y k = k (f70.s0.out y).1 (f70.s0.out y).2 := (fun _ _ _ => rfl)
def f70.s0.inY : Ex → VS → Option (f70.Ty1)
  | .exit 0, ⟨[(4, .ptr 0 0), (6, .ptr 1 0), (8, .int .u64 t8)], [(0, ([.ints .u64 4 b0], 39, .norm)), (1, ([.ints .u64 8 b1], 88, .norm))], 2⟩ => some (t8, b0, b1)
  | _, _ => none
def f70.lp (K : Nat) : Nat → Option (Hint × Summ) := tabLp [(0, f70.s0.h, summOf (iter (f70.s0 K) K) f70.s0.inX f70.s0.des)]
noncomputable def f70.tab (K : Nat) : List (Nat × Entry) := [(62, (f62.E K)), (63, (f63.E K))]
theorem f70.tabOK (K : Nat) : SpecOK Try.prog (tabSp (f70.tab K)) := tab_ok ((tab_cons (f62.ok K) (tab_cons (f63.ok K) tab_nil)))
theorem f70.s0.eq (K : Nat) (rec : f70.Ty0 → Option (f70.Ty1)) (x : f70.Ty0) : f70.s0 K rec x = roundL (getA tys) (tabSp (f70.tab K)) 36 0 (f70.lp K) 400 f70.s0.b f70.s0.h f70.s0.ho f70.s0.shp f70.s0.inX f70.s0.inY rec x := by kernel_rfl
theorem f70.s0.lok (K : Nat) : LoopsOK Try.prog 36 0 (f70.lp K) f70.s0.b := loops_ok (by
  have h : loopsIn (f70.lp K) f70.s0.b = [] := by kernel_rfl
  rw [h]; simp)
theorem f70.s0.ok (K : Nat) : SummOK Try.prog 36 0 (summOf (iter (f70.s0 K) K) f70.s0.inX f70.s0.des) f70.s0.b :=
  loop_ok mix tys_ok (f70.tabOK K) (h := f70.s0.h) (ho := f70.s0.ho) (shp := f70.s0.shp) (inX := f70.s0.inX) (des := f70.s0.des) (out := f70.s0.out) (inY := f70.s0.inY) (fuel := 400)
    (by intro st x h; unfold f70.s0.inX at h; split at h <;> simp at h; subst h; rfl)
    (by intro e st y h; unfold f70.s0.inY at h; split at h <;> simp at h <;> subst h <;> rfl)
    f70.s0.desOK (f70.s0.lok K) (f70.s0 K) (f70.s0.eq K) K
theorem f70.loops (K : Nat) : LoopsOK Try.prog 36 0 (f70.lp K) f70.c := loops_ok (by
  have h : loopsIn (f70.lp K) f70.c = [(0, f70.s0.b)] := by kernel_rfl
  rw [h]
  intro p hp
  simp only [List.mem_cons, List.not_mem_nil, or_false] at hp
  rcases hp with rfl
  · exact ⟨_, rfl, (f70.s0.ok K)⟩)
def f70.T (K : Nat) (a0 : List Int) (a1 : List Int) : Option (f70.Ty3) :=
  (f62.F K a0).bind fun y1 =>
  (f62.F K a1).bind fun y2 =>
  (iter (f70.s0 K) K (0, 0, [0, 0, 0, 0], y1, y2)).bind fun y15 =>
  (f63.F K y15.2.2).bind fun y16 =>
  some (y16, y15.1)
def f70.F (K : Nat) (x : f70.Ty2) : Option (f70.Ty3) := f70.T K x.1 x.2
def f70.av (x : f70.Ty2) : List VV := [.agg [.ints .u64 4 x.1], .agg [.ints .u64 4 x.2]]
def f70.bl (_x : f70.Ty2) : List (Nat × Blk) := []
def f70.inA : VS → Option (f70.Ty2)
  | ⟨[(0, .agg [.ints .u64 4 a0]), (1, .agg [.ints .u64 4 a1])], [], 0⟩ => some (a0, a1)
  | _ => none
def f70.o0 (y : f70.Ty3) : VS := ⟨[(0, .tup [.agg [.ints .u64 4 y.1], .int .u64 y.2])], [], 0⟩
def f70.des : ∀ α : Type, (f70.Ty3) → (VS → Option α) → Option α := (dv1 f70.o0)
def f70.out : f70.Ty3 → VS := f70.o0
def f70.inR : VS → Option (f70.Ty3)
  | ⟨[(0, .tup [.agg [.ints .u64 4 y_0], .int .u64 y_1])], [], 0⟩ => some (y_0, y_1)
  | _ => none
noncomputable def f70.E (K : Nat) : Entry := genE 0 f70.inA (f70.F K) f70.des
theorem f70.eq (K : Nat) (x : f70.Ty2) : f70.F K x = xrun (getA tys) (tabSp (f70.tab K)) Try.f70.ntmps 0 (f70.lp K) 400 f70.c ⟨initL 0 (f70.av x), f70.bl x, 0⟩ (contF (getA tys) 0 Try.f70.results.toList f70.inR) := by kernel_rfl
theorem f70.ok (K : Nat) : EntryOK Try.prog 70 (f70.E K) :=
  gen_ok mix tys_ok (f70.tabOK K) Try.func70 (by kernel_rfl : Try.f70.body = some f70.c) (by kernel_rfl) (f70.loops K) (av := f70.av) (bl := f70.bl) (out := f70.out) (fuel := 400)
    (by intro s x h; unfold f70.inA at h; split at h <;> simp at h; subst h; rfl) (fun _ => Nat.le_of_ble_eq_true rfl)
    (by intro s y h; unfold f70.inR at h; split at h <;> simp at h <;> subst h <;> rfl) (fun _ _ _ => rfl) (f70.eq K)
end Go.Proofs

namespace Go.Proofs
open Go.VM
abbrev f67.Ty0 := Int × Int × List Int × List Int × List Int
abbrev f67.Ty1 := Int × List Int × List Int
abbrev f67.Ty2 := List Int × List Int
abbrev f67.Ty3 := List Int × Int
noncomputable def f67.c : Code := bodyOf Try.f67
def f67.s0t (_K : Nat) (rec : f67.Ty0 → Option (f67.Ty1)) (t8 : Int) (t14 : Int) (b0 : List Int) (b1 : List Int) (b2 : List Int) : Option (f67.Ty1) :=
  bif (decide (t14 < 8)) then
    bif decide (0 ≤ t14 ∧ t14 < 8) then
      bif decide (0 ≤ t14 ∧ t14 < 8) then
        let v10 := IntKind.wrap .u64 (t8 + (IntKind.wrap .u64 ((List.getD b1 (Int.toNat t14) 0) + (IntKind.wrap .u64 (4294967295 - (List.getD b2 (Int.toNat t14) 0))))))
        bif decide (0 ≤ t14 ∧ t14 < 8) then
          rec ((Int.fdiv v10 (2 ^ 32)), (IntKind.wrap .i64 (t14 + 1)), b0, (setD b1 (Int.toNat t14) (bits .and .u64 v10 4294967295)), b2)
        else
          none
      else
        none
    else
      none
  else
    some (t8, b0, b1)
def f67.s0 (K : Nat) (rec : f67.Ty0 → Option (f67.Ty1)) (x : f67.Ty0) : Option (f67.Ty1) := f67.s0t K rec x.1 x.2.1 x.2.2.1 x.2.2.2.1 x.2.2.2.2
noncomputable def f67.s0.b : Code := (findLoop 0 f67.c).getD .skip
def f67.s0.h : Hint := { lv := [4, 6, 7, 8, 14] }
def f67.s0.ho : Hint := { lv := [4, 6, 8] }
def f67.s0.shp (x : f67.Ty0) : VS := ⟨[(4, .ptr 0 0), (6, .ptr 1 0), (7, .ptr 2 0), (8, .int .u64 x.1), (14, .int .i64 x.2.1)], [(0, ([.ints .u64 4 x.2.2.1], 39, .norm)), (1, ([.ints .u64 8 x.2.2.2.1], 88, .norm)), (2, ([.ints .u64 8 x.2.2.2.2], 88, .norm))], 3⟩
def f67.s0.inX : VS → Option (f67.Ty0)
  | ⟨[(4, .ptr 0 0), (6, .ptr 1 0), (7, .ptr 2 0), (8, .int .u64 t8), (14, .int .i64 t14)], [(0, ([.ints .u64 4 b0], 39, .norm)), (1, ([.ints .u64 8 b1], 88, .norm)), (2, ([.ints .u64 8 b2], 88, .norm))], 3⟩ => some (t8, t14, b0, b1, b2)
  | _ => none
def f67.s0.o0 (y : f67.Ty1) : VS := ⟨[(4, .ptr 0 0), (6, .ptr 1 0), (8, .int .u64 y.1)], [(0, ([.ints .u64 4 y.2.1], 39, .norm)), (1, ([.ints .u64 8 y.2.2], 88, .norm))], 2⟩
def f67.s0.des : ∀ α : Type, (f67.Ty1) → (Ex → VS → Option α) → Option α := (des1 (.exit 0) f67.s0.o0)
def f67.s0.out : f67.Ty1 → Ex × VS := (fun y => (.exit 0, f67.s0.o0 y))
theorem f67.s0.desOK : ∀ α y (k : Ex → VS → Option α), f67.s0.des α y k = k (f67.s0.out y).1 (f67.s0.out y).2 := (fun _ _ _ => rfl)
def f67.s0.inY : Ex → VS → Option (f67.Ty1)
  | .exit 0, ⟨[(4, .ptr 0 0), (6, .ptr 1 0), (8, .int .u64 t8)], [(0, ([.ints .u64 4 b0], 39, .norm)), (1, ([.ints .u64 8 b1], 88, .norm))], 2⟩ => some (t8, b0, b1)
  | _, _ => none
def f67.lp (K : Nat) : Nat → Option (Hint × Summ) := tabLp [(0, f67.s0.h, summOf (iter (f67.s0 K) K) f67.s0.inX f67.s0.des)]
noncomputable def f67.tab (K : Nat) : List (Nat × Entry) := [(62, (f62.E K)), (63, (f63.E K))]
theorem f67.tabOK (K : Nat) : SpecOK Try.prog (tabSp (f67.tab K)) := tab_ok ((tab_cons (f62.ok K) (tab_cons (f63.ok K) tab_nil)))
theorem f67.s0.eq (K : Nat) (rec : f67.Ty0 → Option (f67.Ty1)) (x : f67.Ty0) : f67.s0 K rec x = roundL (getA tys) (tabSp (f67.tab K)) 38 0 (f67.lp K) 400 f67.s0.b f67.s0.h f67.s0.ho f67.s0.shp f67.s0.inX f67.s0.inY rec x := by kernel_rfl
theorem f67.s0.lok (K : Nat) : LoopsOK Try.prog 38 0 (f67.lp K) f67.s0.b := loops_ok (by
  have h : loopsIn (f67.lp K) f67.s0.b = [] := by kernel_rfl
  rw [h]; simp)
theorem f67.s0.ok (K : Nat) : SummOK Try.prog 38 0 (summOf (iter (f67.s0 K) K) f67.s0.inX f67.s0.des) f67.s0.b :=
  loop_ok mix tys_ok (f67.tabOK K) (h := f67.s0.h) (ho := f67.s0.ho) (shp := f67.s0.shp) (inX := f67.s0.inX) (des := f67.s0.des) (out := f67.s0.out) (inY := f67.s0.inY) (fuel := 400)
    (by intro st x h; unfold f67.s0.inX at h; split at h <;> simp at h; subst h; rfl)
    (by intro e st y h; unfold f67.s0.inY at h; split at h <;> simp at h <;> subst h <;> rfl)
    f67.s0.desOK (f67.s0.lok K) (f67.s0 K) (f67.s0.eq K) K
theorem f67.loops (K : Nat) : LoopsOK Try.prog 38 0 (f67.lp K) f67.c := loops_ok (by
  have h : loopsIn (f67.lp K) f67.c = [(0, f67.s0.b)] := by kernel_rfl
  rw [h]
  intro p hp
  simp only [List.mem_cons, List.not_mem_nil, or_false] at hp
  rcases hp with rfl
  · exact ⟨_, rfl, (f67.s0.ok K)⟩)
def f67.T (K : Nat) (a0 : List Int) (a1 : List Int) : Option (f67.Ty3) :=
  (f62.F K a0).bind fun y1 =>
  (f62.F K a1).bind fun y2 =>
  (iter (f67.s0 K) K (1, 0, [0, 0, 0, 0], y1, y2)).bind fun y16 =>
  (f63.F K y16.2.2).bind fun y17 =>
  some (y17, (IntKind.wrap .u64 (1 - y16.1)))
def f67.F (K : Nat) (x : f67.Ty2) : Option (f67.Ty3) := f67.T K x.1 x.2
def f67.av (x : f67.Ty2) : List VV := [.agg [.ints .u64 4 x.1], .agg [.ints .u64 4 x.2]]
def f67.bl (_x : f67.Ty2) : List (Nat × Blk) := []
def f67.inA : VS → Option (f67.Ty2)
  | ⟨[(0, .agg [.ints .u64 4 a0]), (1, .agg [.ints .u64 4 a1])], [], 0⟩ => some (a0, a1)
  | _ => none
def f67.o0 (y : f67.Ty3) : VS := ⟨[(0, .tup [.agg [.ints .u64 4 y.1], .int .u64 y.2])], [], 0⟩
def f67.des : ∀ α : Type, (f67.Ty3) → (VS → Option α) → Option α := (dv1 f67.o0)
def f67.out : f67.Ty3 → VS := f67.o0
def f67.inR : VS → Option (f67.Ty3)
  | ⟨[(0, .tup [.agg [.ints .u64 4 y_0], .int .u64 y_1])], [], 0⟩ => some (y_0, y_1)
  | _ => none
noncomputable def f67.E (K : Nat) : Entry := genE 0 f67.inA (f67.F K) f67.des
theorem f67.eq (K : Nat) (x : f67.Ty2) : f67.F K x = xrun (getA tys) (tabSp (f67.tab K)) Try.f67.ntmps 0 (f67.lp K) 400 f67.c ⟨initL 0 (f67.av x), f67.bl x, 0⟩ (contF (getA tys) 0 Try.f67.results.toList f67.inR) := by kernel_rfl
theorem f67.ok (K : Nat) : EntryOK Try.prog 67 (f67.E K) :=
  gen_ok mix tys_ok (f67.tabOK K) Try.func67 (by kernel_rfl : Try.f67.body = some f67.c) (by kernel_rfl) (f67.loops K) (av := f67.av) (bl := f67.bl) (out := f67.out) (fuel := 400)
    (by intro s x h; unfold f67.inA at h; split at h <;> simp at h; subst h; rfl) (fun _ => Nat.le_of_ble_eq_true rfl)
    (by intro s y h; unfold f67.inR at h; split at h <;> simp at h <;> subst h <;> rfl) (fun _ _ _ => rfl) (f67.eq K)
end Go.Proofs

namespace Go.Proofs
open Go.VM
def f33.T (_K : Nat) (a0 : Int) : Option (List Int) :=
  some ([a0, 0, 0, 0])
def f33.F (K : Nat) (x : Int) : Option (List Int) := f33.T K x
def f33.av (x : Int) : List VV := [.int .u64 x]
def f33.bl (_x : Int) : List (Nat × Blk) := []
def f33.inA : VS → Option (Int)
  | ⟨[(0, .int .u64 a0)], [], 0⟩ => some a0
  | _ => none
def f33.o0 (y : List Int) : VS := ⟨[(0, .agg [.ints .u64 4 y])], [], 0⟩
def f33.inR : VS → Option (List Int)
  | ⟨[(0, .agg [.ints .u64 4 y])], [], 0⟩ => some y
  | _ => none
noncomputable def f33.E (K : Nat) : Entry := genE 0 f33.inA (f33.F K) (dv1 f33.o0)
theorem f33.ok (K : Nat) : EntryOK Try.prog 33 (f33.E K) := gen_ok mix tys_ok (tab_ok ( tab_nil)) Try.func33 (c := bodyOf Try.f33) (by kernel_rfl) (by kernel_rfl) (loops_none (lp := lpNone) (by kernel_rfl)) (av := f33.av) (bl := f33.bl) (inR := f33.inR) (out := f33.o0) (fuel := 400)
  (by intro s x h; unfold f33.inA at h; split at h <;> simp at h; subst h; rfl) (fun _ => Nat.le_of_ble_eq_true rfl)
  (by intro s y h; unfold f33.inR at h; split at h <;> simp at h <;> subst h <;> rfl) (fun _ _ _ => rfl) (fun _ => by kernel_rfl)
end Go.Proofs

namespace Go.Proofs
open Go.VM
end Go.Proofs

namespace Go.Proofs
open Go.VM
def f83.T (K : Nat) (a0 : List Int) (a1 : Int) : Option (Int) :=
  bif (decide ((IntKind.wrap .u64 a1) ≥ 256)) then
    some (0)
  else
    (f62.F K a0).bind fun y3 =>
    let v4 := IntKind.wrap .i64 (Int.tdiv a1 32)
    bif decide (0 ≤ v4 ∧ v4 < 8) then
      let v6 := Int.tmod a1 32
      bif decide (0 ≤ v6) then
        some (bits .and .u64 (shiftI .shr .u64 (List.getD y3 (Int.toNat v4) 0) v6) 1)
      else
        none
    else
      none
def f83.F (K : Nat) (x : List Int × Int) : Option (Int) := f83.T K x.1 x.2
def f83.av (x : List Int × Int) : List VV := [.agg [.ints .u64 4 x.1], .int .i64 x.2]
def f83.bl (_x : List Int × Int) : List (Nat × Blk) := []
def f83.inA : VS → Option (List Int × Int)
  | ⟨[(0, .agg [.ints .u64 4 a0]), (1, .int .i64 a1)], [], 0⟩ => some (a0, a1)
  | _ => none
def f83.o0 (y : Int) : VS := ⟨[(0, .int .u64 y)], [], 0⟩
def f83.inR : VS → Option (Int)
  | ⟨[(0, .int .u64 y)], [], 0⟩ => some y
  | _ => none
noncomputable def f83.E (K : Nat) : Entry := genE 0 f83.inA (f83.F K) (dv1 f83.o0)
theorem f83.ok (K : Nat) : EntryOK Try.prog 83 (f83.E K) := gen_ok mix tys_ok (tab_ok ((tab_cons (f62.ok K) tab_nil))) Try.func83 (c := bodyOf Try.f83) (by kernel_rfl) (by kernel_rfl) (loops_none (lp := lpNone) (by kernel_rfl)) (av := f83.av) (bl := f83.bl) (inR := f83.inR) (out := f83.o0) (fuel := 400)
  (by intro s x h; unfold f83.inA at h; split at h <;> simp at h; subst h; rfl) (fun _ => Nat.le_of_ble_eq_true rfl)
  (by intro s y h; unfold f83.inR at h; split at h <;> simp at h <;> subst h <;> rfl) (fun _ _ _ => rfl) (fun _ => by kernel_rfl)
end Go.Proofs

namespace Go.Proofs
open Go.VM
abbrev f66.Ty0 := Int × Int × Int × Int × List Int × Int
abbrev f66.Ty1 := Int × List Int × Int
noncomputable def f66.c : Code := bodyOf Try.f66
def f66.s2t (_K : Nat) (rec : f66.Ty0 → Option (f66.Ty1)) (t2 : Int) (t3 : Int) (t4 : Int) (t5 : Int) (t7 : List Int) (t8 : Int) : Option (f66.Ty1) :=
  bif decide (0 ≤ t5) then
    bif (decide ((shiftI .shr .u64 t4 t5) > 0)) then
      rec ((IntKind.wrap .i64 ((IntKind.wrap .i64 ((IntKind.wrap .i64 (32 * t3)) + t5)) + 1)), t3, t4, (IntKind.wrap .i64 (t5 + 1)), t7, t8)
    else
      some (t2, t7, t8)
  else
    none
def f66.s2 (K : Nat) (rec : f66.Ty0 → Option (f66.Ty1)) (x : f66.Ty0) : Option (f66.Ty1) := f66.s2t K rec x.1 x.2.1 x.2.2.1 x.2.2.2.1 x.2.2.2.2.1 x.2.2.2.2.2
noncomputable def f66.s2.b : Code := (findLoop 2 f66.c).getD .skip
def f66.s2.h : Hint := { lv := [2, 3, 4, 5, 7, 8] }
def f66.s2.ho : Hint := { lv := [2, 7, 8] }
def f66.s2.shp (x : f66.Ty0) : VS := ⟨[(2, .int .i64 x.1), (3, .int .i64 x.2.1), (4, .int .u64 x.2.2.1), (5, .int .i64 x.2.2.2.1), (7, .agg [.ints .u64 8 x.2.2.2.2.1]), (8, .int .i64 x.2.2.2.2.2)], [], 0⟩
def f66.s2.inX : VS → Option (f66.Ty0)
  | ⟨[(2, .int .i64 t2), (3, .int .i64 t3), (4, .int .u64 t4), (5, .int .i64 t5), (7, .agg [.ints .u64 8 t7]), (8, .int .i64 t8)], [], 0⟩ => some (t2, t3, t4, t5, t7, t8)
  | _ => none
def f66.s2.o0 (y : f66.Ty1) : VS := ⟨[(2, .int .i64 y.1), (7, .agg [.ints .u64 8 y.2.1]), (8, .int .i64 y.2.2)], [], 0⟩
def f66.s2.des : ∀ α : Type, (f66.Ty1) → (Ex → VS → Option α) → Option α := (des1 (.exit 2) f66.s2.o0)
def f66.s2.out : f66.Ty1 → Ex × VS := (fun y => (.exit 2, f66.s2.o0 y))
theorem f66.s2.desOK : ∀ α y (k : Ex → VS → Option α), f66.s2.des α y k = k (f66.s2.out y).1 (f66.s2.out y).2 := (fun _ _ _ => rfl)
def f66.s2.inY : Ex → VS → Option (f66.Ty1)
  | .exit 2, ⟨[(2, .int .i64 t2), (7, .agg [.ints .u64 8 t7]), (8, .int .i64 t8)], [], 0⟩ => some (t2, t7, t8)
  | _, _ => none
def f66.s0t (K : Nat) (rec : f66.Ty1 → Option (Int)) (t2 : Int) (t7 : List Int) (t8 : Int) : Option (Int) :=
  bif (decide (t8 < 8)) then
    bif decide (0 ≤ t8 ∧ t8 < 8) then
      (iter (f66.s2 K) K (t2, t8, (List.getD t7 (Int.toNat t8) 0), 0, t7, t8)).bind fun y10 =>
      rec (y10.1, y10.2.1, (IntKind.wrap .i64 (y10.2.2 + 1)))
    else
      none
  else
    some t2
def f66.s0 (K : Nat) (rec : f66.Ty1 → Option (Int)) (x : f66.Ty1) : Option (Int) := f66.s0t K rec x.1 x.2.1 x.2.2
noncomputable def f66.s0.b : Code := (findLoop 0 f66.c).getD .skip
def f66.s0.h : Hint := { lv := [2, 7, 8] }
def f66.s0.ho : Hint := { lv := [2] }
def f66.s0.shp (x : f66.Ty1) : VS := ⟨[(2, .int .i64 x.1), (7, .agg [.ints .u64 8 x.2.1]), (8, .int .i64 x.2.2)], [], 0⟩
def f66.s0.inX : VS → Option (f66.Ty1)
  | ⟨[(2, .int .i64 t2), (7, .agg [.ints .u64 8 t7]), (8, .int .i64 t8)], [], 0⟩ => some (t2, t7, t8)
  | _ => none
def f66.s0.o0 (y : Int) : VS := ⟨[(2, .int .i64 y)], [], 0⟩
def f66.s0.des : ∀ α : Type, Int → (Ex → VS → Option α) → Option α := (des1 (.exit 0) f66.s0.o0)
def f66.s0.out : Int → Ex × VS := (fun y => (.exit 0, f66.s0.o0 y))
theorem f66.s0.desOK : ∀ α y (k : Ex → VS → Option α), f66.s0.des α y k = k (f66.s0.out y).1 (f66.s0.out y).2 := (fun _ _ _ => rfl)
def f66.s0.inY : Ex → VS → Option (Int)
  | .exit 0, ⟨[(2, .int .i64 t2)], [], 0⟩ => some t2
  | _, _ => none
def f66.lp (K : Nat) : Nat → Option (Hint × Summ) := tabLp [(2, f66.s2.h, summOf (iter (f66.s2 K) K) f66.s2.inX f66.s2.des), (0, f66.s0.h, summOf (iter (f66.s0 K) K) f66.s0.inX f66.s0.des)]
noncomputable def f66.tab (K : Nat) : List (Nat × Entry) := [(62, (f62.E K))]
theorem f66.tabOK (K : Nat) : SpecOK Try.prog (tabSp (f66.tab K)) := tab_ok ((tab_cons (f62.ok K) tab_nil))
theorem f66.s2.eq (K : Nat) (rec : f66.Ty0 → Option (f66.Ty1)) (x : f66.Ty0) : f66.s2 K rec x = roundL (getA tys) (tabSp (f66.tab K)) 25 0 (f66.lp K) 400 f66.s2.b f66.s2.h f66.s2.ho f66.s2.shp f66.s2.inX f66.s2.inY rec x := by kernel_rfl
theorem f66.s2.lok (K : Nat) : LoopsOK Try.prog 25 0 (f66.lp K) f66.s2.b := loops_ok (by
  have h : loopsIn (f66.lp K) f66.s2.b = [] := by kernel_rfl
  rw [h]; simp)
theorem f66.s2.ok (K : Nat) : SummOK Try.prog 25 0 (summOf (iter (f66.s2 K) K) f66.s2.inX f66.s2.des) f66.s2.b :=
  loop_ok mix tys_ok (f66.tabOK K) (h := f66.s2.h) (ho := f66.s2.ho) (shp := f66.s2.shp) (inX := f66.s2.inX) (des := f66.s2.des) (out := f66.s2.out) (inY := f66.s2.inY) (fuel := 400)
    (by intro st x h; unfold f66.s2.inX at h; split at h <;> simp at h; subst h; rfl)
    (by intro e st y h; unfold f66.s2.inY at h; split at h <;> simp at h <;> subst h <;> rfl)
    f66.s2.desOK (f66.s2.lok K) (f66.s2 K) (f66.s2.eq K) K
theorem f66.s0.eq (K : Nat) (rec : f66.Ty1 → Option (Int)) (x : f66.Ty1) : f66.s0 K rec x = roundL (getA tys) (tabSp (f66.tab K)) 25 0 (f66.lp K) 400 f66.s0.b f66.s0.h f66.s0.ho f66.s0.shp f66.s0.inX f66.s0.inY rec x := by kernel_rfl
theorem f66.s0.lok (K : Nat) : LoopsOK Try.prog 25 0 (f66.lp K) f66.s0.b := loops_ok (by
  have h : loopsIn (f66.lp K) f66.s0.b = [(2, f66.s2.b)] := by kernel_rfl
  rw [h]
  intro p hp
  simp only [List.mem_cons, List.not_mem_nil, or_false] at hp
  rcases hp with rfl
  · exact ⟨_, rfl, (f66.s2.ok K)⟩)
theorem f66.s0.ok (K : Nat) : SummOK Try.prog 25 0 (summOf (iter (f66.s0 K) K) f66.s0.inX f66.s0.des) f66.s0.b :=
  loop_ok mix tys_ok (f66.tabOK K) (h := f66.s0.h) (ho := f66.s0.ho) (shp := f66.s0.shp) (inX := f66.s0.inX) (des := f66.s0.des) (out := f66.s0.out) (inY := f66.s0.inY) (fuel := 400)
    (by intro st x h; unfold f66.s0.inX at h; split at h <;> simp at h; subst h; rfl)
    (by intro e st y h; unfold f66.s0.inY at h; split at h <;> simp at h <;> subst h <;> rfl)
    f66.s0.desOK (f66.s0.lok K) (f66.s0 K) (f66.s0.eq K) K
theorem f66.loops (K : Nat) : LoopsOK Try.prog 25 0 (f66.lp K) f66.c := loops_ok (by
  have h : loopsIn (f66.lp K) f66.c = [(0, f66.s0.b), (2, f66.s2.b)] := by kernel_rfl
  rw [h]
  intro p hp
  simp only [List.mem_cons, List.not_mem_nil, or_false] at hp
  rcases hp with rfl | rfl
  · exact ⟨_, rfl, (f66.s0.ok K)⟩
  · exact ⟨_, rfl, (f66.s2.ok K)⟩)
def f66.T (K : Nat) (a0 : List Int) : Option (Int) :=
  (f62.F K a0).bind fun y1 =>
  (iter (f66.s0 K) K (0, y1, 0)).bind fun y12 =>
  some y12
def f66.F (K : Nat) (x : List Int) : Option (Int) := f66.T K x
def f66.av (x : List Int) : List VV := [.agg [.ints .u64 4 x]]
def f66.bl (_x : List Int) : List (Nat × Blk) := []
def f66.inA : VS → Option (List Int)
  | ⟨[(0, .agg [.ints .u64 4 a0])], [], 0⟩ => some a0
  | _ => none
def f66.o0 (y : Int) : VS := ⟨[(0, .int .i64 y)], [], 0⟩
def f66.des : ∀ α : Type, Int → (VS → Option α) → Option α := (dv1 f66.o0)
def f66.out : Int → VS := f66.o0
def f66.inR : VS → Option (Int)
  | ⟨[(0, .int .i64 y)], [], 0⟩ => some y
  | _ => none
noncomputable def f66.E (K : Nat) : Entry := genE 0 f66.inA (f66.F K) f66.des
theorem f66.eq (K : Nat) (x : List Int) : f66.F K x = xrun (getA tys) (tabSp (f66.tab K)) Try.f66.ntmps 0 (f66.lp K) 400 f66.c ⟨initL 0 (f66.av x), f66.bl x, 0⟩ (contF (getA tys) 0 Try.f66.results.toList f66.inR) := by kernel_rfl
theorem f66.ok (K : Nat) : EntryOK Try.prog 66 (f66.E K) :=
  gen_ok mix tys_ok (f66.tabOK K) Try.func66 (by kernel_rfl : Try.f66.body = some f66.c) (by kernel_rfl) (f66.loops K) (av := f66.av) (bl := f66.bl) (out := f66.out) (fuel := 400)
    (by intro s x h; unfold f66.inA at h; split at h <;> simp at h; subst h; rfl) (fun _ => Nat.le_of_ble_eq_true rfl)
    (by intro s y h; unfold f66.inR at h; split at h <;> simp at h <;> subst h <;> rfl) (fun _ _ _ => rfl) (f66.eq K)
end Go.Proofs

namespace Go.Proofs
open Go.VM
abbrev f35.Ty0 := Int × List Int × List Int
abbrev f35.Ty1 := List Int × List Int
noncomputable def f35.c : Code := bodyOf Try.f35
def f35.s0t (_K : Nat) (rec : f35.Ty0 → Option (f35.Ty0)) (t7 : Int) (b0 : List Int) (b1 : List Int) : Option (f35.Ty0) :=
  bif decide (0 ≤ t7 ∧ t7 < 8) then
    bif decide (0 ≤ t7 ∧ t7 < 8) then
      bif ((List.getD b0 (Int.toNat t7) 0) == (List.getD b1 (Int.toNat t7) 0)) then
        rec ((IntKind.wrap .i64 (t7 - 1)), b0, b1)
      else
        some (t7, b0, b1)
    else
      none
  else
    none
def f35.s0 (K : Nat) (rec : f35.Ty0 → Option (f35.Ty0)) (x : f35.Ty0) : Option (f35.Ty0) := f35.s0t K rec x.1 x.2.1 x.2.2
noncomputable def f35.s0.b : Code := (findLoop 0 f35.c).getD .skip
def f35.s0.h : Hint := { lv := [5, 6, 7] }
def f35.s0.ho : Hint := { lv := [5, 6, 7] }
def f35.s0.shp (x : f35.Ty0) : VS := ⟨[(5, .ptr 0 0), (6, .ptr 1 0), (7, .int .i64 x.1)], [(0, ([.ints .u64 8 x.2.1], 88, .norm)), (1, ([.ints .u64 8 x.2.2], 88, .norm))], 2⟩
def f35.s0.inX : VS → Option (f35.Ty0)
  | ⟨[(5, .ptr 0 0), (6, .ptr 1 0), (7, .int .i64 t7)], [(0, ([.ints .u64 8 b0], 88, .norm)), (1, ([.ints .u64 8 b1], 88, .norm))], 2⟩ => some (t7, b0, b1)
  | _ => none
def f35.s0.o0 (y : f35.Ty0) : VS := ⟨[(5, .ptr 0 0), (6, .ptr 1 0), (7, .int .i64 y.1)], [(0, ([.ints .u64 8 y.2.1], 88, .norm)), (1, ([.ints .u64 8 y.2.2], 88, .norm))], 2⟩
def f35.s0.des : ∀ α : Type, (f35.Ty0) → (Ex → VS → Option α) → Option α := (des1 (.exit 0) f35.s0.o0)
def f35.s0.out : f35.Ty0 → Ex × VS := (fun y => (.exit 0, f35.s0.o0 y))
theorem f35.s0.desOK : ∀ α y (k : Ex → VS → Option α), f35.s0.des α y k = k (f35.s0.out y).1 (f35.s0.out y).2 := (fun _ _ _ => rfl)
def f35.s0.inY : Ex → VS → Option (f35.Ty0)
  | .exit 0, ⟨[(5, .ptr 0 0), (6, .ptr 1 0), (7, .int .i64 t7)], [(0, ([.ints .u64 8 b0], 88, .norm)), (1, ([.ints .u64 8 b1], 88, .norm))], 2⟩ => some (t7, b0, b1)
  | _, _ => none
def f35.lp (K : Nat) : Nat → Option (Hint × Summ) := tabLp [(0, f35.s0.h, summOf (iter (f35.s0 K) K) f35.s0.inX f35.s0.des)]
noncomputable def f35.tab (K : Nat) : List (Nat × Entry) := [(62, (f62.E K))]
theorem f35.tabOK (K : Nat) : SpecOK Try.prog (tabSp (f35.tab K)) := tab_ok ((tab_cons (f62.ok K) tab_nil))
theorem f35.s0.eq (K : Nat) (rec : f35.Ty0 → Option (f35.Ty0)) (x : f35.Ty0) : f35.s0 K rec x = roundL (getA tys) (tabSp (f35.tab K)) 31 0 (f35.lp K) 400 f35.s0.b f35.s0.h f35.s0.ho f35.s0.shp f35.s0.inX f35.s0.inY rec x := by kernel_rfl
theorem f35.s0.lok (K : Nat) : LoopsOK Try.prog 31 0 (f35.lp K) f35.s0.b := loops_ok (by
  have h : loopsIn (f35.lp K) f35.s0.b = [] := by kernel_rfl
  rw [h]; simp)
theorem f35.s0.ok (K : Nat) : SummOK Try.prog 31 0 (summOf (iter (f35.s0 K) K) f35.s0.inX f35.s0.des) f35.s0.b :=
  loop_ok mix tys_ok (f35.tabOK K) (h := f35.s0.h) (ho := f35.s0.ho) (shp := f35.s0.shp) (inX := f35.s0.inX) (des := f35.s0.des) (out := f35.s0.out) (inY := f35.s0.inY) (fuel := 400)
    (by intro st x h; unfold f35.s0.inX at h; split at h <;> simp at h; subst h; rfl)
    (by intro e st y h; unfold f35.s0.inY at h; split at h <;> simp at h <;> subst h <;> rfl)
    f35.s0.desOK (f35.s0.lok K) (f35.s0 K) (f35.s0.eq K) K
theorem f35.loops (K : Nat) : LoopsOK Try.prog 31 0 (f35.lp K) f35.c := loops_ok (by
  have h : loopsIn (f35.lp K) f35.c = [(0, f35.s0.b)] := by kernel_rfl
  rw [h]
  intro p hp
  simp only [List.mem_cons, List.not_mem_nil, or_false] at hp
  rcases hp with rfl
  · exact ⟨_, rfl, (f35.s0.ok K)⟩)
def f35.T (K : Nat) (a0 : List Int) (a1 : List Int) : Option (Int) :=
  (f62.F K a0).bind fun y1 =>
  (f62.F K a1).bind fun y2 =>
  bif (eqL 8 y1 y2 && true) then
    some (0)
  else
    (iter (f35.s0 K) K (7, y1, y2)).bind fun y9 =>
    bif decide (0 ≤ y9.1 ∧ y9.1 < 8) then
      bif decide (0 ≤ y9.1 ∧ y9.1 < 8) then
        bif (decide ((List.getD y9.2.1 (Int.toNat y9.1) 0) < (List.getD y9.2.2 (Int.toNat y9.1) 0))) then
          some (-1)
        else
          some (1)
      else
        none
    else
      none
def f35.F (K : Nat) (x : f35.Ty1) : Option (Int) := f35.T K x.1 x.2
def f35.av (x : f35.Ty1) : List VV := [.agg [.ints .u64 4 x.1], .agg [.ints .u64 4 x.2]]
def f35.bl (_x : f35.Ty1) : List (Nat × Blk) := []
def f35.inA : VS → Option (f35.Ty1)
  | ⟨[(0, .agg [.ints .u64 4 a0]), (1, .agg [.ints .u64 4 a1])], [], 0⟩ => some (a0, a1)
  | _ => none
def f35.o0 (y : Int) : VS := ⟨[(0, .int .i64 y)], [], 0⟩
def f35.des : ∀ α : Type, Int → (VS → Option α) → Option α := (dv1 f35.o0)
def f35.out : Int → VS := f35.o0
def f35.inR : VS → Option (Int)
  | ⟨[(0, .int .i64 y)], [], 0⟩ => some y
  | _ => none
noncomputable def f35.E (K : Nat) : Entry := genE 0 f35.inA (f35.F K) f35.des
theorem f35.eq (K : Nat) (x : f35.Ty1) : f35.F K x = xrun (getA tys) (tabSp (f35.tab K)) Try.f35.ntmps 0 (f35.lp K) 400 f35.c ⟨initL 0 (f35.av x), f35.bl x, 0⟩ (contF (getA tys) 0 Try.f35.results.toList f35.inR) := by kernel_rfl
theorem f35.ok (K : Nat) : EntryOK Try.prog 35 (f35.E K) :=
  gen_ok mix tys_ok (f35.tabOK K) Try.func35 (by kernel_rfl : Try.f35.body = some f35.c) (by kernel_rfl) (f35.loops K) (av := f35.av) (bl := f35.bl) (out := f35.out) (fuel := 400)
    (by intro s x h; unfold f35.inA at h; split at h <;> simp at h; subst h; rfl) (fun _ => Nat.le_of_ble_eq_true rfl)
    (by intro s y h; unfold f35.inR at h; split at h <;> simp at h <;> subst h <;> rfl) (fun _ _ _ => rfl) (f35.eq K)
end Go.Proofs

namespace Go.Proofs
open Go.VM
end Go.Proofs

namespace Go.VM
theorem iter_inv {X Y : Type} {stp : (X → Option Y) → X → Option Y} (I : Nat → X → Prop) (Q : Y → Prop) (h : ∀ m x, I m x → (∃ y, Q y ∧ ∀ rec, stp rec x = some y) ∨ (∃ x' m', m' < m ∧ I m' x' ∧ ∀ rec, stp rec x = rec x')) :
    ∀ m x, I m x → ∀ K, m < K → ∃ y, Q y ∧ iter stp K x = some y := by
  intro m
  induction m using Nat.strongRecOn with
  | _ m ih =>
    intro x hx K hK
    obtain ⟨k, rfl⟩ : ∃ k, K = k + 1 := ⟨K - 1, by omega⟩
    rcases h m x hx with ⟨y, hy, hs⟩ | ⟨x', m', hm, hi, hs⟩
    · exact ⟨y, hy, hs _⟩
    · obtain ⟨y, h1, h2⟩ := ih m' hm x' hi k (by omega)
      exact ⟨y, h1, by rw [iter, hs]; exact h2⟩
end Go.VM
namespace Go.Proofs
open Go.VM
end Go.Proofs

namespace Go.VM
end Go.VM
namespace Go.Proofs
open Go.VM
end Go.Proofs

namespace Go.Proofs
open Go.VM
abbrev f32.Ty0 := Int × Int × List Int × Int × List Int × Int × List Int × List Int
abbrev f32.Ty1 := Int × List Int × Int × List Int × List Int
abbrev f32.Ty2 := List Int × List Int
abbrev f32.Ty3 := List Int × Int
noncomputable def f32.c : Code := bodyOf Try.f32
def f32.s2t (_K : Nat) (rec : f32.Ty0 → Option (f32.Ty1)) (t7 : Int) (t11 : Int) (t27 : List Int) (t28 : Int) (t49 : List Int) (t50 : Int) (b0 : List Int) (b1 : List Int) : Option (f32.Ty1) :=
  bif (decide (t50 < 2)) then
    bif decide (0 ≤ t50 ∧ t50 < 2) then
      bif (decide ((IntKind.wrap .i64 (t11 + t50)) ≥ 0)) then
        bif (decide ((IntKind.wrap .i64 (t11 + t50)) < 8)) then
          let v24 := IntKind.wrap .i64 (t11 + t50)
          bif decide (0 ≤ v24 ∧ v24 < 8) then
            bif decide (0 ≤ v24 ∧ v24 < 8) then
              rec (t7, t11, t27, t28, t49, (IntKind.wrap .i64 (t50 + 1)), b0, (setD b1 (Int.toNat v24) (bits .or .u64 (List.getD b1 (Int.toNat v24) 0) (List.getD t49 (Int.toNat t50) 0))))
            else
              none
          else
            none
        else
          rec (t7, t11, t27, t28, t49, (IntKind.wrap .i64 (t50 + 1)), b0, b1)
      else
        rec (t7, t11, t27, t28, t49, (IntKind.wrap .i64 (t50 + 1)), b0, b1)
    else
      none
  else
    some (t7, t27, t28, b0, b1)
def f32.s2 (K : Nat) (rec : f32.Ty0 → Option (f32.Ty1)) (x : f32.Ty0) : Option (f32.Ty1) := f32.s2t K rec x.1 x.2.1 x.2.2.1 x.2.2.2.1 x.2.2.2.2.1 x.2.2.2.2.2.1 x.2.2.2.2.2.2.1 x.2.2.2.2.2.2.2
noncomputable def f32.s2.b : Code := (findLoop 2 f32.c).getD .skip
def f32.s2.h : Hint := { lv := [4, 6, 7, 11, 27, 28, 49, 50] }
def f32.s2.ho : Hint := { lv := [4, 6, 7, 27, 28] }
def f32.s2.shp (x : f32.Ty0) : VS := ⟨[(4, .ptr 0 0), (6, .ptr 1 0), (7, .int .i64 x.1), (11, .int .i64 x.2.1), (27, .agg [.ints .u64 8 x.2.2.1]), (28, .int .i64 x.2.2.2.1), (49, .agg [.ints .u64 2 x.2.2.2.2.1]), (50, .int .i64 x.2.2.2.2.2.1)], [(0, ([.ints .u64 4 x.2.2.2.2.2.2.1], 39, .norm)), (1, ([.ints .u64 8 x.2.2.2.2.2.2.2], 88, .norm))], 2⟩
def f32.s2.inX : VS → Option (f32.Ty0)
  | ⟨[(4, .ptr 0 0), (6, .ptr 1 0), (7, .int .i64 t7), (11, .int .i64 t11), (27, .agg [.ints .u64 8 t27]), (28, .int .i64 t28), (49, .agg [.ints .u64 2 t49]), (50, .int .i64 t50)], [(0, ([.ints .u64 4 b0], 39, .norm)), (1, ([.ints .u64 8 b1], 88, .norm))], 2⟩ => some (t7, t11, t27, t28, t49, t50, b0, b1)
  | _ => none
def f32.s2.o0 (y : f32.Ty1) : VS := ⟨[(4, .ptr 0 0), (6, .ptr 1 0), (7, .int .i64 y.1), (27, .agg [.ints .u64 8 y.2.1]), (28, .int .i64 y.2.2.1)], [(0, ([.ints .u64 4 y.2.2.2.1], 39, .norm)), (1, ([.ints .u64 8 y.2.2.2.2], 88, .norm))], 2⟩
def f32.s2.des : ∀ α : Type, (f32.Ty1) → (Ex → VS → Option α) → Option α := (des1 (.exit 2) f32.s2.o0)
def f32.s2.out : f32.Ty1 → Ex × VS := (fun y => (.exit 2, f32.s2.o0 y))
theorem f32.s2.desOK : ∀ α y (k : Ex → VS → Option α), f32.s2.des α y k = k (f32.s2.out y).1 (f32.s2.out y).2 := (fun _ _ _ => rfl)
def f32.s2.inY : Ex → VS → Option (f32.Ty1)
  | .exit 2, ⟨[(4, .ptr 0 0), (6, .ptr 1 0), (7, .int .i64 t7), (27, .agg [.ints .u64 8 t27]), (28, .int .i64 t28)], [(0, ([.ints .u64 4 b0], 39, .norm)), (1, ([.ints .u64 8 b1], 88, .norm))], 2⟩ => some (t7, t27, t28, b0, b1)
  | _, _ => none
def f32.s0t (K : Nat) (rec : f32.Ty1 → Option (f32.Ty2)) (t7 : Int) (t27 : List Int) (t28 : Int) (b0 : List Int) (b1 : List Int) : Option (f32.Ty2) :=
  bif (decide (t28 < 8)) then
    bif decide (0 ≤ t28 ∧ t28 < 8) then
      let v8 := List.getD t27 (Int.toNat t28) 0
      let v10 := IntKind.wrap .i64 ((IntKind.wrap .i64 (t28 * 32)) + t7)
      let v13 := Int.tmod v10 32
      bif decide (0 ≤ v13) then
        bif decide (0 ≤ v13) then
          (iter (f32.s2 K) K (t7, (IntKind.wrap .i64 ((IntKind.wrap .i64 (Int.tdiv v10 32)) - 8)), t27, t28, [(bits .and .u64 (shiftI .shl .u64 v8 v13) 4294967295), (Int.fdiv (shiftI .shl .u64 v8 v13) (2 ^ 32))], 0, b0, b1)).bind fun y33 =>
          rec (y33.1, y33.2.1, (IntKind.wrap .i64 (y33.2.2.1 + 1)), y33.2.2.2.1, y33.2.2.2.2)
        else
          none
      else
        none
    else
      none
  else
    some (b0, b1)
def f32.s0 (K : Nat) (rec : f32.Ty1 → Option (f32.Ty2)) (x : f32.Ty1) : Option (f32.Ty2) := f32.s0t K rec x.1 x.2.1 x.2.2.1 x.2.2.2.1 x.2.2.2.2
noncomputable def f32.s0.b : Code := (findLoop 0 f32.c).getD .skip
def f32.s0.h : Hint := { lv := [4, 6, 7, 27, 28] }
def f32.s0.ho : Hint := { lv := [4, 6] }
def f32.s0.shp (x : f32.Ty1) : VS := ⟨[(4, .ptr 0 0), (6, .ptr 1 0), (7, .int .i64 x.1), (27, .agg [.ints .u64 8 x.2.1]), (28, .int .i64 x.2.2.1)], [(0, ([.ints .u64 4 x.2.2.2.1], 39, .norm)), (1, ([.ints .u64 8 x.2.2.2.2], 88, .norm))], 2⟩
def f32.s0.inX : VS → Option (f32.Ty1)
  | ⟨[(4, .ptr 0 0), (6, .ptr 1 0), (7, .int .i64 t7), (27, .agg [.ints .u64 8 t27]), (28, .int .i64 t28)], [(0, ([.ints .u64 4 b0], 39, .norm)), (1, ([.ints .u64 8 b1], 88, .norm))], 2⟩ => some (t7, t27, t28, b0, b1)
  | _ => none
def f32.s0.o0 (y : f32.Ty2) : VS := ⟨[(4, .ptr 0 0), (6, .ptr 1 0)], [(0, ([.ints .u64 4 y.1], 39, .norm)), (1, ([.ints .u64 8 y.2], 88, .norm))], 2⟩
def f32.s0.des : ∀ α : Type, (f32.Ty2) → (Ex → VS → Option α) → Option α := (des1 (.exit 0) f32.s0.o0)
def f32.s0.out : f32.Ty2 → Ex × VS := (fun y => (.exit 0, f32.s0.o0 y))
theorem f32.s0.desOK : ∀ α y (k : Ex → VS → Option α), f32.s0.des α y k = k (f32.s0.out y).1 (f32.s0.out y).2 := (fun _ _ _ => rfl)
def f32.s0.inY : Ex → VS → Option (f32.Ty2)
  | .exit 0, ⟨[(4, .ptr 0 0), (6, .ptr 1 0)], [(0, ([.ints .u64 4 b0], 39, .norm)), (1, ([.ints .u64 8 b1], 88, .norm))], 2⟩ => some (b0, b1)
  | _, _ => none
def f32.lp (K : Nat) : Nat → Option (Hint × Summ) := tabLp [(2, f32.s2.h, summOf (iter (f32.s2 K) K) f32.s2.inX f32.s2.des), (0, f32.s0.h, summOf (iter (f32.s0 K) K) f32.s0.inX f32.s0.des)]
noncomputable def f32.tab (K : Nat) : List (Nat × Entry) := [(62, (f62.E K)), (63, (f63.E K))]
theorem f32.tabOK (K : Nat) : SpecOK Try.prog (tabSp (f32.tab K)) := tab_ok ((tab_cons (f62.ok K) (tab_cons (f63.ok K) tab_nil)))
theorem f32.s2.eq (K : Nat) (rec : f32.Ty0 → Option (f32.Ty1)) (x : f32.Ty0) : f32.s2 K rec x = roundL (getA tys) (tabSp (f32.tab K)) 76 0 (f32.lp K) 400 f32.s2.b f32.s2.h f32.s2.ho f32.s2.shp f32.s2.inX f32.s2.inY rec x := by kernel_rfl
theorem f32.s2.lok (K : Nat) : LoopsOK Try.prog 76 0 (f32.lp K) f32.s2.b := loops_ok (by
  have h : loopsIn (f32.lp K) f32.s2.b = [] := by kernel_rfl
  rw [h]; simp)
theorem f32.s2.ok (K : Nat) : SummOK Try.prog 76 0 (summOf (iter (f32.s2 K) K) f32.s2.inX f32.s2.des) f32.s2.b :=
  loop_ok mix tys_ok (f32.tabOK K) (h := f32.s2.h) (ho := f32.s2.ho) (shp := f32.s2.shp) (inX := f32.s2.inX) (des := f32.s2.des) (out := f32.s2.out) (inY := f32.s2.inY) (fuel := 400)
    (by intro st x h; unfold f32.s2.inX at h; split at h <;> simp at h; subst h; rfl)
    (by intro e st y h; unfold f32.s2.inY at h; split at h <;> simp at h <;> subst h <;> rfl)
    f32.s2.desOK (f32.s2.lok K) (f32.s2 K) (f32.s2.eq K) K
theorem f32.s0.eq (K : Nat) (rec : f32.Ty1 → Option (f32.Ty2)) (x : f32.Ty1) : f32.s0 K rec x = roundL (getA tys) (tabSp (f32.tab K)) 76 0 (f32.lp K) 400 f32.s0.b f32.s0.h f32.s0.ho f32.s0.shp f32.s0.inX f32.s0.inY rec x := by kernel_rfl
theorem f32.s0.lok (K : Nat) : LoopsOK Try.prog 76 0 (f32.lp K) f32.s0.b := loops_ok (by
  have h : loopsIn (f32.lp K) f32.s0.b = [(2, f32.s2.b)] := by kernel_rfl
  rw [h]
  intro p hp
  simp only [List.mem_cons, List.not_mem_nil, or_false] at hp
  rcases hp with rfl
  · exact ⟨_, rfl, (f32.s2.ok K)⟩)
theorem f32.s0.ok (K : Nat) : SummOK Try.prog 76 0 (summOf (iter (f32.s0 K) K) f32.s0.inX f32.s0.des) f32.s0.b :=
  loop_ok mix tys_ok (f32.tabOK K) (h := f32.s0.h) (ho := f32.s0.ho) (shp := f32.s0.shp) (inX := f32.s0.inX) (des := f32.s0.des) (out := f32.s0.out) (inY := f32.s0.inY) (fuel := 400)
    (by intro st x h; unfold f32.s0.inX at h; split at h <;> simp at h; subst h; rfl)
    (by intro e st y h; unfold f32.s0.inY at h; split at h <;> simp at h <;> subst h <;> rfl)
    f32.s0.desOK (f32.s0.lok K) (f32.s0 K) (f32.s0.eq K) K
theorem f32.loops (K : Nat) : LoopsOK Try.prog 76 0 (f32.lp K) f32.c := loops_ok (by
  have h : loopsIn (f32.lp K) f32.c = [(0, f32.s0.b), (2, f32.s2.b)] := by kernel_rfl
  rw [h]
  intro p hp
  simp only [List.mem_cons, List.not_mem_nil, or_false] at hp
  rcases hp with rfl | rfl
  · exact ⟨_, rfl, (f32.s0.ok K)⟩
  · exact ⟨_, rfl, (f32.s2.ok K)⟩)
def f32.T (K : Nat) (a0 : List Int) (a1 : Int) : Option (List Int) :=
  (f62.F K a0).bind fun y1 =>
  bif (decide (a1 ≤ (-256))) then
    (f63.F K [0, 0, 0, 0, 0, 0, 0, 0]).bind fun y3 =>
    some y3
  else
    bif (decide (a1 ≥ 256)) then
      (f63.F K [0, 0, 0, 0, 0, 0, 0, 0]).bind fun y5 =>
      some y5
    else
      (iter (f32.s0 K) K ((IntKind.wrap .i64 (a1 + 256)), y1, 0, [0, 0, 0, 0], [0, 0, 0, 0, 0, 0, 0, 0])).bind fun y35 =>
      (f63.F K y35.2).bind fun y36 =>
      some y36
def f32.F (K : Nat) (x : f32.Ty3) : Option (List Int) := f32.T K x.1 x.2
def f32.av (x : f32.Ty3) : List VV := [.agg [.ints .u64 4 x.1], .int .i64 x.2]
def f32.bl (_x : f32.Ty3) : List (Nat × Blk) := []
def f32.inA : VS → Option (f32.Ty3)
  | ⟨[(0, .agg [.ints .u64 4 a0]), (1, .int .i64 a1)], [], 0⟩ => some (a0, a1)
  | _ => none
def f32.o0 (y : List Int) : VS := ⟨[(0, .agg [.ints .u64 4 y])], [], 0⟩
def f32.des : ∀ α : Type, (List Int) → (VS → Option α) → Option α := (dv1 f32.o0)
def f32.out : List Int → VS := f32.o0
def f32.inR : VS → Option (List Int)
  | ⟨[(0, .agg [.ints .u64 4 y])], [], 0⟩ => some y
  | _ => none
noncomputable def f32.E (K : Nat) : Entry := genE 0 f32.inA (f32.F K) f32.des
theorem f32.eq (K : Nat) (x : f32.Ty3) : f32.F K x = xrun (getA tys) (tabSp (f32.tab K)) Try.f32.ntmps 0 (f32.lp K) 400 f32.c ⟨initL 0 (f32.av x), f32.bl x, 0⟩ (contF (getA tys) 0 Try.f32.results.toList f32.inR) := by kernel_rfl
theorem f32.ok (K : Nat) : EntryOK Try.prog 32 (f32.E K) :=
  gen_ok mix tys_ok (f32.tabOK K) Try.func32 (by kernel_rfl : Try.f32.body = some f32.c) (by kernel_rfl) (f32.loops K) (av := f32.av) (bl := f32.bl) (out := f32.out) (fuel := 400)
    (by intro s x h; unfold f32.inA at h; split at h <;> simp at h; subst h; rfl) (fun _ => Nat.le_of_ble_eq_true rfl)
    (by intro s y h; unfold f32.inR at h; split at h <;> simp at h <;> subst h <;> rfl) (fun _ _ _ => rfl) (f32.eq K)
end Go.Proofs

namespace Go.Proofs
open Go.VM
end Go.Proofs

namespace Go.Proofs
open Go.VM
end Go.Proofs

namespace Go.Proofs
open Go.VM
end Go.Proofs

namespace Go.Proofs
open Go.VM
theorem wf_u8 {z : Int} (h : (Lit.int .u8 z).wf = true) : ∃ n : Nat, n < 256 ∧ z = (n : Int) := by
  simp [Lit.wf, IntKind.min, IntKind.max, IntKind.signed, IntKind.bits] at h
  exact ⟨z.toNat, by omega, by omega⟩
end Go.Proofs

namespace Go.Proofs
open Go.VM
end Go.Proofs

namespace Go.Proofs
open Go.VM
end Go.Proofs

namespace Go.Proofs
open Go.VM
end Go.Proofs

namespace Go.Proofs
open Go.VM
end Go.Proofs

namespace Go.Proofs
open Go.VM
end Go.Proofs

namespace Go.Proofs
open Go.VM
end Go.Proofs

namespace Go.Proofs
open Go.VM
end Go.Proofs

namespace Go.Proofs
open Go.VM
end Go.Proofs

namespace Go.Proofs
open Go.VM
end Go.Proofs

namespace Go.Proofs
open Go.VM
end Go.Proofs

namespace Go.Proofs
open Go.VM
end Go.Proofs

namespace Go.Proofs
open Go.VM
end Go.Proofs

namespace Go.Proofs
open Go.VM
end Go.Proofs

namespace Go.Proofs
open Go.VM
end Go.Proofs

namespace Go.Proofs
open Go.VM
end Go.Proofs

namespace Go.Proofs
open Go.VM
def be : Nat → Nat → List Int
  | 0, _ => []
  | n + 1, x => be n (x / 256) ++ [((x % 256 : Nat) : Int)]
theorem be_length : ∀ n x : Nat, (be n x).length = n
  | 0, _ => rfl
  | n + 1, x => by rw [be, List.length_append, be_length n]; rfl
def octets (l : List Int) : Prop := ∀ x ∈ l, 0 ≤ x ∧ x < 256
theorem be_octets : ∀ n x : Nat, octets (be n x)
  | 0, _ => fun _ h => by cases h
  | n + 1, x => fun y h => by
    rw [be, List.mem_append] at h
    rcases h with h | h
    · exact be_octets n _ y h
    · simp only [List.mem_singleton] at h
      subst h
      omega
def tv (l : List Int) : Nat := l.foldl (fun a x => 256 * a + x.toNat) 0
theorem tv_snoc (l : List Int) (x : Int) : tv (l ++ [x]) = 256 * tv l + x.toNat := by simp [tv]
theorem tv_lt : ∀ (n : Nat) (l : List Int), l.length = n → octets l → tv l < 256 ^ n
  | 0, l, h, _ => by
    have : l = [] := List.length_eq_zero_iff.1 h
    subst this; simp [tv]
  | n + 1, l, h, ho => by
    have hne : l ≠ [] := by intro e; subst e; cases h
    rw [← List.dropLast_concat_getLast hne, tv_snoc]
    have h1 := tv_lt n l.dropLast (by simp [h]) (fun x hx => ho x (List.dropLast_subset l hx))
    have h2 := ho _ (List.getLast_mem hne)
    rw [Nat.pow_succ]
    omega
theorem padT_self (l : List Int) {n : Nat} (h : l.length = n) : padT l n = l := by
  subst h
  refine List.ext_getElem? fun i => ?_
  by_cases hi : i < l.length
  · simp [padT, hi]
  · rw [List.getElem?_eq_none (by simpa [padT] using hi), List.getElem?_eq_none (by omega)]
theorem subI_cut (l : List Int) (off m : Nat) (h : off + m ≤ l.length) : subI l off m = (l.drop off).take m := by
  refine List.ext_getElem? fun i => ?_
  rw [List.getElem?_take, List.getElem?_drop]
  by_cases hi : i < m
  · rw [if_pos hi]
    have : off + i < l.length := by omega
    simp [subI, hi, this]
  · rw [if_neg hi, List.getElem?_eq_none (by simpa [subI] using hi)]
theorem subI_self (l : List Int) {n : Nat} (h : l.length = n) : subI l 0 n = l := by
  rw [subI_cut l 0 n (by omega), List.drop_zero, List.take_of_length_le (by omega)]
theorem fitB_true {x : Nat} (h : x ≤ 140737488355328) : fitB x = true := by simp only [fitB, Nat.ble_eq]; exact h
theorem ble_true {x y : Nat} (h : x ≤ y) : Nat.ble x y = true := by simp only [Nat.ble_eq]; exact h
theorem altl {A B C : Type} (f : A → C) (g : B → C) (a : A) : alt f g (.inl a) = f a := Eq.trans (show alt f g (.inl a) = f a from by unfold alt; rfl) (Eq.symm (Eq.symm rfl))
theorem altr {A B C : Type} (f : A → C) (g : B → C) (b : B) : alt f g (.inr b) = g b := Eq.trans (show alt f g (.inr b) = g b from by unfold alt; rfl) (Eq.symm (Eq.symm rfl))
theorem be_mod : ∀ (n x : Nat), be n (x % 256 ^ n) = be n x
  | 0, _ => rfl
  | n + 1, x => by
    rw [be, be]
    have h1 : x % 256 ^ (n + 1) / 256 = x / 256 % 256 ^ n := by rw [Nat.pow_succ', Nat.mod_mul_right_div_self]
    have h2 : x % 256 ^ (n + 1) % 256 = x % 256 := by rw [Nat.pow_succ', Nat.mod_mul_right_mod]
    rw [h1, h2, be_mod n]
theorem tv_append (a b : List Int) : tv (a ++ b) = tv a * 256 ^ b.length + tv b := by
  have key : ∀ (b : List Int) (x : Nat), b.foldl (fun a x => 256 * a + x.toNat) x = x * 256 ^ b.length + b.foldl (fun a x => 256 * a + x.toNat) 0 := by
    intro b
    induction b with
    | nil => intro x; simp
    | cons y b ih =>
      intro x
      rw [List.foldl_cons, ih, List.foldl_cons, ih (256 * 0 + y.toNat), List.length_cons, Nat.pow_succ']
      have : (256 * x + y.toNat) * 256 ^ b.length = x * (256 * 256 ^ b.length) + y.toNat * 256 ^ b.length := by
        rw [Nat.add_mul, Nat.mul_comm 256 x, Nat.mul_assoc]
      rw [this, Nat.mul_zero, Nat.zero_add]; omega
  show (a ++ b).foldl _ 0 = _
  rw [List.foldl_append, key]
  rfl
theorem tv_be : ∀ (n x : Nat), tv (be n x) = x % 256 ^ n
  | 0, x => by rw [Nat.pow_zero, Nat.mod_one]; rfl
  | n + 1, x => by
    rw [be, tv_snoc, tv_be n, Int.toNat_natCast, Nat.pow_succ', Nat.mod_mul]
    omega
theorem octets_append {a b : List Int} (ha : octets a) (hb : octets b) : octets (a ++ b) := fun x hx => (List.mem_append.1 hx).elim (ha x) (hb x)
end Go.Proofs
