/- The machine on virtual values: its definition and its soundness proof, which hold with no condition but those that each states. -/
import Derived.Test.YtjkelipglcnpmaaDoorVms
import GoSem.Instr.Next
import GoSem.Instr.Range
namespace Go.VM
def isI1 : List VV → Bool
  | [.ints ..] => true
  | _ => false
def wide (M : List (Nat × Blk)) (b : Nat) : Bool := match getA M b with
  | some x => !(isRo x.2.2) && !(isI1 x.1)
  | none => false
def cutJ (lo : Option (IntKind × Int)) (l m : Nat) : Nat := match lo with
  | none => 0
  | some _ => bif Nat.beq m l then 0 else l
def copyP (b : Nat) (x : Blk) (o n j dlen : Nat) (q : Bool × List VV × Nat × List Nat) : Option (Bool × VV × ME) := (findR x.1 o).bind fun p => match p.2.1, q.2.1 with
  | .ints k N l, [.ints k' m l'] => if k = k' then some (q.1 && Nat.ble (p.2.2.1 + n) N && Nat.ble (j + dlen) n && Nat.beq m q.2.2.1, .int .i64 ((Nat.min m dlen : Nat) : Int),
      { rd := b :: q.2.2.2, up := [(b, (p.1 ++ .ints k N (spl l (ix p.2.2.1 j 1) (Nat.min m dlen) l') :: p.2.2.2, x.2))] }) else none
  | _, _ => none
def copyL (b : Nat) (x : Blk) (off dlen : Nat) (q : Bool × List VV × Nat × List Nat) : Option (Bool × VV × ME) := bif isI1 x.1 then none else
  (takeR q.2.1 (Nat.min q.2.2.1 dlen)).bind fun vs => (storeR x.1 off (.agg vs)).map fun rs => (q.1, .int .i64 ((Nat.min q.2.2.1 dlen : Nat) : Int), { rd := b :: q.2.2.2, up := [(b, (rs, x.2))] })
def copyD (M : List (Nat × Blk)) (q : Bool × List VV × Nat × List Nat) : VV → Option (Bool × VV × ME)
  | .sr b o n j dlen _ => (getA M b).bind fun x => bif isRo x.2.2 then none else copyP b x o n j dlen q
  | .sl b off dlen _ => (getA M b).bind fun x => bif isRo x.2.2 then none else copyL b x off dlen q
  | _ => none
def isNorm : Kd → Bool
  | .norm => true
  | _ => false
def appD (M : List (Nat × Blk)) (n : Nat) (e : TypeId) (bytes : Nat) (q : Bool × List VV × Nat × List Nat) : VV → Option (Bool × VV × ME)
  | .sl b off len cap => (getA M b).bind fun x => bif isNorm x.2.2 && Nat.beq x.2.1 e then
      bif isI1 x.1 then bif Nat.beq off 0 then
        (appR x.1 len q.2.1).map fun r => (q.1 && r.1 && Nat.ble cap (VV.ws x.1) && fitB ((len + q.2.2.1) * bytes), .vec n 0 (len + q.2.2.1) (n + 1), { rd := b :: q.2.2.2, up := [(n, (r.2, e, .vec (n + 1))), (b, ([], e, .dead))], nn := 2 }) else none
      else (storeR x.1 (off + len) (.agg q.2.1)).map fun rs => (q.1 && Nat.ble (len + q.2.2.1) cap, .sl b off (len + q.2.2.1) cap, { rd := b :: q.2.2.2, up := [(b, (rs, x.2))] }) else none
  | _ => none
def isPtr : VV → Bool
  | .ptr .. | .pel .. | .vp .. => true
  | _ => false
def isNilP : VV → Bool
  | .raw (.pointer none) => true
  | _ => false
def nilEq (v u : VV) : Option Bool := bif isPtr v && isNilP u then some false else bif isNilP v && isPtr u then some false else bif isNilP v && isNilP u then some true else none
def boolOp (op : BinOp) (b : Bool) : Option VV := match op with
  | .eql => some (.bool b)
  | .neq => some (.bool (!b))
  | _ => none
def zerosQ (ie : TI) : VV → Option (Bool × List VV × Nat × List Nat)
  | .int _ n => match ie.zero with
    | [.int k 0] => some (decide (0 ≤ n) && fitB (n.toNat * ie.bytes), [.ints k n.toNat []], n.toNat, [])
    | _ => none
  | _ => none
def xopD (ty : TypeId → Option TI) (L : List (Nat × VV)) (M : List (Nat × Blk)) (n : Nat) : Op → Option (Bool × VV × ME)
  | .slice t x lo hi mx => (ev L x).bind fun v => (ty t).bind fun i => (evO L lo).bind fun lo => (evO L hi).bind fun hi => (evO L mx).bind fun mx => match i.desc, v with
    | .array N _, .ptr b off => bif Nat.beq i.esz 1 && wide M b && (mx.isNone || hi.isSome) then
        some (bndF mx N && bndF hi (bndN mx N) && bndF lo (bndN hi N), .sr b off N (cutJ lo (bndN lo 0) (bndN mx N)) (bndN hi N - bndN lo 0) (bndN mx N - bndN lo 0), {}) else none
    | .slice _, .sr b o m j len cap => bif Nat.beq i.esz 1 && (mx.isNone || hi.isSome) then
        some (bndF mx cap && bndF hi (bndN mx cap) && bndF lo (bndN hi len), .sr b o m (cutO lo j (bndN lo 0) (bndN mx cap)) (bndN hi len - bndN lo 0) (bndN mx cap - bndN lo 0), {}) else none
    | .slice _, .vec b off len c => bif Nat.beq i.esz 1 && mx.isSome && hi.isSome then (getA M b).bind fun x => bif isVec c x.2.2 then
        some (bndF mx len && bndF hi (bndN mx len) && bndF lo (bndN hi len) && Nat.ble (off + len) (VV.ws x.1), .vw false b (off + bndN lo 0) (bndN hi len - bndN lo 0) n, { rd := [b], nn := 1 }) else none else none
    | _, _ => none
  | .indexAddr t x y => (ev L x).bind fun v => (ev L y).bind fun u => (ty t).bind fun i => match i.desc, v, u with
    | .slice _, .sr b o m j len _, .int _ q => bif Nat.beq i.esz 1 then some (decide (0 ≤ q ∧ q < (len : Int)) && Nat.blt (j + q.toNat) m, .pel b o m (j + q.toNat) 1, {}) else none
    | _, _, _ => none
  | .binOp op t x y _ => (ev L x).bind fun v => (ev L y).bind fun u => (nilEq v u).bind fun b => (ty t).bind fun i => match i.desc with
    | .pointer _ => (boolOp op b).map fun r => (true, r, {})
    | _ => none
  | .call { callee := .builtin .len, args := args, argTypes := ats } => (evs L args.toList).bind fun vs => match vs, ats.toList with
    | [.sr _ _ _ _ len _], [t] => (ty t).bind fun i => match i.desc with
      | .slice _ => some (true, .int .i64 (len : Int), {})
      | _ => none
    | _, _ => none
  | .call { callee := .builtin .cap, args := args, argTypes := ats } => (evs L args.toList).bind fun vs => match vs, ats.toList with
    | [.sr _ _ _ _ _ cap], [t] => (ty t).bind fun i => match i.desc with
      | .slice _ => some (true, .int .i64 (cap : Int), {})
      | _ => none
    | _, _ => none
  | .call { callee := .builtin .append, args := args, argTypes := ats } => (evs L args.toList).bind fun vs => match vs, ats.toList with
    | [s, x], [t, t2] => (ty t).bind fun i => (ty t2).bind fun i2 => match i.desc with
      | .slice e => (ty e).bind fun ie => bif Nat.beq ie.size 1 && Nat.ble 1 ie.bytes then (bif notInt i2.desc then (srcS M x).bind fun q => appD M n e ie.bytes q s else (zerosQ ie x).bind fun q => appD M n e ie.bytes q s) else none
      | _ => none
    | _, _ => none
  | .call { callee := .builtin .copy, args := args, argTypes := ats } => (evs L args.toList).bind fun vs => match vs, ats.toList with
    | [s, x], [t, _] => (ty t).bind fun i => match i.desc with
      | .slice e => (ty e).bind fun ie => bif Nat.beq ie.size 1 then (srcS M x).bind fun q => copyD M q s else none
      | _ => none
    | _, _ => none
  | _ => none
def xopZ (ty : TypeId → Option TI) (L : List (Nat × VV)) (M : List (Nat × Blk)) (n : Nat) (op : Op) : Option (Bool × VV × ME) := match xopD ty L M n op with
  | some r => some r
  | none => xopA ty L M n op
section
variable {P : Program} {ty : TypeId → Option TI} {L : List (Nat × VV)} {M : List (Nat × Blk)} {n : Nat} {ρ : Nat → Nat} {p : Nat → Prop} {a : Act} {w : World}
theorem isNorm_eq {k : Kd} (h : isNorm k = true) : k = .norm := by cases k <;> first | rfl | (simp [isNorm] at h)
theorem copyG_sound {o : Oper} {t t2 e : TypeId} {ie : TI} (hte : TyOK P e ie) (hts : P.underlying t = some (.slice e)) (hsz : ie.size = 1) {b off dlen cap : Nat} {rs rs' : List VV} {te : TypeId} {kd : Kd} {xv : Value} {q : Bool × List VV × Nat × List Nat}
    (hb : getA M b = some (rs, te, kd)) (hro : isRo kd = false) (hnd : rowK kd = true) (hmm : ∀ d ∈ b :: q.2.2.2, MmOK ρ p M w d) (hpb : p b)
    (hcells : VV.cellss ρ rs' = splL (VV.cellss ρ rs) off ((VV.cellss ρ q.2.1).take (Nat.min q.2.2.1 dlen))) (hfit : off + Nat.min q.2.2.1 dlen ≤ VV.ws rs) (hm : VV.mems rs = true → VV.mems q.2.1 = true → VV.mems rs' = true)
    (hids : ∀ i ∈ VV.idss rs', i ∈ VV.idss rs ∨ i ∈ VV.idss q.2.1)
    (hq : Shows P w xv (VV.cellss ρ q.2.1) ∧ VV.ws q.2.1 = q.2.2.1 ∧ VV.mems q.2.1 = true ∧ (∀ i ∈ VV.idss q.2.1, p i) ∧ (∀ b ∈ q.2.2.2, p b))
    (hr : ∀ rv w', (Builtin.copy_ #[t, t2] o.type #[.slice (some ⟨ρ b, off, none⟩) dlen cap, xv]).run P w = .ok rv w' → (execOp a.eval o).run P w = .ok (.value rv) w') :
    Sound P ρ p M n a w o (.int .i64 ((Nat.min q.2.2.1 dlen : Nat) : Int)) { rd := b :: q.2.2.2, up := [(b, (rs', te, kd))] } := by
  have hinf := hte.info
  cases hie : P.info? e with
  | none => simp [hie] at hinf
  | some it =>
  simp [hie] at hinf
  obtain ⟨hs1, _⟩ := hinf
  have hs : it.size = 1 := by rw [hs1, hsz]
  obtain ⟨q1, q2, q3, q4, q5⟩ := hq
  have hl : (VV.cellss ρ q.2.1).length = q.2.2.1 := by rw [cellss_length, q2]
  have hm1 := hmm b (by simp)
  obtain ⟨m1, m2, m3⟩ := hm1 _ hb
  have hrd : ∀ d ∈ b :: q.2.2.2, p d := fun d hd => (List.mem_cons.1 hd).elim (fun e => by subst e; exact hpb) (q5 d)
  have hmin : Nat.min q.2.2.1 dlen ≤ q.2.2.1 := Nat.min_le_left _ _
  have hlt : ((VV.cellss ρ q.2.1).take (Nat.min q.2.2.1 dlen)).length = Nat.min q.2.2.1 dlen := by rw [List.length_take, hl]; exact Nat.min_eq_left hmin
  have hlrs := cellss_length ρ rs
  have hwr : VV.ws rs' = VV.ws rs := by rw [← cellss_length ρ rs', hcells, length_splL (by rw [hlt, hlrs]; exact hfit), hlrs]
  have hids' : ∀ i ∈ VV.idss rs', p i := fun i hi => (hids i hi).elim (fun h => m3 i (by simp only [bids, List.mem_append]; exact .inl h)) (q4 i)
  by_cases h0 : VV.ws rs = 0
  · have hk0 : Nat.min q.2.2.1 dlen = 0 := by omega
    have := run_copy (w := w) (ty := o.type) (t2 := t2) hts hie hs q1 (ad := some ⟨ρ b, off, none⟩) (dlen := dlen) (cap := cap) (w' := w) (fun x _ => by rw [hl, hk0, List.take_zero]; rfl) (fun h => by cases h)
    rw [hl] at this
    exact Sound.same hb hm1 hro hnd (by simp) hwr h0 (hr _ _ this) rfl (by simp [VV.ids]) (hm m2 q3) hids' hrd
  · refine Sound.write hb hm1 hro (by simp) (by omega) hwr (fun tail fz hh hz => ?_) (.inl rfl) rfl (by simp [VV.ids]) (hm m2 q3) hids' hrd
    have hst := run_storeCells (P := P) (ρ b) te fz ((VV.cellss ρ q.2.1).take (Nat.min q.2.2.1 dlen)) off 0 (VV.cellss ρ rs ++ tail) w hh (by rw [List.length_append, hlrs, hlt]; omega)
      (fun j hj => hz j (by rw [hlt] at hj; omega)) (fun v hv => mems_cells _ q3 v (List.mem_of_mem_take hv))
    rw [Nat.add_zero, splL_append (by rw [hlt, hlrs]; exact hfit), ← hcells] at hst
    have := run_copy (w := w) (ty := o.type) (t2 := t2) hts hie hs q1 (ad := some ⟨ρ b, off, none⟩) (dlen := dlen) (cap := cap) (fun x hx => by
      simp only [Option.some.injEq] at hx; subst hx; rw [hl]; exact hst) (fun h => by cases h)
    rw [hl] at this
    exact hr _ _ this
theorem copyD_rd {q : Bool × List VV × Nat × List Nat} {s v : VV} {f : Bool} {me : ME} (h : copyD M q s = some (f, v, me)) : ∀ b ∈ q.2.2.2, b ∈ me.rd := by
  unfold copyD at h
  split at h
  · obtain ⟨x, h1, h2⟩ := Option.bind_eq_some_iff.1 h
    have h3 := (ro_no h2).2
    unfold copyP at h3
    obtain ⟨p1, h4, h5⟩ := Option.bind_eq_some_iff.1 h3
    split at h5
    · split at h5
      · simp only [Option.some.injEq, Prod.mk.injEq] at h5
        rw [← h5.2.2]; intro d hd; simp [hd]
      · cases h5
    · cases h5
  · obtain ⟨x, h1, h2⟩ := Option.bind_eq_some_iff.1 h
    have h3 := (ro_no h2).2
    unfold copyL at h3
    cases hi : isI1 x.1 with
    | true => simp [hi] at h3
    | false =>
      simp only [hi, cond_false] at h3
      obtain ⟨vs, h4, h5⟩ := Option.bind_eq_some_iff.1 h3
      obtain ⟨rs, h6, h7⟩ := Option.map_eq_some_iff.1 h5
      simp only [Prod.mk.injEq] at h7
      rw [← h7.2.2]; intro d hd; simp [hd]
  · cases h
theorem holds_dead {x : Blk} {b : Nat} (h : Holds ρ w b x) (hr : isRo x.2.2 = false) (hw : 0 < VV.ws x.1) : rowK x.2.2 = true := by
  obtain ⟨rs, t, kd⟩ := x
  cases kd with
  | norm => rfl
  | vec c => rfl
  | ro => simp [isRo] at hr
  | dead => simp only [Holds] at h; subst h; simp [VV.ws] at hw
  | it s q => simp only [Holds] at h; obtain ⟨rfl, _⟩ := h; simp [VV.ws] at hw
theorem copyD_sound {o : Oper} {t t2 e : TypeId} {ie : TI} (hte : TyOK P e ie) (hts : P.underlying t = some (.slice e)) (hsz : ie.size = 1) {s : VV} {xv : Value} {q : Bool × List VV × Nat × List Nat} {v : VV} {me : ME}
    (h : copyD M q s = some (true, v, me)) (hmm : ∀ b ∈ me.rd, MmOK ρ p M w b) (hsi : ∀ i ∈ s.ids, p i)
    (hq : q.1 = true → Shows P w xv (VV.cellss ρ q.2.1) ∧ VV.ws q.2.1 = q.2.2.1 ∧ VV.mems q.2.1 = true ∧ (∀ i ∈ VV.idss q.2.1, p i) ∧ (∀ b ∈ q.2.2.2, p b))
    (hr : ∀ rv w', (Builtin.copy_ #[t, t2] o.type #[s.den ρ, xv]).run P w = .ok rv w' → (execOp a.eval o).run P w = .ok (.value rv) w') : Sound P ρ p M n a w o v me := by
  unfold copyD at h
  split at h
  · rename_i b o1 n1 j dlen cap
    obtain ⟨⟨rs, te, kd⟩, h1, h2⟩ := Option.bind_eq_some_iff.1 h
    obtain ⟨hro, h3⟩ := ro_no h2
    simp only at hro
    unfold copyP at h3
    obtain ⟨⟨rb, r, i, ra⟩, h4, h5⟩ := Option.bind_eq_some_iff.1 h3
    obtain ⟨hrs, ho, hi⟩ := findR_spec h4
    simp only at hrs ho
    subst hrs; subst ho
    simp only at h5
    split at h5
    · rename_i k N l k' m l' hq1
      split at h5
      · rename_i hk
        subst hk
        simp only [Option.some.injEq, Prod.mk.injEq, Bool.and_eq_true, Nat.ble_eq, Nat.beq_eq] at h5
        obtain ⟨⟨⟨⟨f1, f2⟩, f3⟩, f4⟩, rfl, rfl⟩ := h5
        have hqs := hq f1
        have hmin : Nat.min m dlen ≤ dlen := Nat.min_le_right _ _
        have hmin2 : Nat.min m dlen ≤ m := Nat.min_le_left _ _
        have hlb := cellss_length ρ rb
        have hm1 := hmm b (by simp)
        obtain ⟨m1, m2, m3⟩ := hm1 _ h1
        have hw : VV.ws (rb ++ VV.ints k N l :: ra) = VV.ws rb + (N + VV.ws ra) := by rw [ws_append]; rfl
        have hcut : (VV.cellss ρ [.ints k m l']).take (Nat.min m dlen) = (VV.ints k (Nat.min m dlen) l').cells ρ := by
          simp only [VV.cellss, VV.cells, List.append_nil]
          refine List.ext_getElem? fun i => ?_
          rw [List.getElem?_take]
          by_cases hi : i < Nat.min m dlen
          · rw [if_pos hi]
            simp only [List.getElem?_map, List.getElem?_range hi, List.getElem?_range (show i < m by omega)]
          · rw [if_neg hi, List.getElem?_eq_none (by simp; omega)]
        have hlen : ((VV.ints k (Nat.min m dlen) l').cells ρ).length = Nat.min m dlen := by simp [VV.cells]
        have := copyG_sound (n := n) (a := a) (o := o) (t2 := t2) (cap := cap) (off := VV.ws rb + i + j) (rs' := rb ++ .ints k N (spl l (ix i j 1) (Nat.min m dlen) l') :: ra) (dlen := dlen) hte hts hsz h1 hro
          (holds_dead m1 hro (by simp only [hw]; simp only [VV.w] at hi; omega)) hmm (hsi b (by simp [VV.ids])) (by
            rw [← f4, hq1, hcut, ix_eq, Nat.mul_one, Nat.add_assoc]
            refine splL_mid (cells_spl k N l _ _ l' (by omega)) (by rw [hlen]; simp only [VV.w]; omega)) (by rw [← f4, hw]; omega) (fun hm _ => by
            rw [mems_append] at hm ⊢
            simpa [VV.mems, VV.mem] using hm) (fun x hx => by
            rw [idss_cons_mid] at hx ⊢
            exact .inl (by simpa [VV.ids] using hx)) hqs hr
        rw [← f4] at this
        exact this
      · cases h5
    · cases h5
  · rename_i b off dlen cap
    obtain ⟨⟨rs, te, kd⟩, h1, h2⟩ := Option.bind_eq_some_iff.1 h
    obtain ⟨hro, h3⟩ := ro_no h2
    simp only at hro
    unfold copyL at h3
    cases hi : isI1 rs with
    | true => simp [hi] at h3
    | false =>
      simp only [hi, cond_false] at h3
      obtain ⟨vs, h4, h5⟩ := Option.bind_eq_some_iff.1 h3
      obtain ⟨rs', h6, h7⟩ := Option.map_eq_some_iff.1 h5
      simp only [Prod.mk.injEq] at h7
      obtain ⟨h8, rfl, rfl⟩ := h7
      have hqs := hq h8
      have hm1 := hmm b (by simp)
      obtain ⟨m1, m2, m3⟩ := hm1 _ h1
      simp only at m2
      obtain ⟨t1, t2', t3⟩ := takeR_spec (ρ := ρ) h4
      have hvm : (VV.agg vs).mem = true := by simpa [VV.mem] using takeR_mem h4 hqs.2.2.1
      obtain ⟨s1, s2, s3, s4⟩ := storeR_spec (ρ := ρ) h6 m2 hvm
      have hpos : 0 < VV.ws rs := by
        unfold storeR at h6
        obtain ⟨⟨b0, r, j, a0⟩, h9, _⟩ := Option.bind_eq_some_iff.1 h6
        obtain ⟨e4, _, e6⟩ := findR_spec h9
        rw [e4, ws_append]; simp only [VV.ws]; omega
      refine copyG_sound (n := n) (a := a) (o := o) (t2 := t2) (cap := cap) (off := off) hte hts hsz h1 hro (holds_dead m1 hro hpos) hmm (hsi b (by simp [VV.ids])) (by rw [s1, ← t1]; rfl) (by simp only [VV.w, t3] at s2; exact s2) (fun _ _ => s3) (fun x hx => ?_) hqs hr
      refine (s4 x hx).imp id fun hx => ?_
      simp only [VV.ids] at hx
      exact takeR_ids h4 x hx
  · cases h
section
variable {P : Program} {w : World}
theorem zcells {z c : Value} (h : z.cells.toList = [c]) (n : Nat) : Builtin.zeroCells z.cells n = (List.replicate n c).toArray := by
  have hs : z.cells.size = 1 := by rw [← Array.length_toList, h]; rfl
  apply Array.ext'
  simp only [Builtin.zeroCells, hs, Nat.mul_one, Nat.mod_one, Array.toList_map, Array.toList_range]
  have h0 : z.cells[0]! = c := by
    rw [getElem!_pos z.cells 0 (by omega)]
    have := congrArg (fun l => l[0]?) h
    simp at this
    rw [Array.getElem?_eq_getElem (by omega)] at this
    simpa using this
  rw [h0]
  refine List.ext_getElem (by simp) fun i _ _ => by simp
theorem run_append_zeros_fit {t t2 ty e : TypeId} {it : TypeInfo} {z c : Value} {k2 k : IntKind} (ht : P.underlying t = some (.slice e)) (ht2 : P.underlying t2 = some (.int k2)) (hi : P.info? e = some it) (hs : it.size = 1) (hz : it.zero = some z) (hc : z.cells.toList = [c])
    (n : Nat) (hb : 1 ≤ it.bytes) (hfit : n * it.bytes ≤ 140737488355328) (ad : Addr) (sLen sCap : Nat) (hroom : sLen + n ≤ sCap) {w' : World} (hst : (storeCells (ad.add sLen) (List.replicate n c) 0).run P w = .ok () w') :
    (Builtin.append_ #[t, t2] ty #[.slice (some ad) sLen sCap, .int k (n : Int)]).run P w = .ok (.slice (some ad) (sLen + n) sCap) w' := by
  have hle : n ≤ n * it.bytes := Nat.le_mul_of_pos_right _ hb
  have hw : IntKind.i64.wrap (n : Int) = n := by rw [IntKind.wrap_i64]; omega
  have h0 : ¬ ((n : Int) < 0) := by omega
  have h48 : ¬ ((281474976710656 : Int) < (n : Int) * (it.bytes : Int)) := by
    have : (n : Int) * (it.bytes : Int) = ((n * it.bytes : Nat) : Int) := by simp
    rw [this]; omega
  have hap : ((if n * 1 = 0 then pure #[] else do pure (Builtin.zeroCells (← zeroValue e).cells n) : Sem (Array Value))).run P w = .ok (List.replicate n c).toArray w := by
    by_cases hn : n = 0
    · subst hn; rfl
    · simp [hn, zeroValue, typeInfo, hi, hz, zcells hc]
  simp only [Nat.mul_one] at hap
  simp [Builtin.append_, run_underlying ht, run_underlying ht2, sizeOf, typeInfo, hi, hs, asInt, asIntOf, hw, h0, h48, hroom]
  by_cases hn : n = 0
  · subst hn
    simp only [List.replicate_zero] at hst
    simp [hst]
  · simp [hn, zeroValue, typeInfo, hi, hz, zcells hc, hst]
theorem run_append_zeros_more {t t2 ty e : TypeId} {it : TypeInfo} {z c : Value} {k2 k : IntKind} (ht : P.underlying t = some (.slice e)) (ht2 : P.underlying t2 = some (.int k2)) (hi : P.info? e = some it) (hs : it.size = 1) (hz : it.zero = some z) (hc : z.cells.toList = [c])
    (n : Nat) (hb : 1 ≤ it.bytes) {olds : List Value} (base : Option Addr) (sCap : Nat) (hold : Shows P w (.slice base olds.length sCap) olds) (hgrow : sCap < olds.length + n) (hfit : (olds.length + n) * it.bytes ≤ 140737488355328) :
    (Builtin.append_ #[t, t2] ty #[.slice base olds.length sCap, .int k (n : Int)]).run P w =
      .ok (.slice (some ⟨w.heap.size, 0, none⟩) (olds.length + n) (grownCap w (olds.length + n) sCap e))
        (w.drew.alloc (.cells (olds ++ List.replicate n c ++ (Builtin.zeroCells z.cells (grownCap w (olds.length + n) sCap e - (olds.length + n))).toList).toArray e)) := by
  have hn1 : n * it.bytes ≤ (olds.length + n) * it.bytes := Nat.mul_le_mul_right _ (by omega)
  have hle : olds.length + n ≤ (olds.length + n) * it.bytes := Nat.le_mul_of_pos_right _ hb
  have hw : IntKind.i64.wrap (n : Int) = n := by rw [IntKind.wrap_i64]; omega
  have h0 : ¬ ((n : Int) < 0) := by omega
  have h48 : ¬ ((281474976710656 : Int) < (n : Int) * (it.bytes : Int)) := by
    have : (n : Int) * (it.bytes : Int) = ((n * it.bytes : Nat) : Int) := by simp
    rw [this]; omega
  have hap : ((if n * 1 = 0 then pure #[] else do pure (Builtin.zeroCells (← zeroValue e).cells n) : Sem (Array Value))).run P w.drew = .ok (List.replicate n c).toArray w.drew := by
    by_cases hn : n = 0
    · subst hn; rfl
    · simp [hn, zeroValue, typeInfo, hi, hz, zcells hc]
  simp only [Nat.mul_one] at hap
  have hfo := hold.2 w.drew rfl olds.length (Nat.le_refl _)
  rw [List.take_length] at hfo
  have hn : ¬ (olds.length + n ≤ sCap) := by omega
  have h63' : ¬ (9223372036854775807 < ((olds.length : Int) + (n : Int))) := by omega
  have h48' : ¬ (281474976710656 < Builtin.nextslicecap (olds.length + n) sCap * it.bytes) := by have := growslice_fits hgrow hfit; omega
  simp [Builtin.append_, run_underlying ht, run_underlying ht2, sizeOf, typeInfo, hi, hs, asInt, asIntOf, hw, h0, h48, hn, hap, h63', h48', Question.forced, hfo, newRow, grownCap, zeroValue, hz]
  by_cases h00 : n = 0
  · subst h00
    simp
    congr 2
    apply Array.ext'
    simp
  · simp [h00, zcells hc]
    congr 2
    apply Array.ext'
    simp
structure News (P : Program) (w : World) (t t2 ty e : TypeId) (it : TypeInfo) (z xv : Value) (news : List Value) : Prop where
  fit : ∀ (ad : Addr) (sLen sCap : Nat) (w' : World), sLen + news.length ≤ sCap → (storeCells (ad.add sLen) news 0).run P w = .ok () w' → (Builtin.append_ #[t, t2] ty #[.slice (some ad) sLen sCap, xv]).run P w = .ok (.slice (some ad) (sLen + news.length) sCap) w'
  more : ∀ (base : Option Addr) (sCap : Nat) (olds : List Value), Shows P w (.slice base olds.length sCap) olds → sCap < olds.length + news.length → (olds.length + news.length) * it.bytes ≤ 140737488355328 →
    (Builtin.append_ #[t, t2] ty #[.slice base olds.length sCap, xv]).run P w = .ok (.slice (some ⟨w.heap.size, 0, none⟩) (olds.length + news.length) (grownCap w (olds.length + news.length) sCap e))
        (w.drew.alloc (.cells (olds ++ news ++ (Builtin.zeroCells z.cells (grownCap w (olds.length + news.length) sCap e - (olds.length + news.length))).toList).toArray e))
theorem news_shows {t t2 ty e : TypeId} {it : TypeInfo} {z : Value} {d2 : TypeDesc} (ht : P.underlying t = some (.slice e)) (ht2 : P.underlying t2 = some d2) (hd2 : ∀ k, d2 ≠ .int k) (hi : P.info? e = some it) (hs : it.size = 1) (hz : it.zero = some z) (hb : 1 ≤ it.bytes)
    {x : Value} {news : List Value} (hx : Shows P w x news) : News P w t t2 ty e it z x news :=
  ⟨fun ad sLen sCap _ hroom hst => run_append_fit ht ht2 hd2 hi hs hx ad sLen sCap hroom hst, fun base sCap _ hold hgrow hfit => run_append_more ht ht2 hd2 hi hs hz hx base sCap hold hgrow hb hfit⟩
theorem news_zeros {t t2 ty e : TypeId} {it : TypeInfo} {z c : Value} {k2 k : IntKind} (ht : P.underlying t = some (.slice e)) (ht2 : P.underlying t2 = some (.int k2)) (hi : P.info? e = some it) (hs : it.size = 1) (hz : it.zero = some z) (hc : z.cells.toList = [c]) (hb : 1 ≤ it.bytes)
    (n : Nat) (hfit : n * it.bytes ≤ 140737488355328) : News P w t t2 ty e it z (.int k (n : Int)) (List.replicate n c) :=
  ⟨fun ad sLen sCap _ hroom hst => by
    rw [List.length_replicate] at hroom ⊢
    exact run_append_zeros_fit ht ht2 hi hs hz hc n hb hfit ad sLen sCap hroom hst,
   fun base sCap olds hold hgrow hf => by
    rw [List.length_replicate] at hgrow hf ⊢
    exact run_append_zeros_more ht ht2 hi hs hz hc n hb base sCap hold hgrow hf⟩
end
theorem Sound.fitsN {o : Oper} {b len m cap : Nat} {e : TypeId} {rs r ns : List VV} {rd : List Nat} (hb : getA M b = some (rs, e, .norm)) (hmm : MmOK ρ p M w b) (hbr : b ∈ rd)
    (happ : VV.cellss ρ r = (VV.cellss ρ rs).take len ++ VV.cellss ρ ns) (hlen : len ≤ VV.ws rs) (hm : VV.ws ns = m) (hwr : VV.ws r = len + m) (hroom : len + m ≤ cap) (hcap : cap ≤ VV.ws rs)
    (hr : ∀ w', (storeCells ((⟨ρ b, 0, none⟩ : Addr).add len) (VV.cellss ρ ns) 0).run P w = .ok () w' → (execOp a.eval o).run P w = .ok (.value (.slice (some ⟨ρ b, 0, none⟩) (len + m) cap)) w')
    (hmr : VV.mems r = true) (hmn : VV.mems ns = true) (hids : ∀ i ∈ VV.idss r, p i) (hpn : ∀ i, p i → ¬ (n ≤ i ∧ i < n + 2)) (hrd : ∀ b ∈ rd, p b) :
    Sound P ρ p M n a w o (.vec n 0 (len + m) (n + 1)) { rd := rd, up := [(n, (r, e, .vec (n + 1))), (b, ([], e, .dead))], nn := 2 } := by
  obtain ⟨h1, h2, h3⟩ := hmm _ hb
  have g1 : w.heap[ρ b]? = some (.cells (VV.cellss ρ rs).toArray e (0, 0)) := h1
  simp only at h2
  have hpb : p b := hrd b hbr
  have hbn : b ≠ n := fun e => hpn b hpb (by subst e; omega)
  have hl1 := cellss_length ρ rs
  have hl2 : (VV.cellss ρ ns).length = m := by rw [cellss_length, hm]
  have hst := run_storeCells (P := P) (ρ b) e (0, 0) (VV.cellss ρ ns) (0 + len) 0 (VV.cellss ρ rs) w g1 (by rw [hl1, hl2]; omega) (fun j _ => by simp) (mems_cells ns hmn)
  rw [← addr_add] at hst
  have hrun := hr _ hst
  have hcells : splL (VV.cellss ρ rs) (0 + len + 0) (VV.cellss ρ ns) = VV.cellss ρ r ++ (VV.cellss ρ rs).drop (len + m) := by
    unfold splL
    rw [happ, hl2, show 0 + len + 0 = len by omega]
  rw [hcells] at hrun
  let ρ' : Nat → Nat := fun i => if i = n then ρ b else if i = n + 1 then cap + 1 else ρ i
  have hag : ∀ i, ¬ (n ≤ i ∧ i < n + 2) → ρ' i = ρ i := fun i hi => by
    show (if i = n then _ else if i = n + 1 then _ else ρ i) = ρ i
    rw [if_neg (by omega), if_neg (by omega)]
  have hpρ : ∀ i, p i → ρ' i = ρ i := fun i hi => hag i (hpn i hi)
  have r0 : ρ' n = ρ b := by show (if n = n then _ else _) = _; simp
  have r1 : ρ' (n + 1) = cap + 1 := by show (if n + 1 = n then _ else if n + 1 = n + 1 then _ else _) = _; simp
  have hcell : VV.cellss ρ' r = VV.cellss ρ r := cellss_congr r fun i hi => hpρ i (hids i hi)
  have up2 : ∀ d x, getA [(n, (r, e, Kd.vec (n + 1))), (b, ([], e, Kd.dead))] d = some x → (d = n ∧ x = (r, e, .vec (n + 1))) ∨ (d = b ∧ x = ([], e, .dead)) := by
    intro d x h
    simp only [getA] at h
    cases hd : Nat.beq n d with
    | true =>
      simp only [hd, cond_true, Option.some.injEq] at h
      have : n = d := by simpa using hd
      exact .inl ⟨this.symm, h.symm⟩
    | false =>
      simp only [hd, cond_false] at h
      cases hd2 : Nat.beq b d with
      | true =>
        simp only [hd2, cond_true, Option.some.injEq] at h
        have : b = d := by simpa using hd2
        exact .inr ⟨this.symm, h.symm⟩
      | false => simp [hd2] at h
  have key := setRow_heap w (ρ b) _ (VV.cellss ρ r ++ (VV.cellss ρ rs).drop (len + m)).toArray e (0, 0) g1
  have hld : ((VV.cellss ρ rs).drop (len + m)).length = VV.ws rs - (len + m) := by rw [List.length_drop, hl1]
  refine ⟨⟨rfl, fun i hi => ?_, fun d x h => ?_, hrd⟩, ρ', _, _, .inl hrun, ?_, hag, ⟨rfl, rfl, rfl, by simp [World.setRow], fun d x h => ?_, fun d x h k hk => ?_, fun d d' hdd x y hx hy k hk ho => ?_, fun k hk hne _ => ?_, fun ad had => ?_⟩⟩
  · simp only [VV.ids, List.mem_cons, List.not_mem_nil, or_false] at hi
    rcases hi with rfl | rfl
    · exact .inr ⟨Nat.le_refl _, by simp⟩
    · exact .inr ⟨by omega, by simp⟩
  · rcases up2 d x h with ⟨rfl, rfl⟩ | ⟨rfl, rfl⟩
    · refine ⟨.inr ⟨Nat.le_refl _, by simp⟩, hmr, fun i hi => ?_⟩
      simp only [bids, List.mem_append, List.mem_singleton] at hi
      rcases hi with hi | rfl
      · exact .inl (hids i hi)
      · exact .inr ⟨by omega, by simp⟩
    · exact ⟨.inl hbr, rfl, fun i hi => by simp [bids, VV.idss] at hi⟩
  · simp only [VV.den, VV.den0, VV.cells, List.headD_cons, r0, r1, Nat.sub_zero, Nat.add_sub_cancel]
    rw [if_neg (by omega)]
  · rcases up2 d x h with ⟨rfl, rfl⟩ | ⟨rfl, rfl⟩
    · simp only [Holds, r0, r1, hwr, Nat.add_sub_cancel]
      refine ⟨hroom, fun _ => ⟨_, (0, 0), by rw [hcell]; exact key, by rw [hld]; omega, fun v hv => mems_cells rs h2 v (List.mem_of_mem_drop hv), fun j _ => by simp⟩⟩
    · rfl
  · rcases up2 d x h with ⟨rfl, rfl⟩ | ⟨rfl, rfl⟩
    · simp only [occ, own, r0] at hk
      have ho : own ρ' b (rs, e, .norm) k := by simp only [own, hpρ b hpb]; exact hk.2
      exact .inr ⟨b, hbr, _, hb, ho, fun _ => ho, fun _ => by
        have : Nat.beq d b = false := by rw [← Bool.not_eq_true, Nat.beq_eq]; exact fun e => hbn e.symm
        simp [getA, this]⟩
    · simp [occ, own] at hk
  · rcases up2 d x hx with ⟨rfl, rfl⟩ | ⟨rfl, rfl⟩
    · rcases up2 d' y hy with ⟨rfl, rfl⟩ | ⟨rfl, rfl⟩
      · exact hdd rfl
      · simp [occ, own] at ho
    · simp [own] at hk
  · refine setRow_other w _ _ _ fun e' => hne n (r, e, .vec (n + 1)) (by simp [getA]) ?_
    simp only [own, r0, r1]
    exact ⟨by omega, e'⟩
  · unfold World.frozen?
    by_cases hk : ad.block = ρ b
    · rw [hk, key, g1]
    · rw [setRow_other w _ _ _ hk]
theorem appD_rd {e bytes : Nat} {q : Bool × List VV × Nat × List Nat} {s v : VV} {f : Bool} {me : ME} (h : appD M n e bytes q s = some (f, v, me)) : ∀ b ∈ q.2.2.2, b ∈ me.rd := by
  unfold appD at h
  split at h
  · obtain ⟨x, h1, h2⟩ := Option.bind_eq_some_iff.1 h
    cases hb : (isNorm x.2.2 && Nat.beq x.2.1 e) with
    | false => simp [hb] at h2
    | true =>
      simp only [hb, cond_true] at h2
      cases hi : isI1 x.1 with
      | true =>
        simp only [hi, cond_true] at h2
        rename_i b off len cap
        cases ho : Nat.beq off 0 with
        | false => simp [ho] at h2
        | true =>
          simp only [ho, cond_true] at h2
          obtain ⟨r, _, h4⟩ := Option.map_eq_some_iff.1 h2
          simp only [Prod.mk.injEq] at h4
          rw [← h4.2.2]; intro d hd; simp [hd]
      | false =>
        simp only [hi, cond_false] at h2
        obtain ⟨r, _, h4⟩ := Option.map_eq_some_iff.1 h2
        simp only [Prod.mk.injEq] at h4
        rw [← h4.2.2]; intro d hd; simp [hd]
  · cases h
theorem appD_sound {o : Oper} {t t2 e : TypeId} {ie : TI} (hte : TyOK P e ie) (hsz : ie.size = 1) (hby : 1 ≤ ie.bytes)
    {s : VV} {xv : Value} {q : Bool × List VV × Nat × List Nat} {v : VV} {me : ME} (h : appD M n e ie.bytes q s = some (true, v, me)) (hmm : ∀ b ∈ me.rd, MmOK ρ p M w b) (hsi : ∀ i ∈ s.ids, p i)
    (hq : q.1 = true → (∀ it z, P.info? e = some it → it.zero = some z → it.size = 1 → 1 ≤ it.bytes → it.bytes = ie.bytes → z.cells.toList = VV.cellss id ie.zero → News P w t t2 o.type e it z xv (VV.cellss ρ q.2.1)) ∧ VV.ws q.2.1 = q.2.2.1 ∧ VV.mems q.2.1 = true ∧ (∀ i ∈ VV.idss q.2.1, p i) ∧ (∀ b ∈ q.2.2.2, p b)) (hpn : ∀ i, p i → ¬ (n ≤ i ∧ i < n + me.nn))
    (hr : ∀ rv w', (Builtin.append_ #[t, t2] o.type #[s.den ρ, xv]).run P w = .ok rv w' → (execOp a.eval o).run P w = .ok (.value rv) w') : Sound P ρ p M n a w o v me := by
  have hinf := hte.info
  cases hie : P.info? e with
  | none => simp [hie] at hinf
  | some it =>
  simp [hie] at hinf
  obtain ⟨hs1, z, hz1, hz2⟩ := hinf
  have hs : it.size = 1 := by rw [hs1, hsz]
  have hbb := hte.bys (by omega)
  simp [hie] at hbb
  have hzl : z.cells.size = 1 := by
    have := congrArg List.length hz2
    rw [cellss_length, hte.wsz, hsz] at this
    simpa using this
  have hz1c : ∀ v ∈ z.cells.toList, v.oneCell' = true := by rw [hz2]; exact mems_cells _ hte.mem
  unfold appD at h
  split at h
  · rename_i b off len cap
    obtain ⟨⟨rs, te, kd⟩, h1, h2⟩ := Option.bind_eq_some_iff.1 h
    cases hb : (isNorm kd && Nat.beq te e) with
    | false => simp [hb] at h2
    | true =>
    simp only [hb, cond_true] at h2
    simp only [Bool.and_eq_true, Nat.beq_eq] at hb
    obtain ⟨hk, rfl⟩ := hb
    have hk := isNorm_eq hk
    subst hk
    cases hi : isI1 rs with
    | true =>
      simp only [hi, cond_true] at h2
      cases ho : Nat.beq off 0 with
      | false => simp [ho] at h2
      | true =>
      have ho' : off = 0 := by simpa using ho
      subst ho'
      simp only [ho, cond_true] at h2
      obtain ⟨⟨f, r⟩, h3, h4⟩ := Option.map_eq_some_iff.1 h2
      simp only [Prod.mk.injEq, Bool.and_eq_true, fitB, Nat.ble_eq] at h4
      obtain ⟨⟨⟨⟨h5, rfl⟩, hcap⟩, h6⟩, rfl, rfl⟩ := h4
      obtain ⟨q1', q2, q3, q4, q5⟩ := hq h5
      have q1 := q1' it z hie hz1 hs (by omega) hbb hz2
      obtain ⟨a1, a2, a3, a4, a5⟩ := appR_spec (ρ := ρ) h3
      have hm := hmm b (by simp)
      obtain ⟨m1, m2, m3⟩ := hm _ h1
      simp only at m2
      have hrd : ∀ d ∈ b :: q.2.2.2, p d := fun d hd => (List.mem_cons.1 hd).elim (fun e => by subst e; exact hsi d (by simp [VV.ids])) (q5 d)
      have hids : ∀ i ∈ VV.idss r, p i := fun i hi => (a5 i hi).elim (fun hi => m3 i (by simp only [bids, List.mem_append]; exact .inl hi)) (q4 i)
      have hbn : b ≠ n := fun e => hpn b (hrd b (by simp)) (by subst e; simp)
      have hob : ∀ d x, getA [(b, (([] : List VV), te, Kd.dead))] d = some x → d ∈ b :: q.2.2.2 ∧ x.1 = [] ∧ x.2.2 = .dead := fun d x h => by
        obtain ⟨rfl, rfl⟩ := getA_one h
        exact ⟨by simp, rfl, rfl⟩
      have hd : (VV.sl b 0 len cap).den ρ = .slice (some ⟨ρ b, 0, none⟩) len cap := rfl
      have hl2 : (VV.cellss ρ q.2.1).length = q.2.2.1 := by rw [cellss_length, q2]
      by_cases hroom : len + q.2.2.1 ≤ cap
      · refine Sound.fitsN h1 hm (by simp) a1 a2 q2 (by rw [a3, q2]) hroom hcap (fun w' hst => hr _ _ ?_) (a4 m2 q3) q3 hids hpn hrd
        have := q1.fit ⟨ρ b, 0, none⟩ len cap _ (by rw [hl2]; exact hroom) hst
        rw [hl2] at this
        rw [hd]; exact this
      · have g1 : w.heap[ρ b]? = some (.cells (VV.cellss ρ rs).toArray te (0, 0)) := m1
        have hlo : ((VV.cellss ρ rs).take len).length = len := by rw [List.length_take, cellss_length]; omega
        have hold : Shows P w (.slice (some ⟨ρ b, 0, none⟩) ((VV.cellss ρ rs).take len).length cap) ((VV.cellss ρ rs).take len) := by
          rw [hlo]
          have := shows_row (P := P) (w := w) (g := ρ b) (off := 0) (pre := []) (cs := VV.cellss ρ rs) (tail := []) (t := te) (fz := (0, 0)) cap (by simpa using g1) (m := len) (i := 0) (by rw [cellss_length]; omega) (by simp)
          simpa using this
        have hrun := q1.more (some ⟨ρ b, 0, none⟩) cap _ hold (by rw [hlo, hl2]; omega) (by rw [hlo, hl2, hbb]; exact h6)
        rw [hlo, hl2, ← a1] at hrun
        have hge := grownCap_ge' w (len + q.2.2.1) cap te
        have htl : (Builtin.zeroCells z.cells (grownCap w (len + q.2.2.1) cap te - (len + q.2.2.1))).toList.length = grownCap w (len + q.2.2.1) cap te - (len + q.2.2.1) := by simp [Builtin.zeroCells, hzl]
        refine Sound.grown (w := w) (w0 := w.drew) ⟨rfl, rfl, rfl, rfl⟩ (fz := (0, 0)) (tail := (Builtin.zeroCells z.cells (grownCap w (len + q.2.2.1) cap te - (len + q.2.2.1))).toList) (fun j _ => by simp) ?_ (by rw [a3, q2]) (zeroCells_one hz1c (by omega) _) (a4 m2 q3) hids hpn hrd [(b, ([], te, .dead))] hob
        rw [htl, show len + q.2.2.1 + (grownCap w (len + q.2.2.1) cap te - (len + q.2.2.1)) = grownCap w (len + q.2.2.1) cap te by omega]
        exact hr _ _ (by rw [hd]; exact hrun)
    | false =>
      simp only [hi, cond_false] at h2
      obtain ⟨rs', h3, h4⟩ := Option.map_eq_some_iff.1 h2
      simp only [Prod.mk.injEq, Bool.and_eq_true, Nat.ble_eq] at h4
      obtain ⟨⟨h5, hroom⟩, rfl, rfl⟩ := h4
      obtain ⟨q1', q2, q3, q4, q5⟩ := hq h5
      have q1 := q1' it z hie hz1 hs (by omega) hbb hz2
      have hm := hmm b (by simp)
      obtain ⟨m1, m2, m3⟩ := hm _ h1
      simp only at m2
      have hrd : ∀ d ∈ b :: q.2.2.2, p d := fun d hd => (List.mem_cons.1 hd).elim (fun e => by subst e; exact hsi d (by simp [VV.ids])) (q5 d)
      obtain ⟨s1, s2, s3, s4⟩ := storeR_spec (ρ := ρ) h3 m2 (by simpa [VV.mem] using q3)
      have hpos : 0 < VV.ws rs := by
        unfold storeR at h3
        obtain ⟨⟨b0, r, j, a0⟩, h9, _⟩ := Option.bind_eq_some_iff.1 h3
        obtain ⟨e4, _, e6⟩ := findR_spec h9
        rw [e4, ws_append]; simp only [VV.ws]; omega
      have hl2 : (VV.cellss ρ q.2.1).length = q.2.2.1 := by rw [cellss_length, q2]
      have hlr := cellss_length ρ rs
      simp only [VV.w, q2, VV.cells] at s2 s1
      refine Sound.write h1 hm rfl (by simp) hpos (by rw [← cellss_length ρ rs', s1, length_splL (by rw [hlr, hl2]; exact s2), hlr]) (fun tail fz hh hz => ?_) (.inl rfl) rfl (by simpa [VV.ids] using hsi) s3
        (fun i hi => (s4 i hi).elim (fun h => m3 i (by simp only [bids, List.mem_append]; exact .inl h)) (fun h => q4 i (by simpa [VV.ids] using h))) hrd
      refine hr _ _ ?_
      have hst := run_storeCells (P := P) (ρ b) te fz (VV.cellss ρ q.2.1) (off + len) 0 (VV.cellss ρ rs ++ tail) w hh (by rw [List.length_append, hlr, hl2]; omega) (fun j hj => hz j (by rw [hl2] at hj; omega)) (mems_cells _ q3)
      rw [Nat.add_zero, splL_append (by rw [hlr, hl2]; exact s2), ← s1, ← addr_add] at hst
      have := q1.fit ⟨ρ b, off, none⟩ len cap _ (by rw [hl2]; exact hroom) hst
      rw [hl2] at this
      exact this
  · cases h
end
end Go.VM

namespace Go.VM
section
variable {P : Program} {ty : TypeId → Option TI} {L : List (Nat × VV)} {M : List (Nat × Blk)} {n : Nat} {ρ : Nat → Nat} {p : Nat → Prop} {a : Act} {w : World}
theorem cutO_add {lo : Option (IntKind × Int)} {o j l m : Nat} : o + cutO lo j l m = cutO lo (o + j) l m := by
  cases lo with
  | none => rfl
  | some q =>
    simp only [cutO]
    cases Nat.beq m l with
    | true => rfl
    | false => simp only [cond_false]; omega
theorem cutJ_add {lo : Option (IntKind × Int)} {o l m : Nat} : o + cutJ lo l m = cutO lo o l m := by
  cases lo with
  | none => rfl
  | some q =>
    simp only [cutO, cutJ]
    cases Nat.beq m l <;> rfl
theorem run_equal_nil (t : TypeId) (e : TypeId) (ht : P.underlying t = some (.pointer e)) (x y : Option Addr) (h : x = none ∨ y = none) : (Op.equal t (.pointer x) (.pointer y)).run P w = .ok (x.isNone && y.isNone) w := by
  show (Op.equalIn (9999 + 1) t (.pointer x) (.pointer y)).run P w = _
  unfold Op.equalIn
  rw [Sem.run_bind, run_underlying ht]
  rcases h with rfl | rfl
  · cases y <;> rfl
  · cases x <;> rfl
theorem isNilP_eq {v : VV} (h : isNilP v = true) : v = .raw (.pointer none) := by
  unfold isNilP at h
  split at h
  · rfl
  · cases h
theorem isPtr_den {v : VV} (h : isPtr v = true) : ∃ x, v.den ρ = .pointer (some x) := by
  cases v <;> first | exact ⟨_, rfl⟩ | (simp [isPtr] at h)
theorem nilEq_run {v u : VV} {b : Bool} (h : nilEq v u = some b) (t e : TypeId) (ht : P.underlying t = some (.pointer e)) :
    (Op.equal t (v.den ρ) (u.den ρ)).run P w = .ok b w ∧ (∃ x, v.den ρ = .pointer x) ∧ ∃ y, u.den ρ = .pointer y := by
  unfold nilEq at h
  cases h1 : (isPtr v && isNilP u) with
  | true =>
    simp only [h1, cond_true, Option.some.injEq] at h
    subst h
    simp only [Bool.and_eq_true] at h1
    obtain ⟨x, hx⟩ := isPtr_den (ρ := ρ) h1.1
    have hu := isNilP_eq h1.2
    subst hu
    rw [hx]
    exact ⟨by have := run_equal_nil (P := P) (w := w) t e ht (some x) none (.inr rfl); exact this, ⟨_, rfl⟩, ⟨none, rfl⟩⟩
  | false =>
    simp only [h1, cond_false] at h
    cases h2 : (isNilP v && isPtr u) with
    | true =>
      simp only [h2, cond_true, Option.some.injEq] at h
      subst h
      simp only [Bool.and_eq_true] at h2
      obtain ⟨x, hx⟩ := isPtr_den (ρ := ρ) h2.2
      have hu := isNilP_eq h2.1
      subst hu
      rw [hx]
      exact ⟨by have := run_equal_nil (P := P) (w := w) t e ht none (some x) (.inl rfl); exact this, ⟨none, rfl⟩, ⟨_, rfl⟩⟩
    | false =>
      simp only [h2, cond_false] at h
      cases h3 : (isNilP v && isNilP u) with
      | false => simp [h3] at h
      | true =>
        simp only [h3, cond_true, Option.some.injEq] at h
        subst h
        simp only [Bool.and_eq_true] at h3
        have hv := isNilP_eq h3.1
        have hu := isNilP_eq h3.2
        subst hv; subst hu
        exact ⟨by have := run_equal_nil (P := P) (w := w) t e ht none none (.inl rfl); exact this, ⟨none, rfl⟩, ⟨none, rfl⟩⟩
theorem xopD_sound (hty : TyAll P ty) {o : Oper} {v : VV} {me : ME} (h : xopD ty L M n o.op = some (true, v, me))
    (hop : ∀ x ∈ o.op.operands.toList, OpOK ρ p L a x) (hmm : ∀ b ∈ me.rd, MmOK ρ p M w b) (hpn : ∀ i, p i → ¬ (n ≤ i ∧ i < n + me.nn)) : Sound P ρ p M n a w o v me := by
  obtain ⟨dst, op, type, pos, after, guard⟩ := o
  unfold xopD at h
  split at h
  ·
    rename_i t x lo hi mx he
    subst he
    obtain ⟨v1, h1, h2⟩ := Option.bind_eq_some_iff.1 h
    obtain ⟨i, h3, h4⟩ := Option.bind_eq_some_iff.1 h2
    obtain ⟨lo', g1, h5⟩ := Option.bind_eq_some_iff.1 h4
    obtain ⟨hi', g2, h6⟩ := Option.bind_eq_some_iff.1 h5
    obtain ⟨mx', g3, h7⟩ := Option.bind_eq_some_iff.1 h6
    obtain ⟨a1, a2, a3⟩ := hop x (by simp [Op.operands]) v1 h1
    have e1 := evO_spec (ρ := ρ) (p := p) (a := a) g1 (fun y hy => hop y (by cases lo <;> simp at hy; subst hy; simp [Op.operands]))
    have e2 := evO_spec (ρ := ρ) (p := p) (a := a) g2 (fun y hy => hop y (by cases hi <;> simp at hy; subst hy; simp [Op.operands]))
    have e3 := evO_spec (ρ := ρ) (p := p) (a := a) g3 (fun y hy => hop y (by cases mx <;> simp at hy; subst hy; simp [Op.operands]))
    have hti := hty t i h3
    have hr : ∀ rv, (Instr.sliceAt t (v1.den ρ) (lo'.map fun q => Value.int q.1 q.2) (hi'.map fun q => Value.int q.1 q.2) (mx'.map fun q => Value.int q.1 q.2)).run P w = .ok rv w →
        (execOp a.eval ⟨dst, .slice t x lo hi mx, type, pos, after, guard⟩).run P w = .ok (.value rv) w := by
      intro rv hrv
      simp only [execOp, Sem.run_bind, a1, e1, e2, e3, hrv]
      rfl
    split at h7
    ·
      rename_i N e b off hd
      cases hb : (Nat.beq i.esz 1 && wide M b && (mx'.isNone || hi'.isSome)) with
      | false => simp [hb] at h7
      | true =>
        simp only [hb, cond_true, Option.some.injEq, Prod.mk.injEq, Bool.and_eq_true] at h7
        simp only [Bool.and_eq_true, Nat.beq_eq] at hb
        obtain ⟨⟨hs1, _⟩, hm⟩ := hb
        obtain ⟨⟨⟨f1, f2⟩, f3⟩, rfl, rfl⟩ := h7
        have hdd := hti.desc
        have hes := hti.esz
        rw [hd] at hdd hes
        simp only at hes
        have hsz : (sizeOf e).run P w = .ok 1 w := by
          cases hq : P.info? e with
          | none => simp [hq] at hes
          | some q => simp [hq] at hes; simp [sizeOf, typeInfo, hq, hes, hs1]
        have hbn := run_bounds (P := P) (w := w) (isS := false) (len := N) hm f1 f2 f3
        refine Sound.plain (hr (.slice (some ⟨ρ b, cutO lo' off (bndN lo' 0) (bndN mx' N), none⟩) (bndN hi' N - bndN lo' 0) (bndN mx' N - bndN lo' 0)) ?_) ?_ rfl (by simpa [VV.ids] using a3) (by simp)
        · simp only [VV.den, VV.den0, VV.cells, List.headD_cons, Instr.sliceAt, Sem.run_bind, run_underlying hdd, Result.andThen_ok, Instr.sureAddr, hbn, hsz, Sem.run_pure, Nat.mul_one]
          rw [cutO_addr]
        · simp only [VV.den, VV.den0, VV.cells, List.headD_cons, cutJ_add]
    ·
      rename_i e b o1 m1 j len cap hd
      cases hb : (Nat.beq i.esz 1 && (mx'.isNone || hi'.isSome)) with
      | false => simp [hb] at h7
      | true =>
        simp only [hb, cond_true, Option.some.injEq, Prod.mk.injEq, Bool.and_eq_true] at h7
        simp only [Bool.and_eq_true, Nat.beq_eq] at hb
        obtain ⟨⟨⟨f1, f2⟩, f3⟩, rfl, rfl⟩ := h7
        have hrun := hr _ (run_cut hti hd hb.1 hb.2 f1 f2 f3)
        refine Sound.plain hrun ?_ rfl (by simpa [VV.ids] using a3) (by simp)
        simp only [VV.den, VV.den0, VV.cells, List.headD_cons, Option.map_some]
        rw [cutO_add, ← cutO_addr]
        split <;> rfl
    ·
      rename_i e b off len c hd
      cases hb : (Nat.beq i.esz 1 && mx'.isSome && hi'.isSome) with
      | false => simp [hb] at h7
      | true =>
        simp only [hb, cond_true] at h7
        simp only [Bool.and_eq_true, Nat.beq_eq] at hb
        obtain ⟨⟨hs1, hmx⟩, hhi⟩ := hb
        obtain ⟨x, h8, h9⟩ := Option.bind_eq_some_iff.1 h7
        cases hv : isVec c x.2.2 with
        | false => simp [hv] at h9
        | true =>
          simp only [hv, cond_true, Option.some.injEq, Prod.mk.injEq, Bool.and_eq_true, Nat.ble_eq] at h9
          obtain ⟨⟨⟨⟨f1, f2⟩, f3⟩, f4⟩, rfl, rfl⟩ := h9
          obtain ⟨m1, _, _⟩ := hmm b (by simp) x h8
          obtain ⟨rs, te, kd⟩ := x
          have hk := isVec_eq hv
          simp only at hk f4
          subst hk
          have hw1 := m1.1
          simp only at hw1
          have hb : p b := a3 b (by simp [VV.ids])
          obtain ⟨q, hq⟩ := Option.isSome_iff_exists.1 hmx
          obtain ⟨q2, hq2⟩ := Option.isSome_iff_exists.1 hhi
          subst hq; subst hq2
          have f1' : 0 ≤ q.2 ∧ q.2 ≤ (len : Int) := by simpa [bndF] using f1
          have f2' : bndN (some q2) len ≤ bndN (some q) len := by
            have : 0 ≤ q2.2 ∧ q2.2 ≤ ((bndN (some q) len : Nat) : Int) := by simpa [bndF] using f2
            simp only [bndN] at this ⊢; omega
          have f3' : bndN lo' 0 ≤ bndN (some q2) len := bnd_le f3 (Nat.zero_le _)
          have hrun := hr _ (run_cut hti hd hs1 (ad := if ρ c = 0 then none else some ⟨ρ b, off, none⟩) (len := len) (cap := ρ c - 1 - off) (lo := lo') (hi := some q2) (mx := some q) rfl
            (by show decide (0 ≤ q.2 ∧ q.2 ≤ ((ρ c - 1 - off : Nat) : Int)) = true; exact decide_eq_true (by omega)) f2 f3)
          have e1 : bndN (some q) (ρ c - 1 - off) = q.2.toNat := rfl
          have e2 : bndN (some q2) len = q2.2.toNat := rfl
          have e3 : bndN (some q) len = q.2.toNat := rfl
          rw [e1, e2] at hrun
          rw [e2] at f2' f3' ⊢
          rw [e3] at f2'
          generalize bndN lo' 0 = l0 at f3' hrun ⊢
          generalize q2.2.toNat = h0 at f2' f3' hrun ⊢
          have e4 : q.2.toNat ≤ len := by omega
          generalize q.2.toNat = m0 at f2' hrun e4
          refine Sound.ghost hrun (view_onto (by omega) (fun hnn => ?_) fun y hy => ?_) hb (by simpa using hb) hpn
          · by_cases hc : ρ c = 0
            · omega
            · exfalso
              rw [if_neg hc] at hnn
              revert hnn
              split <;> simp
          · by_cases hc : ρ c = 0
            · exfalso
              rw [if_pos hc] at hy
              revert hy
              split <;> simp
            · rw [if_neg hc] at hy
              split at hy
              · rename_i he
                simp only [Option.some.injEq] at hy
                subst hy
                exact ⟨off, by simp [baseOf], fun hne => absurd (by omega) hne⟩
              · simp only [Option.map_some, Option.some.injEq] at hy
                subst hy
                exact ⟨off + l0, by rw [addr_add]; simp [baseOf], fun _ => by simp [baseOf]⟩
    · cases h7
  ·
    rename_i t x y he
    subst he
    obtain ⟨v1, h1, h2⟩ := Option.bind_eq_some_iff.1 h
    obtain ⟨u, h3, h4⟩ := Option.bind_eq_some_iff.1 h2
    obtain ⟨i, h5, h6⟩ := Option.bind_eq_some_iff.1 h4
    obtain ⟨a1, a2, a3⟩ := hop x (by simp [Op.operands]) v1 h1
    obtain ⟨b1, b2, b3⟩ := hop y (by simp [Op.operands]) u h3
    have hti := hty t i h5
    have hdd := hti.desc
    have hes := hti.esz
    split at h6
    · rename_i e b o1 m j len cap k q hd
      cases hb : Nat.beq i.esz 1 with
      | false => simp [hb] at h6
      | true =>
        have hes1 : i.esz = 1 := by simpa using hb
        simp only [hb, cond_true, Option.some.injEq, Prod.mk.injEq, Bool.and_eq_true, decide_eq_true_eq, Nat.blt_eq] at h6
        obtain ⟨⟨hj, hjm⟩, rfl, rfl⟩ := h6
        rw [hd] at hdd hes
        simp only at hes
        have hsz : (sizeOf e).run P w = .ok 1 w := by
          cases hq : P.info? e with
          | none => simp [hq] at hes
          | some q => simp [hq] at hes; simp [sizeOf, typeInfo, hq, hes, hes1]
        have hrun : (Instr.indexAt t ((VV.sr b o1 m j len cap).den ρ) (.int k q)).run P w = .ok (.pointer (some ⟨ρ b, o1 + j + q.toNat, none⟩)) w := by
          simp [VV.den, VV.den0, VV.cells, Instr.indexAt, asIntOf, run_underlying hdd, hj, hsz, addr_add]
        refine Sound.plain (rv := .pointer (some ⟨ρ b, o1 + j + q.toNat, none⟩)) ?_ ?_ hjm (by simpa [VV.ids] using a3) (by simp)
        · simp only [execOp, a1, Sem.run_bind]
          rw [show a.eval y = .int k q from b1, hrun]
          rfl
        · simp [VV.den, VV.den0, VV.cells, Nat.add_assoc]
    · cases h6
  ·
    rename_i op t x y yt he
    subst he
    obtain ⟨v1, h1, h2⟩ := Option.bind_eq_some_iff.1 h
    obtain ⟨u, h3, h4⟩ := Option.bind_eq_some_iff.1 h2
    obtain ⟨b, h5, h6⟩ := Option.bind_eq_some_iff.1 h4
    obtain ⟨i, h7, h8⟩ := Option.bind_eq_some_iff.1 h6
    obtain ⟨a1, a2, a3⟩ := hop x (by simp [Op.operands]) v1 h1
    obtain ⟨b1, b2, b3⟩ := hop y (by simp [Op.operands]) u h3
    have hdd := (hty t i h7).desc
    split at h8
    · rename_i e hd
      rw [hd] at hdd
      obtain ⟨r, h9, h10⟩ := Option.map_eq_some_iff.1 h8
      simp only [Prod.mk.injEq, true_and] at h10
      obtain ⟨rfl, rfl⟩ := h10
      obtain ⟨g1, ⟨px, g2⟩, py, g3⟩ := nilEq_run (P := P) (w := w) (ρ := ρ) h5 t e hdd
      rw [g2, g3] at g1
      unfold boolOp at h9
      split at h9 <;> simp only [Option.some.injEq, reduceCtorEq] at h9
      · subst h9
        refine Sound.plain (rv := .bool b) ?_ rfl rfl (by simp [VV.ids]) (by simp)
        simp only [execOp, a1, b1, g2, g3]
        have e1 : ∀ (X Y : Operand), eqGuard .eql t X Y (.pointer px) (.pointer py) = pure () := fun _ _ => rfl
        have e2 : binOp .eql t (.pointer px) (.pointer py) = (do pure (.bool (← Op.equal t (.pointer px) (.pointer py)))) := rfl
        rw [Sem.run_bind, e1, e2]
        simp only [Sem.run_bind, Sem.run_pure, Result.andThen_ok, g1]
      · subst h9
        refine Sound.plain (rv := .bool (!b)) ?_ rfl rfl (by simp [VV.ids]) (by simp)
        simp only [execOp, a1, b1, g2, g3]
        have e1 : ∀ (X Y : Operand), eqGuard .neq t X Y (.pointer px) (.pointer py) = pure () := fun _ _ => rfl
        have e2 : binOp .neq t (.pointer px) (.pointer py) = (do pure (.bool (!(← Op.equal t (.pointer px) (.pointer py))))) := rfl
        rw [Sem.run_bind, e1, e2]
        simp only [Sem.run_bind, Sem.run_pure, Result.andThen_ok, g1]
    · cases h8
  ·
    rename_i args ats he
    subst he
    obtain ⟨vs, h1, h2⟩ := Option.bind_eq_some_iff.1 h
    obtain ⟨e1, e2, e3⟩ := evs_spec (ρ := ρ) (p := p) h1 (fun x hx => hop x (by simpa [Op.operands, Call.operands] using hx))
    split at h2
    · rename_i b o1 m1 j len cap t hats
      obtain ⟨i, h3, h4⟩ := Option.bind_eq_some_iff.1 h2
      split at h4
      · rename_i e hd
        simp only [Option.some.injEq, Prod.mk.injEq, true_and] at h4
        obtain ⟨rfl, rfl⟩ := h4
        have hdd := (hty t i h3).desc
        rw [hd] at hdd
        have hargs : args.map a.eval = #[(VV.sr b o1 m1 j len cap).den ρ] := by apply Array.ext'; rw [Array.toList_map, e1]; rfl
        have hatsA : ats = #[t] := by apply Array.ext'; rw [hats]
        refine Sound.plain (rv := .int .i64 len) ?_ rfl rfl (by simp [VV.ids]) (by simp)
        rw [execOp_builtin, hargs, hatsA]
        simp [builtin, Builtin.len_, Builtin.lenOf, run_underlying hdd, VV.den, VV.den0, VV.cells, goInt]
      · cases h4
    · cases h2
  ·
    rename_i args ats he
    subst he
    obtain ⟨vs, h1, h2⟩ := Option.bind_eq_some_iff.1 h
    obtain ⟨e1, e2, e3⟩ := evs_spec (ρ := ρ) (p := p) h1 (fun x hx => hop x (by simpa [Op.operands, Call.operands] using hx))
    split at h2
    · rename_i b o1 m1 j len cap t hats
      obtain ⟨i, h3, h4⟩ := Option.bind_eq_some_iff.1 h2
      split at h4
      · rename_i e hd
        simp only [Option.some.injEq, Prod.mk.injEq, true_and] at h4
        obtain ⟨rfl, rfl⟩ := h4
        have hdd := (hty t i h3).desc
        rw [hd] at hdd
        have hargs : args.map a.eval = #[(VV.sr b o1 m1 j len cap).den ρ] := by apply Array.ext'; rw [Array.toList_map, e1]; rfl
        have hatsA : ats = #[t] := by apply Array.ext'; rw [hats]
        refine Sound.plain (rv := .int .i64 cap) ?_ rfl rfl (by simp [VV.ids]) (by simp)
        rw [execOp_builtin, hargs, hatsA]
        simp [builtin, Builtin.cap_, run_underlying hdd, VV.den, VV.den0, VV.cells, goInt]
      · cases h4
    · cases h2
  ·
    rename_i args ats he
    subst he
    obtain ⟨vs, h1, h2⟩ := Option.bind_eq_some_iff.1 h
    obtain ⟨e1, e2, e3⟩ := evs_spec (ρ := ρ) (p := p) h1 (fun x hx => hop x (by simpa [Op.operands, Call.operands] using hx))
    split at h2
    · rename_i s x t t2 hats
      obtain ⟨i, h3, h4⟩ := Option.bind_eq_some_iff.1 h2
      obtain ⟨i2, h5, h6⟩ := Option.bind_eq_some_iff.1 h4
      split at h6
      · rename_i e hd
        obtain ⟨ie, h7, h8⟩ := Option.bind_eq_some_iff.1 h6
        cases hb : (Nat.beq ie.size 1 && Nat.ble 1 ie.bytes) with
        | false => simp [hb] at h8
        | true =>
          simp only [hb, cond_true] at h8
          simp only [Bool.and_eq_true, Nat.beq_eq, Nat.ble_eq] at hb
          obtain ⟨hb1, hb2⟩ := hb
          have hdd := (hty t i h3).desc
          rw [hd] at hdd
          have hti2 := hty t2 i2 h5
          have hargs : args.map a.eval = #[s.den ρ, x.den ρ] := by apply Array.ext'; rw [Array.toList_map, e1]; rfl
          have hatsA : ats = #[t, t2] := by apply Array.ext'; rw [hats]
          have hr : ∀ rv w', (Builtin.append_ #[t, t2] type #[s.den ρ, x.den ρ]).run P w = .ok rv w' → (execOp a.eval ⟨dst, .call { callee := .builtin .append, args := args, argTypes := ats }, type, pos, after, guard⟩).run P w = .ok (.value rv) w' := fun rv w' hrun => by
            rw [execOp_builtin, hargs, hatsA]
            simp only [builtin, Sem.run_bind, hrun, Result.andThen_ok, Sem.run_pure]
          cases hni : notInt i2.desc with
          | true =>
            simp only [hni, cond_true] at h8
            obtain ⟨q, h9, h10⟩ := Option.bind_eq_some_iff.1 h8
            refine appD_sound (hty e ie h7) hb1 hb2 h10 hmm (e3 s (by simp)) (fun hq => ?_) hpn hr
            obtain ⟨q1, q2, q3, q4, q5⟩ := shown (P := P) (w := w) h9 (fun b hb => hmm b (appD_rd h10 b hb)) (e3 x (by simp)) hq
            exact ⟨fun it z g1 g2 g3 g4 g5 g6 => news_shows hdd hti2.desc (notInt_spec hni) g1 g3 g2 g4 q1, q2, q3, q4, q5⟩
          | false =>
            simp only [hni, cond_false] at h8
            obtain ⟨q, h9, h10⟩ := Option.bind_eq_some_iff.1 h8
            have hd2 : ∃ k2, i2.desc = .int k2 := by
              unfold notInt at hni
              split at hni
              · exact ⟨_, by assumption⟩
              · cases hni
            obtain ⟨k2, hd2⟩ := hd2
            have hdd2 := hti2.desc
            rw [hd2] at hdd2
            refine appD_sound (hty e ie h7) hb1 hb2 h10 hmm (e3 s (by simp)) (fun hq => ?_) hpn hr
            unfold zerosQ at h9
            split at h9
            · rename_i kx nz
              split at h9
              · rename_i k hzero
                simp only [Option.some.injEq] at h9
                subst h9
                simp only [Bool.and_eq_true, decide_eq_true_eq, fitB, Nat.ble_eq] at hq
                obtain ⟨hq1, hq2⟩ := hq
                refine ⟨fun it z g1 g2 g3 g4 g5 g6 => ?_, by simp [VV.ws, VV.w], rfl, by simp [VV.idss, VV.ids], by simp⟩
                have hc : z.cells.toList = [Value.int k 0] := by rw [g6, hzero]; rfl
                have := news_zeros (P := P) (w := w) (ty := type) (k := kx) hdd hdd2 g1 g3 g2 hc g4 nz.toNat (by rw [g5]; exact hq2)
                rw [show ((nz.toNat : Nat) : Int) = nz by omega] at this
                have hcell : VV.cellss ρ [.ints k nz.toNat []] = List.replicate nz.toNat (Value.int k 0) := by
                  simp only [VV.cellss, VV.cells, List.append_nil]
                  refine List.ext_getElem (by simp) fun i _ _ => by simp
                rw [hcell]
                exact this
              · cases h9
            · cases h9
      · cases h6
    · cases h2
  ·
    rename_i args ats he
    subst he
    obtain ⟨vs, h1, h2⟩ := Option.bind_eq_some_iff.1 h
    obtain ⟨e1, e2, e3⟩ := evs_spec (ρ := ρ) (p := p) h1 (fun x hx => hop x (by simpa [Op.operands, Call.operands] using hx))
    split at h2
    · rename_i s x t t2 hats
      obtain ⟨i, h3, h4⟩ := Option.bind_eq_some_iff.1 h2
      split at h4
      · rename_i e hd
        obtain ⟨ie, h7, h8⟩ := Option.bind_eq_some_iff.1 h4
        cases hb : Nat.beq ie.size 1 with
        | false => simp [hb] at h8
        | true =>
          simp only [hb, cond_true] at h8
          obtain ⟨q, h9, h10⟩ := Option.bind_eq_some_iff.1 h8
          have hdd := (hty t i h3).desc
          rw [hd] at hdd
          have hargs : args.map a.eval = #[s.den ρ, x.den ρ] := by apply Array.ext'; rw [Array.toList_map, e1]; rfl
          have hatsA : ats = #[t, t2] := by apply Array.ext'; rw [hats]
          refine copyD_sound (t2 := t2) (hty e ie h7) hdd (by simpa using hb) h10 hmm (e3 s (by simp)) (fun hq => shown h9 (fun b hb => hmm b (copyD_rd h10 b hb)) (e3 x (by simp)) hq) (fun rv w' hrun => ?_)
          rw [execOp_builtin, hargs, hatsA]
          simp only [builtin, Sem.run_bind, hrun, Result.andThen_ok, Sem.run_pure]
      · cases h4
    · cases h2
  · cases h
theorem xopZ_sound (hty : TyAll P ty) {o : Oper} {v : VV} {me : ME} (h : xopZ ty L M n o.op = some (true, v, me))
    (hop : ∀ x ∈ o.op.operands.toList, OpOK ρ p L a x) (hmm : ∀ b ∈ me.rd, MmOK ρ p M w b) (hpn : ∀ i, p i → ¬ (n ≤ i ∧ i < n + me.nn)) : Sound P ρ p M n a w o v me := by
  unfold xopZ at h
  split at h
  · rename_i r hr
    subst_vars
    exact xopD_sound hty (by rw [hr, h]) hop hmm hpn
  · exact xopA_sound hty h hop hmm hpn
end
end Go.VM

namespace Go.VM
def globs : List (Nat × IntKind × List Int) := [(0, .i64, [12, 8, 4, 0])]
def GL (w : World) : Prop := ∀ x ∈ globs, ∃ tail t fz, w.heap[x.1]? = some (.cells (x.2.2.map (Value.int x.2.1) ++ tail).toArray t fz)
def Good (ρ : Nat → Nat) (M : List (Nat × Blk)) (rd : List Nat) (w : World) : Prop := GL w ∧ ∀ b ∈ rd, ∀ x, getA M b = some x → ∀ k, own ρ b x k → ∀ g ∈ globs, g.1 ≠ k
def globAt (g : Nat) : Option (IntKind × List Int) := (globs.find? fun x => Nat.beq x.1 g).map (·.2)
theorem globAt_mem {g : Nat} {q : IntKind × List Int} (h : globAt g = some q) : (g, q) ∈ globs := by
  obtain ⟨x, h1, h2⟩ := Option.map_eq_some_iff.1 h
  have h3 := List.find?_some h1
  have h4 := List.mem_of_find?_eq_some h1
  have : x.1 = g := by simpa using h3
  subst this; subst h2
  exact h4
def xopG (ty : TypeId → Option TI) (L : List (Nat × VV)) : Op → Option (Bool × VV × ME)
  | .load t x => (ev L x).bind fun v => (ty t).bind fun i => match v with
    | .raw (.pointer (some ⟨g, off, none⟩)) => (globAt g).bind fun q => match i.desc with
      | .int k => if k = q.1 then some (Nat.blt off q.2.length, .int k (q.2.getD off 0), {}) else none
      | .array m _ => bif Nat.beq i.size q.2.length && Nat.beq m q.2.length && Nat.beq off 0 then some (true, .agg [.ints q.1 m q.2], {}) else none
      | _ => none
    | _ => none
  | .indexAddr t x y => (ev L x).bind fun v => (ev L y).bind fun u => (ty t).bind fun i => match i.desc, v, u with
    | .array m _, .raw (.pointer (some ⟨g, off, none⟩)), .int _ j => bif Nat.beq i.esz 1 then some (decide (0 ≤ j ∧ j < m), .raw (.pointer (some ⟨g, off + j.toNat, none⟩)), {}) else none
    | _, _, _ => none
  | _ => none
section
variable {P : Program} {ty : TypeId → Option TI} {L : List (Nat × VV)} {M : List (Nat × Blk)} {n : Nat} {ρ : Nat → Nat} {p : Nat → Prop} {a : Act} {w : World}
theorem xopG_sound (hty : TyAll P ty) {o : Oper} {v : VV} {me : ME} (h : xopG ty L o.op = some (true, v, me)) (hg : GL w)
    (hop : ∀ x ∈ o.op.operands.toList, OpOK ρ p L a x) : Sound P ρ p M n a w o v me := by
  obtain ⟨dst, op, guard, after⟩ := o
  cases op <;> simp only [xopG, reduceCtorEq] at h
  case load t x =>
    obtain ⟨u, h1, h2⟩ := Option.bind_eq_some_iff.1 h
    obtain ⟨i, h3, h4⟩ := Option.bind_eq_some_iff.1 h2
    obtain ⟨a1, a2, a3⟩ := hop x (by simp [Op.operands]) u h1
    split at h4
    · rename_i g off
      obtain ⟨⟨k, l⟩, h5, h6⟩ := Option.bind_eq_some_iff.1 h4
      obtain ⟨tail, t', fz, hh⟩ := hg _ (globAt_mem h5)
      have hti := hty t i h3
      simp only at h6 hh
      split at h6
      · rename_i k' hd
        split at h6
        · rename_i hk
          subst hk
          simp only [Option.some.injEq, Prod.mk.injEq] at h6
          obtain ⟨hlt, rfl, rfl⟩ := h6
          have hlt' : off < l.length := by simpa [Nat.blt_eq] using hlt
          refine Sound.plain (rv := .int k' (l.getD off 0)) ?_ rfl rfl (by simp [VV.ids, VV.idss]) (by simp)
          have := run_loadVar_one (P := P) (w := w) hti (by rw [hd]; rfl) (off := off) (v := .int k' (l.getD off 0)) hh (by rw [List.getElem?_map, List.getElem?_eq_getElem hlt', List.getD_eq_getElem?_getD, List.getElem?_eq_getElem hlt']; rfl)
          simp only [execOp, Instr.loadAt, a1, Instr.sureAddr, VV.den, VV.den0, VV.cells, List.headD_cons, Sem.run_bind, Sem.run_pure, Result.andThen_ok, this]
        · cases h6
      · rename_i m e hd
        cases hb : (Nat.beq i.size l.length && Nat.beq m l.length && Nat.beq off 0) with
        | false => simp [hb] at h6
        | true =>
          simp only [hb, cond_true, Option.some.injEq, Prod.mk.injEq, true_and] at h6
          obtain ⟨rfl, rfl⟩ := h6
          simp only [Bool.and_eq_true, Nat.beq_eq] at hb
          obtain ⟨⟨b1, b2⟩, rfl⟩ := hb
          have hcs : VV.cellss ρ [.ints k m l] = l.map (Value.int k) := by
            simp only [VV.cellss, VV.cells, List.append_nil]
            rw [b2]
            refine List.ext_getElem? fun q => ?_
            by_cases hq : q < l.length
            · simp [hq, List.getD_eq_getElem?_getD]
            · rw [List.getElem?_eq_none (by simpa using hq), List.getElem?_eq_none (by simpa using hq)]
          refine Sound.plain (rv := .agg (l.map (Value.int k)).toArray) ?_ (by show _ = Value.agg (VV.cellss ρ [.ints k m l]).toArray; rw [hcs]) rfl (by simp [VV.ids, VV.idss]) (by simp)
          have := run_loadVar_agg (P := P) (w := w) hti (by rw [hd]; rfl) (off := 0) hh (by rw [List.length_map]; omega)
          rw [List.drop_zero, List.take_of_length_le (by rw [List.length_map]; omega)] at this
          simp only [execOp, Instr.loadAt, a1, Instr.sureAddr, VV.den, VV.den0, VV.cells, List.headD_cons, Sem.run_bind, Sem.run_pure, Result.andThen_ok, this]
      · cases h6
    · cases h4
  case indexAddr t x y =>
    obtain ⟨v1, h1, h2⟩ := Option.bind_eq_some_iff.1 h
    obtain ⟨u, h3, h4⟩ := Option.bind_eq_some_iff.1 h2
    obtain ⟨i, h5, h6⟩ := Option.bind_eq_some_iff.1 h4
    obtain ⟨a1, a2, a3⟩ := hop x (by simp [Op.operands]) v1 h1
    obtain ⟨b1, b2, b3⟩ := hop y (by simp [Op.operands]) u h3
    have hti := hty t i h5
    have hdd := hti.desc
    have hes := hti.esz
    split at h6
    · rename_i m e g off k j hd
      cases hb : Nat.beq i.esz 1 with
      | false => simp [hb] at h6
      | true =>
        simp only [hb, cond_true, Option.some.injEq, Prod.mk.injEq, decide_eq_true_eq] at h6
        obtain ⟨hj, rfl, rfl⟩ := h6
        have hb' : i.esz = 1 := by simpa using hb
        refine Sound.plain (rv := .pointer (some ⟨g, off + j.toNat, none⟩)) ?_ rfl rfl (by simp [VV.ids, VV.idss]) (by simp)
        rw [hd] at hdd hes
        simp only at hes
        have hsz : (sizeOf e).run P w = .ok i.esz w := by
          cases hq : P.info? e with
          | none => simp [hq] at hes
          | some q => simp [hq] at hes; simp [sizeOf, typeInfo, hq, hes]
        have : (Instr.indexAt t (.pointer (some ⟨g, off, none⟩)) (.int k j)).run P w = .ok (.pointer (some ⟨g, off + j.toNat, none⟩)) w := by
          have e1 := addr_add g off j.toNat
          simp [Instr.indexAt, asIntOf, run_underlying hdd, Instr.sureAddr, hj, hsz, hb', e1]
        simp only [execOp, a1, b1, VV.den, VV.den0, VV.cells, List.headD_cons, Sem.run_bind, this]
        rfl
    · cases h6
def xopY (ty : TypeId → Option TI) (L : List (Nat × VV)) (M : List (Nat × Blk)) (n : Nat) (op : Op) : Option (Bool × VV × ME) := match xopZ ty L M n op with
  | some r => some r
  | none => xopG ty L op
theorem xopY_sound (hty : TyAll P ty) {o : Oper} {v : VV} {me : ME} (h : xopY ty L M n o.op = some (true, v, me)) (hg : GL w)
    (hop : ∀ x ∈ o.op.operands.toList, OpOK ρ p L a x) (hmm : ∀ b ∈ me.rd, MmOK ρ p M w b) (hpn : ∀ i, p i → ¬ (n ≤ i ∧ i < n + me.nn)) : Sound P ρ p M n a w o v me := by
  unfold xopY at h
  split at h
  · rename_i r hr
    subst_vars
    exact xopZ_sound hty (by rw [hr, h]) hop hmm hpn
  · exact xopG_sound hty h hg hop
end
end Go.VM

namespace Go.VM
def xopR (ty : TypeId → Option TI) (L : List (Nat × VV)) (n : Nat) : Op → Option (Bool × VV × ME)
  | .range t x => (ev L x).bind fun v => (ty t).bind fun i => match i.desc, v with
    | .string, .str s => some (true, .ptr n 0, { up := [(n, ([], 0, .it s 0))], nn := 1 })
    | _, _ => none
  | _ => none
def iterAt (M : List (Nat × Blk)) : VV → Option (Nat × ByteArray × Nat × TypeId)
  | .ptr b off => bif Nat.beq off 0 then (getA M b).bind fun x => match x.2.2 with
    | .it s pos => some (b, s, pos, x.2.1)
    | _ => none
    else none
  | _ => none
def nextV (q : Nat × ByteArray × Nat × TypeId) : VV := .tup [.bool true, .int .i64 (q.2.2.1 : Nat), .int .i32 ((Utf8.decode q.2.1 q.2.2.1).1 : Nat)]
def nextM (q : Nat × ByteArray × Nat × TypeId) : ME := { rd := [q.1], up := [(q.1, ([], q.2.2.2, .it q.2.1 (q.2.2.1 + (Utf8.decode q.2.1 q.2.2.1).2)))] }
section
variable {P : Program} {ty : TypeId → Option TI} {L : List (Nat × VV)} {M : List (Nat × Blk)} {n : Nat} {ρ : Nat → Nat} {p : Nat → Prop} {a : Act} {w : World}
theorem xopR_sound (hty : TyAll P ty) {o : Oper} {v : VV} {me : ME} (h : xopR ty L n o.op = some (true, v, me))
    (hop : ∀ x ∈ o.op.operands.toList, OpOK ρ p L a x) : Sound P ρ p M n a w o v me := by
  cases ho : o.op <;> rw [ho] at h <;> simp only [xopR, reduceCtorEq] at h
  case range t x =>
    obtain ⟨u, h1, h2⟩ := Option.bind_eq_some_iff.1 h
    obtain ⟨i, h3, h4⟩ := Option.bind_eq_some_iff.1 h2
    obtain ⟨a1, a2, a3⟩ := hop x (by rw [ho]; simp [Op.operands]) u h1
    split at h4
    · rename_i s hd
      simp only [Option.some.injEq, Prod.mk.injEq, true_and] at h4
      obtain ⟨rfl, rfl⟩ := h4
      have hdd := (hty t i h3).desc
      rw [hd] at hdd
      have hold : ∀ i, i ≠ n → (fun i => if i = n then w.heap.size else ρ i) i = ρ i := fun i h => by simp [h]
      have hrun : (execOp a.eval o).run P w = .ok (.value ((VV.ptr n 0).den fun i => if i = n then w.heap.size else ρ i)) (w.alloc (.stringIter s 0)) := by
        simp [execOp, ho, a1, Instr.range, run_underlying hdd, VV.den, VV.den0, VV.cells]
      refine ⟨⟨rfl, fun i hi => .inr ?_, fun b blk h => ?_, fun b h => by cases h⟩, fun i => if i = n then w.heap.size else ρ i, _, _, .inl hrun, rfl, fun i hi => ?_, ⟨rfl, rfl, rfl, by simp, fun b blk h => ?_, fun b x h k hk => ?_, fun b c hbc x y hx hy => ?_, fun k hk _ _ => ?_, fun ad had => ?_⟩⟩
      · simp [VV.ids] at hi; subst hi; simp
      · obtain ⟨rfl, rfl⟩ := getA_one h
        exact ⟨.inr ⟨Nat.le_refl _, by simp⟩, rfl, fun i hi => by simp [bids, VV.idss] at hi⟩
      · exact hold i (fun e => hi (by subst e; simp))
      · obtain ⟨rfl, rfl⟩ := getA_one h
        simp only [Holds, if_true]
        exact ⟨trivial, heap_alloc_new _ _⟩
      · obtain ⟨rfl, rfl⟩ := getA_one h
        simp only [occ, own, if_true] at hk
        exact .inl (by omega)
      · obtain ⟨rfl, _⟩ := getA_one hx
        obtain ⟨rfl, _⟩ := getA_one hy
        exact absurd rfl hbc
      · exact heap_alloc_old _ _ _ hk
      · exact frozen_kept (heap_alloc_old _ _ _ had)
    · cases h4
theorem iterAt_spec {v : VV} {q : Nat × ByteArray × Nat × TypeId} (h : iterAt M v = some q) : v = .ptr q.1 0 ∧ ∃ rs, getA M q.1 = some (rs, q.2.2.2, .it q.2.1 q.2.2.1) := by
  cases v <;> simp only [iterAt, reduceCtorEq] at h
  case ptr b off =>
    cases hb : Nat.beq off 0 with
    | false => simp [hb] at h
    | true =>
      simp only [hb, cond_true] at h
      have : off = 0 := by simpa using hb
      subst this
      obtain ⟨⟨rs, t, kd⟩, h1, h2⟩ := Option.bind_eq_some_iff.1 h
      cases kd <;> simp only [reduceCtorEq] at h2
      case it s pos =>
        simp only [Option.some.injEq] at h2
        subst h2
        exact ⟨rfl, rs, h1⟩
theorem next_more {o : Oper} {x : Operand} {v : VV} {q : Nat × ByteArray × Nat × TypeId} (ho : o.op = .next x true) (hx : ev L x = some v) (h : iterAt M v = some q) (hlt : Nat.blt q.2.2.1 q.2.1.size = true)
    (hop : ∀ x ∈ o.op.operands.toList, OpOK ρ p L a x) (hmm : ∀ b ∈ (nextM q).rd, MmOK ρ p M w b) : Sound P ρ p M n a w o (nextV q) (nextM q) := by
  obtain ⟨b, s, pos, t⟩ := q
  obtain ⟨rfl, rs, hb⟩ := iterAt_spec h
  simp only at hb hlt hx
  have hlt' : pos < s.size := by simpa [Nat.blt_eq] using hlt
  obtain ⟨m1, m2, m3⟩ := hmm b (by simp [nextM]) _ hb
  simp only [Holds] at m1
  obtain ⟨rfl, m1⟩ := m1
  obtain ⟨a1, a2, a3⟩ := hop x (by rw [ho]; simp [Op.operands]) _ hx
  have hpb : p b := a3 b (by simp [VV.ids])
  have hk : ρ b < w.heap.size := heap_lt m1
  let w' : World := { w with heap := w.heap.setIfInBounds (ρ b) (.stringIter s (pos + (Utf8.decode s pos).2)) }
  have hnew : w'.heap[ρ b]? = some (.stringIter s (pos + (Utf8.decode s pos).2)) := by simp [w', hk]
  have hother : ∀ k, k ≠ ρ b → w'.heap[k]? = w.heap[k]? := fun k hne => by simp only [w']; rw [Array.getElem?_setIfInBounds_ne (Ne.symm hne)]
  have hrun : (execOp a.eval o).run P w = .ok (.value ((nextV (b, s, pos, t)).den ρ)) w' := by
    simp only [execOp, ho, a1]
    simp [Instr.next, VV.den, VV.den0, VV.cells, getObj, setObj, Sem.run, m1, hlt', nextV, goInt, w']
  refine ⟨⟨rfl, fun i hi => by simp [nextV, VV.ids, VV.idss] at hi, fun c blk h => ?_, fun c hc => by simp only [nextM, List.mem_singleton] at hc; subst hc; exact hpb⟩, ρ, _, w', .inl hrun, rfl, fun _ _ => rfl, ⟨rfl, rfl, rfl, by simp [w'], fun c blk h => ?_, fun c y h k hk => ?_, fun c d hcd y z hy hz => ?_, fun k _ hne _ => ?_, fun ad _ => ?_⟩⟩
  · obtain ⟨rfl, rfl⟩ := getA_one h
    exact ⟨.inl (by simp [nextM]), rfl, fun i hi => by simp [bids, VV.idss] at hi⟩
  · obtain ⟨rfl, rfl⟩ := getA_one h
    simp only [Holds]
    exact ⟨trivial, hnew⟩
  · obtain ⟨rfl, rfl⟩ := getA_one h
    exact .inr ⟨c, by simp [nextM], _, hb, hk, fun ho => ho, fun _ => by simp [nextM, getA]⟩
  · obtain ⟨rfl, _⟩ := getA_one hy
    obtain ⟨rfl, _⟩ := getA_one hz
    exact absurd rfl hcd
  · refine hother k fun e => hne b _ (getA_self _ _) ?_
    subst e
    rfl
  · unfold World.frozen?
    by_cases hk : ad.block = ρ b
    · rw [hk, hnew, m1]
    · rw [hother _ hk]
theorem next_over {o : Oper} {x : Operand} {v : VV} {q : Nat × ByteArray × Nat × TypeId} (ho : o.op = .next x true) (hx : ev L x = some v) (h : iterAt M v = some q) (hlt : Nat.blt q.2.2.1 q.2.1.size = false)
    (hop : ∀ x ∈ o.op.operands.toList, OpOK ρ p L a x) (hmm : ∀ b ∈ [q.1], MmOK ρ p M w b) : Sound P ρ p M n a w o (.tup [.bool false]) { rd := [q.1] } := by
  obtain ⟨b, s, pos, t⟩ := q
  obtain ⟨rfl, rs, hb⟩ := iterAt_spec h
  simp only at hb hlt hx
  have hlt' : ¬ pos < s.size := by intro hp; have : Nat.blt pos s.size = true := by simpa [Nat.blt_eq] using hp
                                   rw [hlt] at this; cases this
  obtain ⟨m1, m2, m3⟩ := hmm b (by simp) _ hb
  simp only [Holds] at m1
  obtain ⟨rfl, m1⟩ := m1
  obtain ⟨a1, a2, a3⟩ := hop x (by rw [ho]; simp [Op.operands]) _ hx
  refine Sound.plain (rv := (VV.tup [.bool false]).den ρ) ?_ rfl rfl (by simp [VV.ids, VV.idss]) (fun c hc => by simp only [List.mem_singleton] at hc; exact a3 c (by simp [VV.ids, hc]))
  simp only [execOp, ho, a1]
  simp [Instr.next, VV.den, VV.den0, VV.cells, getObj, Sem.run, m1, hlt']
def xopW (ty : TypeId → Option TI) (L : List (Nat × VV)) (M : List (Nat × Blk)) (n : Nat) (op : Op) : Option (Bool × VV × ME) := match xopY ty L M n op with
  | some r => some r
  | none => xopR ty L n op
theorem xopW_sound (hty : TyAll P ty) {o : Oper} {v : VV} {me : ME} (h : xopW ty L M n o.op = some (true, v, me)) (hg : GL w)
    (hop : ∀ x ∈ o.op.operands.toList, OpOK ρ p L a x) (hmm : ∀ b ∈ me.rd, MmOK ρ p M w b) (hpn : ∀ i, p i → ¬ (n ≤ i ∧ i < n + me.nn)) : Sound P ρ p M n a w o v me := by
  unfold xopW at h
  split at h
  · rename_i r hr
    subst_vars
    exact xopY_sound hty (by rw [hr, h]) hg hop hmm hpn
  · exact xopR_sound hty h hop
end
end Go.VM
