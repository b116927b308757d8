/- The machine on virtual values: a part of its definition or of its soundness proof. -/
import Derived.Test.YtjkelipglcnpmaaVmI
namespace Go.VM

/-- In whatever order. -/
theorem region_any {P : Program} {C : Ctx} {all : Array Oper} {id : Nat} {Q : Exit → Act → World → Prop} (hmix : P.follows .mixedOrders = true) {st st' : VS} {tr : List (List Nat × List Nat)}
    (hrun : RunOK P C.sz all all.toList st st' tr) (hord : ordFrom all [] 0 all.toList tr = true) (hn0 : C.n0 ≤ st.n)
    {ρ : Nat → Nat} {a : Act} {w : World} (hrel : Rel C ρ st a w) (hQ : ∀ ρ' a' w', Rel C ρ' st' a' w' → Q .normal a' w') : (Code.region id all true).wp P Q a w := by
  obtain ⟨env, V, E, R, h0, h1, h2, h3, h4⟩ := hrun
  have hlen : all.toList.length = all.size := Array.length_toList
  rw [hlen] at h1 h2 h4
  have h3' : ∀ j o, all[j]? = some o → StepOK P C.sz all (env j) o (V j) (E j) (R j) (env (j + 1)) := fun j o h => h3 j o (by simpa using h)
  have hget : ∀ j, j < all.size → ∃ o, all[j]? = some o := fun j hj => ⟨all[j], by simp [hj]⟩
  have hordS := ordFrom_spec hord
  -- the pieces of the order
  have hwait : ∀ j o, all[j]? = some o → ∀ e ∈ o.after, Region.binds .any e = true → e.on < j := by
    intro j o ho e he hb
    have hj : j < all.size := (Array.getElem?_eq_some_iff.1 ho).1
    have := (hordS j o _ (by simpa using ho) (h4 j hj)).1 e he hb
    omega
  have hpair : ∀ i j oi oj, i < j → all[i]? = some oi → all[j]? = some oj → (∃ e ∈ oj.after, Region.binds .any e = true ∧ e.on = i) ∨
      (oi.apart all oj = true ∧ memApart ((E i).rd, (E i).up.map (·.1)) ((E j).rd, (E j).up.map (·.1)) = true) := by
    intro i j oi oj hij hi hj
    have hj' : j < all.size := (Array.getElem?_eq_some_iff.1 hj).1
    rcases (hordS j oj _ (by simpa using hj) (h4 j hj')).2.2 i oi _ hij (by simpa using hi) (h4 i (by omega)) with h | h
    · rw [Nat.zero_add] at h; exact .inl (waits_spec h)
    · exact .inr h
  -- numbers of blocks
  have hnstep : ∀ j, j < all.size → (env (j + 1)).n = (env j).n + (E j).nn := fun j hj => let ⟨o, ho⟩ := hget j hj; (h3' j o ho).n
  have hnmono : ∀ j, j ≤ all.size → ∀ i, i ≤ j → (env i).n ≤ (env j).n := by
    intro j
    induction j with
    | zero => intro _ i hi; have : i = 0 := by omega
              subst this; exact Nat.le_refl _
    | succ j ih =>
      intro hj i hi
      by_cases e : i = j + 1
      · subst e; exact Nat.le_refl _
      · have := ih (by omega) i (by omega)
        have := hnstep j (by omega)
        omega
  -- what is known where
  let Ut : Nat → Nat → Option VV := fun i t => if (all[i]?).bind (·.dst) = some t then some (V i) else none
  let Um : Nat → Nat → Option Blk := fun i b => getA (E i).up b
  have hUt : ∀ i o, all[i]? = some o → ∀ t, Ut i t = if o.dst = some t then some (V i) else none := by
    intro i o ho t; simp only [Ut, ho, Option.bind_some]
  have envL : ∀ j, j ≤ all.size → ∀ t, getA (env j).L t = lastU Ut (getA st.L) (fun _ => true) j t := by
    intro j
    induction j with
    | zero => intro _ t; rw [h0]; rfl
    | succ j ih =>
      intro hj t
      obtain ⟨o, ho⟩ := hget j (by omega)
      rw [(h3' j o ho).L t, ih (by omega) t]
      simp only [lastU, if_true, hUt j o ho]
      split <;> simp
  have envM : ∀ j, j ≤ all.size → ∀ b, getA (env j).M b = lastU Um (getA st.M) (fun _ => true) j b := by
    intro j
    induction j with
    | zero => intro _ t; rw [h0]; rfl
    | succ j ih =>
      intro hj b
      obtain ⟨o, ho⟩ := hget j (by omega)
      rw [(h3' j o ho).M b, ih (by omega) b]
      rfl
  let KS : (Nat → Bool) → Nat → Prop := fun S i => i < st.n ∨ ∃ j, j < all.size ∧ S j = true ∧ (env j).n ≤ i ∧ i < (env j).n + (E j).nn
  have hall : ∀ i, i < (env all.size).n → i < st.n ∨ ∃ j, j < all.size ∧ (env j).n ≤ i ∧ i < (env j).n + (E j).nn := by
    have : ∀ m, m ≤ all.size → ∀ i, i < (env m).n → i < st.n ∨ ∃ j, j < m ∧ (env j).n ≤ i ∧ i < (env j).n + (E j).nn := by
      intro m
      induction m with
      | zero => intro _ i hi; rw [h0] at hi; exact .inl hi
      | succ m ih =>
        intro hm i hi
        by_cases hlt : i < (env m).n
        · rcases ih (by omega) i hlt with h | ⟨j, hj, hx⟩
          · exact .inl h
          · exact .inr ⟨j, by omega, hx⟩
        · have := hnstep m (by omega)
          exact .inr ⟨m, by omega, by omega, by omega⟩
    exact this all.size (Nat.le_refl _)
  refine wp_region_any hmix ?_
  have main : ∀ (fuel : Nat) (listed : Array Bool) (ρ : Nat → Nat) (a : Act) (w : World), listed.size = all.size → open' listed all.size ≤ fuel →
      (∀ i, i < all.size → listed.getD i true = true → ∀ o, all[i]? = some o → ∀ e ∈ o.after, Region.binds .any e = true → listed.getD e.on true = true) →
      Inv C (lastU Ut (getA st.L) (fun i => listed.getD i true) all.size) (lastU Um (getA st.M) (fun i => listed.getD i true) all.size) (KS fun i => listed.getD i true) ρ a w →
      wpAny P .any all Q fuel listed a w := by
    -- all of them have been carried out
    have atEnd : ∀ (listed : Array Bool) (ρ : Nat → Nat) (a : Act) (w : World), (∀ i, i < all.size → listed.getD i true = true) →
        Inv C (lastU Ut (getA st.L) (fun i => listed.getD i true) all.size) (lastU Um (getA st.M) (fun i => listed.getD i true) all.size) (KS fun i => listed.getD i true) ρ a w → Q .normal a w := by
      intro listed ρ a w hl hI
      refine hQ ρ a w (hI.congr (fun t => ?_) (fun b => ?_) fun i => ⟨?_, fun hi => ?_⟩)
      · rw [← h1, envL all.size (Nat.le_refl _)]; exact lastU_congr fun i hi _ => hl i hi
      · rw [← h1, envM all.size (Nat.le_refl _)]; exact lastU_congr fun i hi _ => hl i hi
      · rintro (h | ⟨j, hj, _, hx⟩)
        · have := hnmono all.size (Nat.le_refl _) 0 (Nat.zero_le _)
          rw [h0, h1] at this
          omega
        · have := hnmono all.size (Nat.le_refl _) (j + 1) hj
          have := hnstep j hj
          rw [h1] at *
          omega
      · rw [← h1] at hi
        rcases hall i hi with h | ⟨j, hj, hx⟩
        · exact .inl h
        · exact .inr ⟨j, hj, hl j hj, hx⟩
    have noneReady : ∀ listed : Array Bool, listed.size = all.size → Region.ready .any all listed = [] → open' listed all.size = 0 := by
      intro listed hs hr
      by_cases h : open' listed all.size = 0
      · exact h
      · obtain ⟨j, hj, hjo, hbefore⟩ := first_open h
        obtain ⟨o, ho⟩ := hget j hj
        have : j ∈ Region.ready .any all listed := mem_ready.2 ⟨hjo, o, ho, fun e he hb => by
          have hlt := hwait j o ho e he hb
          exact getD_false_of_true hs (by omega) (hbefore _ hlt)⟩
        rw [hr] at this; cases this
    intro fuel
    induction fuel with
    | zero =>
      intro listed ρ a w hs hop hcl hI
      have hz : open' listed all.size = 0 := by omega
      refine ⟨?_, atEnd listed ρ a w (open_zero hz) hI⟩
      refine List.eq_nil_iff_forall_not_mem.2 fun j hj => ?_
      obtain ⟨hjo, o, ho, _⟩ := mem_ready.1 hj
      have := open_zero hz j (Array.getElem?_eq_some_iff.1 ho).1
      rw [this] at hjo; cases hjo
    | succ fuel ih =>
      intro listed ρ a w hs hop hcl hI
      refine ⟨fun hr => atEnd listed ρ a w (open_zero (noneReady listed hs hr)) hI, fun j hj => ?_⟩
      obtain ⟨hjo, o, ho, hready⟩ := mem_ready.1 hj
      have hjlt : j < all.size := (Array.getElem?_eq_some_iff.1 ho).1
      have hreadyT : ∀ e ∈ o.after, Region.binds .any e = true → listed.getD e.on true = true := by
        intro e he hb
        have h := hready e he hb
        have hlt := hwait j o ho e he hb
        have hlt' : e.on < listed.size := by omega
        simp [hlt'] at h ⊢
        exact h
      -- no later one that has been carried out disturbs
      have later : ∀ i oi, j < i → all[i]? = some oi → listed.getD i true = true → o.apart all oi = true ∧ memApart ((E j).rd, (E j).up.map (·.1)) ((E i).rd, (E i).up.map (·.1)) = true := by
        intro i oi hji hi hli
        rcases hpair j i o oi hji ho hi with ⟨e, he, hb, hon⟩ | h
        · have := hcl i (Array.getElem?_eq_some_iff.1 hi).1 hli oi hi e he hb
          rw [hon, hjo] at this; cases this
        · exact h
      have earlier : ∀ i oi, i < j → all[i]? = some oi → listed.getD i true = true ∨ (oi.apart all o = true ∧ memApart ((E i).rd, (E i).up.map (·.1)) ((E j).rd, (E j).up.map (·.1)) = true) := by
        intro i oi hij hi
        rcases hpair i j oi o hij hi ho with ⟨e, he, hb, hon⟩ | h
        · have := hreadyT e he hb
          rw [hon] at this; exact .inl this
        · exact .inr h
      have hs' := h3' j o ho
      have hL : ∀ t ∈ o.looksAt all, lastU Ut (getA st.L) (fun i => listed.getD i true) all.size t = getA (env j).L t := by
        intro t ht
        rw [envL j (by omega), ← lastU_lt (Nat.le_of_lt hjlt)]
        refine lastU_congr fun i hi hu => ?_
        obtain ⟨oi, hoi⟩ := hget i hi
        rw [hUt i oi hoi] at hu
        have hd : oi.dst = some t := by
          by_cases e : oi.dst = some t
          · exact e
          · rw [if_neg e] at hu; cases hu
        rcases Nat.lt_trichotomy i j with h | h | h
        · rcases earlier i oi h hoi with g | ⟨g, _⟩
          · rw [g]; simp [h]
          · exact absurd ht ((Oper.apart_spec g).1 t hd)
        · subst h; rw [hjo]; simp
        · by_cases hli : listed.getD i true = true
          · obtain ⟨g, _⟩ := later i oi h hoi hli
            exact absurd ht ((Oper.apart_spec g).2.2 t hd)
          · have : listed.getD i true = false := by simpa using hli
            rw [this]; simp; omega
      have hM : ∀ b ∈ (E j).rd, lastU Um (getA st.M) (fun i => listed.getD i true) all.size b = getA (env j).M b := by
        intro b hb
        rw [envM j (by omega), ← lastU_lt (Nat.le_of_lt hjlt)]
        refine lastU_congr fun i hi hu => ?_
        have hk := mem_keys hu
        obtain ⟨oi, hoi⟩ := hget i hi
        rcases Nat.lt_trichotomy i j with h | h | h
        · rcases earlier i oi h hoi with g | ⟨_, g⟩
          · rw [g]; simp [h]
          · exact absurd hb ((memApart_spec g).1 b hk).1
        · subst h; rw [hjo]; simp
        · by_cases hli : listed.getD i true = true
          · obtain ⟨_, g⟩ := later i oi h hoi hli
            exact absurd hk ((memApart_spec g).2 b hb)
          · have : listed.getD i true = false := by simpa using hli
            rw [this]; simp; omega
      have hsize' : (listed.setIfInBounds j true).size = all.size := by simpa using hs
      have hsame : ∀ i, i ≠ j → (listed.setIfInBounds j true).getD i true = listed.getD i true := fun i hi => getD_set_ne true (Ne.symm hi)
      have hself : (listed.setIfInBounds j true).getD j true = true := by simp [show j < listed.size by omega]
      have hL' : ∀ t, lastU Ut (getA st.L) (fun i => (listed.setIfInBounds j true).getD i true) all.size t = if o.dst = some t then some (V j) else lastU Ut (getA st.L) (fun i => listed.getD i true) all.size t := by
        intro t
        rw [lastU_set (S := fun i => listed.getD i true) hjlt t hsame hself hjo fun i hji hi hli hu => by
          obtain ⟨oi, hoi⟩ := hget i hi
          rw [hUt j o ho] at hu
          rw [hUt i oi hoi]
          have hd : o.dst = some t := by
            by_cases e : o.dst = some t
            · exact e
            · rw [if_neg e] at hu; cases hu
          rw [if_neg ((Oper.apart_spec (later i oi hji hoi hli).1).2.1 t hd)], hUt j o ho]
        split <;> simp
      have hM' : ∀ b, lastU Um (getA st.M) (fun i => (listed.setIfInBounds j true).getD i true) all.size b = (getA (E j).up b).or (lastU Um (getA st.M) (fun i => listed.getD i true) all.size b) := by
        intro b
        rw [lastU_set (S := fun i => listed.getD i true) hjlt b hsame hself hjo fun i hji hi hli hu => by
          obtain ⟨oi, hoi⟩ := hget i hi
          have hk := mem_keys hu
          have := ((memApart_spec (later i oi hji hoi hli).2).1 b hk).2
          by_cases e : (getA (E i).up b).isSome
          · exact absurd (mem_keys e) this
          · simpa using e]
      have hpn : ∀ i, KS (fun i => listed.getD i true) i → ¬ ((env j).n ≤ i ∧ i < (env j).n + (E j).nn) := by
        rintro i (hi | ⟨j', hj', hlj', hx⟩) hc
        · have := hnmono j (by omega) 0 (Nat.zero_le _)
          rw [h0] at this
          omega
        · rcases Nat.lt_trichotomy j' j with h | h | h
          · have := hnmono j (by omega) (j' + 1) h
            have := hnstep j' hj'
            omega
          · subst h
            have hlj2 : listed.getD j' true = true := hlj'
            rw [hjo] at hlj2; cases hlj2
          · have := hnmono j' (by omega) (j + 1) h
            have := hnstep j hjlt
            omega
      have hn0' : C.n0 ≤ (env j).n := by
        have := hnmono j (by omega) 0 (Nat.zero_le _)
        rw [h0] at this
        omega
      have key := step_wp hI hs' hn0' hL hM hpn hL' hM' (Q := Q) (K := wpAny P .any all Q fuel (listed.setIfInBounds j true)) fun ρ' a' w' hI' => by
        refine ih _ ρ' a' w' hsize' ?_ ?_ (hI'.congr (fun _ => rfl) (fun _ => rfl) fun i => ⟨?_, ?_⟩)
        · have := open_set (m := all.size) hjo
          rw [if_pos hjlt] at this
          omega
        · intro i hi hli oi hoi e he hb
          by_cases hij : i = j
          · subst hij
            rw [ho] at hoi
            simp only [Option.some.injEq] at hoi
            subst hoi
            have h := hreadyT e he hb
            by_cases hej : e.on = i
            · rw [hej]; exact hself
            · rw [hsame _ hej]; exact h
          · rw [hsame i hij] at hli
            have h := hcl i hi hli oi hoi e he hb
            by_cases hej : e.on = j
            · rw [hej]; exact hself
            · rw [hsame _ hej]; exact h
        · rintro ((h | ⟨j', hj', hlj', hx⟩) | h)
          · exact .inl h
          · refine .inr ⟨j', hj', ?_, hx⟩
            by_cases e : j' = j
            · subst e; exact hself
            · show (listed.setIfInBounds j true).getD j' true = true
              rw [hsame j' e]; exact hlj'
          · exact .inr ⟨j, hjlt, hself, h⟩
        · rintro (h | ⟨j', hj', hlj', hx⟩)
          · exact .inl (.inl h)
          · by_cases e : j' = j
            · subst e; exact .inr hx
            · refine .inl (.inr ⟨j', hj', ?_, hx⟩)
              show listed.getD j' true = true
              rw [← hsame j' e]; exact hlj'
      unfold wpOp
      simp only [ho]
      split
      · rename_i hw; rw [if_pos hw] at key; exact .inl key
      · rename_i hw; rw [if_neg hw] at key; exact key
  have hzero : ∀ i, i < all.size → (Array.replicate all.size false).getD i true = false := by
    intro i hi; simp [hi]
  have hopen : ∀ m, m ≤ all.size → open' (Array.replicate all.size false) m = m := by
    intro m
    induction m with
    | zero => intro _; rfl
    | succ m ih =>
      intro hm
      simp only [open', ih (by omega), hzero m (by omega)]
      rfl
  refine main all.size _ ρ a _ (by simp) (by rw [hopen all.size (Nat.le_refl _)]; exact Nat.le_refl _) (fun i hi h => by rw [hzero i hi] at h; cases h) ?_
  have hw' : Inv C (getA st.L) (getA st.M) (fun i => i < st.n) ρ a { w with drawn := w.drawn + 1 } := ⟨hrel.size, hrel.defers, hrel.tm, hrel.mm, hrel.inj, ⟨hrel.keeps.os, hrel.keeps.tape, hrel.keeps.output, hrel.keeps.size, hrel.keeps.kept, hrel.keeps.new, fun ad => hrel.keeps.frz ad⟩, hrel.base⟩
  have none' : ∀ {K V : Type} (U : Nat → K → Option V) (base : K → Option V) (x : K), lastU U base (fun i => (Array.replicate all.size false).getD i true) all.size x = base x := by
    intro K V U base x
    have : ∀ m, m ≤ all.size → lastU U base (fun i => (Array.replicate all.size false).getD i true) m x = base x := by
      intro m
      induction m with
      | zero => intro _; rfl
      | succ m ih =>
        intro hm
        simp only [lastU]
        rw [if_neg (by rw [hzero m (by omega)]; simp), ih (by omega)]
    exact this all.size (Nat.le_refl _)
  exact hw'.congr (fun t => (none' _ _ _).symm) (fun b => (none' _ _ _).symm) fun i => ⟨fun h => .inl h, fun h => by
    rcases h with h | ⟨j, hj, hl, _⟩
    · exact h
    · have hl2 : (Array.replicate all.size false).getD j true = true := hl
      rw [hzero j hj] at hl2; cases hl2⟩

end Go.VM
