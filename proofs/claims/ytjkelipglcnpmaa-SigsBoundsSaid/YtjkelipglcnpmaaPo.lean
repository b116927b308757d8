/- Plain laws: lemmas that hold with no condition but those that each states. -/
import Derived.Test.YtjkelipglcnpmaaPl
import Derived.Test.YtjkelipglcnpmaaFo
namespace Go.Proofs
open Go.VM
def be : Nat → Nat → List Int
  | 0, _ => []
  | n + 1, x => be n (x / 256) ++ [((x % 256 : Nat) : Int)]
theorem be_length : ∀ n x : Nat, (be n x).length = n
  | 0, _ => rfl
  | n + 1, x => by rw [be, List.length_append, be_length n]; rfl
def octets (l : List Int) : Prop := ∀ x ∈ l, 0 ≤ x ∧ x < 256
theorem be_octets : ∀ n x : Nat, octets (be n x)
  | 0, _ => fun _ h => by cases h
  | n + 1, x => fun y h => by
    rw [be, List.mem_append] at h
    rcases h with h | h
    · exact be_octets n _ y h
    · simp only [List.mem_singleton] at h
      subst h
      omega
def tv (l : List Int) : Nat := l.foldl (fun a x => 256 * a + x.toNat) 0
theorem tv_snoc (l : List Int) (x : Int) : tv (l ++ [x]) = 256 * tv l + x.toNat := by simp [tv]
theorem tv_lt : ∀ (n : Nat) (l : List Int), l.length = n → octets l → tv l < 256 ^ n
  | 0, l, h, _ => by
    have : l = [] := List.length_eq_zero_iff.1 h
    subst this; simp [tv]
  | n + 1, l, h, ho => by
    have hne : l ≠ [] := by intro e; subst e; cases h
    rw [← List.dropLast_concat_getLast hne, tv_snoc]
    have h1 := tv_lt n l.dropLast (by simp [h]) (fun x hx => ho x (List.dropLast_subset l hx))
    have h2 := ho _ (List.getLast_mem hne)
    rw [Nat.pow_succ]
    omega
theorem padT_self (l : List Int) {n : Nat} (h : l.length = n) : padT l n = l := by
  subst h
  refine List.ext_getElem? fun i => ?_
  by_cases hi : i < l.length
  · simp [padT, hi]
  · rw [List.getElem?_eq_none (by simpa [padT] using hi), List.getElem?_eq_none (by omega)]
theorem subI_cut (l : List Int) (off m : Nat) (h : off + m ≤ l.length) : subI l off m = (l.drop off).take m := by
  refine List.ext_getElem? fun i => ?_
  rw [List.getElem?_take, List.getElem?_drop]
  by_cases hi : i < m
  · rw [if_pos hi]
    have : off + i < l.length := by omega
    simp [subI, hi, this]
  · rw [if_neg hi, List.getElem?_eq_none (by simpa [subI] using hi)]
theorem subI_self (l : List Int) {n : Nat} (h : l.length = n) : subI l 0 n = l := by
  rw [subI_cut l 0 n (by omega), List.drop_zero, List.take_of_length_le (by omega)]
theorem fitB_true {x : Nat} (h : x ≤ 140737488355328) : fitB x = true := by simp only [fitB, Nat.ble_eq]; exact h
theorem ble_true {x y : Nat} (h : x ≤ y) : Nat.ble x y = true := by simp only [Nat.ble_eq]; exact h
theorem altl {A B C : Type} (f : A → C) (g : B → C) (a : A) : alt f g (.inl a) = f a := Eq.trans (show alt f g (.inl a) = f a from by unfold alt; rfl) (Eq.symm (Eq.symm rfl))
theorem altr {A B C : Type} (f : A → C) (g : B → C) (b : B) : alt f g (.inr b) = g b := Eq.trans (show alt f g (.inr b) = g b from by unfold alt; rfl) (Eq.symm (Eq.symm rfl))
theorem be_mod : ∀ (n x : Nat), be n (x % 256 ^ n) = be n x
  | 0, _ => rfl
  | n + 1, x => by
    rw [be, be]
    have h1 : x % 256 ^ (n + 1) / 256 = x / 256 % 256 ^ n := by rw [Nat.pow_succ', Nat.mod_mul_right_div_self]
    have h2 : x % 256 ^ (n + 1) % 256 = x % 256 := by rw [Nat.pow_succ', Nat.mod_mul_right_mod]
    rw [h1, h2, be_mod n]
theorem be_add (m : Nat) : ∀ (n x : Nat), be (m + n) x = be m (x / 256 ^ n) ++ be n x
  | 0, x => by rw [Nat.pow_zero, Nat.div_one, Nat.add_zero, be, List.append_nil]
  | n + 1, x => by
    rw [← Nat.add_assoc, be, be_add m n, be, Nat.div_div_eq_div_mul, Nat.pow_succ', List.append_assoc]
theorem tv_append (a b : List Int) : tv (a ++ b) = tv a * 256 ^ b.length + tv b := by
  have key : ∀ (b : List Int) (x : Nat), b.foldl (fun a x => 256 * a + x.toNat) x = x * 256 ^ b.length + b.foldl (fun a x => 256 * a + x.toNat) 0 := by
    intro b
    induction b with
    | nil => intro x; simp
    | cons y b ih =>
      intro x
      rw [List.foldl_cons, ih, List.foldl_cons, ih (256 * 0 + y.toNat), List.length_cons, Nat.pow_succ']
      have : (256 * x + y.toNat) * 256 ^ b.length = x * (256 * 256 ^ b.length) + y.toNat * 256 ^ b.length := by
        rw [Nat.add_mul, Nat.mul_comm 256 x, Nat.mul_assoc]
      rw [this, Nat.mul_zero, Nat.zero_add]; omega
  show (a ++ b).foldl _ 0 = _
  rw [List.foldl_append, key]
  rfl
theorem octets_append {a b : List Int} (ha : octets a) (hb : octets b) : octets (a ++ b) := fun x hx => (List.mem_append.1 hx).elim (ha x) (hb x)
end Go.Proofs
