/- Sorted lists once more: equal neighbours are taken out; where a thing is. Plain laws. -/
import Derived.Test.YtpnmjelhnacmlaaSstS
import Derived.Test.YtpnmjelhnacmlaaKitY
namespace Go.V
open Go.Proofs Go.RowKit
section
variable {α : Type} [DecidableEq α]
/-- Of equal neighbours one stays. -/
def dd : List α → List α
  | [] => []
  | [x] => [x]
  | x :: y :: l => if x = y then dd (y :: l) else x :: dd (y :: l)
theorem dd_ne : ∀ {l : List α}, l ≠ [] → dd l ≠ []
  | [x], _ => by simp [dd]
  | x :: y :: l, _ => by
    simp only [dd]
    split
    · exact dd_ne (by simp)
    · simp
theorem dd_snoc : ∀ (l : List α) (y z : α), l.getLast? = some y → dd (l ++ [z]) = if z = y then dd l else dd l ++ [z]
  | [], _, _, h => by simp at h
  | [x], y, z, h => by
    simp at h
    subst h
    by_cases e : z = x
    · subst e; simp [dd]
    · have e' : ¬ x = z := fun h => e h.symm
      simp [dd, e, e']
  | x :: w :: l, y, z, h => by
    have ih := dd_snoc (w :: l) y z (by simpa using h)
    simp only [List.cons_append] at ih ⊢
    simp only [dd]
    by_cases e : x = w
    · rw [if_pos e, if_pos e]; exact ih
    · rw [if_neg e, if_neg e, ih]
      split
      · rfl
      · rfl
theorem dd_last : ∀ (l : List α), (dd l).getLast? = l.getLast?
  | [] => rfl
  | [x] => rfl
  | x :: y :: l => by
    have ih := dd_last (y :: l)
    simp only [dd]
    split
    · rw [ih]; simp
    · rw [List.getLast?_cons, ih]; simp [List.getLast?_cons]
theorem dd_mem {z : α} : ∀ {l : List α}, z ∈ dd l ↔ z ∈ l
  | [] => Iff.rfl
  | [x] => Iff.rfl
  | x :: y :: l => by
    have ih := dd_mem (z := z) (l := y :: l)
    simp only [dd]
    split
    · rename_i e
      subst e
      rw [ih]; simp
    · rw [List.mem_cons, ih, List.mem_cons (a := z) (b := x)]
theorem dd_length : ∀ (l : List α), (dd l).length ≤ l.length
  | [] => Nat.le_refl _
  | [x] => Nat.le_refl _
  | x :: y :: l => by
    have ih := dd_length (y :: l)
    simp only [dd]
    split
    · simp only [List.length_cons] at ih ⊢; omega
    · simp only [List.length_cons] at ih ⊢; omega
variable {c : α → α → Int}
theorem dd_sst (h : Ord3 c) : ∀ {l : List α}, (l.Pairwise fun a b => ¬ c b a < 0) → Sst c (dd l)
  | [], _ => Sst.nil
  | [x], _ => List.pairwise_singleton ..
  | x :: y :: l, hs => by
    have h1 := List.pairwise_cons.1 hs
    have ih := dd_sst h h1.2
    simp only [dd]
    split
    · exact ih
    · rename_i e
      refine List.pairwise_cons.2 ⟨fun z hz => ?_, ih⟩
      have hxy : c x y < 0 := h.tri (h1.1 y (List.mem_cons_self ..)) (fun e' => e e'.symm)
      rcases List.mem_cons.1 (dd_mem.1 hz) with rfl | hz'
      · exact hxy
      · have h2 := (List.pairwise_cons.1 h1.2).1 z hz'
        by_cases e2 : y = z
        · rw [← e2]; exact hxy
        · exact h.tr hxy (h.tri h2 (fun e' => e2 e'.symm))
/-- What is sorted, equal neighbours being taken out, is the sorted list. -/
theorem dd_sort (h : Ord3 c) {l l' : List α} (hs : SoP c l l') : dd l' = sortS c [] l := sst_ext h (dd_sst h hs.2) (sst_sortS h Sst.nil) fun z => by
  rw [dd_mem, mem_sortS, hs.1.mem_iff]
  simp
theorem dd_self (h : Ord3 c) {l : List α} (hs : Sst c l) : dd l = l := by
  have h1 : SoP c l l := ⟨List.Perm.refl _, hs.imp fun h1 => h.asym h1⟩
  rw [dd_sort h h1, sortS_self h hs]
end
theorem at_get {α : Type} {l : List α} {i : Nat} {a : α} (h : l[i]? = some a) : l[i]'(get_lt h) = a := by
  have h1 := h
  rw [List.getElem?_eq_getElem (get_lt h)] at h1
  exact Option.some.inj h1
section
variable {α : Type} {c : α → α → Int}
/-- How many are smaller. -/
def posS (c : α → α → Int) (t : α) (l : List α) : Nat := (l.takeWhile fun x => decide (c x t < 0)).length
theorem posS_le (t : α) : ∀ (l : List α), posS c t l ≤ l.length
  | [] => Nat.le_refl _
  | x :: l => by
    have := posS_le t l
    unfold posS at this ⊢
    rw [List.takeWhile_cons]
    split
    · simp only [List.length_cons]; omega
    · simp
theorem posS_at (h : Ord3 c) {t : α} : ∀ {l : List α} {i : Nat}, Sst c l → (∀ (j : Nat) (x : α), j < i → l[j]? = some x → c x t < 0) → (∀ (j : Nat) (x : α), i ≤ j → l[j]? = some x → ¬ c x t < 0) → i ≤ l.length → posS c t l = i
  | [], i, _, _, _, hi => by simp at hi; subst hi; rfl
  | x :: l, 0, _, _, h2, _ => by
    unfold posS
    rw [List.takeWhile_cons, if_neg (by simpa using h2 0 x (Nat.le_refl _) rfl)]
    rfl
  | x :: l, i + 1, hs, h1, h2, hi => by
    have ih := posS_at h (t := t) (l := l) (i := i) (List.pairwise_cons.1 hs).2 (fun j y hj hy => h1 (j + 1) y (by omega) (by simpa using hy)) (fun j y hj hy => h2 (j + 1) y (by omega) (by simpa using hy)) (by simpa using hi)
    unfold posS at ih ⊢
    rw [List.takeWhile_cons, if_pos (by simpa using h1 0 x (Nat.succ_pos _) rfl), List.length_cons, ih]
/-- Of a sorted list the smaller ones lie ahead. -/
theorem sst_before (h : Ord3 c) {l : List α} (hs : Sst c l) {i j : Nat} {x y t : α} (hi : l[i]? = some x) (hj : l[j]? = some y) (hij : j ≤ i) (hx : c x t < 0) : c y t < 0 := by
  rcases Nat.lt_or_ge j i with hlt | hge
  · have h1 := List.pairwise_iff_getElem.1 hs j i (get_lt hj) (get_lt hi) hlt
    rw [at_get hj, at_get hi] at h1
    exact h.tr h1 hx
  · have : i = j := by omega
    subst this
    rw [hi] at hj; cases hj; exact hx
theorem mem_at (h : Ord3 c) {t : α} {l : List α} (hs : Sst c l) {i : Nat} (h1 : ∀ (j : Nat) (x : α), j < i → l[j]? = some x → c x t < 0) {x : α} (hx : l[i]? = some x) (h2 : ∀ (j : Nat) (y : α), i ≤ j → l[j]? = some y → ¬ c y t < 0) : t ∈ l ↔ c x t = 0 := by
  constructor
  · intro ht
    obtain ⟨j, hj⟩ := List.getElem?_of_mem ht
    rcases Nat.lt_trichotomy j i with hlt | he | hgt
    · exact absurd (h1 j t hlt hj) (h.irr t)
    · subst he; rw [hx] at hj; cases hj; exact h.refl t
    · have h3 := List.pairwise_iff_getElem.1 hs i j (get_lt hx) (get_lt hj) hgt
      rw [at_get hj, at_get hx] at h3
      exact absurd h3 (h2 i x (Nat.le_refl _) hx)
  · intro e
    have := h.eq _ _ e
    subst this
    exact List.mem_of_getElem? hx
theorem not_mem_end (h : Ord3 c) {t : α} {l : List α} (h1 : ∀ (j : Nat) (x : α), j < l.length → l[j]? = some x → c x t < 0) : t ∉ l := fun ht => by
  obtain ⟨j, hj⟩ := List.getElem?_of_mem ht
  exact absurd (h1 j t (get_lt hj) hj) (h.irr t)
end
end Go.V
