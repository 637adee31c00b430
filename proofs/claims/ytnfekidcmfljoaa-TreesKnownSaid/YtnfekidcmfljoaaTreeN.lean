/- Sorted lists by their members (chapter 5): plain laws. -/
import Derived.Test.YtnfekidcmfljoaaTreeQ
namespace Go.V.L5
open Go.Proofs Go.RowKit Go.V Go.V.R5
/-- Two sorted lists with the same members are one. -/
theorem srt_ext : ∀ {l m : LL}, Tr.Srt ordF l → Tr.Srt ordF m → (∀ z, z ∈ l ↔ z ∈ m) → l = m
  | [], [], _, _, _ => rfl
  | [], y :: m, _, _, h => by have := (h y).2 (List.mem_cons_self ..); cases this
  | y :: l, [], _, _, h => by have := (h y).1 (List.mem_cons_self ..); cases this
  | y :: l, x :: m, hl, hm, h => by
    have h1 := List.pairwise_cons.1 hl
    have h2 := List.pairwise_cons.1 hm
    have hy : ∀ z ∈ l, y.1 < z.1 := fun z hz => ordF_lt.1 (h1.1 z hz)
    have hx : ∀ z ∈ m, x.1 < z.1 := fun z hz => ordF_lt.1 (h2.1 z hz)
    have e : y = x := by
      rcases List.mem_cons.1 ((h y).1 (List.mem_cons_self ..)) with e | e
      · exact e
      · rcases List.mem_cons.1 ((h x).2 (List.mem_cons_self ..)) with e' | e'
        · exact e'.symm
        · have a := hx y e
          have b := hy x e'
          omega
    subst e
    congr 1
    refine srt_ext h1.2 h2.2 fun z => ?_
    have := h z
    constructor
    · intro hz
      rcases List.mem_cons.1 (this.1 (List.mem_cons_of_mem _ hz)) with e | e
      · subst e; have := hy _ hz; omega
      · exact e
    · intro hz
      rcases List.mem_cons.1 (this.2 (List.mem_cons_of_mem _ hz)) with e | e
      · subst e; have := hx _ hz; omega
      · exact e
/-- What is put in stands there, beside what stood there. -/
theorem putS_mems (k v : Int) : ∀ {l : LL}, Tr.Srt ordF l → ∀ z : Int × Int, z ∈ Tr.putS ordF k v l ↔ z = (k, v) ∨ (z ∈ l ∧ z.1 ≠ k)
  | [], _, z => by simp [Tr.putS]
  | y :: l, hs, z => by
    have h1 := List.pairwise_cons.1 hs
    have hy : ∀ z ∈ l, y.1 < z.1 := fun z hz => ordF_lt.1 (h1.1 z hz)
    simp only [Tr.putS]
    by_cases h2 : y.1 = k
    · rw [if_neg (by rw [ordF_lt]; omega), if_neg (by show ¬ ordF k y.1 > 0; rw [ordF_gt]; omega)]
      rw [List.mem_cons, List.mem_cons]
      constructor
      · rintro (h | h)
        · exact .inl (by rw [h, h2])
        · exact .inr ⟨.inr h, by have := hy z h; omega⟩
      · rintro (h | ⟨h | h, hn⟩)
        · exact .inl (by rw [h, h2])
        · subst h; exact absurd h2 hn
        · exact .inr h
    · by_cases h3 : k < y.1
      · rw [if_pos (by rw [ordF_lt]; omega)]
        rw [List.mem_cons]
        constructor
        · rintro (h | h)
          · exact .inl h
          · refine .inr ⟨h, ?_⟩
            rcases List.mem_cons.1 h with rfl | h
            · exact h2
            · have := hy z h; omega
        · rintro (h | ⟨h, _⟩)
          · exact .inl h
          · exact .inr h
      · rw [if_neg (by rw [ordF_lt]; omega), if_pos (by rw [ordF_gt]; omega), List.mem_cons, putS_mems k v h1.2 z, List.mem_cons]
        constructor
        · rintro (h | h | ⟨h, hn⟩)
          · subst h; exact .inr ⟨.inl rfl, h2⟩
          · exact .inl h
          · exact .inr ⟨.inr h, hn⟩
        · rintro (h | ⟨h | h, hn⟩)
          · exact .inr (.inl h)
          · exact .inl h
          · exact .inr (.inr ⟨h, hn⟩)
theorem putS_new (k v : Int) : ∀ {l : LL}, Tr.Srt ordF l → Tr.getS ordF k l = none → (Tr.putS ordF k v l).length = l.length + 1
  | [], _, _ => rfl
  | y :: l, hs, hg => by
    have h1 := List.pairwise_cons.1 hs
    simp only [Tr.getS] at hg
    simp only [Tr.putS]
    by_cases h2 : ordF k y.1 = 0
    · rw [if_pos h2] at hg; cases hg
    · rw [if_neg h2] at hg
      by_cases h3 : ordF k y.1 < 0
      · rw [if_pos h3]; rfl
      · rw [if_neg h3, if_pos (by omega), List.length_cons, putS_new k v h1.2 hg]; rfl
/-- What is dropped and put in again. -/
theorem dropS_putS {l : LL} (hs : Tr.Srt ordF l) : ∀ {i : Nat} {k v : Int}, l[i]? = some (k, v) → Tr.putS ordF k v (Tr.dropS ordF k l) = l ∧ (Tr.dropS ordF k l).length + 1 = l.length := by
  induction l with
  | nil => intro i k v h; simp at h
  | cons y l ih =>
    intro i k v h
    have h1 := List.pairwise_cons.1 hs
    have hy : ∀ z ∈ l, y.1 < z.1 := fun z hz => ordF_lt.1 (h1.1 z hz)
    cases i with
    | zero =>
      simp only [List.getElem?_cons_zero, Option.some.injEq] at h
      subst h
      have e : Tr.dropS ordF k ((k, v) :: l) = l := by
        simp only [Tr.dropS]
        rw [if_neg (by rw [ordF_lt]; omega), if_neg (by show ¬ ordF k k > 0; rw [ordF_gt]; omega)]
      rw [e]
      refine ⟨?_, rfl⟩
      cases l with
      | nil => rfl
      | cons x l =>
        have := hy x (List.mem_cons_self ..)
        simp only [Tr.putS]
        rw [if_pos (ordF_lt.2 this)]
    | succ i =>
      simp only [List.getElem?_cons_succ] at h
      have hk := hy _ (List.mem_of_getElem? h)
      simp only at hk
      obtain ⟨g1, g2⟩ := ih h1.2 h
      have e : Tr.dropS ordF k (y :: l) = y :: Tr.dropS ordF k l := by
        simp only [Tr.dropS]
        rw [if_neg (by rw [ordF_lt]; omega), if_pos (by rw [ordF_gt]; omega)]
      rw [e]
      refine ⟨?_, by rw [List.length_cons, g2]; rfl⟩
      simp only [Tr.putS]
      rw [if_neg (by rw [ordF_lt]; omega), if_pos (by rw [ordF_gt]; omega), g1]
/-- A key and the half of it. -/
def prH (k : Int) : Int × Int := (k, IntKind.i64.wrap (k.tdiv 2))
/-- Pairs of the keys ks, the first i of them. -/
def Has' (l : LL) (f : Nat → Int) (i : Nat) : Prop := ∀ z, z ∈ l ↔ ∃ j, j < i ∧ z = prH (f j)
theorem has_nil (f : Nat → Int) : Has' [] f 0 := fun z => ⟨fun h => (nomatch h), fun ⟨_, h, _⟩ => absurd h (Nat.not_lt_zero _)⟩
theorem has_put {l : LL} {f : Nat → Int} {i : Nat} (h : Has' l f i) (hs : Tr.Srt ordF l) : Has' (Tr.putS ordF (f i) (IntKind.i64.wrap ((f i).tdiv 2)) l) f (i + 1) := fun z => by
  rw [putS_mems _ _ hs]
  constructor
  · rintro (h1 | ⟨h1, _⟩)
    · exact ⟨i, Nat.lt_succ_self _, h1⟩
    · obtain ⟨j, hj, e⟩ := (h z).1 h1
      exact ⟨j, by omega, e⟩
  · rintro ⟨j, hj, e⟩
    by_cases hz : z.1 = f i
    · left
      rw [e] at hz ⊢
      simp only [prH] at hz ⊢
      rw [hz]
    · right
      refine ⟨(h z).2 ⟨j, ?_, e⟩, hz⟩
      rcases Nat.lt_succ_iff_lt_or_eq.1 hj with h2 | h2
      · exact h2
      · subst h2; rw [e] at hz; exact absurd rfl hz
theorem has_turn {l : LL} {f : Nat → Int} {n b : Nat} (h : Has' l (fun i => f ((i + b) % n)) n) : Has' l f n := fun z => by
  rw [h z]
  constructor
  · rintro ⟨j, hj, e⟩
    exact ⟨(j + b) % n, Nat.mod_lt _ (by omega), e⟩
  · rintro ⟨j, hj, e⟩
    have hr := Nat.mod_lt b (show 0 < n by omega)
    by_cases h2 : b % n ≤ j
    · refine ⟨j - b % n, by omega, ?_⟩
      show z = prH (f ((j - b % n + b) % n))
      rw [e, Nat.add_mod, Nat.mod_eq_of_lt (show j - b % n < n by omega), Nat.sub_add_cancel h2, Nat.mod_eq_of_lt hj]
    · refine ⟨j + n - b % n, by omega, ?_⟩
      show z = prH (f ((j + n - b % n + b) % n))
      rw [e, Nat.add_mod, Nat.mod_eq_of_lt (show j + n - b % n < n by omega), Nat.sub_add_cancel (by omega), Nat.add_mod_right, Nat.mod_eq_of_lt hj]
/-- The order of halves. -/
def halfF (a b : Int) : Int := ordF (IntKind.i64.wrap (a.tdiv 2)) (IntKind.i64.wrap (b.tdiv 2))
theorem halfF_ordr : Ordr halfF := ⟨fun _ _ => ordF_ordr.anti _ _, fun h1 h2 => ordF_ordr.trans h1 h2, fun _ h => ordF_ordr.eql _ h⟩
def halfL (i : Nat) : LL := (List.range ((i + 1) / 2)).map fun m : Nat => (2 * (m : Int), min (2 * (m : Int) + 1) ((i : Int) - 1))
theorem half_put : ∀ i : Nat, i < 60 → Tr.putS halfF (i : Int) (i : Int) (halfL i) = halfL (i + 1) := by decide +kernel
end Go.V.L5
