/- Maps of 4096 keys (chapter 5): plain laws. -/
import Derived.Test.YtnfekidcmfljoaaTreeN
namespace Go.V.L5
open Go.Proofs Go.RowKit Go.V Go.V.R5
theorem putS_end (k v : Int) : ∀ {l : LL}, (∀ z ∈ l, z.1 < k) → Tr.putS ordF k v l = l ++ [(k, v)]
  | [], _ => rfl
  | y :: l, h => by
    have h1 := h y (List.mem_cons_self ..)
    simp only [Tr.putS]
    rw [if_neg (by rw [ordF_lt]; omega), if_pos (by rw [ordF_gt]; omega), putS_end k v fun z hz => h z (List.mem_cons_of_mem _ hz)]
    rfl
theorem putS_front (k v : Int) : ∀ {l : LL}, (∀ z ∈ l, k < z.1) → Tr.putS ordF k v l = (k, v) :: l
  | [], _ => rfl
  | y :: l, h => by
    have h1 := h y (List.mem_cons_self ..)
    simp only [Tr.putS]
    rw [if_pos (by rw [ordF_lt]; omega)]
theorem getS_none (k : Int) : ∀ {l : LL}, (∀ z ∈ l, z.1 ≠ k) → Tr.getS ordF k l = none
  | [], _ => rfl
  | y :: l, h => by
    have h1 := h y (List.mem_cons_self ..)
    simp only [Tr.getS]
    rw [if_neg (by rw [ordF_eq]; omega), getS_none k fun z hz => h z (List.mem_cons_of_mem _ hz)]
theorem getS_some (k v : Int) : ∀ {l : LL}, Tr.Srt ordF l → (k, v) ∈ l → Tr.getS ordF k l = some v
  | [], _, h => by cases h
  | y :: l, hs, h => by
    have h1 := List.pairwise_cons.1 hs
    simp only [Tr.getS]
    rcases List.mem_cons.1 h with e | e
    · subst e; rw [if_pos (ordF_eq.2 rfl)]
    · have := ordF_lt.1 (h1.1 _ e)
      rw [if_neg (by rw [ordF_eq]; simp only at this; omega), getS_some k v h1.2 e]
def upL (i : Nat) : LL := (List.range i).map fun j : Nat => ((j : Int), -(j : Int))
def downL (i : Nat) : LL := (List.range i).map fun j : Nat => (4096 - (i : Int) + (j : Int), (i : Int) - 1 - (j : Int))
theorem up_step (i : Nat) : Tr.putS ordF (i : Int) (-(i : Int)) (upL i) = upL (i + 1) := by
  rw [putS_end]
  · simp [upL, List.range_succ]
  · intro z hz
    obtain ⟨j, hj, rfl⟩ := List.mem_map.1 hz
    have := List.mem_range.1 hj
    simp only; omega
theorem down_step (i : Nat) : Tr.putS ordF (4095 - (i : Int)) (i : Int) (downL i) = downL (i + 1) := by
  rw [putS_front]
  · simp only [downL, List.range_succ_eq_map, List.map_cons, List.map_map]
    refine List.cons_eq_cons.2 ⟨Prod.ext (by simp only; omega) (by simp only; omega), List.map_congr_left fun j _ => Prod.ext (by simp only [Function.comp_apply]; omega) (by simp only [Function.comp_apply]; omega)⟩
  · intro z hz
    obtain ⟨j, hj, rfl⟩ := List.mem_map.1 hz
    have := List.mem_range.1 hj
    simp only; omega
theorem up_get {i j : Nat} (h : j < i) : (upL i)[j]? = some ((j : Int), -(j : Int)) := by simp [upL, List.getElem?_range h]
theorem up_mem {i j : Nat} (h : j < i) : ((j : Int), -(j : Int)) ∈ upL i := List.mem_of_getElem? (up_get h)
theorem down_mem {j : Nat} (h : j < 4096) : ((j : Int), 4095 - (j : Int)) ∈ downL 4096 := by
  refine List.mem_map.2 ⟨j, List.mem_range.2 h, ?_⟩
  simp only [Prod.mk.injEq]
  omega
/-- What is left when the even keys below i are dropped. -/
def lessL (i : Nat) : LL := (upL 4096).filter fun z => decide ((i : Int) ≤ z.1) || decide (z.1 % 2 = 1)
theorem less_zero : lessL 0 = upL 4096 := by
  refine List.filter_eq_self.2 fun z hz => ?_
  obtain ⟨j, _, rfl⟩ := List.mem_map.1 hz
  simp
theorem less_step (m : Nat) (hs : Tr.Srt ordF (lessL (2 * m))) : Tr.dropS ordF ((2 * m : Nat) : Int) (lessL (2 * m)) = lessL (2 * m + 2) := by
  rw [← dropL_dropS _ _ hs]
  unfold dropL lessL
  rw [List.filter_filter]
  refine List.filter_congr fun z hz => ?_
  obtain ⟨j, _, rfl⟩ := List.mem_map.1 hz
  rw [Bool.eq_iff_iff]
  simp
  omega
theorem less_mem {j : Nat} (h : j < 4096) (ho : j % 2 = 1) : ((j : Int), -(j : Int)) ∈ lessL 4096 := by
  refine List.mem_filter.2 ⟨up_mem h, ?_⟩
  simp; omega
theorem less_none {j : Nat} (h : j < 4096) (ho : ¬ j % 2 = 1) : ∀ z ∈ lessL 4096, z.1 ≠ (j : Int) := by
  intro z hz
  obtain ⟨h1, h2⟩ := List.mem_filter.1 hz
  obtain ⟨i, _, rfl⟩ := List.mem_map.1 h1
  simp at h2 ⊢
  omega
theorem odds (k : Nat) : ∀ n, ((List.range n).filter fun j => decide (j < k) && decide (j % 2 = 1)).length = min n k / 2
  | 0 => by simp
  | n + 1 => by
    rw [List.range_succ, List.filter_append, List.length_append, odds k n]
    by_cases h1 : n < k <;> by_cases h2 : n % 2 = 1 <;> simp [h1, h2] <;> omega
theorem up_length (i : Nat) : (upL i).length = i := by simp [upL]
theorem down_length (i : Nat) : (downL i).length = i := by simp [downL]
theorem less_odds (p : Nat → Bool) : (((lessL 4096).filter fun y => p y.1.toNat)).length = ((List.range 4096).filter fun j => p j && decide (j % 2 = 1)).length := by
  unfold lessL upL
  rw [List.filter_filter, List.filter_map, List.length_map]
  refine congrArg _ (List.filter_congr fun j hj => ?_)
  have := List.mem_range.1 hj
  rw [Bool.eq_iff_iff]
  simp
  omega
theorem less_rank {k : Nat} (h : k ≤ 4096) : rankL (k : Int) (lessL 4096) = k / 2 := by
  have h1 := less_odds fun j => decide (j < k)
  rw [odds k 4096, Nat.min_eq_right h] at h1
  rw [← h1]
  unfold rankL
  refine congrArg _ (List.filter_congr fun z hz => ?_)
  obtain ⟨h1, _⟩ := List.mem_filter.1 hz
  obtain ⟨j, _, rfl⟩ := List.mem_map.1 h1
  simp
theorem less_length : (lessL 4096).length = 2048 := by
  have h1 := less_odds fun j => decide (j < 4096)
  rw [odds 4096 4096] at h1
  rw [List.filter_eq_self.2] at h1
  · exact h1
  · intro z hz
    obtain ⟨h1, _⟩ := List.mem_filter.1 hz
    obtain ⟨j, hj, rfl⟩ := List.mem_map.1 h1
    have := List.mem_range.1 hj
    simp; omega
theorem up_rank {k i : Nat} (h : k ≤ i) : rankL (k : Int) (upL i) = k := by
  have h1 : ∀ n, k ≤ n → ((List.range n).filter fun j => decide (j < k)).length = k := by
    intro n
    induction n with
    | zero => intro h; simp; omega
    | succ n ih =>
      intro h
      rw [List.range_succ, List.filter_append, List.length_append]
      by_cases h2 : k ≤ n
      · rw [ih h2, List.filter_cons_of_neg (by simp; omega)]; simp
      · have h3 : k = n + 1 := by omega
        rw [List.filter_eq_self.2 (fun j hj => ?_), List.filter_cons_of_pos (by simp; omega)]
        · simp; omega
        · have := List.mem_range.1 hj
          simp; omega
  unfold rankL upL
  rw [List.filter_map, List.length_map]
  refine Eq.trans (congrArg _ (List.filter_congr fun j _ => ?_)) (h1 i h)
  simp
theorem cutL_len (f e : Int) : ∀ (l : LL) (i : Nat), ((cutL f e l i).length : Int) = max 0 (min e ((i : Int) + (l.length : Int)) - max f (i : Int))
  | [], i => by simp only [cutL, List.length_nil]; omega
  | y :: l, i => by
    have := cutL_len f e l (i + 1)
    simp only [cutL]
    split <;> simp only [List.length_cons] at * <;> omega
theorem up_between : (cutL 100 200 (upL 4096) 0).length = 100 := by
  have h1 := cutL_len 100 200 (upL 4096) 0
  rw [up_length] at h1
  omega
end Go.V.L5
