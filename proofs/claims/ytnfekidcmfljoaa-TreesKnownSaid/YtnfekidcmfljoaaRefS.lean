/- Lists of pairs of numbers: what the definition says. -/
import Derived.Test.YtnfekidcmfljoaaTreeRII
namespace Go.V.R5
open Go.V
abbrev LL := List (Int × Int)
def putL (k v : Int) : Bool → LL → LL
  | p, [] => if p = true then [] else [(k, v)]
  | p, y :: l => if y.1 = k then (k, v) :: putL k v true l else if p = false ∧ y.1 > k then (k, v) :: y :: putL k v true l else y :: putL k v p l
def dropL (k : Int) (l : LL) : LL := l.filter fun y => y.1 ≠ k
def getL (k : Int) : LL → Nat → Int
  | [], _ => -1
  | y :: l, i => if y.1 = k then i else getL k l (i + 1)
def rankL (k : Int) (l : LL) : Nat := (l.filter fun y => y.1 < k).length
def cutL (f e : Int) : LL → Nat → LL
  | [], _ => []
  | y :: l, i => if f ≤ (i : Int) ∧ (i : Int) < e then y :: cutL f e l (i + 1) else cutL f e l (i + 1)
def leastL : Nat → Int
  | 0 => 0
  | 1 => 1
  | n + 2 => leastL (n + 1) + leastL n + 1
theorem flat_snoc (l : LL) (y : Int × Int) : II.flat (l ++ [y]) = II.flat l ++ [.int .i64 y.1, .int .i64 y.2] := by simp [II.flat]
theorem flat_at : ∀ (l : LL) (i : Nat) (y : Int × Int), l[i]? = some y → ((II.flat l).drop (i * 2)).take 2 = [.int .i64 y.1, .int .i64 y.2]
  | [], _, _, h => by simp at h
  | z :: l, 0, y, h => by simp at h; subst h; simp [II.flat]
  | z :: l, i + 1, y, h => by
    simp only [List.getElem?_cons_succ] at h
    have := flat_at l i y h
    rw [← this]
    have e : (i + 1) * 2 = 2 + i * 2 := by omega
    rw [e, ← List.drop_drop]
    simp [II.flat]
theorem drop_at {l : LL} {i : Nat} {y : Int × Int} (h : l[i]? = some y) : l.drop i = y :: l.drop (i + 1) := by
  have hi : i < l.length := by
    rcases Nat.lt_or_ge i l.length with h' | h'
    · exact h'
    · rw [List.getElem?_eq_none h'] at h; cases h
  rw [List.drop_eq_getElem_cons hi]
  rw [List.getElem?_eq_getElem hi] at h
  cases h; rfl
theorem putL_length (k v : Int) : ∀ (l : LL) (p : Bool), (putL k v p l).length ≤ l.length + 1
  | [], p => by unfold putL; split <;> simp
  | y :: l, p => by
    have h1 := putL_length k v l true
    have h2 := putL_length k v l p
    have h3 : (putL k v true l).length ≤ l.length + 1 := h1
    unfold putL
    split
    · simp only [List.length_cons]; omega
    · split
      · have : ∀ (l : LL), (putL k v true l).length = l.length := by
          intro l
          induction l with
          | nil => rfl
          | cons z l ih => unfold putL; split <;> simp [ih]
        simp only [List.length_cons, this]
        omega
      · simp only [List.length_cons]; omega
end Go.V.R5
