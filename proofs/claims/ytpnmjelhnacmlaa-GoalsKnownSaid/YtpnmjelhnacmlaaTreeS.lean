/- Trees as plain data: what the code computes; how a tree lies in memory. -/
import Derived.Test.YtpnmjelhnacmlaaKitQ
namespace Go.V
inductive Tr (K V : Type) where
  | nil
  | node (k : K) (v : V) (l r : Tr K V)
namespace Tr
variable {K V : Type}
def size : Tr K V → Nat
  | nil => 0
  | node _ _ l r => size l + 1 + size r
def deep : Tr K V → Nat
  | nil => 0
  | node _ _ l r => 1 + max (deep l) (deep r)
theorem deep_le : ∀ t : Tr K V, deep t ≤ size t
  | nil => Nat.le_refl _
  | node _ _ l r => by have := deep_le l; have := deep_le r; simp only [deep, size]; omega
def bal (k : K) (v : V) (l r : Tr K V) : Tr K V :=
  if deep l > deep r + 1 then
    match l with
    | nil => nil
    | node lk lv ll lr =>
      if deep ll ≥ deep lr then node lk lv ll (node k v lr r)
      else match lr with
        | nil => nil
        | node mk mv ml mr => node mk mv (node lk lv ll ml) (node k v mr r)
  else if deep r > deep l + 1 then
    match r with
    | nil => nil
    | node rk rv rl rr =>
      if deep rr ≥ deep rl then node rk rv (node k v l rl) rr
      else match rl with
        | nil => nil
        | node mk mv ml mr => node mk mv (node k v l ml) (node rk rv mr rr)
  else node k v l r
def put (c : K → K → Int) (k : K) (v : V) : Tr K V → Tr K V
  | nil => node k v nil nil
  | node nk nv l r => if c k nk < 0 then bal nk nv (put c k v l) r else if c k nk > 0 then bal nk nv l (put c k v r) else node nk v l r
def first : K → V → Tr K V → Tr K V → (K × V) × Tr K V
  | k, v, nil, r => ((k, v), r)
  | k, v, node lk lv ll lr, r => ((first lk lv ll lr).1, bal k v (first lk lv ll lr).2 r)
def drop (c : K → K → Int) (k : K) : Tr K V → Tr K V × Bool
  | nil => (nil, false)
  | node nk nv l r => if c k nk < 0 then (bal nk nv (drop c k l).1 r, (drop c k l).2) else if c k nk > 0 then (bal nk nv l (drop c k r).1, (drop c k r).2)
    else match r with
      | nil => (l, true)
      | node rk rv rl rr => (bal (first rk rv rl rr).1.1 (first rk rv rl rr).1.2 l (first rk rv rl rr).2, true)
def get (c : K → K → Int) (k : K) : Tr K V → Option V
  | nil => none
  | node nk nv l r => if c k nk = 0 then some nv else if c k nk < 0 then get c k l else get c k r
def rank (c : K → K → Int) (k : K) : Tr K V → Nat
  | nil => 0
  | node nk _ l r => if c nk k < 0 then size l + 1 + rank c k r else rank c k l
def at' : Tr K V → Nat → Option (K × V)
  | nil, _ => none
  | node k v l r, i => if i < size l then at' l i else if i > size l then at' r (i - (size l + 1)) else some (k, v)
def list : Tr K V → List (K × V)
  | nil => []
  | node k v l r => list l ++ (k, v) :: list r
def prs : Tr K V → Int → Int → Int → List (K × V)
  | nil, _, _, _ => []
  | node k v l r, a, f, t => if a + (size (node k v l r) : Int) ≤ f ∨ a ≥ t then [] else
      prs l a f t ++ ((if a + (size l : Int) ≥ f ∧ a + (size l : Int) < t then [(k, v)] else []) ++ prs r (a + size l + 1) f t)
theorem get_eq {c : K → K → Int} {k nk : K} {nv : V} {l r : Tr K V} (h : c k nk = 0) : get c k (node nk nv l r) = some nv := if_pos h
theorem get_lt {c : K → K → Int} {k nk : K} {nv : V} {l r : Tr K V} (h : c k nk < 0) : get c k (node nk nv l r) = get c k l := (if_neg (by omega)).trans (if_pos h)
theorem get_gt {c : K → K → Int} {k nk : K} {nv : V} {l r : Tr K V} (h0 : ¬ c k nk = 0) (h : ¬ c k nk < 0) : get c k (node nk nv l r) = get c k r := (if_neg h0).trans (if_neg h)
theorem rank_lt {c : K → K → Int} {k nk : K} {nv : V} {l r : Tr K V} (h : c nk k < 0) : rank c k (node nk nv l r) = size l + 1 + rank c k r := if_pos h
theorem rank_ge {c : K → K → Int} {k nk : K} {nv : V} {l r : Tr K V} (h : ¬ c nk k < 0) : rank c k (node nk nv l r) = rank c k l := if_neg h
theorem at_lt {k : K} {v : V} {l r : Tr K V} {i : Nat} (h : i < size l) : at' (node k v l r) i = at' l i := if_pos h
theorem at_gt {k : K} {v : V} {l r : Tr K V} {i : Nat} (h : i > size l) : at' (node k v l r) i = at' r (i - (size l + 1)) := (if_neg (by omega)).trans (if_pos h)
theorem at_eq {k : K} {v : V} {l r : Tr K V} {i : Nat} (h : i = size l) : at' (node k v l r) i = some (k, v) := (if_neg (by omega)).trans (if_neg (by omega))
theorem size_list : ∀ t : Tr K V, (list t).length = size t
  | nil => rfl
  | node _ _ l r => by simp only [list, List.length_append, List.length_cons, size_list l, size_list r, size]; omega
theorem size_node (k : K) (v : V) (l r : Tr K V) : size (node k v l r) = size l + 1 + size r := rfl
theorem deep_node (k : K) (v : V) (l r : Tr K V) : deep (node k v l r) = 1 + max (deep l) (deep r) := rfl
theorem list_bal (k : K) (v : V) (l r : Tr K V) : list (bal k v l r) = list l ++ (k, v) :: list r := by
  unfold bal
  split
  · rename_i h
    cases l with
    | nil => simp [deep] at h
    | node lk lv ll lr =>
      dsimp only
      split
      · simp [list]
      · rename_i h2
        cases lr with
        | nil => simp [deep] at h2
        | node mk mv ml mr => simp [list]
  · split
    · rename_i h
      cases r with
      | nil => simp [deep] at h
      | node rk rv rl rr =>
        dsimp only
        split
        · simp [list]
        · rename_i h2
          cases rl with
          | nil => simp [deep] at h2
          | node mk mv ml mr => simp [list]
    · simp [list]
theorem size_bal (k : K) (v : V) (l r : Tr K V) : size (bal k v l r) = size l + 1 + size r := by
  rw [← size_list, list_bal, List.length_append, List.length_cons, size_list, size_list]; omega
theorem list_first : ∀ (k : K) (v : V) (l r : Tr K V), (first k v l r).1 :: list (first k v l r).2 = list l ++ (k, v) :: list r
  | k, v, nil, r => rfl
  | k, v, node lk lv ll lr, r => by
    simp only [first, list_bal, list]
    rw [← List.cons_append, list_first lk lv ll lr]
theorem size_first (k : K) (v : V) (l r : Tr K V) : size (first k v l r).2 = size l + size r := by
  have := congrArg List.length (list_first k v l r)
  simp only [List.length_cons, List.length_append, size_list] at this
  omega
theorem size_put (c : K → K → Int) (k : K) (v : V) : ∀ t : Tr K V, size (put c k v t) ≤ size t + 1
  | nil => by simp [put, size]
  | node nk nv l r => by
    have := size_put c k v l
    have := size_put c k v r
    simp only [put]
    split
    · rw [size_bal, size_node]; omega
    · split
      · rw [size_bal, size_node]; omega
      · rw [size_node, size_node]; omega
theorem size_drop (c : K → K → Int) (k : K) : ∀ t : Tr K V, size (drop c k t).1 ≤ size t
  | nil => Nat.le_refl _
  | node nk nv l r => by
    have := size_drop c k l
    have := size_drop c k r
    simp only [drop]
    split
    · rw [size_bal, size_node]; omega
    · split
      · rw [size_bal, size_node]; omega
      · cases r with
        | nil => simp only [size]; omega
        | node rk rv rl rr => rw [size_bal, size_first, size_node, size_node]; omega
theorem prs_length_le : ∀ (t : Tr K V) (a f e : Int), (prs t a f e).length ≤ size t
  | nil, _, _, _ => Nat.le_refl _
  | node k v l r, a, f, e => by
    have := prs_length_le l a f e
    have := prs_length_le r (a + size l + 1) f e
    simp only [prs]
    split
    · exact Nat.zero_le _
    · simp only [List.length_append, size_node]
      split
      · simp only [List.length_cons, List.length_nil]; omega
      · simp only [List.length_nil]; omega
/-- A tree in memory. -/
def TreeAt (nl : K → V → Value → Value → Int → Int → List Value) (ty : TypeId) : Tr K V → Value → Heap → Prop
  | nil, v, _ => v = .pointer none
  | node k x l r, v, H => ∃ b lv rv, v = .pointer (some ⟨b, 0, none⟩) ∧ H b = some (.cells (nl k x lv rv (size (node k x l r)) (deep (node k x l r))).toArray ty) ∧ TreeAt nl ty l lv H ∧ TreeAt nl ty r rv H
theorem TreeAt.mono {nl : K → V → Value → Value → Int → Int → List Value} {ty : TypeId} : ∀ {t : Tr K V}, Kn.mono (.sat (TreeAt nl ty t))
  | nil, _, _, _, h, _ => h
  | node k x l r, _, _, _, ⟨b, lv, rv, h1, h2, h3, h4⟩, hle => ⟨b, lv, rv, h1, hle _ _ h2, TreeAt.mono _ _ _ h3 hle, TreeAt.mono _ _ _ h4 hle⟩
theorem TreeAt.le {nl : K → V → Value → Value → Int → Int → List Value} {ty : TypeId} {t : Tr K V} {v : Value} {H H' : Heap} (h : TreeAt nl ty t v H) (hle : H.Le H') : TreeAt nl ty t v H' := TreeAt.mono _ _ _ h hle
end Tr
end Go.V
