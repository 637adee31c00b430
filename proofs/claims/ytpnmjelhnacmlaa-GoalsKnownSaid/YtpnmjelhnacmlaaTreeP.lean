/- Plain laws of trees: sorted lists, balance. -/
import Derived.Test.YtpnmjelhnacmlaaTreeS
namespace Go.V
structure Ordr {K : Type} (c : K → K → Int) : Prop where
  anti : ∀ a b, c a b < 0 ↔ 0 < c b a
  trans : ∀ {a b d}, c a b < 0 → c b d < 0 → c a d < 0
  eql : ∀ {a b} (d), c a b = 0 → (c a d < 0 ↔ c b d < 0)
namespace Ordr
variable {K : Type} {c : K → K → Int}
theorem refl (h : Ordr c) (a : K) : c a a = 0 := by
  have := h.anti a a
  omega
theorem symm (h : Ordr c) {a b : K} (e : c a b = 0) : c b a = 0 := by
  have := h.anti a b
  have := h.anti b a
  omega
theorem eqr (h : Ordr c) {a b : K} (d : K) (e : c a b = 0) : c d a < 0 ↔ c d b < 0 := by
  have h1 := h.eql d e
  have h2 := h.eql d (h.symm e)
  have := h.anti d a
  have := h.anti d b
  have h3 := h.anti a d
  have h4 := h.anti b d
  constructor
  · intro hd
    by_cases hb : c d b < 0
    · exact hb
    · exfalso
      by_cases h0 : c d b = 0
      · have h5 := (h.eql (a := d) (b := b) a h0).1 hd
        have := h.symm e
        omega
      · have h5 : c b d < 0 := by omega
        have := h2.1 (by omega)
        omega
  · intro hd
    by_cases hb : c d a < 0
    · exact hb
    · exfalso
      by_cases h0 : c d a = 0
      · have h5 := (h.eql (a := d) (b := a) b h0).1 hd
        omega
      · have h5 : c a d < 0 := by omega
        have := h1.1 (by omega)
        omega
end Ordr
namespace Tr
variable {K V : Type} (c : K → K → Int)
def Srt (l : List (K × V)) : Prop := l.Pairwise fun x y => c x.1 y.1 < 0
def putS (k : K) (v : V) : List (K × V) → List (K × V)
  | [] => [(k, v)]
  | y :: l => if c k y.1 < 0 then (k, v) :: y :: l else if c k y.1 > 0 then y :: putS k v l else (y.1, v) :: l
def dropS (k : K) : List (K × V) → List (K × V)
  | [] => []
  | y :: l => if c k y.1 < 0 then y :: l else if c k y.1 > 0 then y :: dropS k l else l
def getS (k : K) : List (K × V) → Option V
  | [] => none
  | y :: l => if c k y.1 = 0 then some y.2 else getS k l
def rankS (k : K) (l : List (K × V)) : Nat := (l.filter fun y => c y.1 k < 0).length
def cutI (f e : Int) : List (K × V) → Int → List (K × V)
  | [], _ => []
  | y :: l, i => if f ≤ i ∧ i < e then y :: cutI f e l (i + 1) else cutI f e l (i + 1)
variable {c} (h : Ordr c)
include h
theorem putS_append {k : K} {v : V} : ∀ {l1 l2 : List (K × V)} {y : K × V}, (∀ x ∈ l1, c x.1 y.1 < 0) →
    putS c k v (l1 ++ y :: l2) = if c k y.1 < 0 then putS c k v l1 ++ y :: l2 else if c k y.1 > 0 then l1 ++ y :: putS c k v l2 else l1 ++ (y.1, v) :: l2
  | [], l2, y, _ => by simp only [List.nil_append, putS]; split <;> simp
  | x :: l1, l2, y, hl => by
    have ih := putS_append (k := k) (v := v) (l1 := l1) (l2 := l2) (y := y) fun z hz => hl z (List.mem_cons_of_mem _ hz)
    have hx := hl x (List.mem_cons_self ..)
    simp only [List.cons_append, putS]
    by_cases h1 : c k x.1 < 0
    · have : c k y.1 < 0 := h.trans h1 hx
      rw [if_pos h1, if_pos this, if_pos h1]; rfl
    · rw [if_neg h1]
      by_cases h2 : c k x.1 > 0
      · rw [if_pos h2, ih, if_neg h1, if_pos h2]
        split
        · rfl
        · split <;> rfl
      · have h0 : c k x.1 = 0 := by omega
        have : c k y.1 < 0 := (h.eql _ h0).2 hx
        rw [if_neg h2, if_pos this, if_neg h1, if_neg h2]; rfl
theorem dropS_append {k : K} : ∀ {l1 l2 : List (K × V)} {y : K × V}, (∀ x ∈ l1, c x.1 y.1 < 0) →
    dropS c k (l1 ++ y :: l2) = if c k y.1 < 0 then dropS c k l1 ++ y :: l2 else if c k y.1 > 0 then l1 ++ y :: dropS c k l2 else l1 ++ l2
  | [], l2, y, _ => by simp only [List.nil_append, dropS]
  | x :: l1, l2, y, hl => by
    have ih := dropS_append (k := k) (l1 := l1) (l2 := l2) (y := y) fun z hz => hl z (List.mem_cons_of_mem _ hz)
    have hx := hl x (List.mem_cons_self ..)
    simp only [List.cons_append, dropS]
    by_cases h1 : c k x.1 < 0
    · have : c k y.1 < 0 := h.trans h1 hx
      rw [if_pos h1, if_pos this, if_pos h1]; rfl
    · rw [if_neg h1]
      by_cases h2 : c k x.1 > 0
      · rw [if_pos h2, ih, if_neg h1, if_pos h2]
        split
        · rfl
        · split <;> rfl
      · have h0 : c k x.1 = 0 := by omega
        have : c k y.1 < 0 := (h.eql _ h0).2 hx
        rw [if_neg h2, if_pos this, if_neg h1, if_neg h2]
theorem putS_mem {k : K} {v : V} : ∀ {l : List (K × V)} {z : K × V}, z ∈ putS c k v l → (c k z.1 = 0 ∧ z.2 = v) ∨ z ∈ l
  | [], z, hz => by simp only [putS, List.mem_singleton] at hz; subst hz; exact .inl ⟨h.refl _, rfl⟩
  | y :: l, z, hz => by
    simp only [putS] at hz
    split at hz
    · rcases List.mem_cons.1 hz with rfl | hz
      · exact .inl ⟨h.refl _, rfl⟩
      · exact .inr hz
    · split at hz
      · rcases List.mem_cons.1 hz with rfl | hz
        · exact .inr (List.mem_cons_self ..)
        · rcases putS_mem hz with hz | hz
          · exact .inl hz
          · exact .inr (List.mem_cons_of_mem _ hz)
      · rcases List.mem_cons.1 hz with rfl | hz
        · exact .inl ⟨by dsimp only; omega, rfl⟩
        · exact .inr (List.mem_cons_of_mem _ hz)
theorem srt_putS {k : K} {v : V} : ∀ {l : List (K × V)}, Srt c l → Srt c (putS c k v l)
  | [], _ => by simp [putS, Srt]
  | y :: l, hs => by
    have hs' := List.pairwise_cons.1 hs
    simp only [putS]
    split
    · rename_i h1
      refine List.pairwise_cons.2 ⟨fun z hz => ?_, hs⟩
      rcases List.mem_cons.1 hz with rfl | hz
      · exact h1
      · exact h.trans h1 (hs'.1 z hz)
    · rename_i h1
      split
      · rename_i h2
        refine List.pairwise_cons.2 ⟨fun z hz => ?_, srt_putS hs'.2⟩
        rcases putS_mem h hz with ⟨hz, _⟩ | hz
        · have := (h.anti y.1 k).2 h2
          exact (h.eqr _ hz).1 this
        · exact hs'.1 z hz
      · exact List.pairwise_cons.2 ⟨fun z hz => hs'.1 z hz, hs'.2⟩
omit h in
theorem dropS_sub {k : K} : ∀ (l : List (K × V)), (dropS c k l).Sublist l
  | [] => List.Sublist.refl _
  | y :: l => by
    simp only [dropS]
    split
    · exact List.Sublist.refl _
    · split
      · exact (dropS_sub l).cons_cons _
      · exact List.sublist_cons_self ..
omit h in
theorem srt_dropS {k : K} {l : List (K × V)} (hs : Srt c l) : Srt c (dropS c k l) := List.Pairwise.sublist (dropS_sub l) hs
omit h in
theorem srt_split {l1 l2 : List (K × V)} {y : K × V} (hs : Srt c (l1 ++ y :: l2)) : Srt c l1 ∧ Srt c l2 ∧ (∀ x ∈ l1, c x.1 y.1 < 0) ∧ (∀ x ∈ l2, c y.1 x.1 < 0) := by
  have h1 := List.pairwise_append.1 hs
  have h2 := List.pairwise_cons.1 h1.2.1
  exact ⟨h1.1, h2.2, fun x hx => h1.2.2 x hx y (List.mem_cons_self ..), h2.1⟩
theorem list_put (k : K) (v : V) : ∀ {t : Tr K V}, Srt c (list t) → list (put c k v t) = putS c k v (list t)
  | nil, _ => rfl
  | node nk nv l r, hs => by
    obtain ⟨hl, hr, hx, _⟩ := srt_split (y := (nk, nv)) hs
    simp only [list, put]
    rw [putS_append h hx]
    split
    · rw [list_bal, list_put k v hl]
    · split
      · rw [list_bal, list_put k v hr]
      · rfl
theorem list_drop (k : K) : ∀ {t : Tr K V}, Srt c (list t) → list (if (drop c k t).2 = true then (drop c k t).1 else t) = dropS c k (list t) ∧ ((drop c k t).2 = false → (drop c k t).1 = t ∨ list (drop c k t).1 = list t) ∧ ((drop c k t).2 = true → list (drop c k t).1 = dropS c k (list t)) ∧ ((drop c k t).2 = false → dropS c k (list t) = list t)
  | nil, _ => ⟨rfl, fun _ => .inl rfl, fun h => (by cases h), fun _ => rfl⟩
  | node nk nv l r, hs => by
    obtain ⟨hl, hr, hx, _⟩ := srt_split (y := (nk, nv)) hs
    have il := list_drop k hl
    have ir := list_drop k hr
    have key : ((drop c k (node nk nv l r)).2 = true → list (drop c k (node nk nv l r)).1 = dropS c k (list (node nk nv l r))) ∧ ((drop c k (node nk nv l r)).2 = false → dropS c k (list (node nk nv l r)) = list (node nk nv l r) ∧ list (drop c k (node nk nv l r)).1 = list (node nk nv l r)) := by
      simp only [list, drop]
      rw [dropS_append h hx]
      split
      · refine ⟨fun ht => ?_, fun hf => ?_⟩
        · dsimp only at ht ⊢; rw [list_bal, il.2.2.1 ht]
        · dsimp only at hf ⊢
          have e := il.2.2.2 hf
          refine ⟨by rw [e], ?_⟩
          rw [list_bal]
          rcases il.2.1 hf with e1 | e1 <;> rw [e1]
      · split
        · refine ⟨fun ht => ?_, fun hf => ?_⟩
          · dsimp only at ht ⊢; rw [list_bal, ir.2.2.1 ht]
          · dsimp only at hf ⊢
            have e := ir.2.2.2 hf
            refine ⟨by rw [e], ?_⟩
            rw [list_bal]
            rcases ir.2.1 hf with e1 | e1 <;> rw [e1]
        · cases r with
          | nil => exact ⟨fun _ => by simp [list], fun hf => by cases hf⟩
          | node rk rv rl rr =>
            refine ⟨fun _ => ?_, fun hf => by cases hf⟩
            dsimp only
            rw [list_bal]
            have := list_first rk rv rl rr
            rw [show ((first rk rv rl rr).1.1, (first rk rv rl rr).1.2) = (first rk rv rl rr).1 from rfl, this]
            rfl
    refine ⟨?_, fun hf => .inr (key.2 hf).2, key.1, fun hf => (key.2 hf).1⟩
    split
    · rename_i ht; exact key.1 ht
    · rename_i ht
      have hf : (drop c k (node nk nv l r)).2 = false := by simpa using ht
      exact (key.2 hf).1.symm
theorem getS_append {k : K} : ∀ {l1 l2 : List (K × V)} {y : K × V}, (∀ x ∈ l1, c x.1 y.1 < 0) → (∀ x ∈ l2, c y.1 x.1 < 0) →
    getS c k (l1 ++ y :: l2) = if c k y.1 = 0 then some y.2 else if c k y.1 < 0 then getS c k l1 else getS c k l2
  | [], l2, y, _, h2 => by
    simp only [List.nil_append, getS]
    split
    · rfl
    · split
      · rename_i h1
        have : ∀ (l : List (K × V)), (∀ x ∈ l, c y.1 x.1 < 0) → getS c k l = none := by
          intro l
          induction l with
          | nil => intro _; rfl
          | cons z l ih =>
            intro hz
            have := h.trans h1 (hz z (List.mem_cons_self ..))
            simp only [getS]
            rw [if_neg (by omega)]
            exact ih fun x hx => hz x (List.mem_cons_of_mem _ hx)
        exact this l2 h2
      · rfl
  | x :: l1, l2, y, hl, h2 => by
    have ih := getS_append (k := k) (l1 := l1) (l2 := l2) (y := y) (fun z hz => hl z (List.mem_cons_of_mem _ hz)) h2
    have hx := hl x (List.mem_cons_self ..)
    simp only [List.cons_append, getS]
    by_cases h0 : c k x.1 = 0
    · have : c k y.1 < 0 := (h.eql _ h0).2 hx
      rw [if_pos h0, if_neg (by omega), if_pos this, if_pos h0]
    · rw [if_neg h0, ih, if_neg h0]
theorem get_list (k : K) : ∀ {t : Tr K V}, Srt c (list t) → get c k t = getS c k (list t)
  | nil, _ => rfl
  | node nk nv l r, hs => by
    obtain ⟨hl, hr, hx, hy⟩ := srt_split (y := (nk, nv)) hs
    simp only [list, get]
    rw [getS_append h hx hy, get_list k hl, get_list k hr]
theorem rank_list (k : K) : ∀ {t : Tr K V}, Srt c (list t) → rank c k t = rankS c k (list t)
  | nil, _ => rfl
  | node nk nv l r, hs => by
    obtain ⟨hl, hr, hx, hy⟩ := srt_split (y := (nk, nv)) hs
    simp only [list, rank, rankS, List.filter_append, List.length_append, List.filter_cons]
    split
    · rename_i h1
      have : (list l).filter (fun y => decide (c y.1 k < 0)) = list l := List.filter_eq_self.2 fun x hx' => by simpa using h.trans (hx x hx') h1
      rw [this, size_list, if_pos (by simpa using h1), rank_list k hr]
      simp only [rankS, List.length_cons]
      omega
    · rename_i h1
      have : (list r).filter (fun y => decide (c y.1 k < 0)) = [] := List.filter_eq_nil_iff.2 fun x hx' => by
        have h2 := hy x hx'
        simp only [decide_eq_true_eq]
        intro h3
        exact h1 (h.trans h2 h3)
      rw [this, if_neg (by simpa using h1), rank_list k hl]
      simp [rankS]
omit h
theorem at_list : ∀ (t : Tr K V) (i : Nat), at' t i = (list t)[i]?
  | nil, i => by simp [at', list]
  | node nk nv l r, i => by
    simp only [at', list]
    split
    · rename_i h1
      rw [at_list l, List.getElem?_append_left (by rw [size_list]; exact h1)]
    · rw [List.getElem?_append_right (by rw [size_list]; omega), size_list]
      split
      · rename_i h1 h2
        rw [at_list r]
        rw [show i - size l = (i - (size l + 1)) + 1 by omega, List.getElem?_cons_succ]
      · rename_i h1 h2
        rw [show i - size l = 0 by omega]; rfl
theorem cutI_append (f e : Int) : ∀ (l1 l2 : List (K × V)) (i : Int), cutI f e (l1 ++ l2) i = cutI f e l1 i ++ cutI f e l2 (i + l1.length)
  | [], l2, i => by simp [cutI]
  | y :: l1, l2, i => by
    simp only [List.cons_append, cutI, cutI_append f e l1 l2 (i + 1), List.length_cons]
    rw [show i + 1 + (l1.length : Int) = i + ((l1.length + 1 : Nat) : Int) by omega]
    split <;> rfl
theorem cutI_out (f e : Int) : ∀ (l : List (K × V)) (i : Int), i + l.length ≤ f ∨ i ≥ e → cutI f e l i = []
  | [], _, _ => rfl
  | y :: l, i, h => by
    simp only [List.length_cons] at h
    simp only [cutI]
    rw [if_neg (by omega), cutI_out f e l (i + 1) (by omega)]
theorem prs_list : ∀ (t : Tr K V) (a f e : Int), prs t a f e = cutI f e (list t) a
  | nil, _, _, _ => rfl
  | node nk nv l r, a, f, e => by
    simp only [prs]
    split
    · rename_i h1
      rw [cutI_out]
      rw [size_list]; exact h1
    · simp only [list]
      rw [cutI_append, prs_list l, prs_list r, size_list]
      simp only [cutI]
      split
      · rename_i h2
        rfl
      · rename_i h2
        rfl
theorem cutI_clip {f e f' e' : Int} : ∀ (l : List (K × V)) (i : Int), (∀ j, i ≤ j → j < i + l.length → ((f ≤ j ∧ j < e) ↔ (f' ≤ j ∧ j < e'))) → cutI f e l i = cutI f' e' l i
  | [], _, _ => rfl
  | y :: l, i, h => by
    simp only [List.length_cons] at h
    simp only [cutI]
    rw [cutI_clip l (i + 1) fun j h1 h2 => h j (by omega) (by omega)]
    have := h i (by omega) (by omega)
    split <;> split <;> first | rfl | (exfalso; omega)
theorem cutI_all (l : List (K × V)) (i : Int) {f e : Int} (hf : f ≤ i) (he : i + l.length ≤ e) : cutI f e l i = l := by
  induction l generalizing i with
  | nil => rfl
  | cons y l ih =>
    simp only [List.length_cons] at he
    simp only [cutI]
    rw [if_pos (by omega), ih (i + 1) (by omega) (by omega)]

/-! ### balance -/
def Bal : Tr K V → Prop
  | nil => True
  | node _ _ l r => Bal l ∧ Bal r ∧ deep l ≤ deep r + 1 ∧ deep r ≤ deep l + 1
theorem bal_bal {k : K} {v : V} {l r : Tr K V} (hl : Bal l) (hr : Bal r) (h1 : deep l ≤ deep r + 2) (h2 : deep r ≤ deep l + 2) : Bal (bal k v l r) ∧ max (deep l) (deep r) ≤ deep (bal k v l r) ∧ deep (bal k v l r) ≤ 1 + max (deep l) (deep r) ∧ (deep l ≤ deep r + 1 → deep r ≤ deep l + 1 → deep (bal k v l r) = 1 + max (deep l) (deep r)) := by
  unfold bal
  split
  · rename_i h3
    cases l with
    | nil => simp [deep] at h3
    | node lk lv ll lr =>
      simp only [Bal, deep] at hl h1 h2 h3 ⊢
      split
      · simp only [Bal, deep]
        refine ⟨⟨hl.1, ⟨hl.2.1, hr, by omega, by omega⟩, by omega, by omega⟩, by omega, by omega, by omega⟩
      · rename_i h4
        cases lr with
        | nil => simp [deep] at h4
        | node mk mv ml mr =>
          simp only [Bal, deep] at hl h1 h2 h3 h4 ⊢
          refine ⟨⟨⟨hl.1, hl.2.1.1, by omega, by omega⟩, ⟨hl.2.1.2.1, hr, by omega, by omega⟩, by omega, by omega⟩, by omega, by omega, by omega⟩
  · split
    · rename_i h5 h3
      cases r with
      | nil => simp [deep] at h3
      | node rk rv rl rr =>
        simp only [Bal, deep] at hr h1 h2 h3 ⊢
        split
        · simp only [Bal, deep]
          refine ⟨⟨⟨hl, hr.1, by omega, by omega⟩, hr.2.1, by omega, by omega⟩, by omega, by omega, by omega⟩
        · rename_i h4
          cases rl with
          | nil => simp [deep] at h4
          | node mk mv ml mr =>
            simp only [Bal, deep] at hr h1 h2 h3 h4 ⊢
            refine ⟨⟨⟨hl, hr.1.1, by omega, by omega⟩, ⟨hr.1.2.1, hr.2.1, by omega, by omega⟩, by omega, by omega⟩, by omega, by omega, by omega⟩
    · simp only [Bal, deep]
      exact ⟨⟨hl, hr, by omega, by omega⟩, by omega, by omega, fun _ _ => trivial⟩
theorem bal_put (k : K) (v : V) : ∀ {t : Tr K V}, Bal t → Bal (put c k v t) ∧ deep t ≤ deep (put c k v t) ∧ deep (put c k v t) ≤ deep t + 1
  | nil, _ => by simp [put, Bal, deep]
  | node nk nv l r, hb => by
    obtain ⟨hl, hr, h1, h2⟩ := hb
    have il := bal_put k v hl
    have ir := bal_put k v hr
    simp only [put]
    split
    · have := bal_bal (k := nk) (v := nv) il.1 hr (by omega) (by omega)
      simp only [deep]
      refine ⟨this.1, ?_, ?_⟩
      · by_cases h3 : deep (put c k v l) ≤ deep r + 1
        · rw [this.2.2.2 h3 (by omega)]; omega
        · omega
      · omega
    · split
      · have := bal_bal (k := nk) (v := nv) hl ir.1 (by omega) (by omega)
        simp only [deep]
        refine ⟨this.1, ?_, ?_⟩
        · by_cases h3 : deep (put c k v r) ≤ deep l + 1
          · rw [this.2.2.2 (by omega) h3]; omega
          · omega
        · omega
      · simp only [Bal, deep]
        exact ⟨⟨hl, hr, h1, h2⟩, by omega, by omega⟩
theorem bal_first : ∀ (k : K) (v : V) (l r : Tr K V), Bal (node k v l r) → Bal (first k v l r).2 ∧ deep (first k v l r).2 ≤ deep (node k v l r) ∧ deep (node k v l r) ≤ deep (first k v l r).2 + 1
  | k, v, nil, r, hb => by
    obtain ⟨_, hr, _, h2⟩ := hb
    simp only [first, deep] at *
    exact ⟨hr, by omega, by omega⟩
  | k, v, node lk lv ll lr, r, hb => by
    obtain ⟨hl, hr, h1, h2⟩ := hb
    have il := bal_first lk lv ll lr hl
    have hd : deep (node k v (node lk lv ll lr) r) = 1 + max (deep (node lk lv ll lr)) (deep r) := rfl
    simp only [first]
    rw [hd]
    have := bal_bal (k := k) (v := v) il.1 hr (by omega) (by omega)
    refine ⟨this.1, by omega, ?_⟩
    by_cases h3 : deep r ≤ deep (first lk lv ll lr).2 + 1
    · rw [this.2.2.2 (by omega) h3]; omega
    · omega
theorem bal_drop (k : K) : ∀ {t : Tr K V}, Bal t → Bal (drop c k t).1 ∧ deep (drop c k t).1 ≤ deep t ∧ deep t ≤ deep (drop c k t).1 + 1
  | nil, _ => by simp [drop, Bal, deep]
  | node nk nv l r, hb => by
    obtain ⟨hl, hr, h1, h2⟩ := hb
    have il := bal_drop k hl
    have ir := bal_drop k hr
    have hd : deep (node nk nv l r) = 1 + max (deep l) (deep r) := rfl
    rw [hd]
    simp only [drop]
    split
    · have := bal_bal (k := nk) (v := nv) il.1 hr (by omega) (by omega)
      refine ⟨this.1, by dsimp only; omega, ?_⟩
      dsimp only
      by_cases h3 : deep r ≤ deep (drop c k l).1 + 1
      · rw [this.2.2.2 (by omega) h3]; omega
      · omega
    · split
      · have := bal_bal (k := nk) (v := nv) hl ir.1 (by omega) (by omega)
        refine ⟨this.1, by dsimp only; omega, ?_⟩
        dsimp only
        by_cases h3 : deep l ≤ deep (drop c k r).1 + 1
        · rw [this.2.2.2 h3 (by omega)]; omega
        · omega
      · cases r with
        | nil => simp only [deep] at h1 ⊢; exact ⟨hl, by omega, by omega⟩
        | node rk rv rl rr =>
          have iff' := bal_first rk rv rl rr hr
          have := bal_bal (k := (first rk rv rl rr).1.1) (v := (first rk rv rl rr).1.2) hl iff'.1 (by omega) (by omega)
          refine ⟨this.1, by dsimp only; omega, ?_⟩
          dsimp only
          by_cases h3 : deep l ≤ deep (first rk rv rl rr).2 + 1
          · rw [this.2.2.2 h3 (by omega)]; omega
          · omega
def lst : Nat → Nat
  | 0 => 0
  | 1 => 1
  | n + 2 => lst (n + 1) + lst n + 1
theorem lst_step : ∀ n, lst n ≤ lst (n + 1)
  | 0 => Nat.zero_le _
  | 1 => by simp [lst]
  | n + 2 => by
    have h1 : lst (n + 1) ≤ lst (n + 2) := lst_step (n + 1)
    show lst (n + 1) + lst n + 1 ≤ lst (n + 2) + lst (n + 1) + 1
    have h2 := lst_step n
    omega
theorem lst_mono {m n : Nat} (h : m ≤ n) : lst m ≤ lst n := by
  induction n with
  | zero => obtain rfl : m = 0 := by omega
            exact Nat.le_refl _
  | succ n ih =>
    by_cases he : m = n + 1
    · subst he; exact Nat.le_refl _
    · exact Nat.le_trans (ih (by omega)) (lst_step n)
theorem lst_node (a b : Nat) (h1 : a ≤ b + 1) (h2 : b ≤ a + 1) : lst (1 + max a b) ≤ lst a + 1 + lst b := by
  by_cases h : a ≤ b
  · rw [Nat.max_eq_right h]
    cases b with
    | zero => obtain rfl : a = 0 := by omega
              simp [lst]
    | succ b =>
      rw [show 1 + (b + 1) = b + 2 by omega]
      show lst (b + 1) + lst b + 1 ≤ _
      have := lst_mono (show b ≤ a by omega)
      omega
  · rw [Nat.max_eq_left (by omega)]
    cases a with
    | zero => omega
    | succ a =>
      rw [show 1 + (a + 1) = a + 2 by omega]
      show lst (a + 1) + lst a + 1 ≤ _
      have := lst_mono (show a ≤ b by omega)
      omega
theorem bal_lst : ∀ {t : Tr K V}, Bal t → lst (deep t) ≤ size t
  | nil, _ => Nat.le_refl _
  | node nk nv l r, hb => by
    obtain ⟨hl, hr, h1, h2⟩ := hb
    have il := bal_lst hl
    have ir := bal_lst hr
    have := lst_node _ _ h1 h2
    simp only [deep, size]
    omega
end Tr
end Go.V
