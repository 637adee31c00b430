/- Sorted lists of what has a total order: plain laws. -/
import Derived.Test.YtpnmjelhnacmlaaNamI
namespace Go.V
open Go.Proofs Go.RowKit
section
variable {α : Type} {c : α → α → Int}
theorem Ord3.irr (h : Ord3 c) (a : α) : ¬ c a a < 0 := by rw [h.refl]; decide
theorem Ord3.asym (h : Ord3 c) {a b : α} (h1 : c a b < 0) : ¬ c b a < 0 := by have := h.anti a b; omega
theorem Ord3.tr (h : Ord3 c) {a b d : α} (h1 : c a b < 0) (h2 : c b d < 0) : c a d < 0 := by
  have h3 := h.trans a b d (by omega) (by omega)
  by_cases h4 : c a d = 0
  · have := h.lt_of (a := a) (b := b) (d := d) (by omega) (by omega) h4; omega
  · omega
theorem Ord3.ne (h : Ord3 c) {a b : α} (h1 : c a b < 0) : a ≠ b := fun e => by subst e; exact h.irr a h1
theorem Ord3.tri (h : Ord3 c) {a b : α} (h1 : ¬ c a b < 0) (h2 : a ≠ b) : c b a < 0 := by
  have := h.anti a b
  have h3 : c a b ≠ 0 := fun e => h2 (h.eq _ _ e)
  omega
/-- Strictly sorted. -/
def Sst (c : α → α → Int) (l : List α) : Prop := l.Pairwise fun x y => c x y < 0
theorem Sst.nil : Sst c [] := List.Pairwise.nil
theorem Sst.nodup (h : Ord3 c) {l : List α} (hs : Sst c l) : l.Nodup := hs.imp fun h1 => h.ne h1
theorem sst_ext (h : Ord3 c) : ∀ {l m : List α}, Sst c l → Sst c m → (∀ z, z ∈ l ↔ z ∈ m) → l = m
  | [], [], _, _, _ => rfl
  | [], y :: m, _, _, e => by have := (e y).2 (List.mem_cons_self ..); cases this
  | y :: l, [], _, _, e => by have := (e y).1 (List.mem_cons_self ..); cases this
  | y :: l, x :: m, hl, hm, e => by
    have h1 := List.pairwise_cons.1 hl
    have h2 := List.pairwise_cons.1 hm
    have exy : y = x := by
      rcases List.mem_cons.1 ((e y).1 (List.mem_cons_self ..)) with e1 | e1
      · exact e1
      · rcases List.mem_cons.1 ((e x).2 (List.mem_cons_self ..)) with e2 | e2
        · exact e2.symm
        · exact absurd (h1.1 x e2) (h.asym (h2.1 y e1))
    subst exy
    congr 1
    refine sst_ext h h1.2 h2.2 fun z => ?_
    constructor
    · intro hz
      rcases List.mem_cons.1 ((e z).1 (List.mem_cons_of_mem _ hz)) with e1 | e1
      · subst e1; exact absurd (h1.1 _ hz) (h.irr _)
      · exact e1
    · intro hz
      rcases List.mem_cons.1 ((e z).2 (List.mem_cons_of_mem _ hz)) with e1 | e1
      · subst e1; exact absurd (h2.1 _ hz) (h.irr _)
      · exact e1
/-- Put in ahead of the first greater one. -/
def insS (c : α → α → Int) (t : α) : List α → List α
  | [] => [t]
  | y :: l => if c t y < 0 then t :: y :: l else y :: insS c t l
theorem mem_insS {t z : α} : ∀ {l : List α}, z ∈ insS c t l ↔ z = t ∨ z ∈ l
  | [] => by simp [insS]
  | y :: l => by
    simp only [insS]
    split
    · simp
    · rw [List.mem_cons, mem_insS, List.mem_cons]
      constructor
      · rintro (e | e | e)
        · exact .inr (.inl e)
        · exact .inl e
        · exact .inr (.inr e)
      · rintro (e | e | e)
        · exact .inr (.inl e)
        · exact .inl e
        · exact .inr (.inr e)
theorem insS_length (t : α) : ∀ (l : List α), (insS c t l).length = l.length + 1
  | [] => rfl
  | y :: l => by
    simp only [insS]
    split
    · rfl
    · simp only [List.length_cons, insS_length t l]
theorem sst_insS (h : Ord3 c) {t : α} : ∀ {l : List α}, Sst c l → t ∉ l → Sst c (insS c t l)
  | [], _, _ => List.pairwise_singleton ..
  | y :: l, hs, ht => by
    have h1 := List.pairwise_cons.1 hs
    simp only [insS]
    split
    · rename_i hlt
      refine List.pairwise_cons.2 ⟨fun z hz => ?_, hs⟩
      rcases List.mem_cons.1 hz with rfl | hz
      · exact hlt
      · exact h.tr hlt (h1.1 z hz)
    · rename_i hlt
      refine List.pairwise_cons.2 ⟨fun z hz => ?_, sst_insS h h1.2 fun e => ht (List.mem_cons_of_mem _ e)⟩
      rcases mem_insS.1 hz with rfl | hz
      · exact h.tri hlt fun e => ht (by rw [e]; exact List.mem_cons_self ..)
      · exact h1.1 z hz
/-- Two sorted lists are merged; f tells which ones are taken. -/
def mrgS (c : α → α → Int) (f : Bool → Bool → Bool) : Nat → List α → List α → List α
  | 0, _, _ => []
  | n + 1, [], [] => []
  | n + 1, a :: l, [] => (if f true false = true then [a] else []) ++ mrgS c f n l []
  | n + 1, [], b :: m => (if f false true = true then [b] else []) ++ mrgS c f n [] m
  | n + 1, a :: l, b :: m =>
    if c a b < 0 then (if f true false = true then [a] else []) ++ mrgS c f n l (b :: m)
    else if c a b > 0 then (if f false true = true then [b] else []) ++ mrgS c f n (a :: l) m
    else (if f true true = true then [a] else []) ++ mrgS c f n l m
/-- Which ones are taken. -/
def Tk (f : Bool → Bool → Bool) (l m : List α) (z : α) : Prop := (z ∈ l ∧ z ∉ m ∧ f true false = true) ∨ (z ∉ l ∧ z ∈ m ∧ f false true = true) ∨ (z ∈ l ∧ z ∈ m ∧ f true true = true)
theorem mem_mrgS (h : Ord3 c) (f : Bool → Bool → Bool) {z : α} : ∀ {n : Nat} {l m : List α}, l.length + m.length ≤ n → Sst c l → Sst c m → (z ∈ mrgS c f n l m ↔ Tk f l m z)
  | 0, l, m, hn, _, _ => by
    have h1 : l = [] := List.eq_nil_of_length_eq_zero (by omega)
    have h2 : m = [] := List.eq_nil_of_length_eq_zero (by omega)
    subst h1 h2
    simp [mrgS, Tk]
  | n + 1, [], [], _, _, _ => by simp [mrgS, Tk]
  | n + 1, a :: l, [], hn, hl, hm => by
    have h1 := List.pairwise_cons.1 hl
    have ih := mem_mrgS h f (z := z) (n := n) (l := l) (m := []) (by simp only [List.length_cons, List.length_nil] at hn ⊢; omega) h1.2 hm
    simp only [mrgS, List.mem_append, ih, Tk, List.mem_cons, List.not_mem_nil, not_false_eq_true, true_and, false_and, and_false, or_false]
    by_cases hf : f true false = true
    · simp [hf]
    · simp [hf]
  | n + 1, [], b :: m, hn, hl, hm => by
    have h1 := List.pairwise_cons.1 hm
    have ih := mem_mrgS h f (z := z) (n := n) (l := []) (m := m) (by simp only [List.length_cons, List.length_nil] at hn ⊢; omega) hl h1.2
    simp only [mrgS, List.mem_append, ih, Tk, List.mem_cons, List.not_mem_nil, not_false_eq_true, true_and, false_and, and_false, or_false, false_or]
    by_cases hf : f false true = true
    · simp [hf]
    · simp [hf]
  | n + 1, a :: l, b :: m, hn, hl, hm => by
    have h1 := List.pairwise_cons.1 hl
    have h2 := List.pairwise_cons.1 hm
    have ha : a ∉ l := fun e => h.irr a (h1.1 a e)
    have hb : b ∉ m := fun e => h.irr b (h2.1 b e)
    simp only [List.length_cons] at hn
    simp only [mrgS]
    by_cases h3 : c a b < 0
    · have ih := mem_mrgS h f (z := z) (n := n) (l := l) (m := b :: m) (by simp only [List.length_cons]; omega) h1.2 hm
      have hab : a ∉ b :: m := fun e => by
        rcases List.mem_cons.1 e with e | e
        · exact h.ne h3 e
        · exact h.irr a (h.tr h3 (h2.1 a e))
      rw [if_pos h3, List.mem_append, ih]
      unfold Tk
      by_cases hz : z = a
      · subst hz
        by_cases hf : f true false = true <;> simp [hf, ha, hab]
      · have e1 : z ∈ a :: l ↔ z ∈ l := by rw [List.mem_cons]; exact or_iff_right hz
        rw [e1]
        by_cases hf : f true false = true <;> simp [hf, hz]
    · rw [if_neg h3]
      by_cases h4 : c a b > 0
      · have h5 : c b a < 0 := by have := h.anti a b; omega
        have ih := mem_mrgS h f (z := z) (n := n) (l := a :: l) (m := m) (by simp only [List.length_cons]; omega) hl h2.2
        have hba : b ∉ a :: l := fun e => by
          rcases List.mem_cons.1 e with e | e
          · exact h.ne h5 e
          · exact h.irr b (h.tr h5 (h1.1 b e))
        rw [if_pos h4, List.mem_append, ih]
        unfold Tk
        by_cases hz : z = b
        · subst hz
          by_cases hf : f false true = true <;> simp [hf, hb, hba]
        · have e1 : z ∈ b :: m ↔ z ∈ m := by rw [List.mem_cons]; exact or_iff_right hz
          rw [e1]
          by_cases hf : f false true = true <;> simp [hf, hz]
      · have e : a = b := h.eq _ _ (by omega)
        subst e
        have ih := mem_mrgS h f (z := z) (n := n) (l := l) (m := m) (by omega) h1.2 h2.2
        rw [if_neg h4, List.mem_append, ih]
        unfold Tk
        by_cases hz : z = a
        · subst hz
          by_cases hf : f true true = true <;> simp [hf, ha, hb]
        · have e1 : z ∈ a :: l ↔ z ∈ l := by rw [List.mem_cons]; exact or_iff_right hz
          have e2 : z ∈ a :: m ↔ z ∈ m := by rw [List.mem_cons]; exact or_iff_right hz
          rw [e1, e2]
          by_cases hf : f true true = true <;> simp [hf, hz]
theorem Tk.or {f : Bool → Bool → Bool} {l m : List α} {z : α} (h : Tk f l m z) : z ∈ l ∨ z ∈ m := by
  rcases h with ⟨h, _⟩ | ⟨_, h, _⟩ | ⟨h, _⟩
  · exact .inl h
  · exact .inr h
  · exact .inl h
theorem sst_one (p : Bool) (a : α) : Sst c (if p = true then [a] else []) := by
  split
  · exact List.pairwise_singleton ..
  · exact Sst.nil
theorem sst_head {p : Bool} {a : α} {r : List α} (hr : Sst c r) (hlt : ∀ z ∈ r, c a z < 0) : Sst c ((if p = true then [a] else []) ++ r) := by
  refine List.pairwise_append.2 ⟨sst_one p a, hr, fun x hx z hz => ?_⟩
  split at hx
  · rw [List.mem_singleton] at hx; subst hx; exact hlt z hz
  · cases hx
theorem sst_mrgS (h : Ord3 c) (f : Bool → Bool → Bool) : ∀ {n : Nat} {l m : List α}, l.length + m.length ≤ n → Sst c l → Sst c m → Sst c (mrgS c f n l m)
  | 0, _, _, _, _, _ => Sst.nil
  | n + 1, [], [], _, _, _ => Sst.nil
  | n + 1, a :: l, [], hn, hl, hm => by
    have h1 := List.pairwise_cons.1 hl
    have hn' : l.length + ([] : List α).length ≤ n := by simp only [List.length_cons, List.length_nil] at hn ⊢; omega
    refine sst_head (sst_mrgS h f hn' h1.2 hm) fun z hz => ?_
    rcases ((mem_mrgS h f hn' h1.2 hm).1 hz).or with e | e
    · exact h1.1 z e
    · cases e
  | n + 1, [], b :: m, hn, hl, hm => by
    have h1 := List.pairwise_cons.1 hm
    have hn' : ([] : List α).length + m.length ≤ n := by simp only [List.length_cons, List.length_nil] at hn ⊢; omega
    refine sst_head (sst_mrgS h f hn' hl h1.2) fun z hz => ?_
    rcases ((mem_mrgS h f hn' hl h1.2).1 hz).or with e | e
    · cases e
    · exact h1.1 z e
  | n + 1, a :: l, b :: m, hn, hl, hm => by
    have h1 := List.pairwise_cons.1 hl
    have h2 := List.pairwise_cons.1 hm
    simp only [List.length_cons] at hn
    simp only [mrgS]
    split
    · rename_i h3
      have hn' : l.length + (b :: m).length ≤ n := by simp only [List.length_cons]; omega
      refine sst_head (sst_mrgS h f hn' h1.2 hm) fun z hz => ?_
      rcases ((mem_mrgS h f hn' h1.2 hm).1 hz).or with e | e
      · exact h1.1 z e
      · rcases List.mem_cons.1 e with e | e
        · rw [e]; exact h3
        · exact h.tr h3 (h2.1 z e)
    · split
      · rename_i h4
        have h5 : c b a < 0 := by have := h.anti a b; omega
        have hn' : (a :: l).length + m.length ≤ n := by simp only [List.length_cons]; omega
        refine sst_head (sst_mrgS h f hn' hl h2.2) fun z hz => ?_
        rcases ((mem_mrgS h f hn' hl h2.2).1 hz).or with e | e
        · rcases List.mem_cons.1 e with e | e
          · rw [e]; exact h5
          · exact h.tr h5 (h1.1 z e)
        · exact h2.1 z e
      · have e0 : a = b := h.eq _ _ (by omega)
        have hn' : l.length + m.length ≤ n := by omega
        refine sst_head (sst_mrgS h f hn' h1.2 h2.2) fun z hz => ?_
        rcases ((mem_mrgS h f hn' h1.2 h2.2).1 hz).or with e | e
        · exact h1.1 z e
        · rw [e0]; exact h2.1 z e
variable [DecidableEq α]
/-- The sorted list of the members of a list, some having been taken. -/
def sortS (c : α → α → Int) : List α → List α → List α
  | out, [] => out
  | out, t :: r => sortS c (if t ∈ out then out else insS c t out) r
theorem sst_sortS (h : Ord3 c) : ∀ {l out : List α}, Sst c out → Sst c (sortS c out l)
  | [], _, hs => hs
  | t :: r, out, hs => by
    simp only [sortS]
    refine sst_sortS h ?_
    split
    · exact hs
    · rename_i ht; exact sst_insS h hs ht
theorem mem_sortS {z : α} : ∀ {l out : List α}, z ∈ sortS c out l ↔ z ∈ out ∨ z ∈ l
  | [], _ => by simp [sortS]
  | t :: r, out => by
    simp only [sortS]
    rw [mem_sortS]
    split
    · rename_i ht
      constructor
      · rintro (e | e)
        · exact .inl e
        · exact .inr (List.mem_cons_of_mem _ e)
      · rintro (e | e)
        · exact .inl e
        · rcases List.mem_cons.1 e with rfl | e
          · exact .inl ht
          · exact .inr e
    · rw [mem_insS, List.mem_cons]
      constructor
      · rintro ((e | e) | e)
        · exact .inr (.inl e)
        · exact .inl e
        · exact .inr (.inr e)
      · rintro (e | e | e)
        · exact .inl (.inr e)
        · exact .inl (.inl e)
        · exact .inr e
theorem sortS_length : ∀ (l out : List α), (sortS c out l).length ≤ out.length + l.length
  | [], _ => Nat.le_refl _
  | t :: r, out => by
    have := sortS_length r (if t ∈ out then out else insS c t out)
    simp only [sortS]
    refine Nat.le_trans this ?_
    split
    · simp only [List.length_cons]; omega
    · rw [insS_length]; simp only [List.length_cons]; omega
theorem sortS_self (h : Ord3 c) {l : List α} (hs : Sst c l) : sortS c [] l = l := sst_ext h (sst_sortS h Sst.nil) hs fun z => by rw [mem_sortS]; simp
end
end Go.V
